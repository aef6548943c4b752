/- TableKnown: calls on its road whose answers are kept, each run by the kernel over those ahead of it (part 1). Written by wip/gen/memo2lean.py. -/
import Derived.Test.YtnlldmaaiegihaaGreatDoorTableKnownRun0
import Derived.Test.YtnlldmaaiegihaaGreatDoorAmCfgA
import Derived.Test.YtnlldmaaiegihaaGreatDoorAmMemo
import Derived.KernelRfl
namespace Go.Am.tableKnown
set_option maxRecDepth 100000
open Go.Am
def r170 : List AV × AV := ([.str [109]], .bool true)
theorem r170_ok : rowOk cfg0 M1 3000 123 r170 = true := by kernel_rfl
def r171 : List AV × AV := ([.str [117, 97]], .bool true)
theorem r171_ok : rowOk cfg0 M1 3000 123 r171 = true := by kernel_rfl
def r172 : List AV × AV := ([.str [117, 98]], .bool true)
theorem r172_ok : rowOk cfg0 M1 3000 123 r172 = true := by kernel_rfl
def r173 : List AV × AV := ([.str [117, 99]], .bool true)
theorem r173_ok : rowOk cfg0 M1 3000 123 r173 = true := by kernel_rfl
def r174 : List AV × AV := ([.str [117, 100]], .bool true)
theorem r174_ok : rowOk cfg0 M1 3000 123 r174 = true := by kernel_rfl
def r175 : List AV × AV := ([.str [117, 101]], .bool true)
theorem r175_ok : rowOk cfg0 M1 3000 123 r175 = true := by kernel_rfl
def r176 : List AV × AV := ([.str [117, 102]], .bool true)
theorem r176_ok : rowOk cfg0 M1 3000 123 r176 = true := by kernel_rfl
def r177 : List AV × AV := ([.str [117, 103]], .bool true)
theorem r177_ok : rowOk cfg0 M1 3000 123 r177 = true := by kernel_rfl
def r178 : List AV × AV := ([.str [117, 104]], .bool true)
theorem r178_ok : rowOk cfg0 M1 3000 123 r178 = true := by kernel_rfl
def r179 : List AV × AV := ([.str [117, 105]], .bool true)
theorem r179_ok : rowOk cfg0 M1 3000 123 r179 = true := by kernel_rfl
def r180 : List AV × AV := ([.str [112, 114, 101, 102, 105, 120, 32, 107, 32, 49, 48, 32, 51, 49]], .tuple [.ro [.int .i64 1, .ro [.str [112, 114, 101, 102, 105, 120], .str [107], .str [49, 48], .str [51, 49]] 4] 1, .int .i64 0, .int .i64 0])
theorem r180_ok : rowOk cfg0 M1 3000 32 r180 = true := by kernel_rfl
def r181 : List AV × AV := ([.str [107]], .bool true)
theorem r181_ok : rowOk cfg0 M1 3000 123 r181 = true := by kernel_rfl
def r182 : List AV × AV := ([.str [112, 114, 101, 102, 105, 120, 32, 107, 32, 51, 32, 49]], .tuple [.ro [.int .i64 1, .ro [.str [112, 114, 101, 102, 105, 120], .str [107], .str [51], .str [49]] 4] 1, .int .i64 0, .int .i64 0])
theorem r182_ok : rowOk cfg0 M1 3000 32 r182 = true := by kernel_rfl
def r183 : List AV × AV := ([.str [112, 114, 101, 102, 105, 120, 32, 107, 32, 49, 48, 32, 48, 51]], .tuple [.ro [.int .i64 1, .ro [.str [112, 114, 101, 102, 105, 120], .str [107], .str [49, 48], .str [48, 51]] 4] 1, .int .i64 0, .int .i64 0])
theorem r183_ok : rowOk cfg0 M1 3000 32 r183 = true := by kernel_rfl
def r184 : List AV × AV := ([.str [112, 114, 101, 102, 105, 120, 32, 107, 32, 49, 48, 32, 49, 10, 112, 114, 101, 102, 105, 120, 32, 107, 32, 50, 32, 49]], .tuple [.ro [.int .i64 1, .ro [.str [112, 114, 101, 102, 105, 120], .str [107], .str [49, 48], .str [49]] 4, .int .i64 2, .ro [.str [112, 114, 101, 102, 105, 120], .str [107], .str [50], .str [49]] 4] 2, .int .i64 0, .int .i64 0])
theorem r184_ok : rowOk cfg0 M1 3000 32 r184 = true := by kernel_rfl
def r185 : List AV × AV := ([.agg [.bool false, .ro [.int .u32 10] 1], .agg [.ro [.int .u32 1] 1]], .tuple [.agg [.bool false, .ro [.int .u32 10] 1, .ro [.int .u32 1] 1], .bool true])
theorem r185_ok : rowOk cfg0 M1 3000 85 r185 = true := by kernel_rfl
def r186 : List AV × AV := ([.str [98, 97, 115, 101, 32, 109, 32, 108, 101, 110, 103, 116, 104, 10, 117, 110, 105, 116, 32, 102, 32, 48, 32, 109]], .tuple [.ro [.int .i64 1, .ro [.str [98, 97, 115, 101], .str [109], .str [108, 101, 110, 103, 116, 104]] 3, .int .i64 2, .ro [.str [117, 110, 105, 116], .str [102], .str [48], .str [109]] 4] 2, .int .i64 0, .int .i64 0])
theorem r186_ok : rowOk cfg0 M1 3000 32 r186 = true := by kernel_rfl
def r187 : List AV × AV := ([.str [102]], .bool true)
theorem r187_ok : rowOk cfg0 M1 3000 123 r187 = true := by kernel_rfl
def r188 : List AV × AV := ([.str [48]], .tuple [.agg [.bool false, .nilsl, .ro [.int .u32 1] 1], .bool true])
theorem r188_ok : rowOk cfg0 M1 3000 101 r188 = true := by kernel_rfl
def r189 : List AV × AV := ([.str [98, 97, 115, 101, 32, 109, 32, 108, 101, 110, 103, 116, 104, 10, 117, 110, 105, 116, 32, 102, 32, 49, 32, 120]], .tuple [.ro [.int .i64 1, .ro [.str [98, 97, 115, 101], .str [109], .str [108, 101, 110, 103, 116, 104]] 3, .int .i64 2, .ro [.str [117, 110, 105, 116], .str [102], .str [49], .str [120]] 4] 2, .int .i64 0, .int .i64 0])
theorem r189_ok : rowOk cfg0 M1 3000 32 r189 = true := by kernel_rfl
def r190 : List AV × AV := ([.str [98, 97, 115, 101, 32, 109, 32, 108, 101, 110, 103, 116, 104, 10, 117, 110, 105, 116, 32, 102, 32, 49, 32, 109, 45, 97, 110, 100, 45, 109]], .tuple [.ro [.int .i64 1, .ro [.str [98, 97, 115, 101], .str [109], .str [108, 101, 110, 103, 116, 104]] 3, .int .i64 2, .ro [.str [117, 110, 105, 116], .str [102], .str [49], .str [109, 45, 97, 110, 100, 45, 109]] 4] 2, .int .i64 0, .int .i64 0])
theorem r190_ok : rowOk cfg0 M1 3000 32 r190 = true := by kernel_rfl
def r191 : List AV × AV := ([.str [98, 97, 115, 101, 32, 109, 32, 108, 101, 110, 103, 116, 104, 10, 117, 110, 105, 116, 32, 102, 32, 49, 32, 115, 113, 117, 97, 114, 101, 45, 109, 32, 49]], .tuple [.ro [.int .i64 1, .ro [.str [98, 97, 115, 101], .str [109], .str [108, 101, 110, 103, 116, 104]] 3, .int .i64 2, .ro [.str [117, 110, 105, 116], .str [102], .str [49], .str [115, 113, 117, 97, 114, 101, 45, 109], .str [49]] 5] 2, .int .i64 0, .int .i64 0])
theorem r191_ok : rowOk cfg0 M1 3000 32 r191 = true := by kernel_rfl
def r192 : List AV × AV := ([.str [98, 97, 115, 101, 32, 109, 32, 108, 101, 110, 103, 116, 104, 10, 117, 110, 105, 116, 32, 99, 32, 49, 32, 109, 32, 53, 10, 117, 110, 105, 116, 32, 100, 32, 49, 32, 99]], .tuple [.ro [.int .i64 1, .ro [.str [98, 97, 115, 101], .str [109], .str [108, 101, 110, 103, 116, 104]] 3, .int .i64 2, .ro [.str [117, 110, 105, 116], .str [99], .str [49], .str [109], .str [53]] 5, .int .i64 3, .ro [.str [117, 110, 105, 116], .str [100], .str [49], .str [99]] 4] 3, .int .i64 0, .int .i64 0])
theorem r192_ok : rowOk cfg0 M1 3000 32 r192 = true := by kernel_rfl
def r193 : List AV × AV := ([.str [99]], .bool true)
theorem r193_ok : rowOk cfg0 M1 3000 123 r193 = true := by kernel_rfl
def r194 : List AV × AV := ([.agg [.bool false, .ro [.int .u32 5] 1], .agg [.ro [.int .u32 1] 1]], .tuple [.agg [.bool false, .ro [.int .u32 5] 1, .ro [.int .u32 1] 1], .bool true])
theorem r194_ok : rowOk cfg0 M1 3000 85 r194 = true := by kernel_rfl
def r195 : List AV × AV := ([.str [100]], .bool true)
theorem r195_ok : rowOk cfg0 M1 3000 123 r195 = true := by kernel_rfl
def r196 : List AV × AV := ([.str [98, 97, 115, 101, 32, 109, 32, 108, 101, 110, 103, 116, 104, 10, 117, 110, 105, 116, 32, 99, 32, 49, 32, 109, 32, 53, 10, 117, 110, 105, 116, 32, 100, 32, 49, 32, 109, 45, 112, 101, 114, 45, 99]], .tuple [.ro [.int .i64 1, .ro [.str [98, 97, 115, 101], .str [109], .str [108, 101, 110, 103, 116, 104]] 3, .int .i64 2, .ro [.str [117, 110, 105, 116], .str [99], .str [49], .str [109], .str [53]] 5, .int .i64 3, .ro [.str [117, 110, 105, 116], .str [100], .str [49], .str [109, 45, 112, 101, 114, 45, 99]] 4] 3, .int .i64 0, .int .i64 0])
theorem r196_ok : rowOk cfg0 M1 3000 32 r196 = true := by kernel_rfl
def r197 : List AV × AV := ([.str [98, 97, 115, 101, 32, 109, 32, 108, 101, 110, 103, 116, 104, 10, 117, 110, 105, 116, 32, 99, 32, 49, 32, 109, 32, 53, 10, 117, 110, 105, 116, 32, 100, 32, 49, 32, 99, 32, 50]], .tuple [.ro [.int .i64 1, .ro [.str [98, 97, 115, 101], .str [109], .str [108, 101, 110, 103, 116, 104]] 3, .int .i64 2, .ro [.str [117, 110, 105, 116], .str [99], .str [49], .str [109], .str [53]] 5, .int .i64 3, .ro [.str [117, 110, 105, 116], .str [100], .str [49], .str [99], .str [50]] 5] 3, .int .i64 0, .int .i64 0])
theorem r197_ok : rowOk cfg0 M1 3000 32 r197 = true := by kernel_rfl
def r198 : List AV × AV := ([.agg [.bool false, .ro [.int .u32 2] 1], .agg [.ro [.int .u32 1] 1]], .tuple [.agg [.bool false, .ro [.int .u32 2] 1, .ro [.int .u32 1] 1], .bool true])
theorem r198_ok : rowOk cfg0 M1 3000 85 r198 = true := by kernel_rfl
def r199 : List AV × AV := ([.str [98, 97, 115, 101, 32, 109, 32, 108, 101, 110, 103, 116, 104, 10, 117, 110, 105, 116, 32, 102, 32, 49, 32, 112, 111, 119, 49, 53, 45, 109, 45, 112, 111, 119, 49, 53, 45, 109, 45, 112, 111, 119, 49, 53, 45, 109, 45, 112, 111, 119, 49, 53, 45, 109, 45, 112, 111, 119, 49, 53, 45, 109, 45, 112, 111, 119, 49, 53, 45, 109, 45, 112, 111, 119, 49, 53, 45, 109]], .tuple [.ro [.int .i64 1, .ro [.str [98, 97, 115, 101], .str [109], .str [108, 101, 110, 103, 116, 104]] 3, .int .i64 2, .ro [.str [117, 110, 105, 116], .str [102], .str [49], .str [112, 111, 119, 49, 53, 45, 109, 45, 112, 111, 119, 49, 53, 45, 109, 45, 112, 111, 119, 49, 53, 45, 109, 45, 112, 111, 119, 49, 53, 45, 109, 45, 112, 111, 119, 49, 53, 45, 109, 45, 112, 111, 119, 49, 53, 45, 109, 45, 112, 111, 119, 49, 53, 45, 109]] 4] 2, .int .i64 0, .int .i64 0])
theorem r199_ok : rowOk cfg0 M1 3000 32 r199 = true := by kernel_rfl
def r200 : List AV × AV := ([.str [98, 97, 115, 101, 32, 109, 32, 108, 101, 110, 103, 116, 104, 10, 113, 117, 97, 110, 116, 105, 116, 121, 32, 97, 32, 115, 113, 117, 97, 114, 101, 45, 109, 10, 113, 117, 97, 110, 116, 105, 116, 121, 32, 98, 32, 109, 45, 109]], .tuple [.ro [.int .i64 1, .ro [.str [98, 97, 115, 101], .str [109], .str [108, 101, 110, 103, 116, 104]] 3, .int .i64 2, .ro [.str [113, 117, 97, 110, 116, 105, 116, 121], .str [97], .str [115, 113, 117, 97, 114, 101, 45, 109]] 3, .int .i64 3, .ro [.str [113, 117, 97, 110, 116, 105, 116, 121], .str [98], .str [109, 45, 109]] 3] 3, .int .i64 0, .int .i64 0])
theorem r200_ok : rowOk cfg0 M1 3000 32 r200 = true := by kernel_rfl
def r201 : List AV × AV := ([.str [98, 97, 115, 101, 32, 109, 32, 108, 101, 110, 103, 116, 104, 10, 97, 108, 105, 97, 115, 32, 111, 32, 109, 10, 117, 110, 105, 116, 32, 111, 32, 49, 32, 109]], .tuple [.ro [.int .i64 1, .ro [.str [98, 97, 115, 101], .str [109], .str [108, 101, 110, 103, 116, 104]] 3, .int .i64 2, .ro [.str [97, 108, 105, 97, 115], .str [111], .str [109]] 3, .int .i64 3, .ro [.str [117, 110, 105, 116], .str [111], .str [49], .str [109]] 4] 3, .int .i64 0, .int .i64 0])
theorem r201_ok : rowOk cfg0 M1 3000 32 r201 = true := by kernel_rfl
def r202 : List AV × AV := ([.str [111]], .bool true)
theorem r202_ok : rowOk cfg0 M1 3000 123 r202 = true := by kernel_rfl
def r203 : List AV × AV := ([.str [112]], .bool true)
theorem r203_ok : rowOk cfg0 M1 3000 123 r203 = true := by kernel_rfl
def r204 : List AV × AV := ([.str [98, 97, 115, 101, 32, 109, 101, 116, 101, 114, 32, 108, 101, 110, 103, 116, 104, 10, 98, 97, 115, 101, 32, 115, 101, 99, 111, 110, 100, 32, 116, 105, 109, 101, 10, 98, 97, 115, 101, 32, 107, 101, 108, 118, 105, 110, 32, 116, 101, 109, 112, 101, 114, 97, 116, 117, 114, 101, 10, 112, 114, 101, 102, 105, 120, 32, 107, 105, 108, 111, 32, 49, 48, 32, 51, 10, 112, 114, 101, 102, 105, 120, 32, 109, 105, 108, 108, 105, 32, 49, 48, 32, 45, 51, 10, 117, 110, 105, 116, 32, 102, 111, 111, 116, 32, 51, 56, 49, 47, 49, 50, 53, 48, 32, 109, 101, 116, 101, 114, 10, 117, 110, 105, 116, 32, 105, 110, 99, 104, 32, 49, 47, 49, 50, 32, 102, 111, 111, 116, 10, 117, 110, 105, 116, 32, 121, 97, 114, 100, 32, 51, 32, 102, 111, 111, 116, 10, 117, 110, 105, 116, 32, 109, 105, 110, 117, 116, 101, 32, 54, 48, 32, 115, 101, 99, 111, 110, 100, 10, 117, 110, 105, 116, 32, 99, 101, 108, 115, 105, 117, 115, 32, 49, 32, 107, 101, 108, 118, 105, 110, 32, 50, 55, 51, 49, 53, 47, 49, 48, 48, 10, 117, 110, 105, 116, 32, 102, 97, 104, 114, 101, 110, 104, 101, 105, 116, 32, 53, 47, 57, 32, 107, 101, 108, 118, 105, 110, 32, 52, 53, 57, 54, 55, 47, 49, 56, 48, 10, 113, 117, 97, 110, 116, 105, 116, 121, 32, 115, 112, 101, 101, 100, 32, 109, 101, 116, 101, 114, 45, 112, 101, 114, 45, 115, 101, 99, 111, 110, 100, 10, 113, 117, 97, 110, 116, 105, 116, 121, 32, 97, 114, 101, 97, 32, 115, 113, 117, 97, 114, 101, 45, 109, 101, 116, 101, 114, 10, 97, 108, 105, 97, 115, 32, 107, 112, 104, 32, 107, 105, 108, 111, 109, 101, 116, 101, 114, 45, 112, 101, 114, 45, 115, 101, 99, 111, 110, 100, 10, 112, 108, 117, 114, 97, 108, 32, 120, 10, 119, 104, 97, 116]], .tuple [.ro [.int .i64 1, .ro [.str [98, 97, 115, 101], .str [109, 101, 116, 101, 114], .str [108, 101, 110, 103, 116, 104]] 3, .int .i64 2, .ro [.str [98, 97, 115, 101], .str [115, 101, 99, 111, 110, 100], .str [116, 105, 109, 101]] 3, .int .i64 3, .ro [.str [98, 97, 115, 101], .str [107, 101, 108, 118, 105, 110], .str [116, 101, 109, 112, 101, 114, 97, 116, 117, 114, 101]] 3, .int .i64 4, .ro [.str [112, 114, 101, 102, 105, 120], .str [107, 105, 108, 111], .str [49, 48], .str [51]] 4, .int .i64 5, .ro [.str [112, 114, 101, 102, 105, 120], .str [109, 105, 108, 108, 105], .str [49, 48], .str [45, 51]] 4, .int .i64 6, .ro [.str [117, 110, 105, 116], .str [102, 111, 111, 116], .str [51, 56, 49, 47, 49, 50, 53, 48], .str [109, 101, 116, 101, 114]] 4, .int .i64 7, .ro [.str [117, 110, 105, 116], .str [105, 110, 99, 104], .str [49, 47, 49, 50], .str [102, 111, 111, 116]] 4, .int .i64 8, .ro [.str [117, 110, 105, 116], .str [121, 97, 114, 100], .str [51], .str [102, 111, 111, 116]] 4, .int .i64 9, .ro [.str [117, 110, 105, 116], .str [109, 105, 110, 117, 116, 101], .str [54, 48], .str [115, 101, 99, 111, 110, 100]] 4, .int .i64 10, .ro [.str [117, 110, 105, 116], .str [99, 101, 108, 115, 105, 117, 115], .str [49], .str [107, 101, 108, 118, 105, 110], .str [50, 55, 51, 49, 53, 47, 49, 48, 48]] 5, .int .i64 11, .ro [.str [117, 110, 105, 116], .str [102, 97, 104, 114, 101, 110, 104, 101, 105, 116], .str [53, 47, 57], .str [107, 101, 108, 118, 105, 110], .str [52, 53, 57, 54, 55, 47, 49, 56, 48]] 5, .int .i64 12, .ro [.str [113, 117, 97, 110, 116, 105, 116, 121], .str [115, 112, 101, 101, 100], .str [109, 101, 116, 101, 114, 45, 112, 101, 114, 45, 115, 101, 99, 111, 110, 100]] 3, .int .i64 13, .ro [.str [113, 117, 97, 110, 116, 105, 116, 121], .str [97, 114, 101, 97], .str [115, 113, 117, 97, 114, 101, 45, 109, 101, 116, 101, 114]] 3, .int .i64 14, .ro [.str [97, 108, 105, 97, 115], .str [107, 112, 104], .str [107, 105, 108, 111, 109, 101, 116, 101, 114, 45, 112, 101, 114, 45, 115, 101, 99, 111, 110, 100]] 3, .int .i64 15, .ro [.str [112, 108, 117, 114, 97, 108], .str [120]] 2, .int .i64 16, .ro [.str [119, 104, 97, 116]] 1] 16, .int .i64 0, .int .i64 0])
theorem r204_ok : rowOk cfg0 M1 3000 32 r204 = true := by kernel_rfl
def r205 : List AV × AV := ([.str [115, 101, 99, 111, 110, 100]], .bool true)
theorem r205_ok : rowOk cfg0 M1 3000 123 r205 = true := by kernel_rfl
def r206 : List AV × AV := ([.str [107, 101, 108, 118, 105, 110]], .bool true)
theorem r206_ok : rowOk cfg0 M1 3000 123 r206 = true := by kernel_rfl
def r207 : List AV × AV := ([.str [107, 105, 108, 111]], .bool true)
theorem r207_ok : rowOk cfg0 M1 3000 123 r207 = true := by kernel_rfl
def r208 : List AV × AV := ([.str [109, 105, 108, 108, 105]], .bool true)
theorem r208_ok : rowOk cfg0 M1 3000 123 r208 = true := by kernel_rfl
def r209 : List AV × AV := ([.str [45, 51]], .tuple [.agg [.bool true, .ro [.int .u32 3] 1], .bool true])
theorem r209_ok : rowOk cfg0 M1 3000 55 r209 = true := by kernel_rfl
def r210 : List AV × AV := ([.agg [.bool false, .ro [.int .u32 1] 1], .agg [.ro [.int .u32 10] 1]], .tuple [.agg [.bool false, .ro [.int .u32 1] 1, .ro [.int .u32 10] 1], .bool true])
theorem r210_ok : rowOk cfg0 M1 3000 85 r210 = true := by kernel_rfl
def r211 : List AV × AV := ([.agg [.bool false, .ro [.int .u32 1] 1], .agg [.ro [.int .u32 100] 1]], .tuple [.agg [.bool false, .ro [.int .u32 1] 1, .ro [.int .u32 100] 1], .bool true])
theorem r211_ok : rowOk cfg0 M1 3000 85 r211 = true := by kernel_rfl
def r212 : List AV × AV := ([.agg [.bool false, .ro [.int .u32 1] 1], .agg [.ro [.int .u32 1000] 1]], .tuple [.agg [.bool false, .ro [.int .u32 1] 1, .ro [.int .u32 1000] 1], .bool true])
theorem r212_ok : rowOk cfg0 M1 3000 85 r212 = true := by kernel_rfl
def r213 : List AV × AV := ([.str [105, 110, 99, 104]], .bool true)
theorem r213_ok : rowOk cfg0 M1 3000 123 r213 = true := by kernel_rfl
def r214 : List AV × AV := ([.agg [.bool false, .ro [.int .u32 1] 1], .agg [.ro [.int .u32 12] 1]], .tuple [.agg [.bool false, .ro [.int .u32 1] 1, .ro [.int .u32 12] 1], .bool true])
theorem r214_ok : rowOk cfg0 M1 3000 85 r214 = true := by kernel_rfl
def r215 : List AV × AV := ([.agg [.bool false, .ro [.int .u32 381] 1], .agg [.ro [.int .u32 15000] 1]], .tuple [.agg [.bool false, .ro [.int .u32 127] 1, .ro [.int .u32 5000] 1], .bool true])
theorem r215_ok : rowOk cfg0 M1 3000 85 r215 = true := by kernel_rfl
def r216 : List AV × AV := ([.str [121, 97, 114, 100]], .bool true)
theorem r216_ok : rowOk cfg0 M1 3000 123 r216 = true := by kernel_rfl
def r217 : List AV × AV := ([.agg [.bool false, .ro [.int .u32 3] 1], .agg [.ro [.int .u32 1] 1]], .tuple [.agg [.bool false, .ro [.int .u32 3] 1, .ro [.int .u32 1] 1], .bool true])
theorem r217_ok : rowOk cfg0 M1 3000 85 r217 = true := by kernel_rfl
def r218 : List AV × AV := ([.agg [.bool false, .ro [.int .u32 1143] 1], .agg [.ro [.int .u32 1250] 1]], .tuple [.agg [.bool false, .ro [.int .u32 1143] 1, .ro [.int .u32 1250] 1], .bool true])
theorem r218_ok : rowOk cfg0 M1 3000 85 r218 = true := by kernel_rfl
def r219 : List AV × AV := ([.str [109, 105, 110, 117, 116, 101]], .bool true)
theorem r219_ok : rowOk cfg0 M1 3000 123 r219 = true := by kernel_rfl
def r220 : List AV × AV := ([.agg [.bool false, .ro [.int .u32 60] 1], .agg [.ro [.int .u32 1] 1]], .tuple [.agg [.bool false, .ro [.int .u32 60] 1, .ro [.int .u32 1] 1], .bool true])
theorem r220_ok : rowOk cfg0 M1 3000 85 r220 = true := by kernel_rfl
def r221 : List AV × AV := ([.str [99, 101, 108, 115, 105, 117, 115]], .bool true)
theorem r221_ok : rowOk cfg0 M1 3000 123 r221 = true := by kernel_rfl
def r222 : List AV × AV := ([.str [50, 55, 51, 49, 53]], .tuple [.agg [.ro [.int .u32 27315] 1], .bool true])
theorem r222_ok : rowOk cfg0 M1 3000 96 r222 = true := by kernel_rfl
def r223 : List AV × AV := ([.agg [.bool false, .ro [.int .u32 27315] 1], .agg [.ro [.int .u32 100] 1]], .tuple [.agg [.bool false, .ro [.int .u32 5463] 1, .ro [.int .u32 20] 1], .bool true])
theorem r223_ok : rowOk cfg0 M1 3000 85 r223 = true := by kernel_rfl
def r224 : List AV × AV := ([.str [102, 97, 104, 114, 101, 110, 104, 101, 105, 116]], .bool true)
theorem r224_ok : rowOk cfg0 M1 3000 123 r224 = true := by kernel_rfl
def r225 : List AV × AV := ([.agg [.bool false, .ro [.int .u32 5] 1], .agg [.ro [.int .u32 9] 1]], .tuple [.agg [.bool false, .ro [.int .u32 5] 1, .ro [.int .u32 9] 1], .bool true])
theorem r225_ok : rowOk cfg0 M1 3000 85 r225 = true := by kernel_rfl
def r226 : List AV × AV := ([.str [52, 53, 57, 54, 55]], .tuple [.agg [.ro [.int .u32 45967] 1], .bool true])
theorem r226_ok : rowOk cfg0 M1 3000 96 r226 = true := by kernel_rfl
def r227 : List AV × AV := ([.agg [.bool false, .ro [.int .u32 45967] 1], .agg [.ro [.int .u32 180] 1]], .tuple [.agg [.bool false, .ro [.int .u32 45967] 1, .ro [.int .u32 180] 1], .bool true])
theorem r227_ok : rowOk cfg0 M1 3000 85 r227 = true := by kernel_rfl
def r228 : List AV × AV := ([.str [107, 112, 104]], .bool true)
theorem r228_ok : rowOk cfg0 M1 3000 123 r228 = true := by kernel_rfl
def r229 : List AV × AV := ([.agg [.bool false, .ro [.int .u32 5463] 1], .agg [.ro [.int .u32 20] 1]], .tuple [.agg [.bool false, .ro [.int .u32 5463] 1, .ro [.int .u32 20] 1], .bool true])
theorem r229_ok : rowOk cfg0 M1 3000 85 r229 = true := by kernel_rfl
def t1 : Tr (List (List AV × AV)) := (.nd (.nd (.nd .lf 32 [r164, r180, r182, r183, r184, r186, r189, r190, r191, r192, r196, r197, r199, r200, r201, r204] .lf) 55 [r209] (.nd .lf 85 [r168, r169, r185, r194, r198, r210, r211, r212, r214, r215, r217, r218, r220, r223, r225, r227, r229] .lf)) 96 [r167, r222, r226] (.nd (.nd .lf 101 [r188] .lf) 123 [r165, r166, r170, r171, r172, r173, r174, r175, r176, r177, r178, r179, r181, r187, r193, r195, r202, r203, r205, r206, r207, r208, r213, r216, r219, r221, r224, r228] .lf))
theorem t1_ok : MemoOk cfg0 (tabM t1) := tabM_ok (t := t1) ⟨⟨⟨trivial, (lcons (rowOk_did M1_ok r164_ok) (lcons (rowOk_did M1_ok r180_ok) (lcons (rowOk_did M1_ok r182_ok) (lcons (rowOk_did M1_ok r183_ok) (lcons (rowOk_did M1_ok r184_ok) (lcons (rowOk_did M1_ok r186_ok) (lcons (rowOk_did M1_ok r189_ok) (lcons (rowOk_did M1_ok r190_ok) (lcons (rowOk_did M1_ok r191_ok) (lcons (rowOk_did M1_ok r192_ok) (lcons (rowOk_did M1_ok r196_ok) (lcons (rowOk_did M1_ok r197_ok) (lcons (rowOk_did M1_ok r199_ok) (lcons (rowOk_did M1_ok r200_ok) (lcons (rowOk_did M1_ok r201_ok) (lcons (rowOk_did M1_ok r204_ok) lnil)))))))))))))))), trivial⟩, (lcons (rowOk_did M1_ok r209_ok) lnil), ⟨trivial, (lcons (rowOk_did M1_ok r168_ok) (lcons (rowOk_did M1_ok r169_ok) (lcons (rowOk_did M1_ok r185_ok) (lcons (rowOk_did M1_ok r194_ok) (lcons (rowOk_did M1_ok r198_ok) (lcons (rowOk_did M1_ok r210_ok) (lcons (rowOk_did M1_ok r211_ok) (lcons (rowOk_did M1_ok r212_ok) (lcons (rowOk_did M1_ok r214_ok) (lcons (rowOk_did M1_ok r215_ok) (lcons (rowOk_did M1_ok r217_ok) (lcons (rowOk_did M1_ok r218_ok) (lcons (rowOk_did M1_ok r220_ok) (lcons (rowOk_did M1_ok r223_ok) (lcons (rowOk_did M1_ok r225_ok) (lcons (rowOk_did M1_ok r227_ok) (lcons (rowOk_did M1_ok r229_ok) lnil))))))))))))))))), trivial⟩⟩, (lcons (rowOk_did M1_ok r167_ok) (lcons (rowOk_did M1_ok r222_ok) (lcons (rowOk_did M1_ok r226_ok) lnil))), ⟨⟨trivial, (lcons (rowOk_did M1_ok r188_ok) lnil), trivial⟩, (lcons (rowOk_did M1_ok r165_ok) (lcons (rowOk_did M1_ok r166_ok) (lcons (rowOk_did M1_ok r170_ok) (lcons (rowOk_did M1_ok r171_ok) (lcons (rowOk_did M1_ok r172_ok) (lcons (rowOk_did M1_ok r173_ok) (lcons (rowOk_did M1_ok r174_ok) (lcons (rowOk_did M1_ok r175_ok) (lcons (rowOk_did M1_ok r176_ok) (lcons (rowOk_did M1_ok r177_ok) (lcons (rowOk_did M1_ok r178_ok) (lcons (rowOk_did M1_ok r179_ok) (lcons (rowOk_did M1_ok r181_ok) (lcons (rowOk_did M1_ok r187_ok) (lcons (rowOk_did M1_ok r193_ok) (lcons (rowOk_did M1_ok r195_ok) (lcons (rowOk_did M1_ok r202_ok) (lcons (rowOk_did M1_ok r203_ok) (lcons (rowOk_did M1_ok r205_ok) (lcons (rowOk_did M1_ok r206_ok) (lcons (rowOk_did M1_ok r207_ok) (lcons (rowOk_did M1_ok r208_ok) (lcons (rowOk_did M1_ok r213_ok) (lcons (rowOk_did M1_ok r216_ok) (lcons (rowOk_did M1_ok r219_ok) (lcons (rowOk_did M1_ok r221_ok) (lcons (rowOk_did M1_ok r224_ok) (lcons (rowOk_did M1_ok r228_ok) lnil)))))))))))))))))))))))))))), trivial⟩⟩
def M2 : Memo := orM (tabM t1) M1
theorem M2_ok : MemoOk cfg0 M2 := orM_ok t1_ok M1_ok
def r230 : List AV × AV := ([.str [51, 56, 49, 47, 49, 50, 53, 48]], .tuple [.agg [.bool false, .ro [.int .u32 381] 1, .ro [.int .u32 1250] 1], .bool true])
theorem r230_ok : rowOk cfg0 M2 3000 101 r230 = true := by kernel_rfl
def r231 : List AV × AV := ([.agg [.bool false, .ro [.int .u32 1] 1, .ro [.int .u32 1] 1], .int .i64 1], .tuple [.agg [.bool false, .ro [.int .u32 1] 1, .ro [.int .u32 1] 1], .bool true])
theorem r231_ok : rowOk cfg0 M2 3000 57 r231 = true := by kernel_rfl
def r232 : List AV × AV := ([.agg [.bool false, .ro [.int .u32 1] 1, .ro [.int .u32 1] 1], .agg [.bool false, .ro [.int .u32 1] 1, .ro [.int .u32 1] 1]], .agg [.bool false, .ro [.int .u32 1] 1, .ro [.int .u32 1] 1])
theorem r232_ok : rowOk cfg0 M2 3000 62 r232 = true := by kernel_rfl
def r233 : List AV × AV := ([.agg [.bool false, .ro [.int .u32 381] 1, .ro [.int .u32 1250] 1], .agg [.bool false, .ro [.int .u32 1] 1, .ro [.int .u32 1] 1]], .agg [.bool false, .ro [.int .u32 381] 1, .ro [.int .u32 1250] 1])
theorem r233_ok : rowOk cfg0 M2 3000 62 r233 = true := by kernel_rfl
def r234 : List AV × AV := ([.agg [.bool false, .ro [.int .u32 381] 1, .ro [.int .u32 1250] 1]], .str [51, 56, 49, 47, 49, 50, 53, 48])
theorem r234_ok : rowOk cfg0 M2 3000 20 r234 = true := by kernel_rfl
def r235 : List AV × AV := ([.str [98, 97, 115, 101, 32, 109, 32, 108, 101, 110, 103, 116, 104, 10, 98, 97, 115, 101, 32, 109, 32, 120], .int .i64 2, .int .i64 10], .bool true)
theorem r235_ok : rowOk cfg0 M2 3000 15 r235 = true := by kernel_rfl
def r236 : List AV × AV := ([.str [98, 97, 115, 101, 32, 109, 32, 108, 101, 110, 103, 116, 104, 10, 98, 97, 115, 101, 32, 112, 101, 114, 32, 120], .int .i64 2, .int .i64 2], .bool true)
theorem r236_ok : rowOk cfg0 M2 3000 15 r236 = true := by kernel_rfl
def r237 : List AV × AV := ([.str [98, 97, 115, 101, 32, 109, 32, 65], .int .i64 1, .int .i64 2], .bool true)
theorem r237_ok : rowOk cfg0 M2 3000 15 r237 = true := by kernel_rfl
def r238 : List AV × AV := ([.str [98, 97, 115, 101, 32, 117, 97, 32, 113, 10, 98, 97, 115, 101, 32, 117, 98, 32, 113, 10, 98, 97, 115, 101, 32, 117, 99, 32, 113, 10, 98, 97, 115, 101, 32, 117, 100, 32, 113, 10, 98, 97, 115, 101, 32, 117, 101, 32, 113, 10, 98, 97, 115, 101, 32, 117, 102, 32, 113, 10, 98, 97, 115, 101, 32, 117, 103, 32, 113, 10, 98, 97, 115, 101, 32, 117, 104, 32, 113, 10, 98, 97, 115, 101, 32, 117, 105, 32, 113, 10], .int .i64 9, .int .i64 11], .bool true)
theorem r238_ok : rowOk cfg0 M2 3000 15 r238 = true := by kernel_rfl
def r239 : List AV × AV := ([.str [112, 114, 101, 102, 105, 120, 32, 107, 32, 49, 48, 32, 51, 49], .int .i64 1, .int .i64 2], .bool true)
theorem r239_ok : rowOk cfg0 M2 3000 15 r239 = true := by kernel_rfl
def r240 : List AV × AV := ([.str [112, 114, 101, 102, 105, 120, 32, 107, 32, 51, 32, 49], .int .i64 1, .int .i64 2], .bool true)
theorem r240_ok : rowOk cfg0 M2 3000 15 r240 = true := by kernel_rfl
def r241 : List AV × AV := ([.str [112, 114, 101, 102, 105, 120, 32, 107, 32, 49, 48, 32, 48, 51], .int .i64 1, .int .i64 2], .bool true)
theorem r241_ok : rowOk cfg0 M2 3000 15 r241 = true := by kernel_rfl
def r242 : List AV × AV := ([.agg [.bool false, .ro [.int .u32 10] 1, .ro [.int .u32 1] 1], .int .i64 1], .tuple [.agg [.bool false, .ro [.int .u32 10] 1, .ro [.int .u32 1] 1], .bool true])
theorem r242_ok : rowOk cfg0 M2 3000 57 r242 = true := by kernel_rfl
def r243 : List AV × AV := ([.str [98, 97, 115, 101, 32, 109, 32, 108, 101, 110, 103, 116, 104, 10, 117, 110, 105, 116, 32, 102, 32, 48, 32, 109], .int .i64 2, .int .i64 2], .bool true)
theorem r243_ok : rowOk cfg0 M2 3000 15 r243 = true := by kernel_rfl
def r244 : List AV × AV := ([.str [49]], .tuple [.agg [.bool false, .ro [.int .u32 1] 1, .ro [.int .u32 1] 1], .bool true])
theorem r244_ok : rowOk cfg0 M2 3000 101 r244 = true := by kernel_rfl
def r245 : List AV × AV := ([.str [53]], .tuple [.agg [.bool false, .ro [.int .u32 5] 1, .ro [.int .u32 1] 1], .bool true])
theorem r245_ok : rowOk cfg0 M2 3000 101 r245 = true := by kernel_rfl
def r246 : List AV × AV := ([.str [50]], .tuple [.agg [.bool false, .ro [.int .u32 2] 1, .ro [.int .u32 1] 1], .bool true])
theorem r246_ok : rowOk cfg0 M2 3000 101 r246 = true := by kernel_rfl
def r247 : List AV × AV := ([.str [98, 97, 115, 101, 32, 109, 32, 108, 101, 110, 103, 116, 104, 10, 113, 117, 97, 110, 116, 105, 116, 121, 32, 97, 32, 109], .int .i64 2, .int .i64 10], .bool true)
theorem r247_ok : rowOk cfg0 M2 3000 15 r247 = true := by kernel_rfl
def r248 : List AV × AV := ([.str [98, 97, 115, 101, 32, 109, 32, 108, 101, 110, 103, 116, 104, 10, 113, 117, 97, 110, 116, 105, 116, 121, 32, 97, 32, 115, 113, 117, 97, 114, 101, 45, 109, 10, 113, 117, 97, 110, 116, 105, 116, 121, 32, 98, 32, 109, 45, 109], .int .i64 3, .int .i64 10], .bool true)
theorem r248_ok : rowOk cfg0 M2 3000 15 r248 = true := by kernel_rfl
def r249 : List AV × AV := ([.str [98, 97, 115, 101, 32, 109, 32, 108, 101, 110, 103, 116, 104, 10, 97, 108, 105, 97, 115, 32, 109, 32, 109], .int .i64 2, .int .i64 10], .bool true)
theorem r249_ok : rowOk cfg0 M2 3000 15 r249 = true := by kernel_rfl
def r250 : List AV × AV := ([.str [98, 97, 115, 101, 32, 109, 32, 108, 101, 110, 103, 116, 104, 10, 97, 108, 105, 97, 115, 32, 111, 32, 109, 10, 117, 110, 105, 116, 32, 111, 32, 49, 32, 109], .int .i64 3, .int .i64 10], .bool true)
theorem r250_ok : rowOk cfg0 M2 3000 15 r250 = true := by kernel_rfl
def r251 : List AV × AV := ([.str [98, 97, 115, 101, 32, 109, 32, 108, 101, 110, 103, 116, 104, 10, 97, 108, 105, 97, 115, 32, 111, 32, 120], .int .i64 2, .int .i64 2], .bool true)
theorem r251_ok : rowOk cfg0 M2 3000 15 r251 = true := by kernel_rfl
def r252 : List AV × AV := ([.str [98, 97, 115, 101, 32, 109, 32, 108, 101, 110, 103, 116, 104, 10, 97, 108, 105, 97, 115, 32, 111, 32, 109, 10, 97, 108, 105, 97, 115, 32, 112, 32, 111], .int .i64 3, .int .i64 2], .bool true)
theorem r252_ok : rowOk cfg0 M2 3000 15 r252 = true := by kernel_rfl
def r253 : List AV × AV := ([.agg [.bool false, .ro [.int .u32 1] 1, .ro [.int .u32 10] 1], .agg [.bool false, .ro [.int .u32 1] 1, .ro [.int .u32 100] 1]], .agg [.bool false, .ro [.int .u32 1] 1, .ro [.int .u32 1000] 1])
theorem r253_ok : rowOk cfg0 M2 3000 62 r253 = true := by kernel_rfl
def r254 : List AV × AV := ([.str [49, 47, 49, 50]], .tuple [.agg [.bool false, .ro [.int .u32 1] 1, .ro [.int .u32 12] 1], .bool true])
theorem r254_ok : rowOk cfg0 M2 3000 101 r254 = true := by kernel_rfl
def r255 : List AV × AV := ([.agg [.bool false, .ro [.int .u32 381] 1, .ro [.int .u32 1250] 1], .int .i64 1], .tuple [.agg [.bool false, .ro [.int .u32 381] 1, .ro [.int .u32 1250] 1], .bool true])
theorem r255_ok : rowOk cfg0 M2 3000 57 r255 = true := by kernel_rfl
def r256 : List AV × AV := ([.agg [.bool false, .ro [.int .u32 1] 1, .ro [.int .u32 1] 1], .agg [.bool false, .ro [.int .u32 381] 1, .ro [.int .u32 1250] 1]], .agg [.bool false, .ro [.int .u32 381] 1, .ro [.int .u32 1250] 1])
theorem r256_ok : rowOk cfg0 M2 3000 62 r256 = true := by kernel_rfl
def r257 : List AV × AV := ([.agg [.bool false, .ro [.int .u32 1] 1, .ro [.int .u32 12] 1], .agg [.bool false, .ro [.int .u32 381] 1, .ro [.int .u32 1250] 1]], .agg [.bool false, .ro [.int .u32 127] 1, .ro [.int .u32 5000] 1])
theorem r257_ok : rowOk cfg0 M2 3000 62 r257 = true := by kernel_rfl
def r258 : List AV × AV := ([.str [51]], .tuple [.agg [.bool false, .ro [.int .u32 3] 1, .ro [.int .u32 1] 1], .bool true])
theorem r258_ok : rowOk cfg0 M2 3000 101 r258 = true := by kernel_rfl
def r259 : List AV × AV := ([.agg [.bool false, .ro [.int .u32 3] 1, .ro [.int .u32 1] 1], .agg [.bool false, .ro [.int .u32 381] 1, .ro [.int .u32 1250] 1]], .agg [.bool false, .ro [.int .u32 1143] 1, .ro [.int .u32 1250] 1])
theorem r259_ok : rowOk cfg0 M2 3000 62 r259 = true := by kernel_rfl
def r260 : List AV × AV := ([.str [54, 48]], .tuple [.agg [.bool false, .ro [.int .u32 60] 1, .ro [.int .u32 1] 1], .bool true])
theorem r260_ok : rowOk cfg0 M2 3000 101 r260 = true := by kernel_rfl
def r261 : List AV × AV := ([.agg [.bool false, .ro [.int .u32 60] 1, .ro [.int .u32 1] 1], .agg [.bool false, .ro [.int .u32 1] 1, .ro [.int .u32 1] 1]], .agg [.bool false, .ro [.int .u32 60] 1, .ro [.int .u32 1] 1])
theorem r261_ok : rowOk cfg0 M2 3000 62 r261 = true := by kernel_rfl
def r262 : List AV × AV := ([.str [50, 55, 51, 49, 53, 47, 49, 48, 48]], .tuple [.agg [.bool false, .ro [.int .u32 5463] 1, .ro [.int .u32 20] 1], .bool true])
theorem r262_ok : rowOk cfg0 M2 3000 101 r262 = true := by kernel_rfl
def r263 : List AV × AV := ([.str [53, 47, 57]], .tuple [.agg [.bool false, .ro [.int .u32 5] 1, .ro [.int .u32 9] 1], .bool true])
theorem r263_ok : rowOk cfg0 M2 3000 101 r263 = true := by kernel_rfl
def r264 : List AV × AV := ([.str [52, 53, 57, 54, 55, 47, 49, 56, 48]], .tuple [.agg [.bool false, .ro [.int .u32 45967] 1, .ro [.int .u32 180] 1], .bool true])
theorem r264_ok : rowOk cfg0 M2 3000 101 r264 = true := by kernel_rfl
def r265 : List AV × AV := ([.agg [.bool false, .ro [.int .u32 5] 1, .ro [.int .u32 9] 1], .agg [.bool false, .ro [.int .u32 1] 1, .ro [.int .u32 1] 1]], .agg [.bool false, .ro [.int .u32 5] 1, .ro [.int .u32 9] 1])
theorem r265_ok : rowOk cfg0 M2 3000 62 r265 = true := by kernel_rfl
def r266 : List AV × AV := ([.agg [.bool false, .ro [.int .u32 1] 1, .ro [.int .u32 1000] 1]], .str [49, 47, 49, 48, 48, 48])
theorem r266_ok : rowOk cfg0 M2 3000 20 r266 = true := by kernel_rfl
def r267 : List AV × AV := ([.agg [.bool false, .ro [.int .u32 5463] 1, .ro [.int .u32 20] 1]], .str [53, 52, 54, 51, 47, 50, 48])
theorem r267_ok : rowOk cfg0 M2 3000 20 r267 = true := by kernel_rfl
def t2 : Tr (List (List AV × AV)) := (.nd (.nd (.nd .lf 15 [r235, r236, r237, r238, r239, r240, r241, r243, r247, r248, r249, r250, r251, r252] .lf) 20 [r234, r266, r267] .lf) 57 [r231, r242, r255] (.nd (.nd .lf 62 [r232, r233, r253, r256, r257, r259, r261, r265] .lf) 101 [r230, r244, r245, r246, r254, r258, r260, r262, r263, r264] .lf))
theorem t2_ok : MemoOk cfg0 (tabM t2) := tabM_ok (t := t2) ⟨⟨⟨trivial, (lcons (rowOk_did M2_ok r235_ok) (lcons (rowOk_did M2_ok r236_ok) (lcons (rowOk_did M2_ok r237_ok) (lcons (rowOk_did M2_ok r238_ok) (lcons (rowOk_did M2_ok r239_ok) (lcons (rowOk_did M2_ok r240_ok) (lcons (rowOk_did M2_ok r241_ok) (lcons (rowOk_did M2_ok r243_ok) (lcons (rowOk_did M2_ok r247_ok) (lcons (rowOk_did M2_ok r248_ok) (lcons (rowOk_did M2_ok r249_ok) (lcons (rowOk_did M2_ok r250_ok) (lcons (rowOk_did M2_ok r251_ok) (lcons (rowOk_did M2_ok r252_ok) lnil)))))))))))))), trivial⟩, (lcons (rowOk_did M2_ok r234_ok) (lcons (rowOk_did M2_ok r266_ok) (lcons (rowOk_did M2_ok r267_ok) lnil))), trivial⟩, (lcons (rowOk_did M2_ok r231_ok) (lcons (rowOk_did M2_ok r242_ok) (lcons (rowOk_did M2_ok r255_ok) lnil))), ⟨⟨trivial, (lcons (rowOk_did M2_ok r232_ok) (lcons (rowOk_did M2_ok r233_ok) (lcons (rowOk_did M2_ok r253_ok) (lcons (rowOk_did M2_ok r256_ok) (lcons (rowOk_did M2_ok r257_ok) (lcons (rowOk_did M2_ok r259_ok) (lcons (rowOk_did M2_ok r261_ok) (lcons (rowOk_did M2_ok r265_ok) lnil)))))))), trivial⟩, (lcons (rowOk_did M2_ok r230_ok) (lcons (rowOk_did M2_ok r244_ok) (lcons (rowOk_did M2_ok r245_ok) (lcons (rowOk_did M2_ok r246_ok) (lcons (rowOk_did M2_ok r254_ok) (lcons (rowOk_did M2_ok r258_ok) (lcons (rowOk_did M2_ok r260_ok) (lcons (rowOk_did M2_ok r262_ok) (lcons (rowOk_did M2_ok r263_ok) (lcons (rowOk_did M2_ok r264_ok) lnil)))))))))), trivial⟩⟩
def M3 : Memo := orM (tabM t2) M2
theorem M3_ok : MemoOk cfg0 M3 := orM_ok t2_ok M2_ok
def r268 : List AV × AV := ([], .bool true)
theorem r268_ok : rowOk cfg0 M3 3000 6 r268 = true := by kernel_rfl
def r269 : List AV × AV := ([.str [112, 114, 101, 102, 105, 120, 32, 107, 32, 49, 48, 32, 49, 10, 112, 114, 101, 102, 105, 120, 32, 107, 32, 50, 32, 49], .int .i64 2, .int .i64 10], .bool true)
theorem r269_ok : rowOk cfg0 M3 3000 15 r269 = true := by kernel_rfl
def r270 : List AV × AV := ([.str [98, 97, 115, 101, 32, 109, 32, 108, 101, 110, 103, 116, 104, 10, 117, 110, 105, 116, 32, 102, 32, 49, 32, 120], .int .i64 2, .int .i64 2], .bool true)
theorem r270_ok : rowOk cfg0 M3 3000 15 r270 = true := by kernel_rfl
def r271 : List AV × AV := ([.str [98, 97, 115, 101, 32, 109, 32, 108, 101, 110, 103, 116, 104, 10, 117, 110, 105, 116, 32, 102, 32, 49, 32, 109, 45, 97, 110, 100, 45, 109], .int .i64 2, .int .i64 2], .bool true)
theorem r271_ok : rowOk cfg0 M3 3000 15 r271 = true := by kernel_rfl
def r272 : List AV × AV := ([.str [98, 97, 115, 101, 32, 109, 32, 108, 101, 110, 103, 116, 104, 10, 117, 110, 105, 116, 32, 102, 32, 49, 32, 115, 113, 117, 97, 114, 101, 45, 109, 32, 49], .int .i64 2, .int .i64 6], .bool true)
theorem r272_ok : rowOk cfg0 M3 3000 15 r272 = true := by kernel_rfl
def r273 : List AV × AV := ([.str [98, 97, 115, 101, 32, 109, 32, 108, 101, 110, 103, 116, 104, 10, 117, 110, 105, 116, 32, 99, 32, 49, 32, 109, 32, 53, 10, 117, 110, 105, 116, 32, 100, 32, 49, 32, 99], .int .i64 3, .int .i64 6], .bool true)
theorem r273_ok : rowOk cfg0 M3 3000 15 r273 = true := by kernel_rfl
def r274 : List AV × AV := ([.str [98, 97, 115, 101, 32, 109, 32, 108, 101, 110, 103, 116, 104, 10, 117, 110, 105, 116, 32, 99, 32, 49, 32, 109, 32, 53, 10, 117, 110, 105, 116, 32, 100, 32, 49, 32, 109, 45, 112, 101, 114, 45, 99], .int .i64 3, .int .i64 6], .bool true)
theorem r274_ok : rowOk cfg0 M3 3000 15 r274 = true := by kernel_rfl
def r275 : List AV × AV := ([.str [98, 97, 115, 101, 32, 109, 32, 108, 101, 110, 103, 116, 104, 10, 117, 110, 105, 116, 32, 99, 32, 49, 32, 109, 32, 53, 10, 117, 110, 105, 116, 32, 100, 32, 49, 32, 99, 32, 50], .int .i64 3, .int .i64 6], .bool true)
theorem r275_ok : rowOk cfg0 M3 3000 15 r275 = true := by kernel_rfl
end Go.Am.tableKnown
