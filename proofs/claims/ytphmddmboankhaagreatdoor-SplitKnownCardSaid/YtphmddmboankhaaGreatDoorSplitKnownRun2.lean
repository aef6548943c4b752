/- SplitKnown: calls on its road whose answers are kept, each run by the kernel over those ahead of it (part 2). Written by wip/gen/memo2lean.py. -/
import Derived.Test.YtphmddmboankhaaGreatDoorSplitKnownRun1
import Derived.Test.YtphmddmboankhaaGreatDoorAmCfgA
import Derived.Test.YtphmddmboankhaaGreatDoorAmMemo
import Derived.KernelRfl
namespace Go.Am.splitKnown
set_option maxRecDepth 100000
open Go.Am
def r154 : List AV × AV := ([.ro [.int .i64 60] 1, .ro [.int .i64 1] 1], .tuple [.ro [.int .i64 60] 1, .e0])
theorem r154_ok : rowOk cfg0 M0 3000 247 r154 = true := by kernel_rfl
def r155 : List AV × AV := ([.str [107, 101, 108, 118, 105, 110]], .tuple [.ro [.str [107, 101, 108, 118, 105, 110]] 1, .int .i64 0])
theorem r155_ok : rowOk cfg0 M0 3000 207 r155 = true := by kernel_rfl
def r156 : List AV × AV := ([.str [107, 101, 108, 118, 105, 110]], .int .i64 0)
theorem r156_ok : rowOk cfg0 M0 3000 274 r156 = true := by kernel_rfl
def r157 : List AV × AV := ([.ro [.int .i64 7315, .int .i64 2] 2, .ro [.int .i64 100] 1], .tuple [.ro [.int .i64 273] 1, .ro [.int .i64 15] 1])
theorem r157_ok : rowOk cfg0 M0 3000 247 r157 = true := by kernel_rfl
def r158 : List AV × AV := ([.ro [.int .i64 100] 1, .ro [.int .i64 15] 1], .tuple [.ro [.int .i64 6] 1, .ro [.int .i64 10] 1])
theorem r158_ok : rowOk cfg0 M0 3000 247 r158 = true := by kernel_rfl
def r159 : List AV × AV := ([.ro [.int .i64 15] 1, .ro [.int .i64 10] 1], .tuple [.ro [.int .i64 1] 1, .ro [.int .i64 5] 1])
theorem r159_ok : rowOk cfg0 M0 3000 247 r159 = true := by kernel_rfl
def r160 : List AV × AV := ([.ro [.int .i64 10] 1, .ro [.int .i64 5] 1], .tuple [.ro [.int .i64 2] 1, .e0])
theorem r160_ok : rowOk cfg0 M0 3000 247 r160 = true := by kernel_rfl
def r161 : List AV × AV := ([.ro [.int .i64 7315, .int .i64 2] 2, .ro [.int .i64 5] 1], .tuple [.ro [.int .i64 5463] 1, .e0])
theorem r161_ok : rowOk cfg0 M0 3000 247 r161 = true := by kernel_rfl
def r162 : List AV × AV := ([.ro [.int .i64 100] 1, .ro [.int .i64 5] 1], .tuple [.ro [.int .i64 20] 1, .e0])
theorem r162_ok : rowOk cfg0 M0 3000 247 r162 = true := by kernel_rfl
def r163 : List AV × AV := ([.agg [.int .i64 0, .int .i64 0, .int .i64 1, .int .i64 0, .int .i64 0, .int .i64 0, .int .i64 0, .int .i64 0], .int .i64 1], .tuple [.agg [.int .i64 0, .int .i64 0, .int .i64 1, .int .i64 0, .int .i64 0, .int .i64 0, .int .i64 0, .int .i64 0], .bool true])
theorem r163_ok : rowOk cfg0 M0 3000 219 r163 = true := by kernel_rfl
def r164 : List AV × AV := ([.agg [.int .i64 0, .int .i64 0, .int .i64 0, .int .i64 0, .int .i64 0, .int .i64 0, .int .i64 0, .int .i64 0], .agg [.int .i64 0, .int .i64 0, .int .i64 1, .int .i64 0, .int .i64 0, .int .i64 0, .int .i64 0, .int .i64 0]], .tuple [.agg [.int .i64 0, .int .i64 0, .int .i64 1, .int .i64 0, .int .i64 0, .int .i64 0, .int .i64 0, .int .i64 0], .bool true])
theorem r164_ok : rowOk cfg0 M0 3000 221 r164 = true := by kernel_rfl
def r165 : List AV × AV := ([.str [102, 97, 104, 114, 101, 110, 104, 101, 105, 116]], .bool true)
theorem r165_ok : rowOk cfg0 M0 3000 210 r165 = true := by kernel_rfl
def r166 : List AV × AV := ([.ro [.int .i64 5] 1, .ro [.int .i64 9] 1], .tuple [.e0, .ro [.int .i64 5] 1])
theorem r166_ok : rowOk cfg0 M0 3000 247 r166 = true := by kernel_rfl
def r167 : List AV × AV := ([.ro [.int .i64 9] 1, .ro [.int .i64 5] 1], .tuple [.ro [.int .i64 1] 1, .ro [.int .i64 4] 1])
theorem r167_ok : rowOk cfg0 M0 3000 247 r167 = true := by kernel_rfl
def r168 : List AV × AV := ([.ro [.int .i64 5] 1, .ro [.int .i64 1] 1], .tuple [.ro [.int .i64 5] 1, .e0])
theorem r168_ok : rowOk cfg0 M0 3000 247 r168 = true := by kernel_rfl
def r169 : List AV × AV := ([.ro [.int .i64 9] 1, .ro [.int .i64 1] 1], .tuple [.ro [.int .i64 9] 1, .e0])
theorem r169_ok : rowOk cfg0 M0 3000 247 r169 = true := by kernel_rfl
def r170 : List AV × AV := ([.ro [.int .i64 5967, .int .i64 4] 2, .ro [.int .i64 180] 1], .tuple [.ro [.int .i64 255] 1, .ro [.int .i64 67] 1])
theorem r170_ok : rowOk cfg0 M0 3000 247 r170 = true := by kernel_rfl
def r171 : List AV × AV := ([.ro [.int .i64 180] 1, .ro [.int .i64 67] 1], .tuple [.ro [.int .i64 2] 1, .ro [.int .i64 46] 1])
theorem r171_ok : rowOk cfg0 M0 3000 247 r171 = true := by kernel_rfl
def r172 : List AV × AV := ([.ro [.int .i64 67] 1, .ro [.int .i64 46] 1], .tuple [.ro [.int .i64 1] 1, .ro [.int .i64 21] 1])
theorem r172_ok : rowOk cfg0 M0 3000 247 r172 = true := by kernel_rfl
def r173 : List AV × AV := ([.ro [.int .i64 46] 1, .ro [.int .i64 21] 1], .tuple [.ro [.int .i64 2] 1, .ro [.int .i64 4] 1])
theorem r173_ok : rowOk cfg0 M0 3000 247 r173 = true := by kernel_rfl
def r174 : List AV × AV := ([.ro [.int .i64 21] 1, .ro [.int .i64 4] 1], .tuple [.ro [.int .i64 5] 1, .ro [.int .i64 1] 1])
theorem r174_ok : rowOk cfg0 M0 3000 247 r174 = true := by kernel_rfl
def r175 : List AV × AV := ([.ro [.int .i64 5967, .int .i64 4] 2, .ro [.int .i64 1] 1], .tuple [.ro [.int .i64 5967, .int .i64 4] 2, .e0])
theorem r175_ok : rowOk cfg0 M0 3000 247 r175 = true := by kernel_rfl
def r176 : List AV × AV := ([.ro [.int .i64 180] 1, .ro [.int .i64 1] 1], .tuple [.ro [.int .i64 180] 1, .e0])
theorem r176_ok : rowOk cfg0 M0 3000 247 r176 = true := by kernel_rfl
def r177 : List AV × AV := ([.str [115, 112, 101, 101, 100]], .tuple [.ro [.str [115, 112, 101, 101, 100]] 1, .int .i64 0])
theorem r177_ok : rowOk cfg0 M0 3000 207 r177 = true := by kernel_rfl
def r178 : List AV × AV := ([.str [109, 101, 116, 101, 114, 45, 112, 101, 114, 45, 115, 101, 99, 111, 110, 100]], .tuple [.ro [.str [109, 101, 116, 101, 114], .str [112, 101, 114], .str [115, 101, 99, 111, 110, 100]] 3, .int .i64 0])
theorem r178_ok : rowOk cfg0 M0 3000 207 r178 = true := by kernel_rfl
def r179 : List AV × AV := ([.agg [.int .i64 0, .int .i64 1, .int .i64 0, .int .i64 0, .int .i64 0, .int .i64 0, .int .i64 0, .int .i64 0], .int .i64 (-1)], .tuple [.agg [.int .i64 0, .int .i64 (-1), .int .i64 0, .int .i64 0, .int .i64 0, .int .i64 0, .int .i64 0, .int .i64 0], .bool true])
theorem r179_ok : rowOk cfg0 M0 3000 219 r179 = true := by kernel_rfl
def r180 : List AV × AV := ([.agg [.int .i64 1, .int .i64 0, .int .i64 0, .int .i64 0, .int .i64 0, .int .i64 0, .int .i64 0, .int .i64 0], .agg [.int .i64 0, .int .i64 (-1), .int .i64 0, .int .i64 0, .int .i64 0, .int .i64 0, .int .i64 0, .int .i64 0]], .tuple [.agg [.int .i64 1, .int .i64 (-1), .int .i64 0, .int .i64 0, .int .i64 0, .int .i64 0, .int .i64 0, .int .i64 0], .bool true])
theorem r180_ok : rowOk cfg0 M0 3000 221 r180 = true := by kernel_rfl
def r181 : List AV × AV := ([.str [115, 113, 117, 97, 114, 101, 45, 109, 101, 116, 101, 114]], .tuple [.ro [.str [115, 113, 117, 97, 114, 101], .str [109, 101, 116, 101, 114]] 2, .int .i64 0])
theorem r181_ok : rowOk cfg0 M0 3000 207 r181 = true := by kernel_rfl
def r182 : List AV × AV := ([.agg [.int .i64 1, .int .i64 0, .int .i64 0, .int .i64 0, .int .i64 0, .int .i64 0, .int .i64 0, .int .i64 0], .int .i64 2], .tuple [.agg [.int .i64 2, .int .i64 0, .int .i64 0, .int .i64 0, .int .i64 0, .int .i64 0, .int .i64 0, .int .i64 0], .bool true])
theorem r182_ok : rowOk cfg0 M0 3000 219 r182 = true := by kernel_rfl
def r183 : List AV × AV := ([.agg [.int .i64 0, .int .i64 0, .int .i64 0, .int .i64 0, .int .i64 0, .int .i64 0, .int .i64 0, .int .i64 0], .agg [.int .i64 2, .int .i64 0, .int .i64 0, .int .i64 0, .int .i64 0, .int .i64 0, .int .i64 0, .int .i64 0]], .tuple [.agg [.int .i64 2, .int .i64 0, .int .i64 0, .int .i64 0, .int .i64 0, .int .i64 0, .int .i64 0, .int .i64 0], .bool true])
theorem r183_ok : rowOk cfg0 M0 3000 221 r183 = true := by kernel_rfl
def r184 : List AV × AV := ([.str [107, 105, 108, 111, 109, 101, 116, 101, 114, 45, 112, 101, 114, 45, 115, 101, 99, 111, 110, 100]], .tuple [.ro [.str [107, 105, 108, 111, 109, 101, 116, 101, 114], .str [112, 101, 114], .str [115, 101, 99, 111, 110, 100]] 3, .int .i64 0])
theorem r184_ok : rowOk cfg0 M0 3000 207 r184 = true := by kernel_rfl
def r185 : List AV × AV := ([.str [107, 105, 108, 111, 109, 101, 116, 101, 114]], .int .i64 0)
theorem r185_ok : rowOk cfg0 M0 3000 274 r185 = true := by kernel_rfl
def r186 : List AV × AV := ([.str [51, 53, 56]], .tuple [.agg [.ro [.int .u32 358] 1], .bool true])
theorem r186_ok : rowOk cfg0 M0 3000 45 r186 = true := by kernel_rfl
def r187 : List AV × AV := ([.agg [.ro [.int .u32 358] 1], .agg [.ro [.int .u32 5] 1]], .agg [.ro [.int .u32 1] 1])
theorem r187_ok : rowOk cfg0 M0 3000 72 r187 = true := by kernel_rfl
def r188 : List AV × AV := ([.str [97, 110, 100], .str [97, 98, 99, 100, 101, 102, 103, 104, 105, 106, 107, 108, 109, 110, 111, 112, 113, 114, 115, 116, 117, 118, 119, 120, 121, 122, 48, 49, 50, 51, 52, 53, 54, 55, 56, 57]], .str [])
theorem r188_ok : rowOk cfg0 M0 3000 90 r188 = true := by kernel_rfl
def r189 : List AV × AV := ([.str [105, 110, 99, 104]], .int .i64 1)
theorem r189_ok : rowOk cfg0 M0 3000 226 r189 = true := by kernel_rfl
def r190 : List AV × AV := ([.agg [.ro [.int .u32 127] 1], .agg [.ro [.int .u32 5000] 1]], .agg [.ro [.int .u32 1] 1])
theorem r190_ok : rowOk cfg0 M0 3000 72 r190 = true := by kernel_rfl
def r191 : List AV × AV := ([.agg [.bool true, .ro [.int .u32 381] 1], .agg [.bool false, .ro [.int .u32 5000] 1]], .agg [.bool true, .ro [.int .u32 1905000] 1])
theorem r191_ok : rowOk cfg0 M0 3000 78 r191 = true := by kernel_rfl
def r192 : List AV × AV := ([.agg [.bool false, .ro [.int .u32 158750] 1], .agg [.bool true, .ro [.int .u32 1905000] 1]], .agg [.bool true, .ro [.int .u32 1746250] 1])
theorem r192_ok : rowOk cfg0 M0 3000 75 r192 = true := by kernel_rfl
def r193 : List AV × AV := ([.agg [.ro [.int .u32 1746250] 1], .agg [.ro [.int .u32 6250000] 1]], .agg [.ro [.int .u32 1250] 1])
theorem r193_ok : rowOk cfg0 M0 3000 72 r193 = true := by kernel_rfl
def r194 : List AV × AV := ([.agg [.ro [.int .u32 1397] 1], .agg [.ro [.int .u32 5000] 1]], .agg [.ro [.int .u32 1] 1])
theorem r194_ok : rowOk cfg0 M0 3000 72 r194 = true := by kernel_rfl
def r195 : List AV × AV := ([.agg [.bool false, .ro [.int .u32 358] 1], .agg [.bool false, .ro [.int .u32 5] 1]], .tuple [.agg [.bool false, .ro [.int .u32 71] 1], .agg [.bool false, .ro [.int .u32 3] 1], .bool true])
theorem r195_ok : rowOk cfg0 M0 3000 70 r195 = true := by kernel_rfl
def r196 : List AV × AV := ([.agg [.ro [.int .u32 71] 1], .agg [.ro [.int .u32 1] 1]], .agg [.ro [.int .u32 1] 1])
theorem r196_ok : rowOk cfg0 M0 3000 72 r196 = true := by kernel_rfl
def r197 : List AV × AV := ([.agg [.bool true, .ro [.int .u32 71] 1], .agg [.bool false, .ro [.int .u32 5] 1]], .agg [.bool true, .ro [.int .u32 355] 1])
theorem r197_ok : rowOk cfg0 M0 3000 78 r197 = true := by kernel_rfl
def r198 : List AV × AV := ([.agg [.bool false, .ro [.int .u32 358] 1], .agg [.bool true, .ro [.int .u32 355] 1]], .agg [.bool false, .ro [.int .u32 3] 1])
theorem r198_ok : rowOk cfg0 M0 3000 75 r198 = true := by kernel_rfl
def r199 : List AV × AV := ([.agg [.ro [.int .u32 3] 1], .agg [.ro [.int .u32 5] 1]], .agg [.ro [.int .u32 1] 1])
theorem r199_ok : rowOk cfg0 M0 3000 72 r199 = true := by kernel_rfl
def r200 : List AV × AV := ([.agg [.bool false, .ro [.int .u32 15] 1], .agg [.bool false, .ro [.int .u32 15] 1]], .agg [.bool false, .ro [.int .u32 30] 1])
theorem r200_ok : rowOk cfg0 M0 3000 75 r200 = true := by kernel_rfl
def r201 : List AV × AV := ([.agg [.ro [.int .u32 30] 1], .agg [.ro [.int .u32 25] 1]], .agg [.ro [.int .u32 5] 1])
theorem r201_ok : rowOk cfg0 M0 3000 72 r201 = true := by kernel_rfl
def r202 : List AV × AV := ([.agg [.ro [.int .u32 6] 1], .agg [.ro [.int .u32 5] 1]], .agg [.ro [.int .u32 1] 1])
theorem r202_ok : rowOk cfg0 M0 3000 72 r202 = true := by kernel_rfl
def r203 : List AV × AV := ([.agg [.bool true, .ro [.int .u32 1] 1], .agg [.bool false, .ro [.int .u32 5] 1]], .agg [.bool true, .ro [.int .u32 5] 1])
theorem r203_ok : rowOk cfg0 M0 3000 78 r203 = true := by kernel_rfl
def r204 : List AV × AV := ([.agg [.bool false, .ro [.int .u32 6] 1], .agg [.bool true, .ro [.int .u32 5] 1]], .agg [.bool false, .ro [.int .u32 1] 1])
theorem r204_ok : rowOk cfg0 M0 3000 75 r204 = true := by kernel_rfl
def r205 : List AV × AV := ([.agg [.ro [.int .u32 1] 1], .agg [.ro [.int .u32 5] 1]], .agg [.ro [.int .u32 1] 1])
theorem r205_ok : rowOk cfg0 M0 3000 72 r205 = true := by kernel_rfl
def r206 : List AV × AV := ([.agg [.bool false, .ro [.int .u32 71] 1], .agg [.bool false, .ro [.int .u32 1] 1]], .agg [.bool false, .ro [.int .u32 72] 1])
theorem r206_ok : rowOk cfg0 M0 3000 75 r206 = true := by kernel_rfl
def r207 : List AV × AV := ([.agg [.ro [.int .u32 72] 1], .agg [.ro [.int .u32 1] 1]], .agg [.ro [.int .u32 1] 1])
theorem r207_ok : rowOk cfg0 M0 3000 72 r207 = true := by kernel_rfl
def r208 : List AV × AV := ([.agg [.ro [.int .u32 5000] 1], .agg [.ro [.int .u32 127] 1]], .agg [.ro [.int .u32 1] 1])
theorem r208_ok : rowOk cfg0 M0 3000 72 r208 = true := by kernel_rfl
def r209 : List AV × AV := ([.agg [.ro [.int .u32 1905000] 1], .agg [.ro [.int .u32 158750] 1]], .agg [.ro [.int .u32 158750] 1])
theorem r209_ok : rowOk cfg0 M0 3000 72 r209 = true := by kernel_rfl
def r210 : List AV × AV := ([.agg [.ro [.int .u32 12] 1], .agg [.ro [.int .u32 1] 1]], .agg [.ro [.int .u32 1] 1])
theorem r210_ok : rowOk cfg0 M0 3000 72 r210 = true := by kernel_rfl
def r211 : List AV × AV := ([.agg [.ro [.int .u32 72] 1], .agg [.ro [.int .u32 12] 1]], .agg [.ro [.int .u32 12] 1])
theorem r211_ok : rowOk cfg0 M0 3000 72 r211 = true := by kernel_rfl
def r212 : List AV × AV := ([.agg [.ro [.int .u32 6] 1], .agg [.ro [.int .u32 1] 1]], .agg [.ro [.int .u32 1] 1])
theorem r212_ok : rowOk cfg0 M0 3000 72 r212 = true := by kernel_rfl
def r213 : List AV × AV := ([.agg [.bool false, .ro [.int .u32 6] 1], .agg [.bool false, .ro [.int .u32 1] 1]], .tuple [.agg [.bool false, .ro [.int .u32 6] 1], .agg [.bool false, .e0], .bool true])
theorem r213_ok : rowOk cfg0 M0 3000 70 r213 = true := by kernel_rfl
def r214 : List AV × AV := ([.agg [.bool true, .ro [.int .u32 72] 1], .agg [.bool false, .ro [.int .u32 1] 1]], .agg [.bool true, .ro [.int .u32 72] 1])
theorem r214_ok : rowOk cfg0 M0 3000 78 r214 = true := by kernel_rfl
def r215 : List AV × AV := ([.agg [.bool false, .ro [.int .u32 72] 1], .agg [.bool true, .ro [.int .u32 72] 1]], .agg [.bool false, .e0])
theorem r215_ok : rowOk cfg0 M0 3000 75 r215 = true := by kernel_rfl
def r216 : List AV × AV := ([.agg [.bool false, .e0], .agg [.ro [.int .u32 1] 1]], .tuple [.agg [.bool false, .nilsl, .ro [.int .u32 1] 1], .bool true])
theorem r216_ok : rowOk cfg0 M0 3000 28 r216 = true := by kernel_rfl
def r217 : List AV × AV := ([.agg [.bool false, .nilsl], .agg [.ro [.int .u32 1] 1]], .tuple [.agg [.bool false, .nilsl, .ro [.int .u32 1] 1], .bool true])
theorem r217_ok : rowOk cfg0 M0 3000 28 r217 = true := by kernel_rfl
def r218 : List AV × AV := ([.agg [.bool true, .ro [.int .u32 358] 1], .agg [.bool false, .ro [.int .u32 10] 1]], .agg [.bool true, .ro [.int .u32 3580] 1])
theorem r218_ok : rowOk cfg0 M0 3000 78 r218 = true := by kernel_rfl
def r219 : List AV × AV := ([.agg [.ro [.int .u32 3580] 1], .agg [.ro [.int .u32 5] 1]], .agg [.ro [.int .u32 5] 1])
theorem r219_ok : rowOk cfg0 M0 3000 72 r219 = true := by kernel_rfl
def r220 : List AV × AV := ([.agg [.ro [.int .u32 716] 1], .agg [.ro [.int .u32 1] 1]], .agg [.ro [.int .u32 1] 1])
theorem r220_ok : rowOk cfg0 M0 3000 72 r220 = true := by kernel_rfl
def r221 : List AV × AV := ([.agg [.bool true, .ro [.int .u32 716] 1], .agg [.bool false, .ro [.int .u32 1] 1]], .tuple [.agg [.bool true, .ro [.int .u32 716] 1], .agg [.bool false, .e0], .bool true])
theorem r221_ok : rowOk cfg0 M0 3000 70 r221 = true := by kernel_rfl
def r222 : List AV × AV := ([.agg [.bool true, .ro [.int .u32 716] 1], .agg [.bool false, .ro [.int .u32 1] 1]], .agg [.bool true, .ro [.int .u32 716] 1])
theorem r222_ok : rowOk cfg0 M0 3000 78 r222 = true := by kernel_rfl
def r223 : List AV × AV := ([.agg [.bool true, .ro [.int .u32 716] 1], .agg [.bool false, .ro [.int .u32 716] 1]], .agg [.bool false, .e0])
theorem r223_ok : rowOk cfg0 M0 3000 75 r223 = true := by kernel_rfl
def r224 : List AV × AV := ([.agg [.ro [.int .u32 716] 1], .agg [.ro [.int .u32 10] 1]], .agg [.ro [.int .u32 2] 1])
theorem r224_ok : rowOk cfg0 M0 3000 72 r224 = true := by kernel_rfl
def r225 : List AV × AV := ([.agg [.ro [.int .u32 358] 1], .agg [.ro [.int .u32 60] 1]], .agg [.ro [.int .u32 2] 1])
theorem r225_ok : rowOk cfg0 M0 3000 72 r225 = true := by kernel_rfl
def r226 : List AV × AV := ([.agg [.ro [.int .u32 179] 1], .agg [.ro [.int .u32 30] 1]], .agg [.ro [.int .u32 1] 1])
theorem r226_ok : rowOk cfg0 M0 3000 72 r226 = true := by kernel_rfl
def r227 : List AV × AV := ([.agg [.bool false, .ro [.int .u32 179] 1], .agg [.bool false, .ro [.int .u32 30] 1]], .tuple [.agg [.bool false, .ro [.int .u32 5] 1], .agg [.bool false, .ro [.int .u32 29] 1], .bool true])
theorem r227_ok : rowOk cfg0 M0 3000 70 r227 = true := by kernel_rfl
def r228 : List AV × AV := ([.agg [.ro [.int .u32 5] 1], .agg [.ro [.int .u32 1] 1]], .agg [.ro [.int .u32 1] 1])
theorem r228_ok : rowOk cfg0 M0 3000 72 r228 = true := by kernel_rfl
def r229 : List AV × AV := ([.agg [.bool true, .ro [.int .u32 60] 1], .agg [.bool false, .ro [.int .u32 5] 1]], .agg [.bool true, .ro [.int .u32 300] 1])
theorem r229_ok : rowOk cfg0 M0 3000 78 r229 = true := by kernel_rfl
def r230 : List AV × AV := ([.agg [.bool false, .ro [.int .u32 358] 1], .agg [.bool true, .ro [.int .u32 300] 1]], .agg [.bool false, .ro [.int .u32 58] 1])
theorem r230_ok : rowOk cfg0 M0 3000 75 r230 = true := by kernel_rfl
def r231 : List AV × AV := ([.agg [.ro [.int .u32 58] 1], .agg [.ro [.int .u32 5] 1]], .agg [.ro [.int .u32 1] 1])
theorem r231_ok : rowOk cfg0 M0 3000 72 r231 = true := by kernel_rfl
def r232 : List AV × AV := ([.agg [.bool false, .ro [.int .u32 58] 1], .agg [.bool false, .e0]], .agg [.bool false, .ro [.int .u32 58] 1])
theorem r232_ok : rowOk cfg0 M0 3000 75 r232 = true := by kernel_rfl
end Go.Am.splitKnown
