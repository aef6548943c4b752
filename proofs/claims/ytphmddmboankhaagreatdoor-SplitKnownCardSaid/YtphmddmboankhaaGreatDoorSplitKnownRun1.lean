/- SplitKnown: calls on its road whose answers are kept, each run by the kernel over those ahead of it (part 1). Written by wip/gen/memo2lean.py. -/
import Derived.Test.YtphmddmboankhaaGreatDoorSplitKnownRun0
import Derived.Test.YtphmddmboankhaaGreatDoorAmCfgA
import Derived.Test.YtphmddmboankhaaGreatDoorAmMemo
import Derived.KernelRfl
namespace Go.Am.splitKnown
set_option maxRecDepth 100000
open Go.Am
def r113 : List AV × AV := ([.ro [.int .i64 1250] 1, .ro [.int .i64 381] 1], .tuple [.ro [.int .i64 3] 1, .ro [.int .i64 107] 1])
theorem r113_ok : rowOk cfg0 M0 3000 247 r113 = true := by kernel_rfl
def r114 : List AV × AV := ([.ro [.int .i64 381] 1, .ro [.int .i64 107] 1], .tuple [.ro [.int .i64 3] 1, .ro [.int .i64 60] 1])
theorem r114_ok : rowOk cfg0 M0 3000 247 r114 = true := by kernel_rfl
def r115 : List AV × AV := ([.ro [.int .i64 107] 1, .ro [.int .i64 60] 1], .tuple [.ro [.int .i64 1] 1, .ro [.int .i64 47] 1])
theorem r115_ok : rowOk cfg0 M0 3000 247 r115 = true := by kernel_rfl
def r116 : List AV × AV := ([.ro [.int .i64 60] 1, .ro [.int .i64 47] 1], .tuple [.ro [.int .i64 1] 1, .ro [.int .i64 13] 1])
theorem r116_ok : rowOk cfg0 M0 3000 247 r116 = true := by kernel_rfl
def r117 : List AV × AV := ([.ro [.int .i64 47] 1, .ro [.int .i64 13] 1], .tuple [.ro [.int .i64 3] 1, .ro [.int .i64 8] 1])
theorem r117_ok : rowOk cfg0 M0 3000 247 r117 = true := by kernel_rfl
def r118 : List AV × AV := ([.ro [.int .i64 13] 1, .ro [.int .i64 8] 1], .tuple [.ro [.int .i64 1] 1, .ro [.int .i64 5] 1])
theorem r118_ok : rowOk cfg0 M0 3000 247 r118 = true := by kernel_rfl
def r119 : List AV × AV := ([.ro [.int .i64 8] 1, .ro [.int .i64 5] 1], .tuple [.ro [.int .i64 1] 1, .ro [.int .i64 3] 1])
theorem r119_ok : rowOk cfg0 M0 3000 247 r119 = true := by kernel_rfl
def r120 : List AV × AV := ([.ro [.int .i64 5] 1, .ro [.int .i64 3] 1], .tuple [.ro [.int .i64 1] 1, .ro [.int .i64 2] 1])
theorem r120_ok : rowOk cfg0 M0 3000 247 r120 = true := by kernel_rfl
def r121 : List AV × AV := ([.ro [.int .i64 3] 1, .ro [.int .i64 2] 1], .tuple [.ro [.int .i64 1] 1, .ro [.int .i64 1] 1])
theorem r121_ok : rowOk cfg0 M0 3000 247 r121 = true := by kernel_rfl
def r122 : List AV × AV := ([.ro [.int .i64 2] 1, .ro [.int .i64 1] 1], .tuple [.ro [.int .i64 2] 1, .e0])
theorem r122_ok : rowOk cfg0 M0 3000 247 r122 = true := by kernel_rfl
def r123 : List AV × AV := ([.ro [.int .i64 381] 1, .ro [.int .i64 1] 1], .tuple [.ro [.int .i64 381] 1, .e0])
theorem r123_ok : rowOk cfg0 M0 3000 247 r123 = true := by kernel_rfl
def r124 : List AV × AV := ([.ro [.int .i64 1250] 1, .ro [.int .i64 1] 1], .tuple [.ro [.int .i64 1250] 1, .e0])
theorem r124_ok : rowOk cfg0 M0 3000 247 r124 = true := by kernel_rfl
def r125 : List AV × AV := ([.str [109, 101, 116, 101, 114]], .tuple [.ro [.str [109, 101, 116, 101, 114]] 1, .int .i64 0])
theorem r125_ok : rowOk cfg0 M0 3000 207 r125 = true := by kernel_rfl
def r126 : List AV × AV := ([.str [109, 101, 116, 101, 114]], .int .i64 0)
theorem r126_ok : rowOk cfg0 M0 3000 274 r126 = true := by kernel_rfl
def r127 : List AV × AV := ([.agg [.int .i64 1, .int .i64 0, .int .i64 0, .int .i64 0, .int .i64 0, .int .i64 0, .int .i64 0, .int .i64 0], .int .i64 1], .tuple [.agg [.int .i64 1, .int .i64 0, .int .i64 0, .int .i64 0, .int .i64 0, .int .i64 0, .int .i64 0, .int .i64 0], .bool true])
theorem r127_ok : rowOk cfg0 M0 3000 219 r127 = true := by kernel_rfl
def r128 : List AV × AV := ([.agg [.int .i64 0, .int .i64 0, .int .i64 0, .int .i64 0, .int .i64 0, .int .i64 0, .int .i64 0, .int .i64 0], .agg [.int .i64 1, .int .i64 0, .int .i64 0, .int .i64 0, .int .i64 0, .int .i64 0, .int .i64 0, .int .i64 0]], .tuple [.agg [.int .i64 1, .int .i64 0, .int .i64 0, .int .i64 0, .int .i64 0, .int .i64 0, .int .i64 0, .int .i64 0], .bool true])
theorem r128_ok : rowOk cfg0 M0 3000 221 r128 = true := by kernel_rfl
def r129 : List AV × AV := ([.ro [.int .i64 1] 1, .ro [.int .i64 12] 1], .tuple [.e0, .ro [.int .i64 1] 1])
theorem r129_ok : rowOk cfg0 M0 3000 247 r129 = true := by kernel_rfl
def r130 : List AV × AV := ([.ro [.int .i64 12] 1, .ro [.int .i64 1] 1], .tuple [.ro [.int .i64 12] 1, .e0])
theorem r130_ok : rowOk cfg0 M0 3000 247 r130 = true := by kernel_rfl
def r131 : List AV × AV := ([.str [102, 111, 111, 116]], .int .i64 0)
theorem r131_ok : rowOk cfg0 M0 3000 274 r131 = true := by kernel_rfl
def r132 : List AV × AV := ([.ro [.int .i64 5000, .int .i64 1] 2, .ro [.int .i64 381] 1], .tuple [.ro [.int .i64 39] 1, .ro [.int .i64 141] 1])
theorem r132_ok : rowOk cfg0 M0 3000 247 r132 = true := by kernel_rfl
def r133 : List AV × AV := ([.ro [.int .i64 381] 1, .ro [.int .i64 141] 1], .tuple [.ro [.int .i64 2] 1, .ro [.int .i64 99] 1])
theorem r133_ok : rowOk cfg0 M0 3000 247 r133 = true := by kernel_rfl
def r134 : List AV × AV := ([.ro [.int .i64 141] 1, .ro [.int .i64 99] 1], .tuple [.ro [.int .i64 1] 1, .ro [.int .i64 42] 1])
theorem r134_ok : rowOk cfg0 M0 3000 247 r134 = true := by kernel_rfl
def r135 : List AV × AV := ([.ro [.int .i64 99] 1, .ro [.int .i64 42] 1], .tuple [.ro [.int .i64 2] 1, .ro [.int .i64 15] 1])
theorem r135_ok : rowOk cfg0 M0 3000 247 r135 = true := by kernel_rfl
def r136 : List AV × AV := ([.ro [.int .i64 42] 1, .ro [.int .i64 15] 1], .tuple [.ro [.int .i64 2] 1, .ro [.int .i64 12] 1])
theorem r136_ok : rowOk cfg0 M0 3000 247 r136 = true := by kernel_rfl
def r137 : List AV × AV := ([.ro [.int .i64 15] 1, .ro [.int .i64 12] 1], .tuple [.ro [.int .i64 1] 1, .ro [.int .i64 3] 1])
theorem r137_ok : rowOk cfg0 M0 3000 247 r137 = true := by kernel_rfl
def r138 : List AV × AV := ([.ro [.int .i64 12] 1, .ro [.int .i64 3] 1], .tuple [.ro [.int .i64 4] 1, .e0])
theorem r138_ok : rowOk cfg0 M0 3000 247 r138 = true := by kernel_rfl
def r139 : List AV × AV := ([.ro [.int .i64 381] 1, .ro [.int .i64 3] 1], .tuple [.ro [.int .i64 127] 1, .e0])
theorem r139_ok : rowOk cfg0 M0 3000 247 r139 = true := by kernel_rfl
def r140 : List AV × AV := ([.ro [.int .i64 5000, .int .i64 1] 2, .ro [.int .i64 3] 1], .tuple [.ro [.int .i64 5000] 1, .e0])
theorem r140_ok : rowOk cfg0 M0 3000 247 r140 = true := by kernel_rfl
def r141 : List AV × AV := ([.ro [.int .i64 1143] 1, .ro [.int .i64 1250] 1], .tuple [.e0, .ro [.int .i64 1143] 1])
theorem r141_ok : rowOk cfg0 M0 3000 247 r141 = true := by kernel_rfl
def r142 : List AV × AV := ([.ro [.int .i64 1250] 1, .ro [.int .i64 1143] 1], .tuple [.ro [.int .i64 1] 1, .ro [.int .i64 107] 1])
theorem r142_ok : rowOk cfg0 M0 3000 247 r142 = true := by kernel_rfl
def r143 : List AV × AV := ([.ro [.int .i64 1143] 1, .ro [.int .i64 107] 1], .tuple [.ro [.int .i64 10] 1, .ro [.int .i64 73] 1])
theorem r143_ok : rowOk cfg0 M0 3000 247 r143 = true := by kernel_rfl
def r144 : List AV × AV := ([.ro [.int .i64 107] 1, .ro [.int .i64 73] 1], .tuple [.ro [.int .i64 1] 1, .ro [.int .i64 34] 1])
theorem r144_ok : rowOk cfg0 M0 3000 247 r144 = true := by kernel_rfl
def r145 : List AV × AV := ([.ro [.int .i64 73] 1, .ro [.int .i64 34] 1], .tuple [.ro [.int .i64 2] 1, .ro [.int .i64 5] 1])
theorem r145_ok : rowOk cfg0 M0 3000 247 r145 = true := by kernel_rfl
def r146 : List AV × AV := ([.ro [.int .i64 34] 1, .ro [.int .i64 5] 1], .tuple [.ro [.int .i64 6] 1, .ro [.int .i64 4] 1])
theorem r146_ok : rowOk cfg0 M0 3000 247 r146 = true := by kernel_rfl
def r147 : List AV × AV := ([.ro [.int .i64 5] 1, .ro [.int .i64 4] 1], .tuple [.ro [.int .i64 1] 1, .ro [.int .i64 1] 1])
theorem r147_ok : rowOk cfg0 M0 3000 247 r147 = true := by kernel_rfl
def r148 : List AV × AV := ([.ro [.int .i64 4] 1, .ro [.int .i64 1] 1], .tuple [.ro [.int .i64 4] 1, .e0])
theorem r148_ok : rowOk cfg0 M0 3000 247 r148 = true := by kernel_rfl
def r149 : List AV × AV := ([.ro [.int .i64 1143] 1, .ro [.int .i64 1] 1], .tuple [.ro [.int .i64 1143] 1, .e0])
theorem r149_ok : rowOk cfg0 M0 3000 247 r149 = true := by kernel_rfl
def r150 : List AV × AV := ([.str [115, 101, 99, 111, 110, 100]], .tuple [.ro [.str [115, 101, 99, 111, 110, 100]] 1, .int .i64 0])
theorem r150_ok : rowOk cfg0 M0 3000 207 r150 = true := by kernel_rfl
def r151 : List AV × AV := ([.str [115, 101, 99, 111, 110, 100]], .int .i64 0)
theorem r151_ok : rowOk cfg0 M0 3000 274 r151 = true := by kernel_rfl
def r152 : List AV × AV := ([.agg [.int .i64 0, .int .i64 1, .int .i64 0, .int .i64 0, .int .i64 0, .int .i64 0, .int .i64 0, .int .i64 0], .int .i64 1], .tuple [.agg [.int .i64 0, .int .i64 1, .int .i64 0, .int .i64 0, .int .i64 0, .int .i64 0, .int .i64 0, .int .i64 0], .bool true])
theorem r152_ok : rowOk cfg0 M0 3000 219 r152 = true := by kernel_rfl
def r153 : List AV × AV := ([.agg [.int .i64 0, .int .i64 0, .int .i64 0, .int .i64 0, .int .i64 0, .int .i64 0, .int .i64 0, .int .i64 0], .agg [.int .i64 0, .int .i64 1, .int .i64 0, .int .i64 0, .int .i64 0, .int .i64 0, .int .i64 0, .int .i64 0]], .tuple [.agg [.int .i64 0, .int .i64 1, .int .i64 0, .int .i64 0, .int .i64 0, .int .i64 0, .int .i64 0, .int .i64 0], .bool true])
theorem r153_ok : rowOk cfg0 M0 3000 221 r153 = true := by kernel_rfl
end Go.Am.splitKnown
