/- SplitKnown: calls on its road whose answers are kept, each run by the kernel over those ahead of it (part 6). Written by wip/gen/memo2lean.py. -/
import Derived.Test.YtphmddmboankhaaGreatDoorSplitKnownRun5
import Derived.Test.YtphmddmboankhaaGreatDoorAmCfgA
import Derived.Test.YtphmddmboankhaaGreatDoorAmMemo
import Derived.KernelRfl
namespace Go.Am.splitKnown
set_option maxRecDepth 100000
open Go.Am
def r604 : List AV × AV := ([.str [45, 51, 53, 56, 47, 53], .str [102, 111, 111, 116, 45, 97, 110, 100, 45, 105, 110, 99, 104], .int .i64 1, .int .i64 6], .str [45, 53, 32, 49, 49, 46, 54])
theorem r604_ok : rowOk cfg0 M5 3000 6 r604 = true := by kernel_rfl
def r605 : List AV × AV := ([.str [55, 50], .str [121, 97, 114, 100, 45, 97, 110, 100, 45, 102, 111, 111, 116, 45, 97, 110, 100, 45, 105, 110, 99, 104], .int .i64 2, .int .i64 1], .str [50, 32, 48, 32, 48, 46, 48, 48])
theorem r605_ok : rowOk cfg0 M5 3000 6 r605 = true := by kernel_rfl
def r606 : List AV × AV := ([.agg [.bool false, .ro [.int .u32 100] 1, .ro [.int .u32 3] 1], .int .i64 6], .tuple [.agg [.bool false, .ro [.int .u32 33] 1], .int .i64 0])
theorem r606_ok : rowOk cfg0 M5 3000 36 r606 = true := by kernel_rfl
def r607 : List AV × AV := ([.str [53], .str [105, 110, 99, 104, 45, 97, 110, 100, 45, 102, 111, 111, 116], .int .i64 0, .int .i64 6], .str [69, 55])
theorem r607_ok : rowOk cfg0 M5 3000 6 r607 = true := by kernel_rfl
def r608 : List AV × AV := ([.str [53], .str [102, 111, 111, 116, 45, 97, 110, 100, 45, 102, 111, 111, 116], .int .i64 0, .int .i64 6], .str [69, 55])
theorem r608_ok : rowOk cfg0 M5 3000 6 r608 = true := by kernel_rfl
def r609 : List AV × AV := ([.str [53], .str [102, 111, 111, 116, 45, 97, 110, 100, 45, 115, 101, 99, 111, 110, 100], .int .i64 0, .int .i64 6], .str [69, 53])
theorem r609_ok : rowOk cfg0 M5 3000 6 r609 = true := by kernel_rfl
def r610 : List AV × AV := ([.str [53], .str [99, 101, 108, 115, 105, 117, 115, 45, 97, 110, 100, 45, 107, 101, 108, 118, 105, 110], .int .i64 0, .int .i64 6], .str [69, 54])
theorem r610_ok : rowOk cfg0 M5 3000 6 r610 = true := by kernel_rfl
def r611 : List AV × AV := ([.str [53], .str [102, 111, 111, 116, 45, 97, 110, 100, 45, 105, 110, 99, 104], .int .i64 (-1), .int .i64 6], .str [69, 49])
theorem r611_ok : rowOk cfg0 M5 3000 6 r611 = true := by kernel_rfl
def r612 : List AV × AV := ([.str [53], .str [102, 111, 111, 116, 45, 97, 110, 100, 45, 105, 110, 99, 104], .int .i64 0, .int .i64 8], .str [69, 49])
theorem r612_ok : rowOk cfg0 M5 3000 6 r612 = true := by kernel_rfl
def r613 : List AV × AV := ([.str [50, 48], .str [99, 101, 108, 115, 105, 117, 115], .int .i64 0, .int .i64 6], .str [50, 48])
theorem r613_ok : rowOk cfg0 M5 3000 6 r613 = true := by kernel_rfl
def r614 : List AV × AV := ([.str [49, 48, 48, 48], .str [109, 101, 116, 101, 114, 45, 97, 110, 100, 45, 102, 111, 111, 116], .int .i64 0, .int .i64 6], .str [69, 56])
theorem r614_ok : rowOk cfg0 M5 3000 6 r614 = true := by kernel_rfl
def r615 : List AV × AV := ([.agg [.bool true, .ro [.int .u32 1] 1, .ro [.int .u32 10] 1], .int .i64 6], .tuple [.agg [.bool false, .e0], .int .i64 0])
theorem r615_ok : rowOk cfg0 M5 3000 36 r615 = true := by kernel_rfl
def t5 : Tr (List (List AV × AV)) := (.nd (.nd .lf 6 [r604, r605, r607, r608, r609, r610, r611, r612, r613, r614] .lf) 36 [r603, r606, r615] .lf)
theorem t5_ok : MemoOk cfg0 (tabM t5) := tabM_ok (t := t5) ⟨⟨trivial, (lcons (rowOk_did M5_ok r604_ok) (lcons (rowOk_did M5_ok r605_ok) (lcons (rowOk_did M5_ok r607_ok) (lcons (rowOk_did M5_ok r608_ok) (lcons (rowOk_did M5_ok r609_ok) (lcons (rowOk_did M5_ok r610_ok) (lcons (rowOk_did M5_ok r611_ok) (lcons (rowOk_did M5_ok r612_ok) (lcons (rowOk_did M5_ok r613_ok) (lcons (rowOk_did M5_ok r614_ok) lnil)))))))))), trivial⟩, (lcons (rowOk_did M5_ok r603_ok) (lcons (rowOk_did M5_ok r606_ok) (lcons (rowOk_did M5_ok r615_ok) lnil))), trivial⟩
def M6 : Memo := orM (tabM t5) M5
theorem M6_ok : MemoOk cfg0 M6 := orM_ok t5_ok M5_ok
def r616 : List AV × AV := ([.str [51, 53, 56, 47, 53], .str [102, 111, 111, 116, 45, 97, 110, 100, 45, 105, 110, 99, 104], .int .i64 0, .int .i64 6], .str [54, 32, 48])
theorem r616_ok : rowOk cfg0 M6 3000 6 r616 = true := by kernel_rfl
def r617 : List AV × AV := ([.str [49, 47, 51], .str [105, 110, 99, 104], .int .i64 2, .int .i64 6], .str [48, 46, 51, 51])
theorem r617_ok : rowOk cfg0 M6 3000 6 r617 = true := by kernel_rfl
def r618 : List AV × AV := ([.agg [.bool true, .ro [.int .u32 1] 1, .ro [.int .u32 10] 1], .int .i64 0, .int .i64 6], .tuple [.agg [.bool false, .e0, .int .i64 0], .int .i64 0])
theorem r618_ok : rowOk cfg0 M6 3000 12 r618 = true := by kernel_rfl
def t6 : Tr (List (List AV × AV)) := (.nd (.nd .lf 6 [r616, r617] .lf) 12 [r618] .lf)
theorem t6_ok : MemoOk cfg0 (tabM t6) := tabM_ok (t := t6) ⟨⟨trivial, (lcons (rowOk_did M6_ok r616_ok) (lcons (rowOk_did M6_ok r617_ok) lnil)), trivial⟩, (lcons (rowOk_did M6_ok r618_ok) lnil), trivial⟩
def M7 : Memo := orM (tabM t6) M6
theorem M7_ok : MemoOk cfg0 M7 := orM_ok t6_ok M6_ok
def r619 : List AV × AV := ([.str [45, 49, 47, 49, 48], .str [102, 111, 111, 116, 45, 97, 110, 100, 45, 105, 110, 99, 104], .int .i64 0, .int .i64 6], .str [48, 32, 48])
theorem r619_ok : rowOk cfg0 M7 3000 6 r619 = true := by kernel_rfl
def t7 : Tr (List (List AV × AV)) := (.nd .lf 6 [r619] .lf)
theorem t7_ok : MemoOk cfg0 (tabM t7) := tabM_ok (t := t7) ⟨trivial, (lcons (rowOk_did M7_ok r619_ok) lnil), trivial⟩
def M8 : Memo := orM (tabM t7) M7
theorem M8_ok : MemoOk cfg0 M8 := orM_ok t7_ok M7_ok
def top : List AV × AV := ([], .bool true)
theorem top_ok : rowOk cfg0 M8 3000 3 top = true := by kernel_rfl
theorem run : ∃ k h, callA cfg0 k 3 [] .empty = some (.bool true, h) := by
  obtain ⟨m, hm⟩ := rowOk_did M8_ok top_ok .empty
  exact ⟨m, _, hm m (Nat.le_refl _)⟩
end Go.Am.splitKnown
