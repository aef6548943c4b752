/- unitKnown: the calls on its road whose answers are kept, each run by the kernel over those ahead of it. Written by wip/gen/memo2lean.py. -/
import Derived.Test.YtpkfgcpennnekaaGreatDoorAmCfgA
import Derived.Test.YtpkfgcpennnekaaGreatDoorAmMemo
import Derived.KernelRfl
namespace Go.Am.unitKnown
set_option maxRecDepth 100000
open Go.Am
theorem lnil {cfg : Cfg} {f : FuncId} : ∀ p ∈ ([] : List (List AV × AV)), ∀ g, Did cfg f p.1 g p.2 g := fun _ h => by cases h
theorem lcons {cfg : Cfg} {f : FuncId} {q : List AV × AV} {l : List (List AV × AV)} (h1 : ∀ g, Did cfg f q.1 g q.2 g) (h2 : ∀ p ∈ l, ∀ g, Did cfg f p.1 g p.2 g) : ∀ p ∈ q :: l, ∀ g, Did cfg f p.1 g p.2 g := fun p hp => by
  rcases List.mem_cons.1 hp with e | e
  · subst e; exact h1
  · exact h2 p e
def M0 : Memo := noM
theorem M0_ok : MemoOk cfg0 M0 := noM_ok _
def r0 : List AV × AV := ([.str [109, 101, 116, 101, 114], .str [97, 98, 99, 100, 101, 102, 103, 104, 105, 106, 107, 108, 109, 110, 111, 112, 113, 114, 115, 116, 117, 118, 119, 120, 121, 122, 48, 49, 50, 51, 52, 53, 54, 55, 56, 57]], .str [])
theorem r0_ok : rowOk cfg0 M0 300 54 r0 = true := by kernel_rfl
def r1 : List AV × AV := ([.str [112, 101, 114], .str [97, 98, 99, 100, 101, 102, 103, 104, 105, 106, 107, 108, 109, 110, 111, 112, 113, 114, 115, 116, 117, 118, 119, 120, 121, 122, 48, 49, 50, 51, 52, 53, 54, 55, 56, 57]], .str [])
theorem r1_ok : rowOk cfg0 M0 300 54 r1 = true := by kernel_rfl
def r2 : List AV × AV := ([.str [115, 101, 99, 111, 110, 100], .str [97, 98, 99, 100, 101, 102, 103, 104, 105, 106, 107, 108, 109, 110, 111, 112, 113, 114, 115, 116, 117, 118, 119, 120, 121, 122, 48, 49, 50, 51, 52, 53, 54, 55, 56, 57]], .str [])
theorem r2_ok : rowOk cfg0 M0 300 54 r2 = true := by kernel_rfl
def r3 : List AV × AV := ([.str [109, 101, 116, 101, 114]], .int .i64 1)
theorem r3_ok : rowOk cfg0 M0 300 78 r3 = true := by kernel_rfl
def r4 : List AV × AV := ([.str [115, 101, 99, 111, 110, 100]], .int .i64 1)
theorem r4_ok : rowOk cfg0 M0 300 78 r4 = true := by kernel_rfl
def r5 : List AV × AV := ([.str [49], .str [97, 98, 99, 100, 101, 102, 103, 104, 105, 106, 107, 108, 109, 110, 111, 112, 113, 114, 115, 116, 117, 118, 119, 120, 121, 122, 48, 49, 50, 51, 52, 53, 54, 55, 56, 57]], .str [])
theorem r5_ok : rowOk cfg0 M0 300 54 r5 = true := by kernel_rfl
def r6 : List AV × AV := ([.str [49]], .int .i64 1)
theorem r6_ok : rowOk cfg0 M0 300 78 r6 = true := by kernel_rfl
def r7 : List AV × AV := ([.str [103, 114, 97, 109], .str [97, 98, 99, 100, 101, 102, 103, 104, 105, 106, 107, 108, 109, 110, 111, 112, 113, 114, 115, 116, 117, 118, 119, 120, 121, 122, 48, 49, 50, 51, 52, 53, 54, 55, 56, 57]], .str [])
theorem r7_ok : rowOk cfg0 M0 300 54 r7 = true := by kernel_rfl
def r8 : List AV × AV := ([.str [97, 110, 100], .str [97, 98, 99, 100, 101, 102, 103, 104, 105, 106, 107, 108, 109, 110, 111, 112, 113, 114, 115, 116, 117, 118, 119, 120, 121, 122, 48, 49, 50, 51, 52, 53, 54, 55, 56, 57]], .str [])
theorem r8_ok : rowOk cfg0 M0 300 54 r8 = true := by kernel_rfl
def r9 : List AV × AV := ([.str [49, 48, 48], .str [97, 98, 99, 100, 101, 102, 103, 104, 105, 106, 107, 108, 109, 110, 111, 112, 113, 114, 115, 116, 117, 118, 119, 120, 121, 122, 48, 49, 50, 51, 52, 53, 54, 55, 56, 57]], .str [])
theorem r9_ok : rowOk cfg0 M0 300 54 r9 = true := by kernel_rfl
def r10 : List AV × AV := ([.str [49, 48, 48]], .int .i64 1)
theorem r10_ok : rowOk cfg0 M0 300 78 r10 = true := by kernel_rfl
def r11 : List AV × AV := ([.str [48], .str [97, 98, 99, 100, 101, 102, 103, 104, 105, 106, 107, 108, 109, 110, 111, 112, 113, 114, 115, 116, 117, 118, 119, 120, 121, 122, 48, 49, 50, 51, 52, 53, 54, 55, 56, 57]], .str [])
theorem r11_ok : rowOk cfg0 M0 300 54 r11 = true := by kernel_rfl
def r12 : List AV × AV := ([.str [48]], .int .i64 1)
theorem r12_ok : rowOk cfg0 M0 300 78 r12 = true := by kernel_rfl
def r13 : List AV × AV := ([.str [102, 111, 111, 116], .str [97, 98, 99, 100, 101, 102, 103, 104, 105, 106, 107, 108, 109, 110, 111, 112, 113, 114, 115, 116, 117, 118, 119, 120, 121, 122, 48, 49, 50, 51, 52, 53, 54, 55, 56, 57]], .str [])
theorem r13_ok : rowOk cfg0 M0 300 54 r13 = true := by kernel_rfl
def r14 : List AV × AV := ([.str [102, 111, 111, 116]], .int .i64 1)
theorem r14_ok : rowOk cfg0 M0 300 78 r14 = true := by kernel_rfl
def r15 : List AV × AV := ([.str [103, 114, 97, 109]], .int .i64 1)
theorem r15_ok : rowOk cfg0 M0 300 78 r15 = true := by kernel_rfl
def r16 : List AV × AV := ([.str [107, 105, 108, 111, 109, 101, 116, 101, 114], .str [97, 98, 99, 100, 101, 102, 103, 104, 105, 106, 107, 108, 109, 110, 111, 112, 113, 114, 115, 116, 117, 118, 119, 120, 121, 122, 48, 49, 50, 51, 52, 53, 54, 55, 56, 57]], .str [])
theorem r16_ok : rowOk cfg0 M0 300 54 r16 = true := by kernel_rfl
def r17 : List AV × AV := ([.str [49, 48, 48]], .bool true)
theorem r17_ok : rowOk cfg0 M0 300 33 r17 = true := by kernel_rfl
def r18 : List AV × AV := ([.str [49, 48, 48]], .tuple [.agg [.ro [.int .u32 100] 1], .bool true])
theorem r18_ok : rowOk cfg0 M0 300 34 r18 = true := by kernel_rfl
def r19 : List AV × AV := ([.str [107, 105, 108, 111, 109, 101, 116, 101, 114]], .int .i64 1)
theorem r19_ok : rowOk cfg0 M0 300 78 r19 = true := by kernel_rfl
def r20 : List AV × AV := ([.str [115, 113, 117, 97, 114, 101], .str [97, 98, 99, 100, 101, 102, 103, 104, 105, 106, 107, 108, 109, 110, 111, 112, 113, 114, 115, 116, 117, 118, 119, 120, 121, 122, 48, 49, 50, 51, 52, 53, 54, 55, 56, 57]], .str [])
theorem r20_ok : rowOk cfg0 M0 300 54 r20 = true := by kernel_rfl
def r21 : List AV × AV := ([.ro [.str [], .str [115, 101, 99, 111, 110, 100], .int .i64 1, .str [], .str [109, 101, 116, 101, 114], .int .i64 2, .str [], .str [115, 101, 99, 111, 110, 100], .int .i64 1] 3], .tuple [.ro [.str [], .str [109, 101, 116, 101, 114], .int .i64 2, .str [], .str [115, 101, 99, 111, 110, 100], .int .i64 2] 2, .bool true])
theorem r21_ok : rowOk cfg0 M0 300 17 r21 = true := by kernel_rfl
def r22 : List AV × AV := ([.ro [.str [], .str [103, 114, 97, 109], .int .i64 1, .str [], .str [109, 101, 116, 101, 114], .int .i64 1, .str [], .str [103, 114, 97, 109], .int .i64 1] 3], .tuple [.ro [.str [], .str [103, 114, 97, 109], .int .i64 2, .str [], .str [109, 101, 116, 101, 114], .int .i64 1] 2, .bool true])
theorem r22_ok : rowOk cfg0 M0 300 17 r22 = true := by kernel_rfl
def r23 : List AV × AV := ([.str [112, 111, 119, 49, 48], .str [97, 98, 99, 100, 101, 102, 103, 104, 105, 106, 107, 108, 109, 110, 111, 112, 113, 114, 115, 116, 117, 118, 119, 120, 121, 122, 48, 49, 50, 51, 52, 53, 54, 55, 56, 57]], .str [])
theorem r23_ok : rowOk cfg0 M0 300 54 r23 = true := by kernel_rfl
def r24 : List AV × AV := ([.str [54, 48], .str [97, 98, 99, 100, 101, 102, 103, 104, 105, 106, 107, 108, 109, 110, 111, 112, 113, 114, 115, 116, 117, 118, 119, 120, 121, 122, 48, 49, 50, 51, 52, 53, 54, 55, 56, 57]], .str [])
theorem r24_ok : rowOk cfg0 M0 300 54 r24 = true := by kernel_rfl
def r25 : List AV × AV := ([.str [54, 48]], .tuple [.agg [.ro [.int .u32 60] 1], .bool true])
theorem r25_ok : rowOk cfg0 M0 300 34 r25 = true := by kernel_rfl
def r26 : List AV × AV := ([.str [109, 105, 108, 108, 105, 109, 101, 116, 101, 114], .str [97, 98, 99, 100, 101, 102, 103, 104, 105, 106, 107, 108, 109, 110, 111, 112, 113, 114, 115, 116, 117, 118, 119, 120, 121, 122, 48, 49, 50, 51, 52, 53, 54, 55, 56, 57]], .str [])
theorem r26_ok : rowOk cfg0 M0 300 54 r26 = true := by kernel_rfl
def r27 : List AV × AV := ([.str [109, 105, 108, 108, 105, 109, 101, 116, 101, 114]], .int .i64 1)
theorem r27_ok : rowOk cfg0 M0 300 78 r27 = true := by kernel_rfl
def r28 : List AV × AV := ([.agg [.nilsl, .ro [.str [107, 105, 108, 111], .str [109, 101, 116, 101, 114], .int .i64 1] 1, .ro [.int .u32 100] 1]], .str [112, 101, 114, 45, 49, 48, 48, 45, 107, 105, 108, 111, 109, 101, 116, 101, 114])
theorem r28_ok : rowOk cfg0 M0 300 12 r28 = true := by kernel_rfl
def r29 : List AV × AV := ([.agg [.ro [.str [], .str [109, 101, 116, 101, 114], .int .i64 2, .str [], .str [115, 101, 99, 111, 110, 100], .int .i64 2] 2, .ro [.str [], .str [103, 114, 97, 109], .int .i64 2, .str [], .str [109, 101, 116, 101, 114], .int .i64 1] 2, .ro [.int .u32 1] 1]], .str [115, 113, 117, 97, 114, 101, 45, 109, 101, 116, 101, 114, 45, 115, 113, 117, 97, 114, 101, 45, 115, 101, 99, 111, 110, 100, 45, 112, 101, 114, 45, 115, 113, 117, 97, 114, 101, 45, 103, 114, 97, 109, 45, 109, 101, 116, 101, 114])
theorem r29_ok : rowOk cfg0 M0 300 12 r29 = true := by kernel_rfl
def r30 : List AV × AV := ([.agg [.nilsl, .nilsl, .ro [.int .u32 60] 1]], .str [112, 101, 114, 45, 54, 48])
theorem r30_ok : rowOk cfg0 M0 300 12 r30 = true := by kernel_rfl
def r31 : List AV × AV := ([.agg [.ro [.ro [.str [], .str [109, 101, 116, 101, 114], .int .i64 1] 1, .nilsl, .ro [.int .u32 1] 1, .ro [.str [109, 105, 108, 108, 105], .str [109, 101, 116, 101, 114], .int .i64 1] 1, .nilsl, .ro [.int .u32 1] 1] 2]], .str [109, 101, 116, 101, 114, 45, 97, 110, 100, 45, 109, 105, 108, 108, 105, 109, 101, 116, 101, 114])
theorem r31_ok : rowOk cfg0 M0 300 9 r31 = true := by kernel_rfl
def t0 : Tr (List (List AV × AV)) := (.nd (.nd (.nd .lf 9 [r31] .lf) 12 [r28, r29, r30] (.nd .lf 17 [r21, r22] .lf)) 33 [r17] (.nd (.nd .lf 34 [r18, r25] .lf) 54 [r0, r1, r2, r5, r7, r8, r9, r11, r13, r16, r20, r23, r24, r26] (.nd .lf 78 [r3, r4, r6, r10, r12, r14, r15, r19, r27] .lf)))
theorem t0_ok : MemoOk cfg0 (tabM t0) := tabM_ok (t := t0) ⟨⟨⟨trivial, (lcons (rowOk_did M0_ok r31_ok) lnil), trivial⟩, (lcons (rowOk_did M0_ok r28_ok) (lcons (rowOk_did M0_ok r29_ok) (lcons (rowOk_did M0_ok r30_ok) lnil))), ⟨trivial, (lcons (rowOk_did M0_ok r21_ok) (lcons (rowOk_did M0_ok r22_ok) lnil)), trivial⟩⟩, (lcons (rowOk_did M0_ok r17_ok) lnil), ⟨⟨trivial, (lcons (rowOk_did M0_ok r18_ok) (lcons (rowOk_did M0_ok r25_ok) lnil)), trivial⟩, (lcons (rowOk_did M0_ok r0_ok) (lcons (rowOk_did M0_ok r1_ok) (lcons (rowOk_did M0_ok r2_ok) (lcons (rowOk_did M0_ok r5_ok) (lcons (rowOk_did M0_ok r7_ok) (lcons (rowOk_did M0_ok r8_ok) (lcons (rowOk_did M0_ok r9_ok) (lcons (rowOk_did M0_ok r11_ok) (lcons (rowOk_did M0_ok r13_ok) (lcons (rowOk_did M0_ok r16_ok) (lcons (rowOk_did M0_ok r20_ok) (lcons (rowOk_did M0_ok r23_ok) (lcons (rowOk_did M0_ok r24_ok) (lcons (rowOk_did M0_ok r26_ok) lnil)))))))))))))), ⟨trivial, (lcons (rowOk_did M0_ok r3_ok) (lcons (rowOk_did M0_ok r4_ok) (lcons (rowOk_did M0_ok r6_ok) (lcons (rowOk_did M0_ok r10_ok) (lcons (rowOk_did M0_ok r12_ok) (lcons (rowOk_did M0_ok r14_ok) (lcons (rowOk_did M0_ok r15_ok) (lcons (rowOk_did M0_ok r19_ok) (lcons (rowOk_did M0_ok r27_ok) lnil))))))))), trivial⟩⟩⟩
def M1 : Memo := orM (tabM t0) M0
theorem M1_ok : MemoOk cfg0 M1 := orM_ok t0_ok M0_ok
def r32 : List AV × AV := ([.agg [.ro [.str [109, 101, 116, 101, 114], .str [115, 101, 99, 111, 110, 100], .str [103, 114, 97, 109]] 3, .ro [.str [107, 105, 108, 111], .str [109, 105, 108, 108, 105]] 2], .str [109, 101, 116, 101, 114, 45, 112, 101, 114, 45, 115, 101, 99, 111, 110, 100]], .tuple [.agg [.ro [.ro [.str [], .str [109, 101, 116, 101, 114], .int .i64 1] 1, .ro [.str [], .str [115, 101, 99, 111, 110, 100], .int .i64 1] 1, .ro [.int .u32 1] 1] 1], .int .i64 0])
theorem r32_ok : rowOk cfg0 M1 300 6 r32 = true := by kernel_rfl
def r33 : List AV × AV := ([.agg [.ro [.str [109, 101, 116, 101, 114], .str [115, 101, 99, 111, 110, 100], .str [103, 114, 97, 109]] 3, .ro [.str [107, 105, 108, 111], .str [109, 105, 108, 108, 105]] 2], .str [112, 101, 114]], .tuple [.agg [.nilsl], .int .i64 2])
theorem r33_ok : rowOk cfg0 M1 300 6 r33 = true := by kernel_rfl
def r34 : List AV × AV := ([.agg [.ro [.str [109, 101, 116, 101, 114], .str [115, 101, 99, 111, 110, 100], .str [103, 114, 97, 109]] 3, .ro [.str [107, 105, 108, 111], .str [109, 105, 108, 108, 105]] 2], .str [109, 101, 116, 101, 114, 45, 112, 101, 114]], .tuple [.agg [.nilsl], .int .i64 2])
theorem r34_ok : rowOk cfg0 M1 300 6 r34 = true := by kernel_rfl
def r35 : List AV × AV := ([.agg [.ro [.str [109, 101, 116, 101, 114], .str [115, 101, 99, 111, 110, 100], .str [103, 114, 97, 109]] 3, .ro [.str [107, 105, 108, 111], .str [109, 105, 108, 108, 105]] 2], .str [112, 101, 114, 45, 49]], .tuple [.agg [.nilsl], .int .i64 2])
theorem r35_ok : rowOk cfg0 M1 300 6 r35 = true := by kernel_rfl
def r36 : List AV × AV := ([.agg [.ro [.str [109, 101, 116, 101, 114], .str [115, 101, 99, 111, 110, 100], .str [103, 114, 97, 109]] 3, .ro [.str [107, 105, 108, 111], .str [109, 105, 108, 108, 105]] 2], .str [109, 101, 116, 101, 114, 45, 112, 101, 114, 45, 49]], .tuple [.agg [.nilsl], .int .i64 2])
theorem r36_ok : rowOk cfg0 M1 300 6 r36 = true := by kernel_rfl
def r37 : List AV × AV := ([.agg [.ro [.str [109, 101, 116, 101, 114], .str [115, 101, 99, 111, 110, 100], .str [103, 114, 97, 109]] 3, .ro [.str [107, 105, 108, 111], .str [109, 105, 108, 108, 105]] 2], .str [109, 101, 116, 101, 114, 45, 112, 101, 114, 45, 49, 45, 115, 101, 99, 111, 110, 100]], .tuple [.agg [.nilsl], .int .i64 2])
theorem r37_ok : rowOk cfg0 M1 300 6 r37 = true := by kernel_rfl
def r38 : List AV × AV := ([.agg [.ro [.str [109, 101, 116, 101, 114], .str [115, 101, 99, 111, 110, 100], .str [103, 114, 97, 109]] 3, .ro [.str [107, 105, 108, 111], .str [109, 105, 108, 108, 105]] 2], .str [109, 101, 116, 101, 114, 45, 112, 101, 114, 45, 115, 101, 99, 111, 110, 100, 45, 112, 101, 114, 45, 103, 114, 97, 109]], .tuple [.agg [.nilsl], .int .i64 2])
theorem r38_ok : rowOk cfg0 M1 300 6 r38 = true := by kernel_rfl
def r39 : List AV × AV := ([.agg [.ro [.str [109, 101, 116, 101, 114], .str [115, 101, 99, 111, 110, 100], .str [103, 114, 97, 109]] 3, .ro [.str [107, 105, 108, 111], .str [109, 105, 108, 108, 105]] 2], .str [109, 101, 116, 101, 114, 45, 97, 110, 100]], .tuple [.agg [.nilsl], .int .i64 2])
theorem r39_ok : rowOk cfg0 M1 300 6 r39 = true := by kernel_rfl
def r40 : List AV × AV := ([.agg [.ro [.str [109, 101, 116, 101, 114], .str [115, 101, 99, 111, 110, 100], .str [103, 114, 97, 109]] 3, .ro [.str [107, 105, 108, 111], .str [109, 105, 108, 108, 105]] 2], .str [97, 110, 100, 45, 109, 101, 116, 101, 114]], .tuple [.agg [.nilsl], .int .i64 2])
theorem r40_ok : rowOk cfg0 M1 300 6 r40 = true := by kernel_rfl
def r41 : List AV × AV := ([.agg [.ro [.str [109, 101, 116, 101, 114], .str [115, 101, 99, 111, 110, 100], .str [103, 114, 97, 109]] 3, .ro [.str [107, 105, 108, 111], .str [109, 105, 108, 108, 105]] 2], .str [109, 101, 116, 101, 114, 45, 97, 110, 100, 45, 109, 101, 116, 101, 114, 45, 97, 110, 100, 45, 109, 101, 116, 101, 114, 45, 97, 110, 100, 45, 109, 101, 116, 101, 114, 45, 97, 110, 100, 45, 109, 101, 116, 101, 114]], .tuple [.agg [.nilsl], .int .i64 2])
theorem r41_ok : rowOk cfg0 M1 300 6 r41 = true := by kernel_rfl
def r42 : List AV × AV := ([.agg [.ro [.str [109, 101, 116, 101, 114], .str [115, 101, 99, 111, 110, 100], .str [103, 114, 97, 109]] 3, .ro [.str [107, 105, 108, 111], .str [109, 105, 108, 108, 105]] 2], .str [49, 48, 48, 45, 109, 101, 116, 101, 114]], .tuple [.agg [.nilsl], .int .i64 2])
theorem r42_ok : rowOk cfg0 M1 300 6 r42 = true := by kernel_rfl
def r43 : List AV × AV := ([.agg [.ro [.str [109, 101, 116, 101, 114], .str [115, 101, 99, 111, 110, 100], .str [103, 114, 97, 109]] 3, .ro [.str [107, 105, 108, 111], .str [109, 105, 108, 108, 105]] 2], .str [109, 101, 116, 101, 114, 45, 112, 101, 114, 45, 115, 101, 99, 111, 110, 100, 45, 49, 48, 48]], .tuple [.agg [.nilsl], .int .i64 2])
theorem r43_ok : rowOk cfg0 M1 300 6 r43 = true := by kernel_rfl
def r44 : List AV × AV := ([.agg [.ro [.str [109, 101, 116, 101, 114], .str [115, 101, 99, 111, 110, 100], .str [103, 114, 97, 109]] 3, .ro [.str [107, 105, 108, 111], .str [109, 105, 108, 108, 105]] 2], .str [109, 101, 116, 101, 114, 45, 112, 101, 114, 45, 48]], .tuple [.agg [.nilsl], .int .i64 2])
theorem r44_ok : rowOk cfg0 M1 300 6 r44 = true := by kernel_rfl
def r45 : List AV × AV := ([.agg [.ro [.str [109, 101, 116, 101, 114], .str [115, 101, 99, 111, 110, 100], .str [103, 114, 97, 109]] 3, .ro [.str [107, 105, 108, 111], .str [109, 105, 108, 108, 105]] 2], .str [102, 111, 111, 116]], .tuple [.agg [.nilsl], .int .i64 2])
theorem r45_ok : rowOk cfg0 M1 300 6 r45 = true := by kernel_rfl
def r46 : List AV × AV := ([.agg [.ro [.str [109, 101, 116, 101, 114], .str [115, 101, 99, 111, 110, 100], .str [103, 114, 97, 109]] 3, .ro [.str [107, 105, 108, 111], .str [109, 105, 108, 108, 105]] 2], .str [109, 101, 116, 101, 114, 45, 115, 101, 99, 111, 110, 100, 45, 112, 101, 114, 45, 109, 101, 116, 101, 114, 45, 103, 114, 97, 109, 45, 103, 114, 97, 109, 45, 103, 114, 97, 109, 45, 103, 114, 97, 109, 45, 103, 114, 97, 109, 45, 103, 114, 97, 109]], .tuple [.agg [.nilsl], .int .i64 2])
theorem r46_ok : rowOk cfg0 M1 300 6 r46 = true := by kernel_rfl
def r47 : List AV × AV := ([.agg [.ro [.str [109, 101, 116, 101, 114], .str [115, 101, 99, 111, 110, 100], .str [103, 114, 97, 109]] 3, .ro [.str [107, 105, 108, 111], .str [109, 105, 108, 108, 105]] 2], .str [112, 101, 114, 45, 49, 48, 48, 45, 107, 105, 108, 111, 109, 101, 116, 101, 114]], .tuple [.agg [.ro [.nilsl, .ro [.str [107, 105, 108, 111], .str [109, 101, 116, 101, 114], .int .i64 1] 1, .ro [.int .u32 100] 1] 1], .int .i64 0])
theorem r47_ok : rowOk cfg0 M1 300 6 r47 = true := by kernel_rfl
def r48 : List AV × AV := ([.agg [.ro [.str [109, 101, 116, 101, 114], .str [115, 101, 99, 111, 110, 100], .str [103, 114, 97, 109]] 3, .ro [.str [107, 105, 108, 111], .str [109, 105, 108, 108, 105]] 2], .str [115, 101, 99, 111, 110, 100, 45, 115, 113, 117, 97, 114, 101, 45, 109, 101, 116, 101, 114, 45, 115, 101, 99, 111, 110, 100, 45, 112, 101, 114, 45, 103, 114, 97, 109, 45, 109, 101, 116, 101, 114, 45, 103, 114, 97, 109]], .tuple [.agg [.ro [.ro [.str [], .str [115, 101, 99, 111, 110, 100], .int .i64 1, .str [], .str [109, 101, 116, 101, 114], .int .i64 2, .str [], .str [115, 101, 99, 111, 110, 100], .int .i64 1] 3, .ro [.str [], .str [103, 114, 97, 109], .int .i64 1, .str [], .str [109, 101, 116, 101, 114], .int .i64 1, .str [], .str [103, 114, 97, 109], .int .i64 1] 3, .ro [.int .u32 1] 1] 1], .int .i64 0])
theorem r48_ok : rowOk cfg0 M1 300 6 r48 = true := by kernel_rfl
def r49 : List AV × AV := ([.agg [.ro [.str [109, 101, 116, 101, 114], .str [115, 101, 99, 111, 110, 100], .str [103, 114, 97, 109]] 3, .ro [.str [107, 105, 108, 111], .str [109, 105, 108, 108, 105]] 2], .str [112, 111, 119, 49, 48, 45, 109, 101, 116, 101, 114, 45, 112, 111, 119, 49, 48, 45, 109, 101, 116, 101, 114]], .tuple [.agg [.ro [.ro [.str [], .str [109, 101, 116, 101, 114], .int .i64 10, .str [], .str [109, 101, 116, 101, 114], .int .i64 10] 2, .nilsl, .ro [.int .u32 1] 1] 1], .int .i64 0])
theorem r49_ok : rowOk cfg0 M1 300 6 r49 = true := by kernel_rfl
def r50 : List AV × AV := ([.agg [.ro [.str [109, 101, 116, 101, 114], .str [115, 101, 99, 111, 110, 100], .str [103, 114, 97, 109]] 3, .ro [.str [107, 105, 108, 111], .str [109, 105, 108, 108, 105]] 2], .str [112, 101, 114, 45, 54, 48]], .tuple [.agg [.ro [.nilsl, .nilsl, .ro [.int .u32 60] 1] 1], .int .i64 0])
theorem r50_ok : rowOk cfg0 M1 300 6 r50 = true := by kernel_rfl
def r51 : List AV × AV := ([.agg [.ro [.str [109, 101, 116, 101, 114], .str [115, 101, 99, 111, 110, 100], .str [103, 114, 97, 109]] 3, .ro [.str [107, 105, 108, 111], .str [109, 105, 108, 108, 105]] 2], .str [109, 101, 116, 101, 114, 45, 97, 110, 100, 45, 109, 105, 108, 108, 105, 109, 101, 116, 101, 114]], .tuple [.agg [.ro [.ro [.str [], .str [109, 101, 116, 101, 114], .int .i64 1] 1, .nilsl, .ro [.int .u32 1] 1, .ro [.str [109, 105, 108, 108, 105], .str [109, 101, 116, 101, 114], .int .i64 1] 1, .nilsl, .ro [.int .u32 1] 1] 2], .int .i64 0])
theorem r51_ok : rowOk cfg0 M1 300 6 r51 = true := by kernel_rfl
def t1 : Tr (List (List AV × AV)) := (.nd .lf 6 [r32, r33, r34, r35, r36, r37, r38, r39, r40, r41, r42, r43, r44, r45, r46, r47, r48, r49, r50, r51] .lf)
theorem t1_ok : MemoOk cfg0 (tabM t1) := tabM_ok (t := t1) ⟨trivial, (lcons (rowOk_did M1_ok r32_ok) (lcons (rowOk_did M1_ok r33_ok) (lcons (rowOk_did M1_ok r34_ok) (lcons (rowOk_did M1_ok r35_ok) (lcons (rowOk_did M1_ok r36_ok) (lcons (rowOk_did M1_ok r37_ok) (lcons (rowOk_did M1_ok r38_ok) (lcons (rowOk_did M1_ok r39_ok) (lcons (rowOk_did M1_ok r40_ok) (lcons (rowOk_did M1_ok r41_ok) (lcons (rowOk_did M1_ok r42_ok) (lcons (rowOk_did M1_ok r43_ok) (lcons (rowOk_did M1_ok r44_ok) (lcons (rowOk_did M1_ok r45_ok) (lcons (rowOk_did M1_ok r46_ok) (lcons (rowOk_did M1_ok r47_ok) (lcons (rowOk_did M1_ok r48_ok) (lcons (rowOk_did M1_ok r49_ok) (lcons (rowOk_did M1_ok r50_ok) (lcons (rowOk_did M1_ok r51_ok) lnil)))))))))))))))))))), trivial⟩
def M2 : Memo := orM (tabM t1) M1
theorem M2_ok : MemoOk cfg0 M2 := orM_ok t1_ok M1_ok
def r52 : List AV × AV := ([], .bool true)
theorem r52_ok : rowOk cfg0 M2 300 5 r52 = true := by kernel_rfl
def t2 : Tr (List (List AV × AV)) := (.nd .lf 5 [r52] .lf)
theorem t2_ok : MemoOk cfg0 (tabM t2) := tabM_ok (t := t2) ⟨trivial, (lcons (rowOk_did M2_ok r52_ok) lnil), trivial⟩
def M3 : Memo := orM (tabM t2) M2
theorem M3_ok : MemoOk cfg0 M3 := orM_ok t2_ok M2_ok
def top : List AV × AV := ([], .bool true)
theorem top_ok : rowOk cfg0 M3 300 3 top = true := by kernel_rfl
theorem run : ∃ k h, callA cfg0 k 3 [] .empty = some (.bool true, h) := by
  obtain ⟨m, hm⟩ := rowOk_did M3_ok top_ok .empty
  exact ⟨m, _, hm m (Nat.le_refl _)⟩
end Go.Am.unitKnown
