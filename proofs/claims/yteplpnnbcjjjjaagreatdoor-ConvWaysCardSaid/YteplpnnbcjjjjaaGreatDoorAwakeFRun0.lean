/- AwakeF: calls on its road whose answers are kept, each run by the kernel over those ahead of it (part 0). Written by wip/gen/memo2lean.py. -/
import Derived.Test.YteplpnnbcjjjjaaGreatDoorAmCfgA
import Derived.Test.YteplpnnbcjjjjaaGreatDoorAmMemo
import Derived.KernelRfl
namespace Go.Am.awakeF
set_option maxRecDepth 100000
open Go.Am
theorem lnil {cfg : Cfg} {f : FuncId} : ∀ p ∈ ([] : List (List AV × AV)), ∀ g, Did cfg f p.1 g p.2 g := fun _ h => by cases h
theorem lcons {cfg : Cfg} {f : FuncId} {q : List AV × AV} {l : List (List AV × AV)} (h1 : ∀ g, Did cfg f q.1 g q.2 g) (h2 : ∀ p ∈ l, ∀ g, Did cfg f p.1 g p.2 g) : ∀ p ∈ q :: l, ∀ g, Did cfg f p.1 g p.2 g := fun p hp => by
  rcases List.mem_cons.1 hp with e | e
  · subst e; exact h1
  · exact h2 p e
theorem knil {cfg : Cfg} {f : FuncId} : ∀ p ∈ ([] : List HRow), Did cfg f p.args p.h0 p.v p.h1 := fun _ h => by cases h
theorem kcons {cfg : Cfg} {f : FuncId} {q : HRow} {l : List HRow} (h1 : Did cfg f q.args q.h0 q.v q.h1) (h2 : ∀ p ∈ l, Did cfg f p.args p.h0 p.v p.h1) : ∀ p ∈ q :: l, Did cfg f p.args p.h0 p.v p.h1 := fun p hp => by
  rcases List.mem_cons.1 hp with e | e
  · subst e; exact h1
  · exact h2 p e
def M0 : Memo := noM
theorem M0_ok : MemoOk cfg0 M0 := noM_ok _
def r0 : List AV × AV := ([.str [98, 97, 115, 101, 32, 109, 101, 116, 101, 114, 32, 108, 101, 110, 103, 116, 104]], .ro [.str [98, 97, 115, 101], .str [109, 101, 116, 101, 114], .str [108, 101, 110, 103, 116, 104]] 3)
theorem r0_ok : rowOk cfg0 M0 3000 95 r0 = true := by kernel_rfl
def r1 : List AV × AV := ([.str [98, 97, 115, 101, 32, 109, 101, 116, 101, 114, 32, 108, 101, 110, 103, 116, 104], .func 97 [] [], .bool true], .int .i64 (-1))
theorem r1_ok : rowOk cfg0 M0 3000 173 r1 = true := by kernel_rfl
def r2 : List AV × AV := ([.str [98, 97, 115, 101, 32, 115, 101, 99, 111, 110, 100, 32, 116, 105, 109, 101]], .ro [.str [98, 97, 115, 101], .str [115, 101, 99, 111, 110, 100], .str [116, 105, 109, 101]] 3)
theorem r2_ok : rowOk cfg0 M0 3000 95 r2 = true := by kernel_rfl
def r3 : List AV × AV := ([.str [98, 97, 115, 101, 32, 115, 101, 99, 111, 110, 100, 32, 116, 105, 109, 101], .func 97 [] [], .bool true], .int .i64 (-1))
theorem r3_ok : rowOk cfg0 M0 3000 173 r3 = true := by kernel_rfl
def r4 : List AV × AV := ([.str [98, 97, 115, 101, 32, 107, 101, 108, 118, 105, 110, 32, 116, 101, 109, 112, 101, 114, 97, 116, 117, 114, 101]], .ro [.str [98, 97, 115, 101], .str [107, 101, 108, 118, 105, 110], .str [116, 101, 109, 112, 101, 114, 97, 116, 117, 114, 101]] 3)
theorem r4_ok : rowOk cfg0 M0 3000 95 r4 = true := by kernel_rfl
def r5 : List AV × AV := ([.str [98, 97, 115, 101, 32, 107, 101, 108, 118, 105, 110, 32, 116, 101, 109, 112, 101, 114, 97, 116, 117, 114, 101], .func 97 [] [], .bool true], .int .i64 (-1))
theorem r5_ok : rowOk cfg0 M0 3000 173 r5 = true := by kernel_rfl
def r6 : List AV × AV := ([.str [112, 114, 101, 102, 105, 120, 32, 107, 105, 108, 111, 32, 49, 48, 32, 51]], .ro [.str [112, 114, 101, 102, 105, 120], .str [107, 105, 108, 111], .str [49, 48], .str [51]] 4)
theorem r6_ok : rowOk cfg0 M0 3000 95 r6 = true := by kernel_rfl
def r7 : List AV × AV := ([.str [112, 114, 101, 102, 105, 120, 32, 107, 105, 108, 111, 32, 49, 48, 32, 51], .func 97 [] [], .bool true], .int .i64 (-1))
theorem r7_ok : rowOk cfg0 M0 3000 173 r7 = true := by kernel_rfl
def r8 : List AV × AV := ([.str [112, 114, 101, 102, 105, 120, 32, 109, 105, 108, 108, 105, 32, 49, 48, 32, 45, 51]], .ro [.str [112, 114, 101, 102, 105, 120], .str [109, 105, 108, 108, 105], .str [49, 48], .str [45, 51]] 4)
theorem r8_ok : rowOk cfg0 M0 3000 95 r8 = true := by kernel_rfl
def r9 : List AV × AV := ([.str [112, 114, 101, 102, 105, 120, 32, 109, 105, 108, 108, 105, 32, 49, 48, 32, 45, 51], .func 97 [] [], .bool true], .int .i64 (-1))
theorem r9_ok : rowOk cfg0 M0 3000 173 r9 = true := by kernel_rfl
def r10 : List AV × AV := ([.str [117, 110, 105, 116, 32, 102, 111, 111, 116, 32, 51, 56, 49, 47, 49, 50, 53, 48, 32, 109, 101, 116, 101, 114]], .ro [.str [117, 110, 105, 116], .str [102, 111, 111, 116], .str [51, 56, 49, 47, 49, 50, 53, 48], .str [109, 101, 116, 101, 114]] 4)
theorem r10_ok : rowOk cfg0 M0 3000 95 r10 = true := by kernel_rfl
def r11 : List AV × AV := ([.str [117, 110, 105, 116, 32, 102, 111, 111, 116, 32, 51, 56, 49, 47, 49, 50, 53, 48, 32, 109, 101, 116, 101, 114], .func 97 [] [], .bool true], .int .i64 (-1))
theorem r11_ok : rowOk cfg0 M0 3000 173 r11 = true := by kernel_rfl
def r12 : List AV × AV := ([.str [117, 110, 105, 116, 32, 105, 110, 99, 104, 32, 49, 47, 49, 50, 32, 102, 111, 111, 116]], .ro [.str [117, 110, 105, 116], .str [105, 110, 99, 104], .str [49, 47, 49, 50], .str [102, 111, 111, 116]] 4)
theorem r12_ok : rowOk cfg0 M0 3000 95 r12 = true := by kernel_rfl
def r13 : List AV × AV := ([.str [117, 110, 105, 116, 32, 105, 110, 99, 104, 32, 49, 47, 49, 50, 32, 102, 111, 111, 116], .func 97 [] [], .bool true], .int .i64 (-1))
theorem r13_ok : rowOk cfg0 M0 3000 173 r13 = true := by kernel_rfl
def r14 : List AV × AV := ([.str [117, 110, 105, 116, 32, 121, 97, 114, 100, 32, 51, 32, 102, 111, 111, 116]], .ro [.str [117, 110, 105, 116], .str [121, 97, 114, 100], .str [51], .str [102, 111, 111, 116]] 4)
theorem r14_ok : rowOk cfg0 M0 3000 95 r14 = true := by kernel_rfl
def r15 : List AV × AV := ([.str [117, 110, 105, 116, 32, 121, 97, 114, 100, 32, 51, 32, 102, 111, 111, 116], .func 97 [] [], .bool true], .int .i64 (-1))
theorem r15_ok : rowOk cfg0 M0 3000 173 r15 = true := by kernel_rfl
def r16 : List AV × AV := ([.str [117, 110, 105, 116, 32, 109, 105, 110, 117, 116, 101, 32, 54, 48, 32, 115, 101, 99, 111, 110, 100]], .ro [.str [117, 110, 105, 116], .str [109, 105, 110, 117, 116, 101], .str [54, 48], .str [115, 101, 99, 111, 110, 100]] 4)
theorem r16_ok : rowOk cfg0 M0 3000 95 r16 = true := by kernel_rfl
def r17 : List AV × AV := ([.str [117, 110, 105, 116, 32, 109, 105, 110, 117, 116, 101, 32, 54, 48, 32, 115, 101, 99, 111, 110, 100], .func 97 [] [], .bool true], .int .i64 (-1))
theorem r17_ok : rowOk cfg0 M0 3000 173 r17 = true := by kernel_rfl
def r18 : List AV × AV := ([.str [117, 110, 105, 116, 32, 99, 101, 108, 115, 105, 117, 115, 32, 49, 32, 107, 101, 108, 118, 105, 110, 32, 50, 55, 51, 49, 53, 47, 49, 48, 48]], .ro [.str [117, 110, 105, 116], .str [99, 101, 108, 115, 105, 117, 115], .str [49], .str [107, 101, 108, 118, 105, 110], .str [50, 55, 51, 49, 53, 47, 49, 48, 48]] 5)
theorem r18_ok : rowOk cfg0 M0 3000 95 r18 = true := by kernel_rfl
def r19 : List AV × AV := ([.str [117, 110, 105, 116, 32, 99, 101, 108, 115, 105, 117, 115, 32, 49, 32, 107, 101, 108, 118, 105, 110, 32, 50, 55, 51, 49, 53, 47, 49, 48, 48], .func 97 [] [], .bool true], .int .i64 (-1))
theorem r19_ok : rowOk cfg0 M0 3000 173 r19 = true := by kernel_rfl
def r20 : List AV × AV := ([.str [117, 110, 105, 116, 32, 102, 97, 104, 114, 101, 110, 104, 101, 105, 116, 32, 53, 47, 57, 32, 107, 101, 108, 118, 105, 110, 32, 52, 53, 57, 54, 55, 47, 49, 56, 48]], .ro [.str [117, 110, 105, 116], .str [102, 97, 104, 114, 101, 110, 104, 101, 105, 116], .str [53, 47, 57], .str [107, 101, 108, 118, 105, 110], .str [52, 53, 57, 54, 55, 47, 49, 56, 48]] 5)
theorem r20_ok : rowOk cfg0 M0 3000 95 r20 = true := by kernel_rfl
def r21 : List AV × AV := ([.str [117, 110, 105, 116, 32, 102, 97, 104, 114, 101, 110, 104, 101, 105, 116, 32, 53, 47, 57, 32, 107, 101, 108, 118, 105, 110, 32, 52, 53, 57, 54, 55, 47, 49, 56, 48], .func 97 [] [], .bool true], .int .i64 (-1))
theorem r21_ok : rowOk cfg0 M0 3000 173 r21 = true := by kernel_rfl
def r22 : List AV × AV := ([.str [113, 117, 97, 110, 116, 105, 116, 121, 32, 115, 112, 101, 101, 100, 32, 109, 101, 116, 101, 114, 45, 112, 101, 114, 45, 115, 101, 99, 111, 110, 100]], .ro [.str [113, 117, 97, 110, 116, 105, 116, 121], .str [115, 112, 101, 101, 100], .str [109, 101, 116, 101, 114, 45, 112, 101, 114, 45, 115, 101, 99, 111, 110, 100]] 3)
theorem r22_ok : rowOk cfg0 M0 3000 95 r22 = true := by kernel_rfl
def r23 : List AV × AV := ([.str [113, 117, 97, 110, 116, 105, 116, 121, 32, 115, 112, 101, 101, 100, 32, 109, 101, 116, 101, 114, 45, 112, 101, 114, 45, 115, 101, 99, 111, 110, 100], .func 97 [] [], .bool true], .int .i64 (-1))
theorem r23_ok : rowOk cfg0 M0 3000 173 r23 = true := by kernel_rfl
def r24 : List AV × AV := ([.str [113, 117, 97, 110, 116, 105, 116, 121, 32, 97, 114, 101, 97, 32, 115, 113, 117, 97, 114, 101, 45, 109, 101, 116, 101, 114]], .ro [.str [113, 117, 97, 110, 116, 105, 116, 121], .str [97, 114, 101, 97], .str [115, 113, 117, 97, 114, 101, 45, 109, 101, 116, 101, 114]] 3)
theorem r24_ok : rowOk cfg0 M0 3000 95 r24 = true := by kernel_rfl
def r25 : List AV × AV := ([.str [113, 117, 97, 110, 116, 105, 116, 121, 32, 97, 114, 101, 97, 32, 115, 113, 117, 97, 114, 101, 45, 109, 101, 116, 101, 114], .func 97 [] [], .bool true], .int .i64 (-1))
theorem r25_ok : rowOk cfg0 M0 3000 173 r25 = true := by kernel_rfl
def r26 : List AV × AV := ([.str [97, 108, 105, 97, 115, 32, 107, 112, 104, 32, 107, 105, 108, 111, 109, 101, 116, 101, 114, 45, 112, 101, 114, 45, 115, 101, 99, 111, 110, 100]], .ro [.str [97, 108, 105, 97, 115], .str [107, 112, 104], .str [107, 105, 108, 111, 109, 101, 116, 101, 114, 45, 112, 101, 114, 45, 115, 101, 99, 111, 110, 100]] 3)
theorem r26_ok : rowOk cfg0 M0 3000 95 r26 = true := by kernel_rfl
def r27 : List AV × AV := ([.str [97, 108, 105, 97, 115, 32, 107, 112, 104, 32, 107, 105, 108, 111, 109, 101, 116, 101, 114, 45, 112, 101, 114, 45, 115, 101, 99, 111, 110, 100], .func 97 [] [], .bool true], .int .i64 (-1))
theorem r27_ok : rowOk cfg0 M0 3000 173 r27 = true := by kernel_rfl
def r28 : List AV × AV := ([.str [98, 97, 115, 101, 32, 109, 101, 116, 101, 114, 32, 108, 101, 110, 103, 116, 104]], .tuple [.ro [.str [98, 97, 115, 101], .str [109, 101, 116, 101, 114], .str [108, 101, 110, 103, 116, 104]] 3, .bool true])
theorem r28_ok : rowOk cfg0 M0 3000 98 r28 = true := by kernel_rfl
def r29 : List AV × AV := ([.str [98, 97, 115, 101, 32, 115, 101, 99, 111, 110, 100, 32, 116, 105, 109, 101]], .tuple [.ro [.str [98, 97, 115, 101], .str [115, 101, 99, 111, 110, 100], .str [116, 105, 109, 101]] 3, .bool true])
theorem r29_ok : rowOk cfg0 M0 3000 98 r29 = true := by kernel_rfl
def r30 : List AV × AV := ([.str [98, 97, 115, 101, 32, 107, 101, 108, 118, 105, 110, 32, 116, 101, 109, 112, 101, 114, 97, 116, 117, 114, 101]], .tuple [.ro [.str [98, 97, 115, 101], .str [107, 101, 108, 118, 105, 110], .str [116, 101, 109, 112, 101, 114, 97, 116, 117, 114, 101]] 3, .bool true])
theorem r30_ok : rowOk cfg0 M0 3000 98 r30 = true := by kernel_rfl
def r31 : List AV × AV := ([.str [112, 114, 101, 102, 105, 120, 32, 107, 105, 108, 111, 32, 49, 48, 32, 51]], .tuple [.ro [.str [112, 114, 101, 102, 105, 120], .str [107, 105, 108, 111], .str [49, 48], .str [51]] 4, .bool true])
theorem r31_ok : rowOk cfg0 M0 3000 98 r31 = true := by kernel_rfl
def r32 : List AV × AV := ([.str [112, 114, 101, 102, 105, 120, 32, 109, 105, 108, 108, 105, 32, 49, 48, 32, 45, 51]], .tuple [.ro [.str [112, 114, 101, 102, 105, 120], .str [109, 105, 108, 108, 105], .str [49, 48], .str [45, 51]] 4, .bool true])
theorem r32_ok : rowOk cfg0 M0 3000 98 r32 = true := by kernel_rfl
def r33 : List AV × AV := ([.str [117, 110, 105, 116, 32, 102, 111, 111, 116, 32, 51, 56, 49, 47, 49, 50, 53, 48, 32, 109, 101, 116, 101, 114]], .tuple [.ro [.str [117, 110, 105, 116], .str [102, 111, 111, 116], .str [51, 56, 49, 47, 49, 50, 53, 48], .str [109, 101, 116, 101, 114]] 4, .bool true])
theorem r33_ok : rowOk cfg0 M0 3000 98 r33 = true := by kernel_rfl
def r34 : List AV × AV := ([.str [117, 110, 105, 116, 32, 105, 110, 99, 104, 32, 49, 47, 49, 50, 32, 102, 111, 111, 116]], .tuple [.ro [.str [117, 110, 105, 116], .str [105, 110, 99, 104], .str [49, 47, 49, 50], .str [102, 111, 111, 116]] 4, .bool true])
theorem r34_ok : rowOk cfg0 M0 3000 98 r34 = true := by kernel_rfl
def r35 : List AV × AV := ([.str [117, 110, 105, 116, 32, 121, 97, 114, 100, 32, 51, 32, 102, 111, 111, 116]], .tuple [.ro [.str [117, 110, 105, 116], .str [121, 97, 114, 100], .str [51], .str [102, 111, 111, 116]] 4, .bool true])
theorem r35_ok : rowOk cfg0 M0 3000 98 r35 = true := by kernel_rfl
def r36 : List AV × AV := ([.str [117, 110, 105, 116, 32, 109, 105, 110, 117, 116, 101, 32, 54, 48, 32, 115, 101, 99, 111, 110, 100]], .tuple [.ro [.str [117, 110, 105, 116], .str [109, 105, 110, 117, 116, 101], .str [54, 48], .str [115, 101, 99, 111, 110, 100]] 4, .bool true])
theorem r36_ok : rowOk cfg0 M0 3000 98 r36 = true := by kernel_rfl
def r37 : List AV × AV := ([.str [117, 110, 105, 116, 32, 99, 101, 108, 115, 105, 117, 115, 32, 49, 32, 107, 101, 108, 118, 105, 110, 32, 50, 55, 51, 49, 53, 47, 49, 48, 48]], .tuple [.ro [.str [117, 110, 105, 116], .str [99, 101, 108, 115, 105, 117, 115], .str [49], .str [107, 101, 108, 118, 105, 110], .str [50, 55, 51, 49, 53, 47, 49, 48, 48]] 5, .bool true])
theorem r37_ok : rowOk cfg0 M0 3000 98 r37 = true := by kernel_rfl
def r38 : List AV × AV := ([.str [117, 110, 105, 116, 32, 102, 97, 104, 114, 101, 110, 104, 101, 105, 116, 32, 53, 47, 57, 32, 107, 101, 108, 118, 105, 110, 32, 52, 53, 57, 54, 55, 47, 49, 56, 48]], .tuple [.ro [.str [117, 110, 105, 116], .str [102, 97, 104, 114, 101, 110, 104, 101, 105, 116], .str [53, 47, 57], .str [107, 101, 108, 118, 105, 110], .str [52, 53, 57, 54, 55, 47, 49, 56, 48]] 5, .bool true])
theorem r38_ok : rowOk cfg0 M0 3000 98 r38 = true := by kernel_rfl
def r39 : List AV × AV := ([.str [113, 117, 97, 110, 116, 105, 116, 121, 32, 115, 112, 101, 101, 100, 32, 109, 101, 116, 101, 114, 45, 112, 101, 114, 45, 115, 101, 99, 111, 110, 100]], .tuple [.ro [.str [113, 117, 97, 110, 116, 105, 116, 121], .str [115, 112, 101, 101, 100], .str [109, 101, 116, 101, 114, 45, 112, 101, 114, 45, 115, 101, 99, 111, 110, 100]] 3, .bool true])
theorem r39_ok : rowOk cfg0 M0 3000 98 r39 = true := by kernel_rfl
def r40 : List AV × AV := ([.str [113, 117, 97, 110, 116, 105, 116, 121, 32, 97, 114, 101, 97, 32, 115, 113, 117, 97, 114, 101, 45, 109, 101, 116, 101, 114]], .tuple [.ro [.str [113, 117, 97, 110, 116, 105, 116, 121], .str [97, 114, 101, 97], .str [115, 113, 117, 97, 114, 101, 45, 109, 101, 116, 101, 114]] 3, .bool true])
theorem r40_ok : rowOk cfg0 M0 3000 98 r40 = true := by kernel_rfl
def r41 : List AV × AV := ([.str [97, 108, 105, 97, 115, 32, 107, 112, 104, 32, 107, 105, 108, 111, 109, 101, 116, 101, 114, 45, 112, 101, 114, 45, 115, 101, 99, 111, 110, 100]], .tuple [.ro [.str [97, 108, 105, 97, 115], .str [107, 112, 104], .str [107, 105, 108, 111, 109, 101, 116, 101, 114, 45, 112, 101, 114, 45, 115, 101, 99, 111, 110, 100]] 3, .bool true])
theorem r41_ok : rowOk cfg0 M0 3000 98 r41 = true := by kernel_rfl
def r42 : List AV × AV := ([.str [109, 101, 116, 101, 114], .str [48, 49, 50, 51, 52, 53, 54, 55, 56, 57]], .str [109, 101, 116, 101, 114])
theorem r42_ok : rowOk cfg0 M0 3000 152 r42 = true := by kernel_rfl
def r43 : List AV × AV := ([.str [109, 101, 116, 101, 114], .str [97, 98, 99, 100, 101, 102, 103, 104, 105, 106, 107, 108, 109, 110, 111, 112, 113, 114, 115, 116, 117, 118, 119, 120, 121, 122, 48, 49, 50, 51, 52, 53, 54, 55, 56, 57]], .str [])
theorem r43_ok : rowOk cfg0 M0 3000 152 r43 = true := by kernel_rfl
def r44 : List AV × AV := ([.str [108, 101, 110, 103, 116, 104], .str [97, 98, 99, 100, 101, 102, 103, 104, 105, 106, 107, 108, 109, 110, 111, 112, 113, 114, 115, 116, 117, 118, 119, 120, 121, 122, 48, 49, 50, 51, 52, 53, 54, 55, 56, 57]], .str [])
theorem r44_ok : rowOk cfg0 M0 3000 152 r44 = true := by kernel_rfl
def r45 : List AV × AV := ([.agg [.ro [.int .u32 1] 1], .agg [.nilsl]], .agg [.ro [.int .u32 1] 1])
theorem r45_ok : rowOk cfg0 M0 3000 123 r45 = true := by kernel_rfl
def r46 : List AV × AV := ([.int .i64 0], .agg [.bool false, .e0])
theorem r46_ok : rowOk cfg0 M0 3000 31 r46 = true := by kernel_rfl
def r47 : List AV × AV := ([.str [115, 101, 99, 111, 110, 100], .str [48, 49, 50, 51, 52, 53, 54, 55, 56, 57]], .str [115, 101, 99, 111, 110, 100])
theorem r47_ok : rowOk cfg0 M0 3000 152 r47 = true := by kernel_rfl
def r48 : List AV × AV := ([.str [115, 101, 99, 111, 110, 100], .str [97, 98, 99, 100, 101, 102, 103, 104, 105, 106, 107, 108, 109, 110, 111, 112, 113, 114, 115, 116, 117, 118, 119, 120, 121, 122, 48, 49, 50, 51, 52, 53, 54, 55, 56, 57]], .str [])
theorem r48_ok : rowOk cfg0 M0 3000 152 r48 = true := by kernel_rfl
def r49 : List AV × AV := ([.str [116, 105, 109, 101], .str [97, 98, 99, 100, 101, 102, 103, 104, 105, 106, 107, 108, 109, 110, 111, 112, 113, 114, 115, 116, 117, 118, 119, 120, 121, 122, 48, 49, 50, 51, 52, 53, 54, 55, 56, 57]], .str [])
theorem r49_ok : rowOk cfg0 M0 3000 152 r49 = true := by kernel_rfl
def r50 : List AV × AV := ([.str [107, 101, 108, 118, 105, 110], .str [48, 49, 50, 51, 52, 53, 54, 55, 56, 57]], .str [107, 101, 108, 118, 105, 110])
theorem r50_ok : rowOk cfg0 M0 3000 152 r50 = true := by kernel_rfl
def r51 : List AV × AV := ([.str [107, 101, 108, 118, 105, 110], .str [97, 98, 99, 100, 101, 102, 103, 104, 105, 106, 107, 108, 109, 110, 111, 112, 113, 114, 115, 116, 117, 118, 119, 120, 121, 122, 48, 49, 50, 51, 52, 53, 54, 55, 56, 57]], .str [])
theorem r51_ok : rowOk cfg0 M0 3000 152 r51 = true := by kernel_rfl
def r52 : List AV × AV := ([.str [116, 101, 109, 112, 101, 114, 97, 116, 117, 114, 101], .str [97, 98, 99, 100, 101, 102, 103, 104, 105, 106, 107, 108, 109, 110, 111, 112, 113, 114, 115, 116, 117, 118, 119, 120, 121, 122, 48, 49, 50, 51, 52, 53, 54, 55, 56, 57]], .str [])
theorem r52_ok : rowOk cfg0 M0 3000 152 r52 = true := by kernel_rfl
def r53 : List AV × AV := ([.str [107, 105, 108, 111], .str [48, 49, 50, 51, 52, 53, 54, 55, 56, 57]], .str [107, 105, 108, 111])
theorem r53_ok : rowOk cfg0 M0 3000 152 r53 = true := by kernel_rfl
def r54 : List AV × AV := ([.str [107, 105, 108, 111], .str [97, 98, 99, 100, 101, 102, 103, 104, 105, 106, 107, 108, 109, 110, 111, 112, 113, 114, 115, 116, 117, 118, 119, 120, 121, 122, 48, 49, 50, 51, 52, 53, 54, 55, 56, 57]], .str [])
theorem r54_ok : rowOk cfg0 M0 3000 152 r54 = true := by kernel_rfl
def r55 : List AV × AV := ([.str [51], .str [48, 49, 50, 51, 52, 53, 54, 55, 56, 57]], .str [])
theorem r55_ok : rowOk cfg0 M0 3000 152 r55 = true := by kernel_rfl
def r56 : List AV × AV := ([.agg [.ro [.int .u32 3] 1], .agg [.nilsl]], .agg [.ro [.int .u32 3] 1])
theorem r56_ok : rowOk cfg0 M0 3000 123 r56 = true := by kernel_rfl
def r57 : List AV × AV := ([.agg [.ro [.int .u32 3] 1]], .str [51])
theorem r57_ok : rowOk cfg0 M0 3000 71 r57 = true := by kernel_rfl
def r58 : List AV × AV := ([.agg [.ro [.int .u32 10] 1], .agg [.nilsl]], .agg [.ro [.int .u32 10] 1])
theorem r58_ok : rowOk cfg0 M0 3000 123 r58 = true := by kernel_rfl
def r59 : List AV × AV := ([.agg [.ro [.int .u32 10] 1], .agg [.ro [.int .u32 1] 1]], .tuple [.agg [.ro [.int .u32 10] 1], .agg [.e0], .bool true])
theorem r59_ok : rowOk cfg0 M0 3000 74 r59 = true := by kernel_rfl
def r60 : List AV × AV := ([.agg [.ro [.int .u32 1] 1], .agg [.ro [.int .u32 1] 1]], .tuple [.agg [.ro [.int .u32 1] 1], .agg [.e0], .bool true])
theorem r60_ok : rowOk cfg0 M0 3000 74 r60 = true := by kernel_rfl
def r61 : List AV × AV := ([.agg [.ro [.int .u32 10] 1], .int .i64 3], .agg [.ro [.int .u32 1000] 1])
theorem r61_ok : rowOk cfg0 M0 3000 177 r61 = true := by kernel_rfl
def r62 : List AV × AV := ([.agg [.ro [.int .u32 1] 1], .int .i64 3], .agg [.ro [.int .u32 1] 1])
theorem r62_ok : rowOk cfg0 M0 3000 177 r62 = true := by kernel_rfl
def r63 : List AV × AV := ([.str [109, 105, 108, 108, 105], .str [48, 49, 50, 51, 52, 53, 54, 55, 56, 57]], .str [109, 105, 108, 108, 105])
theorem r63_ok : rowOk cfg0 M0 3000 152 r63 = true := by kernel_rfl
def r64 : List AV × AV := ([.str [109, 105, 108, 108, 105], .str [97, 98, 99, 100, 101, 102, 103, 104, 105, 106, 107, 108, 109, 110, 111, 112, 113, 114, 115, 116, 117, 118, 119, 120, 121, 122, 48, 49, 50, 51, 52, 53, 54, 55, 56, 57]], .str [])
theorem r64_ok : rowOk cfg0 M0 3000 152 r64 = true := by kernel_rfl
def r65 : List AV × AV := ([.agg [.ro [.int .u32 1] 1], .agg [.ro [.int .u32 10] 1]], .tuple [.agg [.nilsl], .agg [.ro [.int .u32 1] 1], .bool true])
theorem r65_ok : rowOk cfg0 M0 3000 74 r65 = true := by kernel_rfl
def r66 : List AV × AV := ([.agg [.ro [.int .u32 1] 1], .int .i64 2], .agg [.ro [.int .u32 1] 1])
theorem r66_ok : rowOk cfg0 M0 3000 177 r66 = true := by kernel_rfl
def r67 : List AV × AV := ([.agg [.ro [.int .u32 10] 1], .int .i64 2], .agg [.ro [.int .u32 100] 1])
theorem r67_ok : rowOk cfg0 M0 3000 177 r67 = true := by kernel_rfl
def r68 : List AV × AV := ([.agg [.ro [.int .u32 1] 1], .agg [.ro [.int .u32 100] 1]], .tuple [.agg [.nilsl], .agg [.ro [.int .u32 1] 1], .bool true])
theorem r68_ok : rowOk cfg0 M0 3000 74 r68 = true := by kernel_rfl
def r69 : List AV × AV := ([.agg [.ro [.int .u32 100] 1], .agg [.ro [.int .u32 1] 1]], .tuple [.agg [.ro [.int .u32 100] 1], .agg [.e0], .bool true])
theorem r69_ok : rowOk cfg0 M0 3000 74 r69 = true := by kernel_rfl
def r70 : List AV × AV := ([.agg [.ro [.int .u32 1] 1], .agg [.ro [.int .u32 1000] 1]], .tuple [.agg [.nilsl], .agg [.ro [.int .u32 1] 1], .bool true])
theorem r70_ok : rowOk cfg0 M0 3000 74 r70 = true := by kernel_rfl
def r71 : List AV × AV := ([.agg [.ro [.int .u32 1000] 1], .agg [.ro [.int .u32 1] 1]], .tuple [.agg [.ro [.int .u32 1000] 1], .agg [.e0], .bool true])
theorem r71_ok : rowOk cfg0 M0 3000 74 r71 = true := by kernel_rfl
def r72 : List AV × AV := ([.str [102, 111, 111, 116], .str [48, 49, 50, 51, 52, 53, 54, 55, 56, 57]], .str [102, 111, 111, 116])
theorem r72_ok : rowOk cfg0 M0 3000 152 r72 = true := by kernel_rfl
def r73 : List AV × AV := ([.str [102, 111, 111, 116], .str [97, 98, 99, 100, 101, 102, 103, 104, 105, 106, 107, 108, 109, 110, 111, 112, 113, 114, 115, 116, 117, 118, 119, 120, 121, 122, 48, 49, 50, 51, 52, 53, 54, 55, 56, 57]], .str [])
theorem r73_ok : rowOk cfg0 M0 3000 152 r73 = true := by kernel_rfl
def r74 : List AV × AV := ([.str [51, 56, 49], .str [48, 49, 50, 51, 52, 53, 54, 55, 56, 57]], .str [])
theorem r74_ok : rowOk cfg0 M0 3000 152 r74 = true := by kernel_rfl
def r75 : List AV × AV := ([.agg [.ro [.int .u32 381] 1], .agg [.nilsl]], .agg [.ro [.int .u32 381] 1])
theorem r75_ok : rowOk cfg0 M0 3000 123 r75 = true := by kernel_rfl
def r76 : List AV × AV := ([.str [49, 50, 53, 48], .str [48, 49, 50, 51, 52, 53, 54, 55, 56, 57]], .str [])
theorem r76_ok : rowOk cfg0 M0 3000 152 r76 = true := by kernel_rfl
def r77 : List AV × AV := ([.agg [.ro [.int .u32 381] 1], .agg [.ro [.int .u32 1250] 1]], .tuple [.agg [.nilsl], .agg [.ro [.int .u32 381] 1], .bool true])
theorem r77_ok : rowOk cfg0 M0 3000 74 r77 = true := by kernel_rfl
def r78 : List AV × AV := ([.agg [.ro [.int .u32 1250] 1], .agg [.ro [.int .u32 381] 1]], .tuple [.agg [.ro [.int .u32 3] 1], .agg [.ro [.int .u32 107] 1], .bool true])
theorem r78_ok : rowOk cfg0 M0 3000 74 r78 = true := by kernel_rfl
def r79 : List AV × AV := ([.agg [.ro [.int .u32 381] 1], .agg [.ro [.int .u32 107] 1]], .tuple [.agg [.ro [.int .u32 3] 1], .agg [.ro [.int .u32 60] 1], .bool true])
theorem r79_ok : rowOk cfg0 M0 3000 74 r79 = true := by kernel_rfl
def r80 : List AV × AV := ([.agg [.ro [.int .u32 107] 1], .agg [.ro [.int .u32 60] 1]], .tuple [.agg [.ro [.int .u32 1] 1], .agg [.ro [.int .u32 47] 1], .bool true])
theorem r80_ok : rowOk cfg0 M0 3000 74 r80 = true := by kernel_rfl
def r81 : List AV × AV := ([.agg [.ro [.int .u32 60] 1], .agg [.ro [.int .u32 47] 1]], .tuple [.agg [.ro [.int .u32 1] 1], .agg [.ro [.int .u32 13] 1], .bool true])
theorem r81_ok : rowOk cfg0 M0 3000 74 r81 = true := by kernel_rfl
def r82 : List AV × AV := ([.agg [.ro [.int .u32 47] 1], .agg [.ro [.int .u32 13] 1]], .tuple [.agg [.ro [.int .u32 3] 1], .agg [.ro [.int .u32 8] 1], .bool true])
theorem r82_ok : rowOk cfg0 M0 3000 74 r82 = true := by kernel_rfl
def r83 : List AV × AV := ([.agg [.ro [.int .u32 13] 1], .agg [.ro [.int .u32 8] 1]], .tuple [.agg [.ro [.int .u32 1] 1], .agg [.ro [.int .u32 5] 1], .bool true])
theorem r83_ok : rowOk cfg0 M0 3000 74 r83 = true := by kernel_rfl
def r84 : List AV × AV := ([.agg [.ro [.int .u32 8] 1], .agg [.ro [.int .u32 5] 1]], .tuple [.agg [.ro [.int .u32 1] 1], .agg [.ro [.int .u32 3] 1], .bool true])
theorem r84_ok : rowOk cfg0 M0 3000 74 r84 = true := by kernel_rfl
def r85 : List AV × AV := ([.agg [.ro [.int .u32 5] 1], .agg [.ro [.int .u32 3] 1]], .tuple [.agg [.ro [.int .u32 1] 1], .agg [.ro [.int .u32 2] 1], .bool true])
theorem r85_ok : rowOk cfg0 M0 3000 74 r85 = true := by kernel_rfl
def r86 : List AV × AV := ([.agg [.ro [.int .u32 3] 1], .agg [.ro [.int .u32 2] 1]], .tuple [.agg [.ro [.int .u32 1] 1], .agg [.ro [.int .u32 1] 1], .bool true])
theorem r86_ok : rowOk cfg0 M0 3000 74 r86 = true := by kernel_rfl
def r87 : List AV × AV := ([.agg [.ro [.int .u32 2] 1], .agg [.ro [.int .u32 1] 1]], .tuple [.agg [.ro [.int .u32 2] 1], .agg [.e0], .bool true])
theorem r87_ok : rowOk cfg0 M0 3000 74 r87 = true := by kernel_rfl
def r88 : List AV × AV := ([.agg [.ro [.int .u32 381] 1], .agg [.ro [.int .u32 1] 1]], .tuple [.agg [.ro [.int .u32 381] 1], .agg [.e0], .bool true])
theorem r88_ok : rowOk cfg0 M0 3000 74 r88 = true := by kernel_rfl
def r89 : List AV × AV := ([.agg [.ro [.int .u32 1250] 1], .agg [.ro [.int .u32 1] 1]], .tuple [.agg [.ro [.int .u32 1250] 1], .agg [.e0], .bool true])
theorem r89_ok : rowOk cfg0 M0 3000 74 r89 = true := by kernel_rfl
def r90 : List AV × AV := ([.str [109, 101, 116, 101, 114]], .int .i64 1)
theorem r90_ok : rowOk cfg0 M0 3000 233 r90 = true := by kernel_rfl
def r91 : List AV × AV := ([.agg [.int .i64 1, .int .i64 0, .int .i64 0, .int .i64 0, .int .i64 0, .int .i64 0, .int .i64 0, .int .i64 0]], .bool true)
theorem r91_ok : rowOk cfg0 M0 3000 117 r91 = true := by kernel_rfl
def r92 : List AV × AV := ([.agg [.int .i64 0, .int .i64 0, .int .i64 0, .int .i64 0, .int .i64 0, .int .i64 0, .int .i64 0, .int .i64 0]], .bool true)
theorem r92_ok : rowOk cfg0 M0 3000 117 r92 = true := by kernel_rfl
def r93 : List AV × AV := ([.agg [.ro [.int .u32 1] 1], .int .i64 1], .agg [.ro [.int .u32 1] 1])
theorem r93_ok : rowOk cfg0 M0 3000 177 r93 = true := by kernel_rfl
def r94 : List AV × AV := ([.int .i64 381], .str [51, 56, 49])
theorem r94_ok : rowOk cfg0 M0 3000 161 r94 = true := by kernel_rfl
def r95 : List AV × AV := ([.int .i64 1250], .str [49, 50, 53, 48])
theorem r95_ok : rowOk cfg0 M0 3000 161 r95 = true := by kernel_rfl
def r96 : List AV × AV := ([.str [105, 110, 99, 104], .str [48, 49, 50, 51, 52, 53, 54, 55, 56, 57]], .str [105, 110, 99, 104])
theorem r96_ok : rowOk cfg0 M0 3000 152 r96 = true := by kernel_rfl
def r97 : List AV × AV := ([.str [105, 110, 99, 104], .str [97, 98, 99, 100, 101, 102, 103, 104, 105, 106, 107, 108, 109, 110, 111, 112, 113, 114, 115, 116, 117, 118, 119, 120, 121, 122, 48, 49, 50, 51, 52, 53, 54, 55, 56, 57]], .str [])
theorem r97_ok : rowOk cfg0 M0 3000 152 r97 = true := by kernel_rfl
def r98 : List AV × AV := ([.str [49], .str [48, 49, 50, 51, 52, 53, 54, 55, 56, 57]], .str [])
theorem r98_ok : rowOk cfg0 M0 3000 152 r98 = true := by kernel_rfl
def r99 : List AV × AV := ([.str [49, 50], .str [48, 49, 50, 51, 52, 53, 54, 55, 56, 57]], .str [])
theorem r99_ok : rowOk cfg0 M0 3000 152 r99 = true := by kernel_rfl
def r100 : List AV × AV := ([.agg [.ro [.int .u32 1] 1], .agg [.ro [.int .u32 12] 1]], .tuple [.agg [.nilsl], .agg [.ro [.int .u32 1] 1], .bool true])
theorem r100_ok : rowOk cfg0 M0 3000 74 r100 = true := by kernel_rfl
def r101 : List AV × AV := ([.agg [.ro [.int .u32 12] 1], .agg [.ro [.int .u32 1] 1]], .tuple [.agg [.ro [.int .u32 12] 1], .agg [.e0], .bool true])
theorem r101_ok : rowOk cfg0 M0 3000 74 r101 = true := by kernel_rfl
def r102 : List AV × AV := ([.str [102, 111, 111, 116]], .int .i64 1)
theorem r102_ok : rowOk cfg0 M0 3000 233 r102 = true := by kernel_rfl
def r103 : List AV × AV := ([.agg [.ro [.int .u32 381] 1], .int .i64 1], .agg [.ro [.int .u32 381] 1])
theorem r103_ok : rowOk cfg0 M0 3000 177 r103 = true := by kernel_rfl
def r104 : List AV × AV := ([.agg [.ro [.int .u32 1250] 1], .int .i64 1], .agg [.ro [.int .u32 1250] 1])
theorem r104_ok : rowOk cfg0 M0 3000 177 r104 = true := by kernel_rfl
def r105 : List AV × AV := ([.agg [.ro [.int .u32 381] 1], .agg [.ro [.int .u32 15000] 1]], .tuple [.agg [.nilsl], .agg [.ro [.int .u32 381] 1], .bool true])
theorem r105_ok : rowOk cfg0 M0 3000 74 r105 = true := by kernel_rfl
def r106 : List AV × AV := ([.agg [.ro [.int .u32 15000] 1], .agg [.ro [.int .u32 381] 1]], .tuple [.agg [.ro [.int .u32 39] 1], .agg [.ro [.int .u32 141] 1], .bool true])
theorem r106_ok : rowOk cfg0 M0 3000 74 r106 = true := by kernel_rfl
def r107 : List AV × AV := ([.agg [.ro [.int .u32 381] 1], .agg [.ro [.int .u32 141] 1]], .tuple [.agg [.ro [.int .u32 2] 1], .agg [.ro [.int .u32 99] 1], .bool true])
theorem r107_ok : rowOk cfg0 M0 3000 74 r107 = true := by kernel_rfl
def r108 : List AV × AV := ([.agg [.ro [.int .u32 141] 1], .agg [.ro [.int .u32 99] 1]], .tuple [.agg [.ro [.int .u32 1] 1], .agg [.ro [.int .u32 42] 1], .bool true])
theorem r108_ok : rowOk cfg0 M0 3000 74 r108 = true := by kernel_rfl
def r109 : List AV × AV := ([.agg [.ro [.int .u32 99] 1], .agg [.ro [.int .u32 42] 1]], .tuple [.agg [.ro [.int .u32 2] 1], .agg [.ro [.int .u32 15] 1], .bool true])
theorem r109_ok : rowOk cfg0 M0 3000 74 r109 = true := by kernel_rfl
def r110 : List AV × AV := ([.agg [.ro [.int .u32 42] 1], .agg [.ro [.int .u32 15] 1]], .tuple [.agg [.ro [.int .u32 2] 1], .agg [.ro [.int .u32 12] 1], .bool true])
theorem r110_ok : rowOk cfg0 M0 3000 74 r110 = true := by kernel_rfl
def r111 : List AV × AV := ([.agg [.ro [.int .u32 15] 1], .agg [.ro [.int .u32 12] 1]], .tuple [.agg [.ro [.int .u32 1] 1], .agg [.ro [.int .u32 3] 1], .bool true])
theorem r111_ok : rowOk cfg0 M0 3000 74 r111 = true := by kernel_rfl
def r112 : List AV × AV := ([.agg [.ro [.int .u32 12] 1], .agg [.ro [.int .u32 3] 1]], .tuple [.agg [.ro [.int .u32 4] 1], .agg [.e0], .bool true])
theorem r112_ok : rowOk cfg0 M0 3000 74 r112 = true := by kernel_rfl
def r113 : List AV × AV := ([.agg [.ro [.int .u32 381] 1], .agg [.ro [.int .u32 3] 1]], .tuple [.agg [.ro [.int .u32 127] 1], .agg [.e0], .bool true])
theorem r113_ok : rowOk cfg0 M0 3000 74 r113 = true := by kernel_rfl
def r114 : List AV × AV := ([.agg [.ro [.int .u32 15000] 1], .agg [.ro [.int .u32 3] 1]], .tuple [.agg [.ro [.int .u32 5000] 1], .agg [.e0], .bool true])
theorem r114_ok : rowOk cfg0 M0 3000 74 r114 = true := by kernel_rfl
def r115 : List AV × AV := ([.agg [.ro [.int .u32 127] 1]], .str [49, 50, 55])
theorem r115_ok : rowOk cfg0 M0 3000 71 r115 = true := by kernel_rfl
def r116 : List AV × AV := ([.int .i64 5000], .str [53, 48, 48, 48])
theorem r116_ok : rowOk cfg0 M0 3000 161 r116 = true := by kernel_rfl
def r117 : List AV × AV := ([.str [121, 97, 114, 100], .str [48, 49, 50, 51, 52, 53, 54, 55, 56, 57]], .str [121, 97, 114, 100])
theorem r117_ok : rowOk cfg0 M0 3000 152 r117 = true := by kernel_rfl
def r118 : List AV × AV := ([.str [121, 97, 114, 100], .str [97, 98, 99, 100, 101, 102, 103, 104, 105, 106, 107, 108, 109, 110, 111, 112, 113, 114, 115, 116, 117, 118, 119, 120, 121, 122, 48, 49, 50, 51, 52, 53, 54, 55, 56, 57]], .str [])
theorem r118_ok : rowOk cfg0 M0 3000 152 r118 = true := by kernel_rfl
def r119 : List AV × AV := ([.agg [.ro [.int .u32 3] 1], .agg [.ro [.int .u32 1] 1]], .tuple [.agg [.ro [.int .u32 3] 1], .agg [.e0], .bool true])
theorem r119_ok : rowOk cfg0 M0 3000 74 r119 = true := by kernel_rfl
def r120 : List AV × AV := ([.agg [.ro [.int .u32 1143] 1], .agg [.nilsl]], .agg [.ro [.int .u32 1143] 1])
theorem r120_ok : rowOk cfg0 M0 3000 123 r120 = true := by kernel_rfl
def r121 : List AV × AV := ([.agg [.ro [.int .u32 1143] 1], .agg [.ro [.int .u32 1250] 1]], .tuple [.agg [.nilsl], .agg [.ro [.int .u32 1143] 1], .bool true])
theorem r121_ok : rowOk cfg0 M0 3000 74 r121 = true := by kernel_rfl
def r122 : List AV × AV := ([.agg [.ro [.int .u32 1250] 1], .agg [.ro [.int .u32 1143] 1]], .tuple [.agg [.ro [.int .u32 1] 1], .agg [.ro [.int .u32 107] 1], .bool true])
theorem r122_ok : rowOk cfg0 M0 3000 74 r122 = true := by kernel_rfl
def r123 : List AV × AV := ([.agg [.ro [.int .u32 1143] 1], .agg [.ro [.int .u32 107] 1]], .tuple [.agg [.ro [.int .u32 10] 1], .agg [.ro [.int .u32 73] 1], .bool true])
theorem r123_ok : rowOk cfg0 M0 3000 74 r123 = true := by kernel_rfl
def r124 : List AV × AV := ([.agg [.ro [.int .u32 107] 1], .agg [.ro [.int .u32 73] 1]], .tuple [.agg [.ro [.int .u32 1] 1], .agg [.ro [.int .u32 34] 1], .bool true])
theorem r124_ok : rowOk cfg0 M0 3000 74 r124 = true := by kernel_rfl
def r125 : List AV × AV := ([.agg [.ro [.int .u32 73] 1], .agg [.ro [.int .u32 34] 1]], .tuple [.agg [.ro [.int .u32 2] 1], .agg [.ro [.int .u32 5] 1], .bool true])
theorem r125_ok : rowOk cfg0 M0 3000 74 r125 = true := by kernel_rfl
def r126 : List AV × AV := ([.agg [.ro [.int .u32 34] 1], .agg [.ro [.int .u32 5] 1]], .tuple [.agg [.ro [.int .u32 6] 1], .agg [.ro [.int .u32 4] 1], .bool true])
theorem r126_ok : rowOk cfg0 M0 3000 74 r126 = true := by kernel_rfl
def r127 : List AV × AV := ([.agg [.ro [.int .u32 5] 1], .agg [.ro [.int .u32 4] 1]], .tuple [.agg [.ro [.int .u32 1] 1], .agg [.ro [.int .u32 1] 1], .bool true])
theorem r127_ok : rowOk cfg0 M0 3000 74 r127 = true := by kernel_rfl
def r128 : List AV × AV := ([.agg [.ro [.int .u32 4] 1], .agg [.ro [.int .u32 1] 1]], .tuple [.agg [.ro [.int .u32 4] 1], .agg [.e0], .bool true])
theorem r128_ok : rowOk cfg0 M0 3000 74 r128 = true := by kernel_rfl
def r129 : List AV × AV := ([.agg [.ro [.int .u32 1143] 1], .agg [.ro [.int .u32 1] 1]], .tuple [.agg [.ro [.int .u32 1143] 1], .agg [.e0], .bool true])
theorem r129_ok : rowOk cfg0 M0 3000 74 r129 = true := by kernel_rfl
def r130 : List AV × AV := ([.int .i64 1143], .str [49, 49, 52, 51])
theorem r130_ok : rowOk cfg0 M0 3000 161 r130 = true := by kernel_rfl
def r131 : List AV × AV := ([.str [109, 105, 110, 117, 116, 101], .str [48, 49, 50, 51, 52, 53, 54, 55, 56, 57]], .str [109, 105, 110, 117, 116, 101])
theorem r131_ok : rowOk cfg0 M0 3000 152 r131 = true := by kernel_rfl
def r132 : List AV × AV := ([.str [109, 105, 110, 117, 116, 101], .str [97, 98, 99, 100, 101, 102, 103, 104, 105, 106, 107, 108, 109, 110, 111, 112, 113, 114, 115, 116, 117, 118, 119, 120, 121, 122, 48, 49, 50, 51, 52, 53, 54, 55, 56, 57]], .str [])
theorem r132_ok : rowOk cfg0 M0 3000 152 r132 = true := by kernel_rfl
def r133 : List AV × AV := ([.str [54, 48], .str [48, 49, 50, 51, 52, 53, 54, 55, 56, 57]], .str [])
theorem r133_ok : rowOk cfg0 M0 3000 152 r133 = true := by kernel_rfl
def r134 : List AV × AV := ([.agg [.ro [.int .u32 60] 1], .agg [.nilsl]], .agg [.ro [.int .u32 60] 1])
theorem r134_ok : rowOk cfg0 M0 3000 123 r134 = true := by kernel_rfl
def r135 : List AV × AV := ([.agg [.ro [.int .u32 60] 1], .agg [.ro [.int .u32 1] 1]], .tuple [.agg [.ro [.int .u32 60] 1], .agg [.e0], .bool true])
theorem r135_ok : rowOk cfg0 M0 3000 74 r135 = true := by kernel_rfl
def r136 : List AV × AV := ([.str [115, 101, 99, 111, 110, 100]], .int .i64 1)
theorem r136_ok : rowOk cfg0 M0 3000 233 r136 = true := by kernel_rfl
def r137 : List AV × AV := ([.agg [.int .i64 0, .int .i64 1, .int .i64 0, .int .i64 0, .int .i64 0, .int .i64 0, .int .i64 0, .int .i64 0]], .bool true)
theorem r137_ok : rowOk cfg0 M0 3000 117 r137 = true := by kernel_rfl
def r138 : List AV × AV := ([.agg [.ro [.int .u32 60] 1]], .str [54, 48])
theorem r138_ok : rowOk cfg0 M0 3000 71 r138 = true := by kernel_rfl
def r139 : List AV × AV := ([.agg [.ro [.int .u32 1] 1]], .str [49])
theorem r139_ok : rowOk cfg0 M0 3000 71 r139 = true := by kernel_rfl
def r140 : List AV × AV := ([.str [99, 101, 108, 115, 105, 117, 115], .str [48, 49, 50, 51, 52, 53, 54, 55, 56, 57]], .str [99, 101, 108, 115, 105, 117, 115])
theorem r140_ok : rowOk cfg0 M0 3000 152 r140 = true := by kernel_rfl
def r141 : List AV × AV := ([.str [99, 101, 108, 115, 105, 117, 115], .str [97, 98, 99, 100, 101, 102, 103, 104, 105, 106, 107, 108, 109, 110, 111, 112, 113, 114, 115, 116, 117, 118, 119, 120, 121, 122, 48, 49, 50, 51, 52, 53, 54, 55, 56, 57]], .str [])
theorem r141_ok : rowOk cfg0 M0 3000 152 r141 = true := by kernel_rfl
def r142 : List AV × AV := ([.str [107, 101, 108, 118, 105, 110]], .int .i64 1)
theorem r142_ok : rowOk cfg0 M0 3000 233 r142 = true := by kernel_rfl
def r143 : List AV × AV := ([.str [50, 55, 51, 49, 53], .str [48, 49, 50, 51, 52, 53, 54, 55, 56, 57]], .str [])
theorem r143_ok : rowOk cfg0 M0 3000 152 r143 = true := by kernel_rfl
def r144 : List AV × AV := ([.agg [.ro [.int .u32 27315] 1], .agg [.nilsl]], .agg [.ro [.int .u32 27315] 1])
theorem r144_ok : rowOk cfg0 M0 3000 123 r144 = true := by kernel_rfl
def r145 : List AV × AV := ([.str [49, 48, 48], .str [48, 49, 50, 51, 52, 53, 54, 55, 56, 57]], .str [])
theorem r145_ok : rowOk cfg0 M0 3000 152 r145 = true := by kernel_rfl
def r146 : List AV × AV := ([.agg [.ro [.int .u32 27315] 1], .agg [.ro [.int .u32 100] 1]], .tuple [.agg [.ro [.int .u32 273] 1], .agg [.ro [.int .u32 15] 1], .bool true])
theorem r146_ok : rowOk cfg0 M0 3000 74 r146 = true := by kernel_rfl
def r147 : List AV × AV := ([.agg [.ro [.int .u32 100] 1], .agg [.ro [.int .u32 15] 1]], .tuple [.agg [.ro [.int .u32 6] 1], .agg [.ro [.int .u32 10] 1], .bool true])
theorem r147_ok : rowOk cfg0 M0 3000 74 r147 = true := by kernel_rfl
def r148 : List AV × AV := ([.agg [.ro [.int .u32 15] 1], .agg [.ro [.int .u32 10] 1]], .tuple [.agg [.ro [.int .u32 1] 1], .agg [.ro [.int .u32 5] 1], .bool true])
theorem r148_ok : rowOk cfg0 M0 3000 74 r148 = true := by kernel_rfl
def r149 : List AV × AV := ([.agg [.ro [.int .u32 10] 1], .agg [.ro [.int .u32 5] 1]], .tuple [.agg [.ro [.int .u32 2] 1], .agg [.e0], .bool true])
theorem r149_ok : rowOk cfg0 M0 3000 74 r149 = true := by kernel_rfl
def r150 : List AV × AV := ([.agg [.ro [.int .u32 27315] 1], .agg [.ro [.int .u32 5] 1]], .tuple [.agg [.ro [.int .u32 5463] 1], .agg [.e0], .bool true])
theorem r150_ok : rowOk cfg0 M0 3000 74 r150 = true := by kernel_rfl
def r151 : List AV × AV := ([.agg [.ro [.int .u32 100] 1], .agg [.ro [.int .u32 5] 1]], .tuple [.agg [.ro [.int .u32 20] 1], .agg [.e0], .bool true])
theorem r151_ok : rowOk cfg0 M0 3000 74 r151 = true := by kernel_rfl
def r152 : List AV × AV := ([.agg [.int .i64 0, .int .i64 0, .int .i64 1, .int .i64 0, .int .i64 0, .int .i64 0, .int .i64 0, .int .i64 0]], .bool true)
theorem r152_ok : rowOk cfg0 M0 3000 117 r152 = true := by kernel_rfl
def r153 : List AV × AV := ([.str [102, 97, 104, 114, 101, 110, 104, 101, 105, 116], .str [48, 49, 50, 51, 52, 53, 54, 55, 56, 57]], .str [102, 97, 104, 114, 101, 110, 104, 101, 105, 116])
theorem r153_ok : rowOk cfg0 M0 3000 152 r153 = true := by kernel_rfl
def r154 : List AV × AV := ([.str [102, 97, 104, 114, 101, 110, 104, 101, 105, 116], .str [97, 98, 99, 100, 101, 102, 103, 104, 105, 106, 107, 108, 109, 110, 111, 112, 113, 114, 115, 116, 117, 118, 119, 120, 121, 122, 48, 49, 50, 51, 52, 53, 54, 55, 56, 57]], .str [])
theorem r154_ok : rowOk cfg0 M0 3000 152 r154 = true := by kernel_rfl
def r155 : List AV × AV := ([.str [53], .str [48, 49, 50, 51, 52, 53, 54, 55, 56, 57]], .str [])
theorem r155_ok : rowOk cfg0 M0 3000 152 r155 = true := by kernel_rfl
def r156 : List AV × AV := ([.agg [.ro [.int .u32 5] 1], .agg [.nilsl]], .agg [.ro [.int .u32 5] 1])
theorem r156_ok : rowOk cfg0 M0 3000 123 r156 = true := by kernel_rfl
def r157 : List AV × AV := ([.str [57], .str [48, 49, 50, 51, 52, 53, 54, 55, 56, 57]], .str [])
theorem r157_ok : rowOk cfg0 M0 3000 152 r157 = true := by kernel_rfl
def r158 : List AV × AV := ([.agg [.ro [.int .u32 5] 1], .agg [.ro [.int .u32 9] 1]], .tuple [.agg [.nilsl], .agg [.ro [.int .u32 5] 1], .bool true])
theorem r158_ok : rowOk cfg0 M0 3000 74 r158 = true := by kernel_rfl
def r159 : List AV × AV := ([.agg [.ro [.int .u32 9] 1], .agg [.ro [.int .u32 5] 1]], .tuple [.agg [.ro [.int .u32 1] 1], .agg [.ro [.int .u32 4] 1], .bool true])
theorem r159_ok : rowOk cfg0 M0 3000 74 r159 = true := by kernel_rfl
def r160 : List AV × AV := ([.agg [.ro [.int .u32 5] 1], .agg [.ro [.int .u32 1] 1]], .tuple [.agg [.ro [.int .u32 5] 1], .agg [.e0], .bool true])
theorem r160_ok : rowOk cfg0 M0 3000 74 r160 = true := by kernel_rfl
def r161 : List AV × AV := ([.agg [.ro [.int .u32 9] 1], .agg [.ro [.int .u32 1] 1]], .tuple [.agg [.ro [.int .u32 9] 1], .agg [.e0], .bool true])
theorem r161_ok : rowOk cfg0 M0 3000 74 r161 = true := by kernel_rfl
def r162 : List AV × AV := ([.str [52, 53, 57, 54, 55], .str [48, 49, 50, 51, 52, 53, 54, 55, 56, 57]], .str [])
theorem r162_ok : rowOk cfg0 M0 3000 152 r162 = true := by kernel_rfl
def r163 : List AV × AV := ([.agg [.ro [.int .u32 45967] 1], .agg [.nilsl]], .agg [.ro [.int .u32 45967] 1])
theorem r163_ok : rowOk cfg0 M0 3000 123 r163 = true := by kernel_rfl
def r164 : List AV × AV := ([.str [49, 56, 48], .str [48, 49, 50, 51, 52, 53, 54, 55, 56, 57]], .str [])
theorem r164_ok : rowOk cfg0 M0 3000 152 r164 = true := by kernel_rfl
def r165 : List AV × AV := ([.agg [.ro [.int .u32 45967] 1], .agg [.ro [.int .u32 180] 1]], .tuple [.agg [.ro [.int .u32 255] 1], .agg [.ro [.int .u32 67] 1], .bool true])
theorem r165_ok : rowOk cfg0 M0 3000 74 r165 = true := by kernel_rfl
def r166 : List AV × AV := ([.agg [.ro [.int .u32 180] 1], .agg [.ro [.int .u32 67] 1]], .tuple [.agg [.ro [.int .u32 2] 1], .agg [.ro [.int .u32 46] 1], .bool true])
theorem r166_ok : rowOk cfg0 M0 3000 74 r166 = true := by kernel_rfl
def r167 : List AV × AV := ([.agg [.ro [.int .u32 67] 1], .agg [.ro [.int .u32 46] 1]], .tuple [.agg [.ro [.int .u32 1] 1], .agg [.ro [.int .u32 21] 1], .bool true])
theorem r167_ok : rowOk cfg0 M0 3000 74 r167 = true := by kernel_rfl
def r168 : List AV × AV := ([.agg [.ro [.int .u32 46] 1], .agg [.ro [.int .u32 21] 1]], .tuple [.agg [.ro [.int .u32 2] 1], .agg [.ro [.int .u32 4] 1], .bool true])
theorem r168_ok : rowOk cfg0 M0 3000 74 r168 = true := by kernel_rfl
def r169 : List AV × AV := ([.agg [.ro [.int .u32 21] 1], .agg [.ro [.int .u32 4] 1]], .tuple [.agg [.ro [.int .u32 5] 1], .agg [.ro [.int .u32 1] 1], .bool true])
theorem r169_ok : rowOk cfg0 M0 3000 74 r169 = true := by kernel_rfl
def r170 : List AV × AV := ([.agg [.ro [.int .u32 45967] 1], .agg [.ro [.int .u32 1] 1]], .tuple [.agg [.ro [.int .u32 45967] 1], .agg [.e0], .bool true])
theorem r170_ok : rowOk cfg0 M0 3000 74 r170 = true := by kernel_rfl
def r171 : List AV × AV := ([.agg [.ro [.int .u32 180] 1], .agg [.ro [.int .u32 1] 1]], .tuple [.agg [.ro [.int .u32 180] 1], .agg [.e0], .bool true])
theorem r171_ok : rowOk cfg0 M0 3000 74 r171 = true := by kernel_rfl
def r172 : List AV × AV := ([.agg [.ro [.int .u32 5] 1]], .str [53])
theorem r172_ok : rowOk cfg0 M0 3000 71 r172 = true := by kernel_rfl
def r173 : List AV × AV := ([.agg [.ro [.int .u32 9] 1]], .str [57])
theorem r173_ok : rowOk cfg0 M0 3000 71 r173 = true := by kernel_rfl
def r174 : List AV × AV := ([.str [115, 112, 101, 101, 100], .str [97, 98, 99, 100, 101, 102, 103, 104, 105, 106, 107, 108, 109, 110, 111, 112, 113, 114, 115, 116, 117, 118, 119, 120, 121, 122, 48, 49, 50, 51, 52, 53, 54, 55, 56, 57]], .str [])
theorem r174_ok : rowOk cfg0 M0 3000 152 r174 = true := by kernel_rfl
def r175 : List AV × AV := ([.str [112, 101, 114], .str [97, 98, 99, 100, 101, 102, 103, 104, 105, 106, 107, 108, 109, 110, 111, 112, 113, 114, 115, 116, 117, 118, 119, 120, 121, 122, 48, 49, 50, 51, 52, 53, 54, 55, 56, 57]], .str [])
theorem r175_ok : rowOk cfg0 M0 3000 152 r175 = true := by kernel_rfl
def r176 : List AV × AV := ([.agg [.int .i64 0, .int .i64 (-1), .int .i64 0, .int .i64 0, .int .i64 0, .int .i64 0, .int .i64 0, .int .i64 0]], .bool true)
theorem r176_ok : rowOk cfg0 M0 3000 117 r176 = true := by kernel_rfl
def r177 : List AV × AV := ([.agg [.int .i64 1, .int .i64 (-1), .int .i64 0, .int .i64 0, .int .i64 0, .int .i64 0, .int .i64 0, .int .i64 0]], .bool true)
theorem r177_ok : rowOk cfg0 M0 3000 117 r177 = true := by kernel_rfl
def r178 : List AV × AV := ([.str [97, 114, 101, 97], .str [97, 98, 99, 100, 101, 102, 103, 104, 105, 106, 107, 108, 109, 110, 111, 112, 113, 114, 115, 116, 117, 118, 119, 120, 121, 122, 48, 49, 50, 51, 52, 53, 54, 55, 56, 57]], .str [])
theorem r178_ok : rowOk cfg0 M0 3000 152 r178 = true := by kernel_rfl
def r179 : List AV × AV := ([.str [115, 113, 117, 97, 114, 101], .str [97, 98, 99, 100, 101, 102, 103, 104, 105, 106, 107, 108, 109, 110, 111, 112, 113, 114, 115, 116, 117, 118, 119, 120, 121, 122, 48, 49, 50, 51, 52, 53, 54, 55, 56, 57]], .str [])
theorem r179_ok : rowOk cfg0 M0 3000 152 r179 = true := by kernel_rfl
def r180 : List AV × AV := ([.agg [.int .i64 2, .int .i64 0, .int .i64 0, .int .i64 0, .int .i64 0, .int .i64 0, .int .i64 0, .int .i64 0]], .bool true)
theorem r180_ok : rowOk cfg0 M0 3000 117 r180 = true := by kernel_rfl
def r181 : List AV × AV := ([.str [107, 112, 104], .str [48, 49, 50, 51, 52, 53, 54, 55, 56, 57]], .str [107, 112, 104])
theorem r181_ok : rowOk cfg0 M0 3000 152 r181 = true := by kernel_rfl
def r182 : List AV × AV := ([.str [107, 112, 104], .str [97, 98, 99, 100, 101, 102, 103, 104, 105, 106, 107, 108, 109, 110, 111, 112, 113, 114, 115, 116, 117, 118, 119, 120, 121, 122, 48, 49, 50, 51, 52, 53, 54, 55, 56, 57]], .str [])
theorem r182_ok : rowOk cfg0 M0 3000 152 r182 = true := by kernel_rfl
def r183 : List AV × AV := ([.str [107, 105, 108, 111, 109, 101, 116, 101, 114], .str [97, 98, 99, 100, 101, 102, 103, 104, 105, 106, 107, 108, 109, 110, 111, 112, 113, 114, 115, 116, 117, 118, 119, 120, 121, 122, 48, 49, 50, 51, 52, 53, 54, 55, 56, 57]], .str [])
theorem r183_ok : rowOk cfg0 M0 3000 152 r183 = true := by kernel_rfl
def r184 : List AV × AV := ([.str [107, 105, 108, 111, 109, 101, 116, 101, 114]], .int .i64 1)
theorem r184_ok : rowOk cfg0 M0 3000 233 r184 = true := by kernel_rfl
def r185 : List AV × AV := ([.str [109, 101, 116, 101, 114]], .bool true)
theorem r185_ok : rowOk cfg0 M0 3000 221 r185 = true := by kernel_rfl
def r186 : List AV × AV := ([.str [108, 101, 110, 103, 116, 104]], .bool true)
theorem r186_ok : rowOk cfg0 M0 3000 221 r186 = true := by kernel_rfl
def r187 : List AV × AV := ([.str [115, 101, 99, 111, 110, 100]], .bool true)
theorem r187_ok : rowOk cfg0 M0 3000 221 r187 = true := by kernel_rfl
def r188 : List AV × AV := ([.str [116, 105, 109, 101]], .bool true)
theorem r188_ok : rowOk cfg0 M0 3000 221 r188 = true := by kernel_rfl
def r189 : List AV × AV := ([.str [107, 101, 108, 118, 105, 110]], .bool true)
theorem r189_ok : rowOk cfg0 M0 3000 221 r189 = true := by kernel_rfl
def r190 : List AV × AV := ([.str [116, 101, 109, 112, 101, 114, 97, 116, 117, 114, 101]], .bool true)
theorem r190_ok : rowOk cfg0 M0 3000 221 r190 = true := by kernel_rfl
def r191 : List AV × AV := ([.str [107, 105, 108, 111]], .bool true)
theorem r191_ok : rowOk cfg0 M0 3000 221 r191 = true := by kernel_rfl
def r192 : List AV × AV := ([.int .i64 (-30)], .agg [.bool true, .ro [.int .i64 30] 1])
theorem r192_ok : rowOk cfg0 M0 3000 34 r192 = true := by kernel_rfl
def r193 : List AV × AV := ([.int .i64 (-29)], .agg [.bool true, .ro [.int .i64 29] 1])
theorem r193_ok : rowOk cfg0 M0 3000 34 r193 = true := by kernel_rfl
def r194 : List AV × AV := ([.int .i64 (-28)], .agg [.bool true, .ro [.int .i64 28] 1])
theorem r194_ok : rowOk cfg0 M0 3000 34 r194 = true := by kernel_rfl
def r195 : List AV × AV := ([.int .i64 (-27)], .agg [.bool true, .ro [.int .i64 27] 1])
theorem r195_ok : rowOk cfg0 M0 3000 34 r195 = true := by kernel_rfl
def r196 : List AV × AV := ([.int .i64 (-26)], .agg [.bool true, .ro [.int .i64 26] 1])
theorem r196_ok : rowOk cfg0 M0 3000 34 r196 = true := by kernel_rfl
def r197 : List AV × AV := ([.int .i64 (-25)], .agg [.bool true, .ro [.int .i64 25] 1])
theorem r197_ok : rowOk cfg0 M0 3000 34 r197 = true := by kernel_rfl
def r198 : List AV × AV := ([.int .i64 (-24)], .agg [.bool true, .ro [.int .i64 24] 1])
theorem r198_ok : rowOk cfg0 M0 3000 34 r198 = true := by kernel_rfl
def r199 : List AV × AV := ([.int .i64 (-23)], .agg [.bool true, .ro [.int .i64 23] 1])
theorem r199_ok : rowOk cfg0 M0 3000 34 r199 = true := by kernel_rfl
def r200 : List AV × AV := ([.int .i64 (-22)], .agg [.bool true, .ro [.int .i64 22] 1])
theorem r200_ok : rowOk cfg0 M0 3000 34 r200 = true := by kernel_rfl
def r201 : List AV × AV := ([.int .i64 (-21)], .agg [.bool true, .ro [.int .i64 21] 1])
theorem r201_ok : rowOk cfg0 M0 3000 34 r201 = true := by kernel_rfl
def r202 : List AV × AV := ([.int .i64 (-20)], .agg [.bool true, .ro [.int .i64 20] 1])
theorem r202_ok : rowOk cfg0 M0 3000 34 r202 = true := by kernel_rfl
def r203 : List AV × AV := ([.int .i64 (-19)], .agg [.bool true, .ro [.int .i64 19] 1])
theorem r203_ok : rowOk cfg0 M0 3000 34 r203 = true := by kernel_rfl
def r204 : List AV × AV := ([.int .i64 (-18)], .agg [.bool true, .ro [.int .i64 18] 1])
theorem r204_ok : rowOk cfg0 M0 3000 34 r204 = true := by kernel_rfl
def r205 : List AV × AV := ([.int .i64 (-17)], .agg [.bool true, .ro [.int .i64 17] 1])
theorem r205_ok : rowOk cfg0 M0 3000 34 r205 = true := by kernel_rfl
def r206 : List AV × AV := ([.int .i64 (-16)], .agg [.bool true, .ro [.int .i64 16] 1])
theorem r206_ok : rowOk cfg0 M0 3000 34 r206 = true := by kernel_rfl
def r207 : List AV × AV := ([.int .i64 (-15)], .agg [.bool true, .ro [.int .i64 15] 1])
theorem r207_ok : rowOk cfg0 M0 3000 34 r207 = true := by kernel_rfl
def r208 : List AV × AV := ([.int .i64 (-14)], .agg [.bool true, .ro [.int .i64 14] 1])
theorem r208_ok : rowOk cfg0 M0 3000 34 r208 = true := by kernel_rfl
def r209 : List AV × AV := ([.int .i64 (-13)], .agg [.bool true, .ro [.int .i64 13] 1])
theorem r209_ok : rowOk cfg0 M0 3000 34 r209 = true := by kernel_rfl
def r210 : List AV × AV := ([.int .i64 (-12)], .agg [.bool true, .ro [.int .i64 12] 1])
theorem r210_ok : rowOk cfg0 M0 3000 34 r210 = true := by kernel_rfl
def r211 : List AV × AV := ([.int .i64 (-11)], .agg [.bool true, .ro [.int .i64 11] 1])
theorem r211_ok : rowOk cfg0 M0 3000 34 r211 = true := by kernel_rfl
def r212 : List AV × AV := ([.int .i64 (-10)], .agg [.bool true, .ro [.int .i64 10] 1])
theorem r212_ok : rowOk cfg0 M0 3000 34 r212 = true := by kernel_rfl
def r213 : List AV × AV := ([.int .i64 (-9)], .agg [.bool true, .ro [.int .i64 9] 1])
theorem r213_ok : rowOk cfg0 M0 3000 34 r213 = true := by kernel_rfl
def r214 : List AV × AV := ([.int .i64 (-8)], .agg [.bool true, .ro [.int .i64 8] 1])
theorem r214_ok : rowOk cfg0 M0 3000 34 r214 = true := by kernel_rfl
def r215 : List AV × AV := ([.int .i64 (-7)], .agg [.bool true, .ro [.int .i64 7] 1])
theorem r215_ok : rowOk cfg0 M0 3000 34 r215 = true := by kernel_rfl
def r216 : List AV × AV := ([.int .i64 (-6)], .agg [.bool true, .ro [.int .i64 6] 1])
theorem r216_ok : rowOk cfg0 M0 3000 34 r216 = true := by kernel_rfl
def r217 : List AV × AV := ([.int .i64 (-5)], .agg [.bool true, .ro [.int .i64 5] 1])
theorem r217_ok : rowOk cfg0 M0 3000 34 r217 = true := by kernel_rfl
def r218 : List AV × AV := ([.int .i64 (-4)], .agg [.bool true, .ro [.int .i64 4] 1])
theorem r218_ok : rowOk cfg0 M0 3000 34 r218 = true := by kernel_rfl
def r219 : List AV × AV := ([.int .i64 (-3)], .agg [.bool true, .ro [.int .i64 3] 1])
theorem r219_ok : rowOk cfg0 M0 3000 34 r219 = true := by kernel_rfl
def r220 : List AV × AV := ([.int .i64 (-2)], .agg [.bool true, .ro [.int .i64 2] 1])
theorem r220_ok : rowOk cfg0 M0 3000 34 r220 = true := by kernel_rfl
def r221 : List AV × AV := ([.int .i64 (-1)], .agg [.bool true, .ro [.int .i64 1] 1])
theorem r221_ok : rowOk cfg0 M0 3000 34 r221 = true := by kernel_rfl
def r222 : List AV × AV := ([.ro [.int .i64 1] 1, .ro [.int .i64 10] 1], .ro [.int .i64 10] 1)
theorem r222_ok : rowOk cfg0 M0 3000 85 r222 = true := by kernel_rfl
def r223 : List AV × AV := ([.ro [.int .i64 1] 1, .ro [.int .i64 1] 1], .ro [.int .i64 1] 1)
theorem r223_ok : rowOk cfg0 M0 3000 85 r223 = true := by kernel_rfl
def r224 : List AV × AV := ([.ro [.int .i64 1] 1, .ro [.int .i64 5000] 1], .ro [.int .i64 5000] 1)
theorem r224_ok : rowOk cfg0 M0 3000 85 r224 = true := by kernel_rfl
def r225 : List AV × AV := ([.ro [.int .i64 1] 1, .ro [.int .i64 2500] 1], .ro [.int .i64 2500] 1)
theorem r225_ok : rowOk cfg0 M0 3000 85 r225 = true := by kernel_rfl
def r226 : List AV × AV := ([.ro [.int .i64 1] 1, .ro [.int .i64 1250] 1], .ro [.int .i64 1250] 1)
theorem r226_ok : rowOk cfg0 M0 3000 85 r226 = true := by kernel_rfl
def r227 : List AV × AV := ([.ro [.int .i64 1] 1, .ro [.int .i64 625] 1], .ro [.int .i64 625] 1)
theorem r227_ok : rowOk cfg0 M0 3000 85 r227 = true := by kernel_rfl
def r228 : List AV × AV := ([.ro [.int .i64 1] 1, .ro [.int .i64 312] 1], .ro [.int .i64 312] 1)
theorem r228_ok : rowOk cfg0 M0 3000 85 r228 = true := by kernel_rfl
def r229 : List AV × AV := ([.ro [.int .i64 1] 1, .ro [.int .i64 156] 1], .ro [.int .i64 156] 1)
theorem r229_ok : rowOk cfg0 M0 3000 85 r229 = true := by kernel_rfl
def r230 : List AV × AV := ([.ro [.int .i64 1] 1, .ro [.int .i64 78] 1], .ro [.int .i64 78] 1)
theorem r230_ok : rowOk cfg0 M0 3000 85 r230 = true := by kernel_rfl
def r231 : List AV × AV := ([.ro [.int .i64 1] 1, .ro [.int .i64 39] 1], .ro [.int .i64 39] 1)
theorem r231_ok : rowOk cfg0 M0 3000 85 r231 = true := by kernel_rfl
def r232 : List AV × AV := ([.ro [.int .i64 1] 1, .ro [.int .i64 19] 1], .ro [.int .i64 19] 1)
theorem r232_ok : rowOk cfg0 M0 3000 85 r232 = true := by kernel_rfl
def r233 : List AV × AV := ([.ro [.int .i64 1] 1, .ro [.int .i64 9] 1], .ro [.int .i64 9] 1)
theorem r233_ok : rowOk cfg0 M0 3000 85 r233 = true := by kernel_rfl
def r234 : List AV × AV := ([.ro [.int .i64 1] 1, .ro [.int .i64 14] 1], .ro [.int .i64 14] 1)
theorem r234_ok : rowOk cfg0 M0 3000 85 r234 = true := by kernel_rfl
def r235 : List AV × AV := ([.ro [.int .i64 1] 1, .ro [.int .i64 11] 1], .ro [.int .i64 11] 1)
theorem r235_ok : rowOk cfg0 M0 3000 85 r235 = true := by kernel_rfl
def r236 : List AV × AV := ([.ro [.int .i64 1] 1, .ro [.int .i64 4] 1], .ro [.int .i64 4] 1)
theorem r236_ok : rowOk cfg0 M0 3000 85 r236 = true := by kernel_rfl
def r237 : List AV × AV := ([.ro [.int .i64 1] 1, .ro [.int .i64 2] 1], .ro [.int .i64 2] 1)
theorem r237_ok : rowOk cfg0 M0 3000 85 r237 = true := by kernel_rfl
def r238 : List AV × AV := ([.ro [.int .i64 10] 1, .ro [.int .i64 10] 1], .ro [.int .i64 100] 1)
theorem r238_ok : rowOk cfg0 M0 3000 85 r238 = true := by kernel_rfl
def r239 : List AV × AV := ([.ro [.int .i64 1] 1, .ro [.int .i64 117] 1], .ro [.int .i64 117] 1)
theorem r239_ok : rowOk cfg0 M0 3000 85 r239 = true := by kernel_rfl
def r240 : List AV × AV := ([.ro [.int .i64 1] 1, .ro [.int .i64 97] 1], .ro [.int .i64 97] 1)
theorem r240_ok : rowOk cfg0 M0 3000 85 r240 = true := by kernel_rfl
def r241 : List AV × AV := ([.ro [.int .i64 1] 1, .ro [.int .i64 107] 1], .ro [.int .i64 107] 1)
theorem r241_ok : rowOk cfg0 M0 3000 85 r241 = true := by kernel_rfl
def r242 : List AV × AV := ([.ro [.int .i64 1] 1, .ro [.int .i64 102] 1], .ro [.int .i64 102] 1)
theorem r242_ok : rowOk cfg0 M0 3000 85 r242 = true := by kernel_rfl
def r243 : List AV × AV := ([.ro [.int .i64 1] 1, .ro [.int .i64 99] 1], .ro [.int .i64 99] 1)
theorem r243_ok : rowOk cfg0 M0 3000 85 r243 = true := by kernel_rfl
def r244 : List AV × AV := ([.ro [.int .i64 1] 1, .ro [.int .i64 100] 1], .ro [.int .i64 100] 1)
theorem r244_ok : rowOk cfg0 M0 3000 85 r244 = true := by kernel_rfl
def r245 : List AV × AV := ([.ro [.int .i64 1] 1, .ro [.int .i64 101] 1], .ro [.int .i64 101] 1)
theorem r245_ok : rowOk cfg0 M0 3000 85 r245 = true := by kernel_rfl
def r246 : List AV × AV := ([.ro [.int .i64 100] 1, .ro [.int .i64 10] 1], .ro [.int .i64 1000] 1)
theorem r246_ok : rowOk cfg0 M0 3000 85 r246 = true := by kernel_rfl
def r247 : List AV × AV := ([.ro [.int .i64 1] 1, .ro [.int .i64 937] 1], .ro [.int .i64 937] 1)
theorem r247_ok : rowOk cfg0 M0 3000 85 r247 = true := by kernel_rfl
def r248 : List AV × AV := ([.ro [.int .i64 1] 1, .ro [.int .i64 1093] 1], .ro [.int .i64 1093] 1)
theorem r248_ok : rowOk cfg0 M0 3000 85 r248 = true := by kernel_rfl
def r249 : List AV × AV := ([.ro [.int .i64 1] 1, .ro [.int .i64 1015] 1], .ro [.int .i64 1015] 1)
theorem r249_ok : rowOk cfg0 M0 3000 85 r249 = true := by kernel_rfl
def r250 : List AV × AV := ([.ro [.int .i64 1] 1, .ro [.int .i64 976] 1], .ro [.int .i64 976] 1)
theorem r250_ok : rowOk cfg0 M0 3000 85 r250 = true := by kernel_rfl
def r251 : List AV × AV := ([.ro [.int .i64 1] 1, .ro [.int .i64 995] 1], .ro [.int .i64 995] 1)
theorem r251_ok : rowOk cfg0 M0 3000 85 r251 = true := by kernel_rfl
def r252 : List AV × AV := ([.ro [.int .i64 1] 1, .ro [.int .i64 1005] 1], .ro [.int .i64 1005] 1)
theorem r252_ok : rowOk cfg0 M0 3000 85 r252 = true := by kernel_rfl
def r253 : List AV × AV := ([.ro [.int .i64 1] 1, .ro [.int .i64 1000] 1], .ro [.int .i64 1000] 1)
theorem r253_ok : rowOk cfg0 M0 3000 85 r253 = true := by kernel_rfl
def r254 : List AV × AV := ([.ro [.int .i64 1] 1, .ro [.int .i64 1002] 1], .ro [.int .i64 1002] 1)
theorem r254_ok : rowOk cfg0 M0 3000 85 r254 = true := by kernel_rfl
def r255 : List AV × AV := ([.ro [.int .i64 1] 1, .ro [.int .i64 1001] 1], .ro [.int .i64 1001] 1)
theorem r255_ok : rowOk cfg0 M0 3000 85 r255 = true := by kernel_rfl
def r256 : List AV × AV := ([.str [109, 105, 108, 108, 105]], .bool true)
theorem r256_ok : rowOk cfg0 M0 3000 221 r256 = true := by kernel_rfl
def r257 : List AV × AV := ([.ro [.int .i64 10] 1, .ro [.int .i64 5000] 1], .ro [.int .i64 0, .int .i64 5] 2)
theorem r257_ok : rowOk cfg0 M0 3000 85 r257 = true := by kernel_rfl
def r258 : List AV × AV := ([.ro [.int .i64 10] 1, .ro [.int .i64 2500] 1], .ro [.int .i64 5000, .int .i64 2] 2)
theorem r258_ok : rowOk cfg0 M0 3000 85 r258 = true := by kernel_rfl
def r259 : List AV × AV := ([.ro [.int .i64 10] 1, .ro [.int .i64 1250] 1], .ro [.int .i64 2500, .int .i64 1] 2)
theorem r259_ok : rowOk cfg0 M0 3000 85 r259 = true := by kernel_rfl
def r260 : List AV × AV := ([.ro [.int .i64 10] 1, .ro [.int .i64 625] 1], .ro [.int .i64 6250] 1)
theorem r260_ok : rowOk cfg0 M0 3000 85 r260 = true := by kernel_rfl
def r261 : List AV × AV := ([.ro [.int .i64 10] 1, .ro [.int .i64 312] 1], .ro [.int .i64 3120] 1)
theorem r261_ok : rowOk cfg0 M0 3000 85 r261 = true := by kernel_rfl
def r262 : List AV × AV := ([.ro [.int .i64 10] 1, .ro [.int .i64 156] 1], .ro [.int .i64 1560] 1)
theorem r262_ok : rowOk cfg0 M0 3000 85 r262 = true := by kernel_rfl
def r263 : List AV × AV := ([.ro [.int .i64 10] 1, .ro [.int .i64 78] 1], .ro [.int .i64 780] 1)
theorem r263_ok : rowOk cfg0 M0 3000 85 r263 = true := by kernel_rfl
def r264 : List AV × AV := ([.ro [.int .i64 10] 1, .ro [.int .i64 39] 1], .ro [.int .i64 390] 1)
theorem r264_ok : rowOk cfg0 M0 3000 85 r264 = true := by kernel_rfl
def r265 : List AV × AV := ([.ro [.int .i64 10] 1, .ro [.int .i64 19] 1], .ro [.int .i64 190] 1)
theorem r265_ok : rowOk cfg0 M0 3000 85 r265 = true := by kernel_rfl
def r266 : List AV × AV := ([.ro [.int .i64 10] 1, .ro [.int .i64 9] 1], .ro [.int .i64 90] 1)
theorem r266_ok : rowOk cfg0 M0 3000 85 r266 = true := by kernel_rfl
def r267 : List AV × AV := ([.ro [.int .i64 10] 1, .ro [.int .i64 4] 1], .ro [.int .i64 40] 1)
theorem r267_ok : rowOk cfg0 M0 3000 85 r267 = true := by kernel_rfl
def r268 : List AV × AV := ([.ro [.int .i64 10] 1, .ro [.int .i64 2] 1], .ro [.int .i64 20] 1)
theorem r268_ok : rowOk cfg0 M0 3000 85 r268 = true := by kernel_rfl
def r269 : List AV × AV := ([.ro [.int .i64 10] 1, .ro [.int .i64 1] 1], .ro [.int .i64 10] 1)
theorem r269_ok : rowOk cfg0 M0 3000 85 r269 = true := by kernel_rfl
def r270 : List AV × AV := ([.ro [.int .i64 100] 1, .ro [.int .i64 5000] 1], .ro [.int .i64 0, .int .i64 50] 2)
theorem r270_ok : rowOk cfg0 M0 3000 85 r270 = true := by kernel_rfl
def r271 : List AV × AV := ([.ro [.int .i64 100] 1, .ro [.int .i64 2500] 1], .ro [.int .i64 0, .int .i64 25] 2)
theorem r271_ok : rowOk cfg0 M0 3000 85 r271 = true := by kernel_rfl
def r272 : List AV × AV := ([.ro [.int .i64 100] 1, .ro [.int .i64 1250] 1], .ro [.int .i64 5000, .int .i64 12] 2)
theorem r272_ok : rowOk cfg0 M0 3000 85 r272 = true := by kernel_rfl
def r273 : List AV × AV := ([.ro [.int .i64 100] 1, .ro [.int .i64 625] 1], .ro [.int .i64 2500, .int .i64 6] 2)
theorem r273_ok : rowOk cfg0 M0 3000 85 r273 = true := by kernel_rfl
def r274 : List AV × AV := ([.ro [.int .i64 100] 1, .ro [.int .i64 312] 1], .ro [.int .i64 1200, .int .i64 3] 2)
theorem r274_ok : rowOk cfg0 M0 3000 85 r274 = true := by kernel_rfl
def r275 : List AV × AV := ([.ro [.int .i64 100] 1, .ro [.int .i64 156] 1], .ro [.int .i64 5600, .int .i64 1] 2)
theorem r275_ok : rowOk cfg0 M0 3000 85 r275 = true := by kernel_rfl
def r276 : List AV × AV := ([.ro [.int .i64 100] 1, .ro [.int .i64 78] 1], .ro [.int .i64 7800] 1)
theorem r276_ok : rowOk cfg0 M0 3000 85 r276 = true := by kernel_rfl
def r277 : List AV × AV := ([.ro [.int .i64 100] 1, .ro [.int .i64 39] 1], .ro [.int .i64 3900] 1)
theorem r277_ok : rowOk cfg0 M0 3000 85 r277 = true := by kernel_rfl
def r278 : List AV × AV := ([.ro [.int .i64 100] 1, .ro [.int .i64 19] 1], .ro [.int .i64 1900] 1)
theorem r278_ok : rowOk cfg0 M0 3000 85 r278 = true := by kernel_rfl
def r279 : List AV × AV := ([.ro [.int .i64 100] 1, .ro [.int .i64 9] 1], .ro [.int .i64 900] 1)
theorem r279_ok : rowOk cfg0 M0 3000 85 r279 = true := by kernel_rfl
def r280 : List AV × AV := ([.ro [.int .i64 100] 1, .ro [.int .i64 4] 1], .ro [.int .i64 400] 1)
theorem r280_ok : rowOk cfg0 M0 3000 85 r280 = true := by kernel_rfl
def r281 : List AV × AV := ([.ro [.int .i64 100] 1, .ro [.int .i64 2] 1], .ro [.int .i64 200] 1)
theorem r281_ok : rowOk cfg0 M0 3000 85 r281 = true := by kernel_rfl
def r282 : List AV × AV := ([.ro [.int .i64 100] 1, .ro [.int .i64 1] 1], .ro [.int .i64 100] 1)
theorem r282_ok : rowOk cfg0 M0 3000 85 r282 = true := by kernel_rfl
def r283 : List AV × AV := ([.ro [.int .i64 1000] 1, .ro [.int .i64 5000] 1], .ro [.int .i64 0, .int .i64 500] 2)
theorem r283_ok : rowOk cfg0 M0 3000 85 r283 = true := by kernel_rfl
def r284 : List AV × AV := ([.ro [.int .i64 1000] 1, .ro [.int .i64 2500] 1], .ro [.int .i64 0, .int .i64 250] 2)
theorem r284_ok : rowOk cfg0 M0 3000 85 r284 = true := by kernel_rfl
def r285 : List AV × AV := ([.ro [.int .i64 1000] 1, .ro [.int .i64 1250] 1], .ro [.int .i64 0, .int .i64 125] 2)
theorem r285_ok : rowOk cfg0 M0 3000 85 r285 = true := by kernel_rfl
def r286 : List AV × AV := ([.ro [.int .i64 1000] 1, .ro [.int .i64 625] 1], .ro [.int .i64 5000, .int .i64 62] 2)
theorem r286_ok : rowOk cfg0 M0 3000 85 r286 = true := by kernel_rfl
def r287 : List AV × AV := ([.ro [.int .i64 1000] 1, .ro [.int .i64 312] 1], .ro [.int .i64 2000, .int .i64 31] 2)
theorem r287_ok : rowOk cfg0 M0 3000 85 r287 = true := by kernel_rfl
def r288 : List AV × AV := ([.ro [.int .i64 1000] 1, .ro [.int .i64 156] 1], .ro [.int .i64 6000, .int .i64 15] 2)
theorem r288_ok : rowOk cfg0 M0 3000 85 r288 = true := by kernel_rfl
def r289 : List AV × AV := ([.ro [.int .i64 1000] 1, .ro [.int .i64 78] 1], .ro [.int .i64 8000, .int .i64 7] 2)
theorem r289_ok : rowOk cfg0 M0 3000 85 r289 = true := by kernel_rfl
def r290 : List AV × AV := ([.ro [.int .i64 1000] 1, .ro [.int .i64 39] 1], .ro [.int .i64 9000, .int .i64 3] 2)
theorem r290_ok : rowOk cfg0 M0 3000 85 r290 = true := by kernel_rfl
def r291 : List AV × AV := ([.ro [.int .i64 1000] 1, .ro [.int .i64 19] 1], .ro [.int .i64 9000, .int .i64 1] 2)
theorem r291_ok : rowOk cfg0 M0 3000 85 r291 = true := by kernel_rfl
def r292 : List AV × AV := ([.ro [.int .i64 1000] 1, .ro [.int .i64 9] 1], .ro [.int .i64 9000] 1)
theorem r292_ok : rowOk cfg0 M0 3000 85 r292 = true := by kernel_rfl
def r293 : List AV × AV := ([.ro [.int .i64 1000] 1, .ro [.int .i64 4] 1], .ro [.int .i64 4000] 1)
theorem r293_ok : rowOk cfg0 M0 3000 85 r293 = true := by kernel_rfl
def r294 : List AV × AV := ([.ro [.int .i64 1000] 1, .ro [.int .i64 2] 1], .ro [.int .i64 2000] 1)
theorem r294_ok : rowOk cfg0 M0 3000 85 r294 = true := by kernel_rfl
def r295 : List AV × AV := ([.ro [.int .i64 1000] 1, .ro [.int .i64 1] 1], .ro [.int .i64 1000] 1)
theorem r295_ok : rowOk cfg0 M0 3000 85 r295 = true := by kernel_rfl
def r296 : List AV × AV := ([.str [102, 111, 111, 116]], .bool true)
theorem r296_ok : rowOk cfg0 M0 3000 221 r296 = true := by kernel_rfl
def r297 : List AV × AV := ([.str [51, 56, 49]], .tuple [.ro [.int .i64 381] 1, .bool true])
theorem r297_ok : rowOk cfg0 M0 3000 225 r297 = true := by kernel_rfl
def r298 : List AV × AV := ([.str [49, 50, 53, 48]], .tuple [.ro [.int .i64 1250] 1, .bool true])
theorem r298_ok : rowOk cfg0 M0 3000 225 r298 = true := by kernel_rfl
def r299 : List AV × AV := ([.ro [.int .i64 1250] 1, .ro [.int .i64 5000] 1], .ro [.int .i64 0, .int .i64 625] 2)
theorem r299_ok : rowOk cfg0 M0 3000 85 r299 = true := by kernel_rfl
def r300 : List AV × AV := ([.ro [.int .i64 1250] 1, .ro [.int .i64 2500] 1], .ro [.int .i64 5000, .int .i64 312] 2)
theorem r300_ok : rowOk cfg0 M0 3000 85 r300 = true := by kernel_rfl
def r301 : List AV × AV := ([.ro [.int .i64 1250] 1, .ro [.int .i64 1250] 1], .ro [.int .i64 2500, .int .i64 156] 2)
theorem r301_ok : rowOk cfg0 M0 3000 85 r301 = true := by kernel_rfl
def r302 : List AV × AV := ([.ro [.int .i64 1250] 1, .ro [.int .i64 625] 1], .ro [.int .i64 1250, .int .i64 78] 2)
theorem r302_ok : rowOk cfg0 M0 3000 85 r302 = true := by kernel_rfl
def r303 : List AV × AV := ([.ro [.int .i64 1250] 1, .ro [.int .i64 312] 1], .ro [.int .i64 0, .int .i64 39] 2)
theorem r303_ok : rowOk cfg0 M0 3000 85 r303 = true := by kernel_rfl
def r304 : List AV × AV := ([.ro [.int .i64 1250] 1, .ro [.int .i64 156] 1], .ro [.int .i64 5000, .int .i64 19] 2)
theorem r304_ok : rowOk cfg0 M0 3000 85 r304 = true := by kernel_rfl
def r305 : List AV × AV := ([.ro [.int .i64 1250] 1, .ro [.int .i64 78] 1], .ro [.int .i64 7500, .int .i64 9] 2)
theorem r305_ok : rowOk cfg0 M0 3000 85 r305 = true := by kernel_rfl
def r306 : List AV × AV := ([.ro [.int .i64 1250] 1, .ro [.int .i64 39] 1], .ro [.int .i64 8750, .int .i64 4] 2)
theorem r306_ok : rowOk cfg0 M0 3000 85 r306 = true := by kernel_rfl
def r307 : List AV × AV := ([.ro [.int .i64 1250] 1, .ro [.int .i64 19] 1], .ro [.int .i64 3750, .int .i64 2] 2)
theorem r307_ok : rowOk cfg0 M0 3000 85 r307 = true := by kernel_rfl
def r308 : List AV × AV := ([.ro [.int .i64 1250] 1, .ro [.int .i64 9] 1], .ro [.int .i64 1250, .int .i64 1] 2)
theorem r308_ok : rowOk cfg0 M0 3000 85 r308 = true := by kernel_rfl
def r309 : List AV × AV := ([.ro [.int .i64 1250] 1, .ro [.int .i64 4] 1], .ro [.int .i64 5000] 1)
theorem r309_ok : rowOk cfg0 M0 3000 85 r309 = true := by kernel_rfl
def r310 : List AV × AV := ([.ro [.int .i64 1250] 1, .ro [.int .i64 2] 1], .ro [.int .i64 2500] 1)
theorem r310_ok : rowOk cfg0 M0 3000 85 r310 = true := by kernel_rfl
def r311 : List AV × AV := ([.ro [.int .i64 1250] 1, .ro [.int .i64 1] 1], .ro [.int .i64 1250] 1)
theorem r311_ok : rowOk cfg0 M0 3000 85 r311 = true := by kernel_rfl
def r312 : List AV × AV := ([.ro [.int .i64 381] 1, .ro [.int .i64 5000] 1], .ro [.int .i64 5000, .int .i64 190] 2)
theorem r312_ok : rowOk cfg0 M0 3000 85 r312 = true := by kernel_rfl
def r313 : List AV × AV := ([.ro [.int .i64 381] 1, .ro [.int .i64 2500] 1], .ro [.int .i64 2500, .int .i64 95] 2)
theorem r313_ok : rowOk cfg0 M0 3000 85 r313 = true := by kernel_rfl
def r314 : List AV × AV := ([.ro [.int .i64 381] 1, .ro [.int .i64 1250] 1], .ro [.int .i64 6250, .int .i64 47] 2)
theorem r314_ok : rowOk cfg0 M0 3000 85 r314 = true := by kernel_rfl
def r315 : List AV × AV := ([.ro [.int .i64 381] 1, .ro [.int .i64 625] 1], .ro [.int .i64 8125, .int .i64 23] 2)
theorem r315_ok : rowOk cfg0 M0 3000 85 r315 = true := by kernel_rfl
def r316 : List AV × AV := ([.ro [.int .i64 381] 1, .ro [.int .i64 312] 1], .ro [.int .i64 8872, .int .i64 11] 2)
theorem r316_ok : rowOk cfg0 M0 3000 85 r316 = true := by kernel_rfl
def r317 : List AV × AV := ([.ro [.int .i64 381] 1, .ro [.int .i64 156] 1], .ro [.int .i64 9436, .int .i64 5] 2)
theorem r317_ok : rowOk cfg0 M0 3000 85 r317 = true := by kernel_rfl
def r318 : List AV × AV := ([.ro [.int .i64 381] 1, .ro [.int .i64 78] 1], .ro [.int .i64 9718, .int .i64 2] 2)
theorem r318_ok : rowOk cfg0 M0 3000 85 r318 = true := by kernel_rfl
def r319 : List AV × AV := ([.ro [.int .i64 381] 1, .ro [.int .i64 39] 1], .ro [.int .i64 4859, .int .i64 1] 2)
theorem r319_ok : rowOk cfg0 M0 3000 85 r319 = true := by kernel_rfl
def r320 : List AV × AV := ([.ro [.int .i64 381] 1, .ro [.int .i64 19] 1], .ro [.int .i64 7239] 1)
theorem r320_ok : rowOk cfg0 M0 3000 85 r320 = true := by kernel_rfl
def r321 : List AV × AV := ([.ro [.int .i64 381] 1, .ro [.int .i64 9] 1], .ro [.int .i64 3429] 1)
theorem r321_ok : rowOk cfg0 M0 3000 85 r321 = true := by kernel_rfl
def r322 : List AV × AV := ([.ro [.int .i64 381] 1, .ro [.int .i64 4] 1], .ro [.int .i64 1524] 1)
theorem r322_ok : rowOk cfg0 M0 3000 85 r322 = true := by kernel_rfl
def r323 : List AV × AV := ([.ro [.int .i64 381] 1, .ro [.int .i64 2] 1], .ro [.int .i64 762] 1)
theorem r323_ok : rowOk cfg0 M0 3000 85 r323 = true := by kernel_rfl
def r324 : List AV × AV := ([.ro [.int .i64 381] 1, .ro [.int .i64 3] 1], .ro [.int .i64 1143] 1)
theorem r324_ok : rowOk cfg0 M0 3000 85 r324 = true := by kernel_rfl
def r325 : List AV × AV := ([.ro [.int .i64 107] 1, .ro [.int .i64 5000] 1], .ro [.int .i64 5000, .int .i64 53] 2)
theorem r325_ok : rowOk cfg0 M0 3000 85 r325 = true := by kernel_rfl
def r326 : List AV × AV := ([.ro [.int .i64 107] 1, .ro [.int .i64 2500] 1], .ro [.int .i64 7500, .int .i64 26] 2)
theorem r326_ok : rowOk cfg0 M0 3000 85 r326 = true := by kernel_rfl
def r327 : List AV × AV := ([.ro [.int .i64 107] 1, .ro [.int .i64 1250] 1], .ro [.int .i64 3750, .int .i64 13] 2)
theorem r327_ok : rowOk cfg0 M0 3000 85 r327 = true := by kernel_rfl
def r328 : List AV × AV := ([.ro [.int .i64 107] 1, .ro [.int .i64 625] 1], .ro [.int .i64 6875, .int .i64 6] 2)
theorem r328_ok : rowOk cfg0 M0 3000 85 r328 = true := by kernel_rfl
def r329 : List AV × AV := ([.ro [.int .i64 107] 1, .ro [.int .i64 312] 1], .ro [.int .i64 3384, .int .i64 3] 2)
theorem r329_ok : rowOk cfg0 M0 3000 85 r329 = true := by kernel_rfl
def r330 : List AV × AV := ([.ro [.int .i64 107] 1, .ro [.int .i64 156] 1], .ro [.int .i64 6692, .int .i64 1] 2)
theorem r330_ok : rowOk cfg0 M0 3000 85 r330 = true := by kernel_rfl
def r331 : List AV × AV := ([.ro [.int .i64 107] 1, .ro [.int .i64 78] 1], .ro [.int .i64 8346] 1)
theorem r331_ok : rowOk cfg0 M0 3000 85 r331 = true := by kernel_rfl
def r332 : List AV × AV := ([.ro [.int .i64 107] 1, .ro [.int .i64 39] 1], .ro [.int .i64 4173] 1)
theorem r332_ok : rowOk cfg0 M0 3000 85 r332 = true := by kernel_rfl
def r333 : List AV × AV := ([.ro [.int .i64 107] 1, .ro [.int .i64 19] 1], .ro [.int .i64 2033] 1)
theorem r333_ok : rowOk cfg0 M0 3000 85 r333 = true := by kernel_rfl
def r334 : List AV × AV := ([.ro [.int .i64 107] 1, .ro [.int .i64 9] 1], .ro [.int .i64 963] 1)
theorem r334_ok : rowOk cfg0 M0 3000 85 r334 = true := by kernel_rfl
def r335 : List AV × AV := ([.ro [.int .i64 107] 1, .ro [.int .i64 4] 1], .ro [.int .i64 428] 1)
theorem r335_ok : rowOk cfg0 M0 3000 85 r335 = true := by kernel_rfl
def r336 : List AV × AV := ([.ro [.int .i64 107] 1, .ro [.int .i64 2] 1], .ro [.int .i64 214] 1)
theorem r336_ok : rowOk cfg0 M0 3000 85 r336 = true := by kernel_rfl
def r337 : List AV × AV := ([.ro [.int .i64 107] 1, .ro [.int .i64 3] 1], .ro [.int .i64 321] 1)
theorem r337_ok : rowOk cfg0 M0 3000 85 r337 = true := by kernel_rfl
def r338 : List AV × AV := ([.ro [.int .i64 60] 1, .ro [.int .i64 5000] 1], .ro [.int .i64 0, .int .i64 30] 2)
theorem r338_ok : rowOk cfg0 M0 3000 85 r338 = true := by kernel_rfl
def r339 : List AV × AV := ([.ro [.int .i64 60] 1, .ro [.int .i64 2500] 1], .ro [.int .i64 0, .int .i64 15] 2)
theorem r339_ok : rowOk cfg0 M0 3000 85 r339 = true := by kernel_rfl
def r340 : List AV × AV := ([.ro [.int .i64 60] 1, .ro [.int .i64 1250] 1], .ro [.int .i64 5000, .int .i64 7] 2)
theorem r340_ok : rowOk cfg0 M0 3000 85 r340 = true := by kernel_rfl
def r341 : List AV × AV := ([.ro [.int .i64 60] 1, .ro [.int .i64 625] 1], .ro [.int .i64 7500, .int .i64 3] 2)
theorem r341_ok : rowOk cfg0 M0 3000 85 r341 = true := by kernel_rfl
def r342 : List AV × AV := ([.ro [.int .i64 60] 1, .ro [.int .i64 312] 1], .ro [.int .i64 8720, .int .i64 1] 2)
theorem r342_ok : rowOk cfg0 M0 3000 85 r342 = true := by kernel_rfl
def r343 : List AV × AV := ([.ro [.int .i64 60] 1, .ro [.int .i64 156] 1], .ro [.int .i64 9360] 1)
theorem r343_ok : rowOk cfg0 M0 3000 85 r343 = true := by kernel_rfl
def r344 : List AV × AV := ([.ro [.int .i64 60] 1, .ro [.int .i64 78] 1], .ro [.int .i64 4680] 1)
theorem r344_ok : rowOk cfg0 M0 3000 85 r344 = true := by kernel_rfl
def r345 : List AV × AV := ([.ro [.int .i64 60] 1, .ro [.int .i64 39] 1], .ro [.int .i64 2340] 1)
theorem r345_ok : rowOk cfg0 M0 3000 85 r345 = true := by kernel_rfl
def r346 : List AV × AV := ([.ro [.int .i64 60] 1, .ro [.int .i64 19] 1], .ro [.int .i64 1140] 1)
theorem r346_ok : rowOk cfg0 M0 3000 85 r346 = true := by kernel_rfl
def r347 : List AV × AV := ([.ro [.int .i64 60] 1, .ro [.int .i64 9] 1], .ro [.int .i64 540] 1)
theorem r347_ok : rowOk cfg0 M0 3000 85 r347 = true := by kernel_rfl
def r348 : List AV × AV := ([.ro [.int .i64 60] 1, .ro [.int .i64 4] 1], .ro [.int .i64 240] 1)
theorem r348_ok : rowOk cfg0 M0 3000 85 r348 = true := by kernel_rfl
def r349 : List AV × AV := ([.ro [.int .i64 60] 1, .ro [.int .i64 2] 1], .ro [.int .i64 120] 1)
theorem r349_ok : rowOk cfg0 M0 3000 85 r349 = true := by kernel_rfl
def r350 : List AV × AV := ([.ro [.int .i64 60] 1, .ro [.int .i64 1] 1], .ro [.int .i64 60] 1)
theorem r350_ok : rowOk cfg0 M0 3000 85 r350 = true := by kernel_rfl
def r351 : List AV × AV := ([.ro [.int .i64 47] 1, .ro [.int .i64 5000] 1], .ro [.int .i64 5000, .int .i64 23] 2)
theorem r351_ok : rowOk cfg0 M0 3000 85 r351 = true := by kernel_rfl
def r352 : List AV × AV := ([.ro [.int .i64 47] 1, .ro [.int .i64 2500] 1], .ro [.int .i64 7500, .int .i64 11] 2)
theorem r352_ok : rowOk cfg0 M0 3000 85 r352 = true := by kernel_rfl
def r353 : List AV × AV := ([.ro [.int .i64 47] 1, .ro [.int .i64 1250] 1], .ro [.int .i64 8750, .int .i64 5] 2)
theorem r353_ok : rowOk cfg0 M0 3000 85 r353 = true := by kernel_rfl
def r354 : List AV × AV := ([.ro [.int .i64 47] 1, .ro [.int .i64 625] 1], .ro [.int .i64 9375, .int .i64 2] 2)
theorem r354_ok : rowOk cfg0 M0 3000 85 r354 = true := by kernel_rfl
def r355 : List AV × AV := ([.ro [.int .i64 47] 1, .ro [.int .i64 312] 1], .ro [.int .i64 4664, .int .i64 1] 2)
theorem r355_ok : rowOk cfg0 M0 3000 85 r355 = true := by kernel_rfl
def r356 : List AV × AV := ([.ro [.int .i64 47] 1, .ro [.int .i64 156] 1], .ro [.int .i64 7332] 1)
theorem r356_ok : rowOk cfg0 M0 3000 85 r356 = true := by kernel_rfl
def r357 : List AV × AV := ([.ro [.int .i64 47] 1, .ro [.int .i64 78] 1], .ro [.int .i64 3666] 1)
theorem r357_ok : rowOk cfg0 M0 3000 85 r357 = true := by kernel_rfl
def r358 : List AV × AV := ([.ro [.int .i64 47] 1, .ro [.int .i64 39] 1], .ro [.int .i64 1833] 1)
theorem r358_ok : rowOk cfg0 M0 3000 85 r358 = true := by kernel_rfl
def r359 : List AV × AV := ([.ro [.int .i64 47] 1, .ro [.int .i64 19] 1], .ro [.int .i64 893] 1)
theorem r359_ok : rowOk cfg0 M0 3000 85 r359 = true := by kernel_rfl
def r360 : List AV × AV := ([.ro [.int .i64 47] 1, .ro [.int .i64 9] 1], .ro [.int .i64 423] 1)
theorem r360_ok : rowOk cfg0 M0 3000 85 r360 = true := by kernel_rfl
def r361 : List AV × AV := ([.ro [.int .i64 47] 1, .ro [.int .i64 4] 1], .ro [.int .i64 188] 1)
theorem r361_ok : rowOk cfg0 M0 3000 85 r361 = true := by kernel_rfl
def r362 : List AV × AV := ([.ro [.int .i64 47] 1, .ro [.int .i64 2] 1], .ro [.int .i64 94] 1)
theorem r362_ok : rowOk cfg0 M0 3000 85 r362 = true := by kernel_rfl
def r363 : List AV × AV := ([.ro [.int .i64 47] 1, .ro [.int .i64 1] 1], .ro [.int .i64 47] 1)
theorem r363_ok : rowOk cfg0 M0 3000 85 r363 = true := by kernel_rfl
def r364 : List AV × AV := ([.ro [.int .i64 13] 1, .ro [.int .i64 5000] 1], .ro [.int .i64 5000, .int .i64 6] 2)
theorem r364_ok : rowOk cfg0 M0 3000 85 r364 = true := by kernel_rfl
def r365 : List AV × AV := ([.ro [.int .i64 13] 1, .ro [.int .i64 2500] 1], .ro [.int .i64 2500, .int .i64 3] 2)
theorem r365_ok : rowOk cfg0 M0 3000 85 r365 = true := by kernel_rfl
def r366 : List AV × AV := ([.ro [.int .i64 13] 1, .ro [.int .i64 1250] 1], .ro [.int .i64 6250, .int .i64 1] 2)
theorem r366_ok : rowOk cfg0 M0 3000 85 r366 = true := by kernel_rfl
def r367 : List AV × AV := ([.ro [.int .i64 13] 1, .ro [.int .i64 625] 1], .ro [.int .i64 8125] 1)
theorem r367_ok : rowOk cfg0 M0 3000 85 r367 = true := by kernel_rfl
def r368 : List AV × AV := ([.ro [.int .i64 13] 1, .ro [.int .i64 312] 1], .ro [.int .i64 4056] 1)
theorem r368_ok : rowOk cfg0 M0 3000 85 r368 = true := by kernel_rfl
def r369 : List AV × AV := ([.ro [.int .i64 13] 1, .ro [.int .i64 156] 1], .ro [.int .i64 2028] 1)
theorem r369_ok : rowOk cfg0 M0 3000 85 r369 = true := by kernel_rfl
def r370 : List AV × AV := ([.ro [.int .i64 13] 1, .ro [.int .i64 78] 1], .ro [.int .i64 1014] 1)
theorem r370_ok : rowOk cfg0 M0 3000 85 r370 = true := by kernel_rfl
def r371 : List AV × AV := ([.ro [.int .i64 13] 1, .ro [.int .i64 39] 1], .ro [.int .i64 507] 1)
theorem r371_ok : rowOk cfg0 M0 3000 85 r371 = true := by kernel_rfl
def r372 : List AV × AV := ([.ro [.int .i64 13] 1, .ro [.int .i64 19] 1], .ro [.int .i64 247] 1)
theorem r372_ok : rowOk cfg0 M0 3000 85 r372 = true := by kernel_rfl
def r373 : List AV × AV := ([.ro [.int .i64 13] 1, .ro [.int .i64 9] 1], .ro [.int .i64 117] 1)
theorem r373_ok : rowOk cfg0 M0 3000 85 r373 = true := by kernel_rfl
def r374 : List AV × AV := ([.ro [.int .i64 13] 1, .ro [.int .i64 4] 1], .ro [.int .i64 52] 1)
theorem r374_ok : rowOk cfg0 M0 3000 85 r374 = true := by kernel_rfl
def r375 : List AV × AV := ([.ro [.int .i64 13] 1, .ro [.int .i64 2] 1], .ro [.int .i64 26] 1)
theorem r375_ok : rowOk cfg0 M0 3000 85 r375 = true := by kernel_rfl
def r376 : List AV × AV := ([.ro [.int .i64 13] 1, .ro [.int .i64 3] 1], .ro [.int .i64 39] 1)
theorem r376_ok : rowOk cfg0 M0 3000 85 r376 = true := by kernel_rfl
def r377 : List AV × AV := ([.ro [.int .i64 8] 1, .ro [.int .i64 5000] 1], .ro [.int .i64 0, .int .i64 4] 2)
theorem r377_ok : rowOk cfg0 M0 3000 85 r377 = true := by kernel_rfl
def r378 : List AV × AV := ([.ro [.int .i64 8] 1, .ro [.int .i64 2500] 1], .ro [.int .i64 0, .int .i64 2] 2)
theorem r378_ok : rowOk cfg0 M0 3000 85 r378 = true := by kernel_rfl
def r379 : List AV × AV := ([.ro [.int .i64 8] 1, .ro [.int .i64 1250] 1], .ro [.int .i64 0, .int .i64 1] 2)
theorem r379_ok : rowOk cfg0 M0 3000 85 r379 = true := by kernel_rfl
def r380 : List AV × AV := ([.ro [.int .i64 8] 1, .ro [.int .i64 625] 1], .ro [.int .i64 5000] 1)
theorem r380_ok : rowOk cfg0 M0 3000 85 r380 = true := by kernel_rfl
def r381 : List AV × AV := ([.ro [.int .i64 8] 1, .ro [.int .i64 312] 1], .ro [.int .i64 2496] 1)
theorem r381_ok : rowOk cfg0 M0 3000 85 r381 = true := by kernel_rfl
def r382 : List AV × AV := ([.ro [.int .i64 8] 1, .ro [.int .i64 156] 1], .ro [.int .i64 1248] 1)
theorem r382_ok : rowOk cfg0 M0 3000 85 r382 = true := by kernel_rfl
def r383 : List AV × AV := ([.ro [.int .i64 8] 1, .ro [.int .i64 78] 1], .ro [.int .i64 624] 1)
theorem r383_ok : rowOk cfg0 M0 3000 85 r383 = true := by kernel_rfl
def r384 : List AV × AV := ([.ro [.int .i64 8] 1, .ro [.int .i64 39] 1], .ro [.int .i64 312] 1)
theorem r384_ok : rowOk cfg0 M0 3000 85 r384 = true := by kernel_rfl
def r385 : List AV × AV := ([.ro [.int .i64 8] 1, .ro [.int .i64 19] 1], .ro [.int .i64 152] 1)
theorem r385_ok : rowOk cfg0 M0 3000 85 r385 = true := by kernel_rfl
def r386 : List AV × AV := ([.ro [.int .i64 8] 1, .ro [.int .i64 9] 1], .ro [.int .i64 72] 1)
theorem r386_ok : rowOk cfg0 M0 3000 85 r386 = true := by kernel_rfl
def r387 : List AV × AV := ([.ro [.int .i64 8] 1, .ro [.int .i64 4] 1], .ro [.int .i64 32] 1)
theorem r387_ok : rowOk cfg0 M0 3000 85 r387 = true := by kernel_rfl
def r388 : List AV × AV := ([.ro [.int .i64 8] 1, .ro [.int .i64 2] 1], .ro [.int .i64 16] 1)
theorem r388_ok : rowOk cfg0 M0 3000 85 r388 = true := by kernel_rfl
def r389 : List AV × AV := ([.ro [.int .i64 8] 1, .ro [.int .i64 1] 1], .ro [.int .i64 8] 1)
theorem r389_ok : rowOk cfg0 M0 3000 85 r389 = true := by kernel_rfl
def r390 : List AV × AV := ([.ro [.int .i64 5] 1, .ro [.int .i64 5000] 1], .ro [.int .i64 5000, .int .i64 2] 2)
theorem r390_ok : rowOk cfg0 M0 3000 85 r390 = true := by kernel_rfl
def r391 : List AV × AV := ([.ro [.int .i64 5] 1, .ro [.int .i64 2500] 1], .ro [.int .i64 2500, .int .i64 1] 2)
theorem r391_ok : rowOk cfg0 M0 3000 85 r391 = true := by kernel_rfl
def r392 : List AV × AV := ([.ro [.int .i64 5] 1, .ro [.int .i64 1250] 1], .ro [.int .i64 6250] 1)
theorem r392_ok : rowOk cfg0 M0 3000 85 r392 = true := by kernel_rfl
def r393 : List AV × AV := ([.ro [.int .i64 5] 1, .ro [.int .i64 625] 1], .ro [.int .i64 3125] 1)
theorem r393_ok : rowOk cfg0 M0 3000 85 r393 = true := by kernel_rfl
def r394 : List AV × AV := ([.ro [.int .i64 5] 1, .ro [.int .i64 312] 1], .ro [.int .i64 1560] 1)
theorem r394_ok : rowOk cfg0 M0 3000 85 r394 = true := by kernel_rfl
def r395 : List AV × AV := ([.ro [.int .i64 5] 1, .ro [.int .i64 156] 1], .ro [.int .i64 780] 1)
theorem r395_ok : rowOk cfg0 M0 3000 85 r395 = true := by kernel_rfl
def r396 : List AV × AV := ([.ro [.int .i64 5] 1, .ro [.int .i64 78] 1], .ro [.int .i64 390] 1)
theorem r396_ok : rowOk cfg0 M0 3000 85 r396 = true := by kernel_rfl
def r397 : List AV × AV := ([.ro [.int .i64 5] 1, .ro [.int .i64 39] 1], .ro [.int .i64 195] 1)
theorem r397_ok : rowOk cfg0 M0 3000 85 r397 = true := by kernel_rfl
def r398 : List AV × AV := ([.ro [.int .i64 5] 1, .ro [.int .i64 19] 1], .ro [.int .i64 95] 1)
theorem r398_ok : rowOk cfg0 M0 3000 85 r398 = true := by kernel_rfl
def r399 : List AV × AV := ([.ro [.int .i64 5] 1, .ro [.int .i64 9] 1], .ro [.int .i64 45] 1)
theorem r399_ok : rowOk cfg0 M0 3000 85 r399 = true := by kernel_rfl
def r400 : List AV × AV := ([.ro [.int .i64 5] 1, .ro [.int .i64 4] 1], .ro [.int .i64 20] 1)
theorem r400_ok : rowOk cfg0 M0 3000 85 r400 = true := by kernel_rfl
def r401 : List AV × AV := ([.ro [.int .i64 5] 1, .ro [.int .i64 2] 1], .ro [.int .i64 10] 1)
theorem r401_ok : rowOk cfg0 M0 3000 85 r401 = true := by kernel_rfl
def r402 : List AV × AV := ([.ro [.int .i64 5] 1, .ro [.int .i64 1] 1], .ro [.int .i64 5] 1)
theorem r402_ok : rowOk cfg0 M0 3000 85 r402 = true := by kernel_rfl
def r403 : List AV × AV := ([.ro [.int .i64 3] 1, .ro [.int .i64 5000] 1], .ro [.int .i64 5000, .int .i64 1] 2)
theorem r403_ok : rowOk cfg0 M0 3000 85 r403 = true := by kernel_rfl
def r404 : List AV × AV := ([.ro [.int .i64 3] 1, .ro [.int .i64 2500] 1], .ro [.int .i64 7500] 1)
theorem r404_ok : rowOk cfg0 M0 3000 85 r404 = true := by kernel_rfl
def r405 : List AV × AV := ([.ro [.int .i64 3] 1, .ro [.int .i64 1250] 1], .ro [.int .i64 3750] 1)
theorem r405_ok : rowOk cfg0 M0 3000 85 r405 = true := by kernel_rfl
def r406 : List AV × AV := ([.ro [.int .i64 3] 1, .ro [.int .i64 625] 1], .ro [.int .i64 1875] 1)
theorem r406_ok : rowOk cfg0 M0 3000 85 r406 = true := by kernel_rfl
def r407 : List AV × AV := ([.ro [.int .i64 3] 1, .ro [.int .i64 312] 1], .ro [.int .i64 936] 1)
theorem r407_ok : rowOk cfg0 M0 3000 85 r407 = true := by kernel_rfl
def r408 : List AV × AV := ([.ro [.int .i64 3] 1, .ro [.int .i64 156] 1], .ro [.int .i64 468] 1)
theorem r408_ok : rowOk cfg0 M0 3000 85 r408 = true := by kernel_rfl
def r409 : List AV × AV := ([.ro [.int .i64 3] 1, .ro [.int .i64 78] 1], .ro [.int .i64 234] 1)
theorem r409_ok : rowOk cfg0 M0 3000 85 r409 = true := by kernel_rfl
def r410 : List AV × AV := ([.ro [.int .i64 3] 1, .ro [.int .i64 39] 1], .ro [.int .i64 117] 1)
theorem r410_ok : rowOk cfg0 M0 3000 85 r410 = true := by kernel_rfl
def r411 : List AV × AV := ([.ro [.int .i64 3] 1, .ro [.int .i64 19] 1], .ro [.int .i64 57] 1)
theorem r411_ok : rowOk cfg0 M0 3000 85 r411 = true := by kernel_rfl
def r412 : List AV × AV := ([.ro [.int .i64 3] 1, .ro [.int .i64 9] 1], .ro [.int .i64 27] 1)
theorem r412_ok : rowOk cfg0 M0 3000 85 r412 = true := by kernel_rfl
def r413 : List AV × AV := ([.ro [.int .i64 3] 1, .ro [.int .i64 4] 1], .ro [.int .i64 12] 1)
theorem r413_ok : rowOk cfg0 M0 3000 85 r413 = true := by kernel_rfl
def r414 : List AV × AV := ([.ro [.int .i64 3] 1, .ro [.int .i64 2] 1], .ro [.int .i64 6] 1)
theorem r414_ok : rowOk cfg0 M0 3000 85 r414 = true := by kernel_rfl
def r415 : List AV × AV := ([.ro [.int .i64 3] 1, .ro [.int .i64 1] 1], .ro [.int .i64 3] 1)
theorem r415_ok : rowOk cfg0 M0 3000 85 r415 = true := by kernel_rfl
def r416 : List AV × AV := ([.ro [.int .i64 2] 1, .ro [.int .i64 5000] 1], .ro [.int .i64 0, .int .i64 1] 2)
theorem r416_ok : rowOk cfg0 M0 3000 85 r416 = true := by kernel_rfl
def r417 : List AV × AV := ([.ro [.int .i64 2] 1, .ro [.int .i64 2500] 1], .ro [.int .i64 5000] 1)
theorem r417_ok : rowOk cfg0 M0 3000 85 r417 = true := by kernel_rfl
def r418 : List AV × AV := ([.ro [.int .i64 2] 1, .ro [.int .i64 1250] 1], .ro [.int .i64 2500] 1)
theorem r418_ok : rowOk cfg0 M0 3000 85 r418 = true := by kernel_rfl
def r419 : List AV × AV := ([.ro [.int .i64 2] 1, .ro [.int .i64 625] 1], .ro [.int .i64 1250] 1)
theorem r419_ok : rowOk cfg0 M0 3000 85 r419 = true := by kernel_rfl
def r420 : List AV × AV := ([.ro [.int .i64 2] 1, .ro [.int .i64 312] 1], .ro [.int .i64 624] 1)
theorem r420_ok : rowOk cfg0 M0 3000 85 r420 = true := by kernel_rfl
def r421 : List AV × AV := ([.ro [.int .i64 2] 1, .ro [.int .i64 156] 1], .ro [.int .i64 312] 1)
theorem r421_ok : rowOk cfg0 M0 3000 85 r421 = true := by kernel_rfl
def r422 : List AV × AV := ([.ro [.int .i64 2] 1, .ro [.int .i64 78] 1], .ro [.int .i64 156] 1)
theorem r422_ok : rowOk cfg0 M0 3000 85 r422 = true := by kernel_rfl
def r423 : List AV × AV := ([.ro [.int .i64 2] 1, .ro [.int .i64 39] 1], .ro [.int .i64 78] 1)
theorem r423_ok : rowOk cfg0 M0 3000 85 r423 = true := by kernel_rfl
def r424 : List AV × AV := ([.ro [.int .i64 2] 1, .ro [.int .i64 19] 1], .ro [.int .i64 38] 1)
theorem r424_ok : rowOk cfg0 M0 3000 85 r424 = true := by kernel_rfl
def r425 : List AV × AV := ([.ro [.int .i64 2] 1, .ro [.int .i64 9] 1], .ro [.int .i64 18] 1)
theorem r425_ok : rowOk cfg0 M0 3000 85 r425 = true := by kernel_rfl
def r426 : List AV × AV := ([.ro [.int .i64 2] 1, .ro [.int .i64 4] 1], .ro [.int .i64 8] 1)
theorem r426_ok : rowOk cfg0 M0 3000 85 r426 = true := by kernel_rfl
def r427 : List AV × AV := ([.ro [.int .i64 2] 1, .ro [.int .i64 2] 1], .ro [.int .i64 4] 1)
theorem r427_ok : rowOk cfg0 M0 3000 85 r427 = true := by kernel_rfl
def r428 : List AV × AV := ([.ro [.int .i64 2] 1, .ro [.int .i64 1] 1], .ro [.int .i64 2] 1)
theorem r428_ok : rowOk cfg0 M0 3000 85 r428 = true := by kernel_rfl
def r429 : List AV × AV := ([.ro [.int .i64 1] 1, .ro [.int .i64 3] 1], .ro [.int .i64 3] 1)
theorem r429_ok : rowOk cfg0 M0 3000 85 r429 = true := by kernel_rfl
def r430 : List AV × AV := ([.ro [.int .i64 1] 1, .ro [.int .i64 468] 1], .ro [.int .i64 468] 1)
theorem r430_ok : rowOk cfg0 M0 3000 85 r430 = true := by kernel_rfl
def r431 : List AV × AV := ([.ro [.int .i64 1] 1, .ro [.int .i64 390] 1], .ro [.int .i64 390] 1)
theorem r431_ok : rowOk cfg0 M0 3000 85 r431 = true := by kernel_rfl
def r432 : List AV × AV := ([.ro [.int .i64 1] 1, .ro [.int .i64 351] 1], .ro [.int .i64 351] 1)
theorem r432_ok : rowOk cfg0 M0 3000 85 r432 = true := by kernel_rfl
def r433 : List AV × AV := ([.ro [.int .i64 1] 1, .ro [.int .i64 370] 1], .ro [.int .i64 370] 1)
theorem r433_ok : rowOk cfg0 M0 3000 85 r433 = true := by kernel_rfl
def r434 : List AV × AV := ([.ro [.int .i64 1] 1, .ro [.int .i64 380] 1], .ro [.int .i64 380] 1)
theorem r434_ok : rowOk cfg0 M0 3000 85 r434 = true := by kernel_rfl
def r435 : List AV × AV := ([.ro [.int .i64 1] 1, .ro [.int .i64 385] 1], .ro [.int .i64 385] 1)
theorem r435_ok : rowOk cfg0 M0 3000 85 r435 = true := by kernel_rfl
def r436 : List AV × AV := ([.ro [.int .i64 1] 1, .ro [.int .i64 382] 1], .ro [.int .i64 382] 1)
theorem r436_ok : rowOk cfg0 M0 3000 85 r436 = true := by kernel_rfl
def r437 : List AV × AV := ([.ro [.int .i64 1] 1, .ro [.int .i64 381] 1], .ro [.int .i64 381] 1)
theorem r437_ok : rowOk cfg0 M0 3000 85 r437 = true := by kernel_rfl
def r438 : List AV × AV := ([.ro [.int .i64 1] 1, .ro [.int .i64 1875] 1], .ro [.int .i64 1875] 1)
theorem r438_ok : rowOk cfg0 M0 3000 85 r438 = true := by kernel_rfl
def r439 : List AV × AV := ([.ro [.int .i64 1] 1, .ro [.int .i64 1562] 1], .ro [.int .i64 1562] 1)
theorem r439_ok : rowOk cfg0 M0 3000 85 r439 = true := by kernel_rfl
end Go.Am.awakeF
