/- SplitKnown: calls on its road whose answers are kept, each run by the kernel over those ahead of it (part 0). Written by wip/gen/memo2lean.py. -/
import Derived.Test.YtphmddmboankhaaGreatDoorAmCfgA
import Derived.Test.YtphmddmboankhaaGreatDoorAmMemo
import Derived.KernelRfl
namespace Go.Am.splitKnown
set_option maxRecDepth 100000
open Go.Am
theorem lnil {cfg : Cfg} {f : FuncId} : ∀ p ∈ ([] : List (List AV × AV)), ∀ g, Did cfg f p.1 g p.2 g := fun _ h => by cases h
theorem lcons {cfg : Cfg} {f : FuncId} {q : List AV × AV} {l : List (List AV × AV)} (h1 : ∀ g, Did cfg f q.1 g q.2 g) (h2 : ∀ p ∈ l, ∀ g, Did cfg f p.1 g p.2 g) : ∀ p ∈ q :: l, ∀ g, Did cfg f p.1 g p.2 g := fun p hp => by
  rcases List.mem_cons.1 hp with e | e
  · subst e; exact h1
  · exact h2 p e
theorem knil {cfg : Cfg} {f : FuncId} : ∀ p ∈ ([] : List HRow), Did cfg f p.args p.h0 p.v p.h1 := fun _ h => by cases h
theorem kcons {cfg : Cfg} {f : FuncId} {q : HRow} {l : List HRow} (h1 : Did cfg f q.args q.h0 q.v q.h1) (h2 : ∀ p ∈ l, Did cfg f p.args p.h0 p.v p.h1) : ∀ p ∈ q :: l, Did cfg f p.args p.h0 p.v p.h1 := fun p hp => by
  rcases List.mem_cons.1 hp with e | e
  · subst e; exact h1
  · exact h2 p e
def M0 : Memo := noM
theorem M0_ok : MemoOk cfg0 M0 := noM_ok _
def r0 : List AV × AV := ([.str [98, 97, 115, 101, 32, 109, 101, 116, 101, 114, 32, 108, 101, 110, 103, 116, 104], .func 51 [] [], .bool true], .int .i64 (-1))
theorem r0_ok : rowOk cfg0 M0 3000 150 r0 = true := by kernel_rfl
def r1 : List AV × AV := ([.str [98, 97, 115, 101, 32, 115, 101, 99, 111, 110, 100, 32, 116, 105, 109, 101], .func 51 [] [], .bool true], .int .i64 (-1))
theorem r1_ok : rowOk cfg0 M0 3000 150 r1 = true := by kernel_rfl
def r2 : List AV × AV := ([.str [98, 97, 115, 101, 32, 107, 101, 108, 118, 105, 110, 32, 116, 101, 109, 112, 101, 114, 97, 116, 117, 114, 101], .func 51 [] [], .bool true], .int .i64 (-1))
theorem r2_ok : rowOk cfg0 M0 3000 150 r2 = true := by kernel_rfl
def r3 : List AV × AV := ([.str [112, 114, 101, 102, 105, 120, 32, 107, 105, 108, 111, 32, 49, 48, 32, 51]], .ro [.str [112, 114, 101, 102, 105, 120], .str [107, 105, 108, 111], .str [49, 48], .str [51]] 4)
theorem r3_ok : rowOk cfg0 M0 3000 49 r3 = true := by kernel_rfl
def r4 : List AV × AV := ([.str [112, 114, 101, 102, 105, 120, 32, 107, 105, 108, 111, 32, 49, 48, 32, 51], .func 51 [] [], .bool true], .int .i64 (-1))
theorem r4_ok : rowOk cfg0 M0 3000 150 r4 = true := by kernel_rfl
def r5 : List AV × AV := ([.str [112, 114, 101, 102, 105, 120, 32, 109, 105, 108, 108, 105, 32, 49, 48, 32, 45, 51]], .ro [.str [112, 114, 101, 102, 105, 120], .str [109, 105, 108, 108, 105], .str [49, 48], .str [45, 51]] 4)
theorem r5_ok : rowOk cfg0 M0 3000 49 r5 = true := by kernel_rfl
def r6 : List AV × AV := ([.str [112, 114, 101, 102, 105, 120, 32, 109, 105, 108, 108, 105, 32, 49, 48, 32, 45, 51], .func 51 [] [], .bool true], .int .i64 (-1))
theorem r6_ok : rowOk cfg0 M0 3000 150 r6 = true := by kernel_rfl
def r7 : List AV × AV := ([.str [117, 110, 105, 116, 32, 102, 111, 111, 116, 32, 51, 56, 49, 47, 49, 50, 53, 48, 32, 109, 101, 116, 101, 114]], .ro [.str [117, 110, 105, 116], .str [102, 111, 111, 116], .str [51, 56, 49, 47, 49, 50, 53, 48], .str [109, 101, 116, 101, 114]] 4)
theorem r7_ok : rowOk cfg0 M0 3000 49 r7 = true := by kernel_rfl
def r8 : List AV × AV := ([.str [117, 110, 105, 116, 32, 102, 111, 111, 116, 32, 51, 56, 49, 47, 49, 50, 53, 48, 32, 109, 101, 116, 101, 114], .func 51 [] [], .bool true], .int .i64 (-1))
theorem r8_ok : rowOk cfg0 M0 3000 150 r8 = true := by kernel_rfl
def r9 : List AV × AV := ([.str [117, 110, 105, 116, 32, 105, 110, 99, 104, 32, 49, 47, 49, 50, 32, 102, 111, 111, 116]], .ro [.str [117, 110, 105, 116], .str [105, 110, 99, 104], .str [49, 47, 49, 50], .str [102, 111, 111, 116]] 4)
theorem r9_ok : rowOk cfg0 M0 3000 49 r9 = true := by kernel_rfl
def r10 : List AV × AV := ([.str [117, 110, 105, 116, 32, 105, 110, 99, 104, 32, 49, 47, 49, 50, 32, 102, 111, 111, 116], .func 51 [] [], .bool true], .int .i64 (-1))
theorem r10_ok : rowOk cfg0 M0 3000 150 r10 = true := by kernel_rfl
def r11 : List AV × AV := ([.str [117, 110, 105, 116, 32, 121, 97, 114, 100, 32, 51, 32, 102, 111, 111, 116]], .ro [.str [117, 110, 105, 116], .str [121, 97, 114, 100], .str [51], .str [102, 111, 111, 116]] 4)
theorem r11_ok : rowOk cfg0 M0 3000 49 r11 = true := by kernel_rfl
def r12 : List AV × AV := ([.str [117, 110, 105, 116, 32, 121, 97, 114, 100, 32, 51, 32, 102, 111, 111, 116], .func 51 [] [], .bool true], .int .i64 (-1))
theorem r12_ok : rowOk cfg0 M0 3000 150 r12 = true := by kernel_rfl
def r13 : List AV × AV := ([.str [117, 110, 105, 116, 32, 109, 105, 110, 117, 116, 101, 32, 54, 48, 32, 115, 101, 99, 111, 110, 100]], .ro [.str [117, 110, 105, 116], .str [109, 105, 110, 117, 116, 101], .str [54, 48], .str [115, 101, 99, 111, 110, 100]] 4)
theorem r13_ok : rowOk cfg0 M0 3000 49 r13 = true := by kernel_rfl
def r14 : List AV × AV := ([.str [117, 110, 105, 116, 32, 109, 105, 110, 117, 116, 101, 32, 54, 48, 32, 115, 101, 99, 111, 110, 100], .func 51 [] [], .bool true], .int .i64 (-1))
theorem r14_ok : rowOk cfg0 M0 3000 150 r14 = true := by kernel_rfl
def r15 : List AV × AV := ([.str [117, 110, 105, 116, 32, 99, 101, 108, 115, 105, 117, 115, 32, 49, 32, 107, 101, 108, 118, 105, 110, 32, 50, 55, 51, 49, 53, 47, 49, 48, 48]], .ro [.str [117, 110, 105, 116], .str [99, 101, 108, 115, 105, 117, 115], .str [49], .str [107, 101, 108, 118, 105, 110], .str [50, 55, 51, 49, 53, 47, 49, 48, 48]] 5)
theorem r15_ok : rowOk cfg0 M0 3000 49 r15 = true := by kernel_rfl
def r16 : List AV × AV := ([.str [117, 110, 105, 116, 32, 99, 101, 108, 115, 105, 117, 115, 32, 49, 32, 107, 101, 108, 118, 105, 110, 32, 50, 55, 51, 49, 53, 47, 49, 48, 48], .func 51 [] [], .bool true], .int .i64 (-1))
theorem r16_ok : rowOk cfg0 M0 3000 150 r16 = true := by kernel_rfl
def r17 : List AV × AV := ([.str [117, 110, 105, 116, 32, 102, 97, 104, 114, 101, 110, 104, 101, 105, 116, 32, 53, 47, 57, 32, 107, 101, 108, 118, 105, 110, 32, 52, 53, 57, 54, 55, 47, 49, 56, 48]], .ro [.str [117, 110, 105, 116], .str [102, 97, 104, 114, 101, 110, 104, 101, 105, 116], .str [53, 47, 57], .str [107, 101, 108, 118, 105, 110], .str [52, 53, 57, 54, 55, 47, 49, 56, 48]] 5)
theorem r17_ok : rowOk cfg0 M0 3000 49 r17 = true := by kernel_rfl
def r18 : List AV × AV := ([.str [117, 110, 105, 116, 32, 102, 97, 104, 114, 101, 110, 104, 101, 105, 116, 32, 53, 47, 57, 32, 107, 101, 108, 118, 105, 110, 32, 52, 53, 57, 54, 55, 47, 49, 56, 48], .func 51 [] [], .bool true], .int .i64 (-1))
theorem r18_ok : rowOk cfg0 M0 3000 150 r18 = true := by kernel_rfl
def r19 : List AV × AV := ([.str [113, 117, 97, 110, 116, 105, 116, 121, 32, 115, 112, 101, 101, 100, 32, 109, 101, 116, 101, 114, 45, 112, 101, 114, 45, 115, 101, 99, 111, 110, 100], .func 51 [] [], .bool true], .int .i64 (-1))
theorem r19_ok : rowOk cfg0 M0 3000 150 r19 = true := by kernel_rfl
def r20 : List AV × AV := ([.str [113, 117, 97, 110, 116, 105, 116, 121, 32, 97, 114, 101, 97, 32, 115, 113, 117, 97, 114, 101, 45, 109, 101, 116, 101, 114], .func 51 [] [], .bool true], .int .i64 (-1))
theorem r20_ok : rowOk cfg0 M0 3000 150 r20 = true := by kernel_rfl
def r21 : List AV × AV := ([.str [97, 108, 105, 97, 115, 32, 107, 112, 104, 32, 107, 105, 108, 111, 109, 101, 116, 101, 114, 45, 112, 101, 114, 45, 115, 101, 99, 111, 110, 100], .func 51 [] [], .bool true], .int .i64 (-1))
theorem r21_ok : rowOk cfg0 M0 3000 150 r21 = true := by kernel_rfl
def r22 : List AV × AV := ([.str [98, 97, 115, 101, 32, 109, 101, 116, 101, 114, 32, 108, 101, 110, 103, 116, 104]], .tuple [.ro [.str [98, 97, 115, 101], .str [109, 101, 116, 101, 114], .str [108, 101, 110, 103, 116, 104]] 3, .bool true])
theorem r22_ok : rowOk cfg0 M0 3000 52 r22 = true := by kernel_rfl
def r23 : List AV × AV := ([.str [98, 97, 115, 101, 32, 115, 101, 99, 111, 110, 100, 32, 116, 105, 109, 101]], .tuple [.ro [.str [98, 97, 115, 101], .str [115, 101, 99, 111, 110, 100], .str [116, 105, 109, 101]] 3, .bool true])
theorem r23_ok : rowOk cfg0 M0 3000 52 r23 = true := by kernel_rfl
def r24 : List AV × AV := ([.str [98, 97, 115, 101, 32, 107, 101, 108, 118, 105, 110, 32, 116, 101, 109, 112, 101, 114, 97, 116, 117, 114, 101]], .tuple [.ro [.str [98, 97, 115, 101], .str [107, 101, 108, 118, 105, 110], .str [116, 101, 109, 112, 101, 114, 97, 116, 117, 114, 101]] 3, .bool true])
theorem r24_ok : rowOk cfg0 M0 3000 52 r24 = true := by kernel_rfl
def r25 : List AV × AV := ([.str [112, 114, 101, 102, 105, 120, 32, 107, 105, 108, 111, 32, 49, 48, 32, 51]], .tuple [.ro [.str [112, 114, 101, 102, 105, 120], .str [107, 105, 108, 111], .str [49, 48], .str [51]] 4, .bool true])
theorem r25_ok : rowOk cfg0 M0 3000 52 r25 = true := by kernel_rfl
def r26 : List AV × AV := ([.str [112, 114, 101, 102, 105, 120, 32, 109, 105, 108, 108, 105, 32, 49, 48, 32, 45, 51]], .tuple [.ro [.str [112, 114, 101, 102, 105, 120], .str [109, 105, 108, 108, 105], .str [49, 48], .str [45, 51]] 4, .bool true])
theorem r26_ok : rowOk cfg0 M0 3000 52 r26 = true := by kernel_rfl
def r27 : List AV × AV := ([.str [117, 110, 105, 116, 32, 102, 111, 111, 116, 32, 51, 56, 49, 47, 49, 50, 53, 48, 32, 109, 101, 116, 101, 114]], .tuple [.ro [.str [117, 110, 105, 116], .str [102, 111, 111, 116], .str [51, 56, 49, 47, 49, 50, 53, 48], .str [109, 101, 116, 101, 114]] 4, .bool true])
theorem r27_ok : rowOk cfg0 M0 3000 52 r27 = true := by kernel_rfl
def r28 : List AV × AV := ([.str [117, 110, 105, 116, 32, 105, 110, 99, 104, 32, 49, 47, 49, 50, 32, 102, 111, 111, 116]], .tuple [.ro [.str [117, 110, 105, 116], .str [105, 110, 99, 104], .str [49, 47, 49, 50], .str [102, 111, 111, 116]] 4, .bool true])
theorem r28_ok : rowOk cfg0 M0 3000 52 r28 = true := by kernel_rfl
def r29 : List AV × AV := ([.str [117, 110, 105, 116, 32, 121, 97, 114, 100, 32, 51, 32, 102, 111, 111, 116]], .tuple [.ro [.str [117, 110, 105, 116], .str [121, 97, 114, 100], .str [51], .str [102, 111, 111, 116]] 4, .bool true])
theorem r29_ok : rowOk cfg0 M0 3000 52 r29 = true := by kernel_rfl
def r30 : List AV × AV := ([.str [117, 110, 105, 116, 32, 109, 105, 110, 117, 116, 101, 32, 54, 48, 32, 115, 101, 99, 111, 110, 100]], .tuple [.ro [.str [117, 110, 105, 116], .str [109, 105, 110, 117, 116, 101], .str [54, 48], .str [115, 101, 99, 111, 110, 100]] 4, .bool true])
theorem r30_ok : rowOk cfg0 M0 3000 52 r30 = true := by kernel_rfl
def r31 : List AV × AV := ([.str [117, 110, 105, 116, 32, 99, 101, 108, 115, 105, 117, 115, 32, 49, 32, 107, 101, 108, 118, 105, 110, 32, 50, 55, 51, 49, 53, 47, 49, 48, 48]], .tuple [.ro [.str [117, 110, 105, 116], .str [99, 101, 108, 115, 105, 117, 115], .str [49], .str [107, 101, 108, 118, 105, 110], .str [50, 55, 51, 49, 53, 47, 49, 48, 48]] 5, .bool true])
theorem r31_ok : rowOk cfg0 M0 3000 52 r31 = true := by kernel_rfl
def r32 : List AV × AV := ([.str [117, 110, 105, 116, 32, 102, 97, 104, 114, 101, 110, 104, 101, 105, 116, 32, 53, 47, 57, 32, 107, 101, 108, 118, 105, 110, 32, 52, 53, 57, 54, 55, 47, 49, 56, 48]], .tuple [.ro [.str [117, 110, 105, 116], .str [102, 97, 104, 114, 101, 110, 104, 101, 105, 116], .str [53, 47, 57], .str [107, 101, 108, 118, 105, 110], .str [52, 53, 57, 54, 55, 47, 49, 56, 48]] 5, .bool true])
theorem r32_ok : rowOk cfg0 M0 3000 52 r32 = true := by kernel_rfl
def r33 : List AV × AV := ([.str [113, 117, 97, 110, 116, 105, 116, 121, 32, 115, 112, 101, 101, 100, 32, 109, 101, 116, 101, 114, 45, 112, 101, 114, 45, 115, 101, 99, 111, 110, 100]], .tuple [.ro [.str [113, 117, 97, 110, 116, 105, 116, 121], .str [115, 112, 101, 101, 100], .str [109, 101, 116, 101, 114, 45, 112, 101, 114, 45, 115, 101, 99, 111, 110, 100]] 3, .bool true])
theorem r33_ok : rowOk cfg0 M0 3000 52 r33 = true := by kernel_rfl
def r34 : List AV × AV := ([.str [113, 117, 97, 110, 116, 105, 116, 121, 32, 97, 114, 101, 97, 32, 115, 113, 117, 97, 114, 101, 45, 109, 101, 116, 101, 114]], .tuple [.ro [.str [113, 117, 97, 110, 116, 105, 116, 121], .str [97, 114, 101, 97], .str [115, 113, 117, 97, 114, 101, 45, 109, 101, 116, 101, 114]] 3, .bool true])
theorem r34_ok : rowOk cfg0 M0 3000 52 r34 = true := by kernel_rfl
def r35 : List AV × AV := ([.str [97, 108, 105, 97, 115, 32, 107, 112, 104, 32, 107, 105, 108, 111, 109, 101, 116, 101, 114, 45, 112, 101, 114, 45, 115, 101, 99, 111, 110, 100]], .tuple [.ro [.str [97, 108, 105, 97, 115], .str [107, 112, 104], .str [107, 105, 108, 111, 109, 101, 116, 101, 114, 45, 112, 101, 114, 45, 115, 101, 99, 111, 110, 100]] 3, .bool true])
theorem r35_ok : rowOk cfg0 M0 3000 52 r35 = true := by kernel_rfl
def r36 : List AV × AV := ([.str [109, 101, 116, 101, 114], .str [97, 98, 99, 100, 101, 102, 103, 104, 105, 106, 107, 108, 109, 110, 111, 112, 113, 114, 115, 116, 117, 118, 119, 120, 121, 122, 48, 49, 50, 51, 52, 53, 54, 55, 56, 57]], .str [])
theorem r36_ok : rowOk cfg0 M0 3000 90 r36 = true := by kernel_rfl
def r37 : List AV × AV := ([.str [108, 101, 110, 103, 116, 104], .str [97, 98, 99, 100, 101, 102, 103, 104, 105, 106, 107, 108, 109, 110, 111, 112, 113, 114, 115, 116, 117, 118, 119, 120, 121, 122, 48, 49, 50, 51, 52, 53, 54, 55, 56, 57]], .str [])
theorem r37_ok : rowOk cfg0 M0 3000 90 r37 = true := by kernel_rfl
def r38 : List AV × AV := ([.str [115, 101, 99, 111, 110, 100], .str [97, 98, 99, 100, 101, 102, 103, 104, 105, 106, 107, 108, 109, 110, 111, 112, 113, 114, 115, 116, 117, 118, 119, 120, 121, 122, 48, 49, 50, 51, 52, 53, 54, 55, 56, 57]], .str [])
theorem r38_ok : rowOk cfg0 M0 3000 90 r38 = true := by kernel_rfl
def r39 : List AV × AV := ([.str [116, 105, 109, 101], .str [97, 98, 99, 100, 101, 102, 103, 104, 105, 106, 107, 108, 109, 110, 111, 112, 113, 114, 115, 116, 117, 118, 119, 120, 121, 122, 48, 49, 50, 51, 52, 53, 54, 55, 56, 57]], .str [])
theorem r39_ok : rowOk cfg0 M0 3000 90 r39 = true := by kernel_rfl
def r40 : List AV × AV := ([.str [107, 101, 108, 118, 105, 110], .str [97, 98, 99, 100, 101, 102, 103, 104, 105, 106, 107, 108, 109, 110, 111, 112, 113, 114, 115, 116, 117, 118, 119, 120, 121, 122, 48, 49, 50, 51, 52, 53, 54, 55, 56, 57]], .str [])
theorem r40_ok : rowOk cfg0 M0 3000 90 r40 = true := by kernel_rfl
def r41 : List AV × AV := ([.str [116, 101, 109, 112, 101, 114, 97, 116, 117, 114, 101], .str [97, 98, 99, 100, 101, 102, 103, 104, 105, 106, 107, 108, 109, 110, 111, 112, 113, 114, 115, 116, 117, 118, 119, 120, 121, 122, 48, 49, 50, 51, 52, 53, 54, 55, 56, 57]], .str [])
theorem r41_ok : rowOk cfg0 M0 3000 90 r41 = true := by kernel_rfl
def r42 : List AV × AV := ([.str [107, 105, 108, 111], .str [97, 98, 99, 100, 101, 102, 103, 104, 105, 106, 107, 108, 109, 110, 111, 112, 113, 114, 115, 116, 117, 118, 119, 120, 121, 122, 48, 49, 50, 51, 52, 53, 54, 55, 56, 57]], .str [])
theorem r42_ok : rowOk cfg0 M0 3000 90 r42 = true := by kernel_rfl
def r43 : List AV × AV := ([.str [51]], .tuple [.agg [.ro [.int .u32 3] 1], .bool true])
theorem r43_ok : rowOk cfg0 M0 3000 45 r43 = true := by kernel_rfl
def r44 : List AV × AV := ([.agg [.ro [.int .u32 10] 1], .agg [.ro [.int .u32 1] 1]], .agg [.ro [.int .u32 1] 1])
theorem r44_ok : rowOk cfg0 M0 3000 72 r44 = true := by kernel_rfl
def r45 : List AV × AV := ([.agg [.ro [.int .u32 10] 1], .int .i64 3], .agg [.ro [.int .u32 1000] 1])
theorem r45_ok : rowOk cfg0 M0 3000 35 r45 = true := by kernel_rfl
def r46 : List AV × AV := ([.agg [.ro [.int .u32 1] 1], .int .i64 3], .agg [.ro [.int .u32 1] 1])
theorem r46_ok : rowOk cfg0 M0 3000 35 r46 = true := by kernel_rfl
def r47 : List AV × AV := ([.str [109, 105, 108, 108, 105], .str [97, 98, 99, 100, 101, 102, 103, 104, 105, 106, 107, 108, 109, 110, 111, 112, 113, 114, 115, 116, 117, 118, 119, 120, 121, 122, 48, 49, 50, 51, 52, 53, 54, 55, 56, 57]], .str [])
theorem r47_ok : rowOk cfg0 M0 3000 90 r47 = true := by kernel_rfl
def r48 : List AV × AV := ([.agg [.ro [.int .u32 1] 1], .agg [.ro [.int .u32 10] 1]], .agg [.ro [.int .u32 1] 1])
theorem r48_ok : rowOk cfg0 M0 3000 72 r48 = true := by kernel_rfl
def r49 : List AV × AV := ([.agg [.ro [.int .u32 1] 1], .int .i64 2], .agg [.ro [.int .u32 1] 1])
theorem r49_ok : rowOk cfg0 M0 3000 35 r49 = true := by kernel_rfl
def r50 : List AV × AV := ([.agg [.ro [.int .u32 10] 1], .int .i64 2], .agg [.ro [.int .u32 100] 1])
theorem r50_ok : rowOk cfg0 M0 3000 35 r50 = true := by kernel_rfl
def r51 : List AV × AV := ([.agg [.ro [.int .u32 1] 1], .agg [.ro [.int .u32 100] 1]], .agg [.ro [.int .u32 1] 1])
theorem r51_ok : rowOk cfg0 M0 3000 72 r51 = true := by kernel_rfl
def r52 : List AV × AV := ([.agg [.ro [.int .u32 1] 1], .agg [.ro [.int .u32 1000] 1]], .agg [.ro [.int .u32 1] 1])
theorem r52_ok : rowOk cfg0 M0 3000 72 r52 = true := by kernel_rfl
def r53 : List AV × AV := ([.str [102, 111, 111, 116], .str [97, 98, 99, 100, 101, 102, 103, 104, 105, 106, 107, 108, 109, 110, 111, 112, 113, 114, 115, 116, 117, 118, 119, 120, 121, 122, 48, 49, 50, 51, 52, 53, 54, 55, 56, 57]], .str [])
theorem r53_ok : rowOk cfg0 M0 3000 90 r53 = true := by kernel_rfl
def r54 : List AV × AV := ([.str [51, 56, 49]], .tuple [.agg [.ro [.int .u32 381] 1], .bool true])
theorem r54_ok : rowOk cfg0 M0 3000 45 r54 = true := by kernel_rfl
def r55 : List AV × AV := ([.str [49, 50, 53, 48], .str [48, 49, 50, 51, 52, 53, 54, 55, 56, 57]], .str [])
theorem r55_ok : rowOk cfg0 M0 3000 90 r55 = true := by kernel_rfl
def r56 : List AV × AV := ([.agg [.ro [.int .u32 381] 1], .agg [.ro [.int .u32 1250] 1]], .agg [.ro [.int .u32 1] 1])
theorem r56_ok : rowOk cfg0 M0 3000 72 r56 = true := by kernel_rfl
def r57 : List AV × AV := ([.str [109, 101, 116, 101, 114]], .int .i64 1)
theorem r57_ok : rowOk cfg0 M0 3000 226 r57 = true := by kernel_rfl
def r58 : List AV × AV := ([.agg [.int .i64 1, .int .i64 0, .int .i64 0, .int .i64 0, .int .i64 0, .int .i64 0, .int .i64 0, .int .i64 0], .int .i64 1], .tuple [.agg [.int .i64 1, .int .i64 0, .int .i64 0, .int .i64 0, .int .i64 0, .int .i64 0, .int .i64 0, .int .i64 0], .bool true])
theorem r58_ok : rowOk cfg0 M0 3000 155 r58 = true := by kernel_rfl
def r59 : List AV × AV := ([.agg [.int .i64 0, .int .i64 0, .int .i64 0, .int .i64 0, .int .i64 0, .int .i64 0, .int .i64 0, .int .i64 0], .agg [.int .i64 1, .int .i64 0, .int .i64 0, .int .i64 0, .int .i64 0, .int .i64 0, .int .i64 0, .int .i64 0]], .tuple [.agg [.int .i64 1, .int .i64 0, .int .i64 0, .int .i64 0, .int .i64 0, .int .i64 0, .int .i64 0, .int .i64 0], .bool true])
theorem r59_ok : rowOk cfg0 M0 3000 157 r59 = true := by kernel_rfl
def r60 : List AV × AV := ([.agg [.ro [.int .u32 1] 1], .agg [.ro [.int .u32 1] 1]], .agg [.ro [.int .u32 1] 1])
theorem r60_ok : rowOk cfg0 M0 3000 72 r60 = true := by kernel_rfl
def r61 : List AV × AV := ([.str [105, 110, 99, 104], .str [97, 98, 99, 100, 101, 102, 103, 104, 105, 106, 107, 108, 109, 110, 111, 112, 113, 114, 115, 116, 117, 118, 119, 120, 121, 122, 48, 49, 50, 51, 52, 53, 54, 55, 56, 57]], .str [])
theorem r61_ok : rowOk cfg0 M0 3000 90 r61 = true := by kernel_rfl
def r62 : List AV × AV := ([.str [49]], .tuple [.agg [.ro [.int .u32 1] 1], .bool true])
theorem r62_ok : rowOk cfg0 M0 3000 45 r62 = true := by kernel_rfl
def r63 : List AV × AV := ([.str [49, 50]], .tuple [.agg [.ro [.int .u32 12] 1], .bool true])
theorem r63_ok : rowOk cfg0 M0 3000 45 r63 = true := by kernel_rfl
def r64 : List AV × AV := ([.agg [.ro [.int .u32 1] 1], .agg [.ro [.int .u32 12] 1]], .agg [.ro [.int .u32 1] 1])
theorem r64_ok : rowOk cfg0 M0 3000 72 r64 = true := by kernel_rfl
def r65 : List AV × AV := ([.str [102, 111, 111, 116]], .int .i64 1)
theorem r65_ok : rowOk cfg0 M0 3000 226 r65 = true := by kernel_rfl
def r66 : List AV × AV := ([.agg [.ro [.int .u32 381] 1], .agg [.ro [.int .u32 15000] 1]], .agg [.ro [.int .u32 3] 1])
theorem r66_ok : rowOk cfg0 M0 3000 72 r66 = true := by kernel_rfl
def r67 : List AV × AV := ([.str [121, 97, 114, 100], .str [97, 98, 99, 100, 101, 102, 103, 104, 105, 106, 107, 108, 109, 110, 111, 112, 113, 114, 115, 116, 117, 118, 119, 120, 121, 122, 48, 49, 50, 51, 52, 53, 54, 55, 56, 57]], .str [])
theorem r67_ok : rowOk cfg0 M0 3000 90 r67 = true := by kernel_rfl
def r68 : List AV × AV := ([.agg [.ro [.int .u32 3] 1], .agg [.ro [.int .u32 1] 1]], .agg [.ro [.int .u32 1] 1])
theorem r68_ok : rowOk cfg0 M0 3000 72 r68 = true := by kernel_rfl
def r69 : List AV × AV := ([.agg [.ro [.int .u32 1143] 1], .agg [.ro [.int .u32 1250] 1]], .agg [.ro [.int .u32 1] 1])
theorem r69_ok : rowOk cfg0 M0 3000 72 r69 = true := by kernel_rfl
def r70 : List AV × AV := ([.str [109, 105, 110, 117, 116, 101], .str [97, 98, 99, 100, 101, 102, 103, 104, 105, 106, 107, 108, 109, 110, 111, 112, 113, 114, 115, 116, 117, 118, 119, 120, 121, 122, 48, 49, 50, 51, 52, 53, 54, 55, 56, 57]], .str [])
theorem r70_ok : rowOk cfg0 M0 3000 90 r70 = true := by kernel_rfl
def r71 : List AV × AV := ([.str [54, 48]], .tuple [.agg [.ro [.int .u32 60] 1], .bool true])
theorem r71_ok : rowOk cfg0 M0 3000 45 r71 = true := by kernel_rfl
def r72 : List AV × AV := ([.agg [.ro [.int .u32 60] 1], .agg [.ro [.int .u32 1] 1]], .agg [.ro [.int .u32 1] 1])
theorem r72_ok : rowOk cfg0 M0 3000 72 r72 = true := by kernel_rfl
def r73 : List AV × AV := ([.str [115, 101, 99, 111, 110, 100]], .int .i64 1)
theorem r73_ok : rowOk cfg0 M0 3000 226 r73 = true := by kernel_rfl
def r74 : List AV × AV := ([.agg [.int .i64 0, .int .i64 1, .int .i64 0, .int .i64 0, .int .i64 0, .int .i64 0, .int .i64 0, .int .i64 0], .int .i64 1], .tuple [.agg [.int .i64 0, .int .i64 1, .int .i64 0, .int .i64 0, .int .i64 0, .int .i64 0, .int .i64 0, .int .i64 0], .bool true])
theorem r74_ok : rowOk cfg0 M0 3000 155 r74 = true := by kernel_rfl
def r75 : List AV × AV := ([.agg [.int .i64 0, .int .i64 0, .int .i64 0, .int .i64 0, .int .i64 0, .int .i64 0, .int .i64 0, .int .i64 0], .agg [.int .i64 0, .int .i64 1, .int .i64 0, .int .i64 0, .int .i64 0, .int .i64 0, .int .i64 0, .int .i64 0]], .tuple [.agg [.int .i64 0, .int .i64 1, .int .i64 0, .int .i64 0, .int .i64 0, .int .i64 0, .int .i64 0, .int .i64 0], .bool true])
theorem r75_ok : rowOk cfg0 M0 3000 157 r75 = true := by kernel_rfl
def r76 : List AV × AV := ([.str [99, 101, 108, 115, 105, 117, 115], .str [97, 98, 99, 100, 101, 102, 103, 104, 105, 106, 107, 108, 109, 110, 111, 112, 113, 114, 115, 116, 117, 118, 119, 120, 121, 122, 48, 49, 50, 51, 52, 53, 54, 55, 56, 57]], .str [])
theorem r76_ok : rowOk cfg0 M0 3000 90 r76 = true := by kernel_rfl
def r77 : List AV × AV := ([.str [107, 101, 108, 118, 105, 110]], .int .i64 1)
theorem r77_ok : rowOk cfg0 M0 3000 226 r77 = true := by kernel_rfl
def r78 : List AV × AV := ([.str [50, 55, 51, 49, 53], .str [48, 49, 50, 51, 52, 53, 54, 55, 56, 57]], .str [])
theorem r78_ok : rowOk cfg0 M0 3000 90 r78 = true := by kernel_rfl
def r79 : List AV × AV := ([.str [49, 48, 48]], .tuple [.agg [.ro [.int .u32 100] 1], .bool true])
theorem r79_ok : rowOk cfg0 M0 3000 45 r79 = true := by kernel_rfl
def r80 : List AV × AV := ([.agg [.ro [.int .u32 27315] 1], .agg [.ro [.int .u32 100] 1]], .agg [.ro [.int .u32 5] 1])
theorem r80_ok : rowOk cfg0 M0 3000 72 r80 = true := by kernel_rfl
def r81 : List AV × AV := ([.agg [.int .i64 0, .int .i64 0, .int .i64 1, .int .i64 0, .int .i64 0, .int .i64 0, .int .i64 0, .int .i64 0], .int .i64 1], .tuple [.agg [.int .i64 0, .int .i64 0, .int .i64 1, .int .i64 0, .int .i64 0, .int .i64 0, .int .i64 0, .int .i64 0], .bool true])
theorem r81_ok : rowOk cfg0 M0 3000 155 r81 = true := by kernel_rfl
def r82 : List AV × AV := ([.agg [.int .i64 0, .int .i64 0, .int .i64 0, .int .i64 0, .int .i64 0, .int .i64 0, .int .i64 0, .int .i64 0], .agg [.int .i64 0, .int .i64 0, .int .i64 1, .int .i64 0, .int .i64 0, .int .i64 0, .int .i64 0, .int .i64 0]], .tuple [.agg [.int .i64 0, .int .i64 0, .int .i64 1, .int .i64 0, .int .i64 0, .int .i64 0, .int .i64 0, .int .i64 0], .bool true])
theorem r82_ok : rowOk cfg0 M0 3000 157 r82 = true := by kernel_rfl
def r83 : List AV × AV := ([.str [102, 97, 104, 114, 101, 110, 104, 101, 105, 116], .str [97, 98, 99, 100, 101, 102, 103, 104, 105, 106, 107, 108, 109, 110, 111, 112, 113, 114, 115, 116, 117, 118, 119, 120, 121, 122, 48, 49, 50, 51, 52, 53, 54, 55, 56, 57]], .str [])
theorem r83_ok : rowOk cfg0 M0 3000 90 r83 = true := by kernel_rfl
def r84 : List AV × AV := ([.str [53]], .tuple [.agg [.ro [.int .u32 5] 1], .bool true])
theorem r84_ok : rowOk cfg0 M0 3000 45 r84 = true := by kernel_rfl
def r85 : List AV × AV := ([.str [57]], .tuple [.agg [.ro [.int .u32 9] 1], .bool true])
theorem r85_ok : rowOk cfg0 M0 3000 45 r85 = true := by kernel_rfl
def r86 : List AV × AV := ([.agg [.ro [.int .u32 5] 1], .agg [.ro [.int .u32 9] 1]], .agg [.ro [.int .u32 1] 1])
theorem r86_ok : rowOk cfg0 M0 3000 72 r86 = true := by kernel_rfl
def r87 : List AV × AV := ([.str [52, 53, 57, 54, 55], .str [48, 49, 50, 51, 52, 53, 54, 55, 56, 57]], .str [])
theorem r87_ok : rowOk cfg0 M0 3000 90 r87 = true := by kernel_rfl
def r88 : List AV × AV := ([.str [49, 56, 48]], .tuple [.agg [.ro [.int .u32 180] 1], .bool true])
theorem r88_ok : rowOk cfg0 M0 3000 45 r88 = true := by kernel_rfl
def r89 : List AV × AV := ([.agg [.ro [.int .u32 45967] 1], .agg [.ro [.int .u32 180] 1]], .agg [.ro [.int .u32 1] 1])
theorem r89_ok : rowOk cfg0 M0 3000 72 r89 = true := by kernel_rfl
def r90 : List AV × AV := ([.str [115, 112, 101, 101, 100], .str [97, 98, 99, 100, 101, 102, 103, 104, 105, 106, 107, 108, 109, 110, 111, 112, 113, 114, 115, 116, 117, 118, 119, 120, 121, 122, 48, 49, 50, 51, 52, 53, 54, 55, 56, 57]], .str [])
theorem r90_ok : rowOk cfg0 M0 3000 90 r90 = true := by kernel_rfl
def r91 : List AV × AV := ([.str [112, 101, 114], .str [97, 98, 99, 100, 101, 102, 103, 104, 105, 106, 107, 108, 109, 110, 111, 112, 113, 114, 115, 116, 117, 118, 119, 120, 121, 122, 48, 49, 50, 51, 52, 53, 54, 55, 56, 57]], .str [])
theorem r91_ok : rowOk cfg0 M0 3000 90 r91 = true := by kernel_rfl
def r92 : List AV × AV := ([.agg [.int .i64 0, .int .i64 1, .int .i64 0, .int .i64 0, .int .i64 0, .int .i64 0, .int .i64 0, .int .i64 0], .int .i64 (-1)], .tuple [.agg [.int .i64 0, .int .i64 (-1), .int .i64 0, .int .i64 0, .int .i64 0, .int .i64 0, .int .i64 0, .int .i64 0], .bool true])
theorem r92_ok : rowOk cfg0 M0 3000 155 r92 = true := by kernel_rfl
def r93 : List AV × AV := ([.agg [.int .i64 1, .int .i64 0, .int .i64 0, .int .i64 0, .int .i64 0, .int .i64 0, .int .i64 0, .int .i64 0], .agg [.int .i64 0, .int .i64 (-1), .int .i64 0, .int .i64 0, .int .i64 0, .int .i64 0, .int .i64 0, .int .i64 0]], .tuple [.agg [.int .i64 1, .int .i64 (-1), .int .i64 0, .int .i64 0, .int .i64 0, .int .i64 0, .int .i64 0, .int .i64 0], .bool true])
theorem r93_ok : rowOk cfg0 M0 3000 157 r93 = true := by kernel_rfl
def r94 : List AV × AV := ([.str [97, 114, 101, 97], .str [97, 98, 99, 100, 101, 102, 103, 104, 105, 106, 107, 108, 109, 110, 111, 112, 113, 114, 115, 116, 117, 118, 119, 120, 121, 122, 48, 49, 50, 51, 52, 53, 54, 55, 56, 57]], .str [])
theorem r94_ok : rowOk cfg0 M0 3000 90 r94 = true := by kernel_rfl
def r95 : List AV × AV := ([.str [115, 113, 117, 97, 114, 101], .str [97, 98, 99, 100, 101, 102, 103, 104, 105, 106, 107, 108, 109, 110, 111, 112, 113, 114, 115, 116, 117, 118, 119, 120, 121, 122, 48, 49, 50, 51, 52, 53, 54, 55, 56, 57]], .str [])
theorem r95_ok : rowOk cfg0 M0 3000 90 r95 = true := by kernel_rfl
def r96 : List AV × AV := ([.agg [.int .i64 1, .int .i64 0, .int .i64 0, .int .i64 0, .int .i64 0, .int .i64 0, .int .i64 0, .int .i64 0], .int .i64 2], .tuple [.agg [.int .i64 2, .int .i64 0, .int .i64 0, .int .i64 0, .int .i64 0, .int .i64 0, .int .i64 0, .int .i64 0], .bool true])
theorem r96_ok : rowOk cfg0 M0 3000 155 r96 = true := by kernel_rfl
def r97 : List AV × AV := ([.agg [.int .i64 0, .int .i64 0, .int .i64 0, .int .i64 0, .int .i64 0, .int .i64 0, .int .i64 0, .int .i64 0], .agg [.int .i64 2, .int .i64 0, .int .i64 0, .int .i64 0, .int .i64 0, .int .i64 0, .int .i64 0, .int .i64 0]], .tuple [.agg [.int .i64 2, .int .i64 0, .int .i64 0, .int .i64 0, .int .i64 0, .int .i64 0, .int .i64 0, .int .i64 0], .bool true])
theorem r97_ok : rowOk cfg0 M0 3000 157 r97 = true := by kernel_rfl
def r98 : List AV × AV := ([.str [107, 112, 104], .str [97, 98, 99, 100, 101, 102, 103, 104, 105, 106, 107, 108, 109, 110, 111, 112, 113, 114, 115, 116, 117, 118, 119, 120, 121, 122, 48, 49, 50, 51, 52, 53, 54, 55, 56, 57]], .str [])
theorem r98_ok : rowOk cfg0 M0 3000 90 r98 = true := by kernel_rfl
def r99 : List AV × AV := ([.str [107, 105, 108, 111, 109, 101, 116, 101, 114], .str [97, 98, 99, 100, 101, 102, 103, 104, 105, 106, 107, 108, 109, 110, 111, 112, 113, 114, 115, 116, 117, 118, 119, 120, 121, 122, 48, 49, 50, 51, 52, 53, 54, 55, 56, 57]], .str [])
theorem r99_ok : rowOk cfg0 M0 3000 90 r99 = true := by kernel_rfl
def r100 : List AV × AV := ([.str [107, 105, 108, 111, 109, 101, 116, 101, 114]], .int .i64 1)
theorem r100_ok : rowOk cfg0 M0 3000 226 r100 = true := by kernel_rfl
def r101 : List AV × AV := ([.str [108, 101, 110, 103, 116, 104]], .tuple [.ro [.str [108, 101, 110, 103, 116, 104]] 1, .int .i64 0])
theorem r101_ok : rowOk cfg0 M0 3000 207 r101 = true := by kernel_rfl
def r102 : List AV × AV := ([.str [116, 101, 109, 112, 101, 114, 97, 116, 117, 114, 101]], .bool true)
theorem r102_ok : rowOk cfg0 M0 3000 210 r102 = true := by kernel_rfl
def r103 : List AV × AV := ([.str [51]], .tuple [.int .i64 3, .bool true])
theorem r103_ok : rowOk cfg0 M0 3000 166 r103 = true := by kernel_rfl
def r104 : List AV × AV := ([.ro [.int .i64 10] 1, .ro [.int .i64 1] 1], .tuple [.ro [.int .i64 10] 1, .e0])
theorem r104_ok : rowOk cfg0 M0 3000 247 r104 = true := by kernel_rfl
def r105 : List AV × AV := ([.ro [.int .i64 1] 1, .ro [.int .i64 1] 1], .tuple [.ro [.int .i64 1] 1, .e0])
theorem r105_ok : rowOk cfg0 M0 3000 247 r105 = true := by kernel_rfl
def r106 : List AV × AV := ([.ro [.int .i64 100] 1, .ro [.int .i64 1] 1], .tuple [.ro [.int .i64 100] 1, .e0])
theorem r106_ok : rowOk cfg0 M0 3000 247 r106 = true := by kernel_rfl
def r107 : List AV × AV := ([.ro [.int .i64 1000] 1, .ro [.int .i64 1] 1], .tuple [.ro [.int .i64 1000] 1, .e0])
theorem r107_ok : rowOk cfg0 M0 3000 247 r107 = true := by kernel_rfl
def r108 : List AV × AV := ([.str [45, 51]], .tuple [.int .i64 (-3), .bool true])
theorem r108_ok : rowOk cfg0 M0 3000 166 r108 = true := by kernel_rfl
def r109 : List AV × AV := ([.ro [.int .i64 1] 1, .ro [.int .i64 10] 1], .tuple [.e0, .ro [.int .i64 1] 1])
theorem r109_ok : rowOk cfg0 M0 3000 247 r109 = true := by kernel_rfl
def r110 : List AV × AV := ([.ro [.int .i64 1] 1, .ro [.int .i64 100] 1], .tuple [.e0, .ro [.int .i64 1] 1])
theorem r110_ok : rowOk cfg0 M0 3000 247 r110 = true := by kernel_rfl
def r111 : List AV × AV := ([.ro [.int .i64 1] 1, .ro [.int .i64 1000] 1], .tuple [.e0, .ro [.int .i64 1] 1])
theorem r111_ok : rowOk cfg0 M0 3000 247 r111 = true := by kernel_rfl
def r112 : List AV × AV := ([.ro [.int .i64 381] 1, .ro [.int .i64 1250] 1], .tuple [.e0, .ro [.int .i64 381] 1])
theorem r112_ok : rowOk cfg0 M0 3000 247 r112 = true := by kernel_rfl
end Go.Am.splitKnown
