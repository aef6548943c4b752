/- TableKnown: calls on its road whose answers are kept, each run by the kernel over those ahead of it (part 0). Written by wip/gen/memo2lean.py. -/
import Derived.Test.YtnlldmaaiegihaaGreatDoorAmCfgA
import Derived.Test.YtnlldmaaiegihaaGreatDoorAmMemo
import Derived.KernelRfl
namespace Go.Am.tableKnown
set_option maxRecDepth 100000
open Go.Am
theorem lnil {cfg : Cfg} {f : FuncId} : ∀ p ∈ ([] : List (List AV × AV)), ∀ g, Did cfg f p.1 g p.2 g := fun _ h => by cases h
theorem lcons {cfg : Cfg} {f : FuncId} {q : List AV × AV} {l : List (List AV × AV)} (h1 : ∀ g, Did cfg f q.1 g q.2 g) (h2 : ∀ p ∈ l, ∀ g, Did cfg f p.1 g p.2 g) : ∀ p ∈ q :: l, ∀ g, Did cfg f p.1 g p.2 g := fun p hp => by
  rcases List.mem_cons.1 hp with e | e
  · subst e; exact h1
  · exact h2 p e
theorem knil {cfg : Cfg} {f : FuncId} : ∀ p ∈ ([] : List HRow), Did cfg f p.args p.h0 p.v p.h1 := fun _ h => by cases h
theorem kcons {cfg : Cfg} {f : FuncId} {q : HRow} {l : List HRow} (h1 : Did cfg f q.args q.h0 q.v q.h1) (h2 : ∀ p ∈ l, Did cfg f p.args p.h0 p.v p.h1) : ∀ p ∈ q :: l, Did cfg f p.args p.h0 p.v p.h1 := fun p hp => by
  rcases List.mem_cons.1 hp with e | e
  · subst e; exact h1
  · exact h2 p e
def M0 : Memo := noM
theorem M0_ok : MemoOk cfg0 M0 := noM_ok _
def r0 : List AV × AV := ([.str [98, 97, 115, 101, 32, 109, 101, 116, 101, 114, 32, 108, 101, 110, 103, 116, 104], .func 72 [] [], .bool true], .int .i64 (-1))
theorem r0_ok : rowOk cfg0 M0 3000 132 r0 = true := by kernel_rfl
def r1 : List AV × AV := ([.str [117, 110, 105, 116, 32, 102, 111, 111, 116, 32, 51, 56, 49, 47, 49, 50, 53, 48, 32, 109, 101, 116, 101, 114]], .ro [.str [117, 110, 105, 116], .str [102, 111, 111, 116], .str [51, 56, 49, 47, 49, 50, 53, 48], .str [109, 101, 116, 101, 114]] 4)
theorem r1_ok : rowOk cfg0 M0 3000 70 r1 = true := by kernel_rfl
def r2 : List AV × AV := ([.str [117, 110, 105, 116, 32, 102, 111, 111, 116, 32, 51, 56, 49, 47, 49, 50, 53, 48, 32, 109, 101, 116, 101, 114], .func 72 [] [], .bool true], .int .i64 (-1))
theorem r2_ok : rowOk cfg0 M0 3000 132 r2 = true := by kernel_rfl
def r3 : List AV × AV := ([.str [109, 101, 116, 101, 114], .str [97, 98, 99, 100, 101, 102, 103, 104, 105, 106, 107, 108, 109, 110, 111, 112, 113, 114, 115, 116, 117, 118, 119, 120, 121, 122, 48, 49, 50, 51, 52, 53, 54, 55, 56, 57]], .str [])
theorem r3_ok : rowOk cfg0 M0 3000 110 r3 = true := by kernel_rfl
def r4 : List AV × AV := ([.str [108, 101, 110, 103, 116, 104], .str [97, 98, 99, 100, 101, 102, 103, 104, 105, 106, 107, 108, 109, 110, 111, 112, 113, 114, 115, 116, 117, 118, 119, 120, 121, 122, 48, 49, 50, 51, 52, 53, 54, 55, 56, 57]], .str [])
theorem r4_ok : rowOk cfg0 M0 3000 110 r4 = true := by kernel_rfl
def r5 : List AV × AV := ([.str [102, 111, 111, 116], .str [97, 98, 99, 100, 101, 102, 103, 104, 105, 106, 107, 108, 109, 110, 111, 112, 113, 114, 115, 116, 117, 118, 119, 120, 121, 122, 48, 49, 50, 51, 52, 53, 54, 55, 56, 57]], .str [])
theorem r5_ok : rowOk cfg0 M0 3000 110 r5 = true := by kernel_rfl
def r6 : List AV × AV := ([.str [51, 56, 49]], .tuple [.agg [.ro [.int .u32 381] 1], .bool true])
theorem r6_ok : rowOk cfg0 M0 3000 96 r6 = true := by kernel_rfl
def r7 : List AV × AV := ([.str [49, 50, 53, 48], .str [48, 49, 50, 51, 52, 53, 54, 55, 56, 57]], .str [])
theorem r7_ok : rowOk cfg0 M0 3000 110 r7 = true := by kernel_rfl
def r8 : List AV × AV := ([.agg [.ro [.int .u32 381] 1], .agg [.ro [.int .u32 1250] 1]], .agg [.ro [.int .u32 1] 1])
theorem r8_ok : rowOk cfg0 M0 3000 118 r8 = true := by kernel_rfl
def r9 : List AV × AV := ([.str [109, 101, 116, 101, 114]], .int .i64 1)
theorem r9_ok : rowOk cfg0 M0 3000 162 r9 = true := by kernel_rfl
def r10 : List AV × AV := ([.agg [.int .i64 1, .int .i64 0, .int .i64 0, .int .i64 0, .int .i64 0, .int .i64 0, .int .i64 0, .int .i64 0], .int .i64 1], .tuple [.agg [.int .i64 1, .int .i64 0, .int .i64 0, .int .i64 0, .int .i64 0, .int .i64 0, .int .i64 0, .int .i64 0], .bool true])
theorem r10_ok : rowOk cfg0 M0 3000 38 r10 = true := by kernel_rfl
def r11 : List AV × AV := ([.agg [.int .i64 0, .int .i64 0, .int .i64 0, .int .i64 0, .int .i64 0, .int .i64 0, .int .i64 0, .int .i64 0], .agg [.int .i64 1, .int .i64 0, .int .i64 0, .int .i64 0, .int .i64 0, .int .i64 0, .int .i64 0, .int .i64 0]], .tuple [.agg [.int .i64 1, .int .i64 0, .int .i64 0, .int .i64 0, .int .i64 0, .int .i64 0, .int .i64 0, .int .i64 0], .bool true])
theorem r11_ok : rowOk cfg0 M0 3000 40 r11 = true := by kernel_rfl
def r12 : List AV × AV := ([.agg [.ro [.int .u32 1] 1], .agg [.ro [.int .u32 1] 1]], .agg [.ro [.int .u32 1] 1])
theorem r12_ok : rowOk cfg0 M0 3000 118 r12 = true := by kernel_rfl
def r13 : List AV × AV := ([.agg [.bool false, .ro [.int .u32 381] 1]], .str [51, 56, 49])
theorem r13_ok : rowOk cfg0 M0 3000 46 r13 = true := by kernel_rfl
def r14 : List AV × AV := ([.str [98, 97, 115, 101, 32, 109, 32, 108, 101, 110, 103, 116, 104, 10, 98, 97, 115, 101, 32, 109, 32, 120]], .tuple [.ro [.int .i64 1, .ro [.str [98, 97, 115, 101], .str [109], .str [108, 101, 110, 103, 116, 104]] 3, .int .i64 2, .ro [.str [98, 97, 115, 101], .str [109], .str [120]] 3] 2, .int .i64 0, .int .i64 0])
theorem r14_ok : rowOk cfg0 M0 3000 32 r14 = true := by kernel_rfl
def r15 : List AV × AV := ([.str [109], .str [97, 98, 99, 100, 101, 102, 103, 104, 105, 106, 107, 108, 109, 110, 111, 112, 113, 114, 115, 116, 117, 118, 119, 120, 121, 122, 48, 49, 50, 51, 52, 53, 54, 55, 56, 57]], .str [])
theorem r15_ok : rowOk cfg0 M0 3000 110 r15 = true := by kernel_rfl
def r16 : List AV × AV := ([.str [98, 97, 115, 101, 32, 109, 32, 108, 101, 110, 103, 116, 104, 10, 98, 97, 115, 101, 32, 112, 101, 114, 32, 120]], .tuple [.ro [.int .i64 1, .ro [.str [98, 97, 115, 101], .str [109], .str [108, 101, 110, 103, 116, 104]] 3, .int .i64 2, .ro [.str [98, 97, 115, 101], .str [112, 101, 114], .str [120]] 3] 2, .int .i64 0, .int .i64 0])
theorem r16_ok : rowOk cfg0 M0 3000 32 r16 = true := by kernel_rfl
def r17 : List AV × AV := ([.str [98, 97, 115, 101, 32, 109]], .tuple [.ro [.int .i64 1, .ro [.str [98, 97, 115, 101], .str [109]] 2] 1, .int .i64 0, .int .i64 0])
theorem r17_ok : rowOk cfg0 M0 3000 32 r17 = true := by kernel_rfl
def r18 : List AV × AV := ([.str [98, 97, 115, 101, 32, 109, 32, 65]], .tuple [.ro [.int .i64 1, .ro [.str [98, 97, 115, 101], .str [109], .str [65]] 3] 1, .int .i64 0, .int .i64 0])
theorem r18_ok : rowOk cfg0 M0 3000 32 r18 = true := by kernel_rfl
def r19 : List AV × AV := ([.str [65], .str [97, 98, 99, 100, 101, 102, 103, 104, 105, 106, 107, 108, 109, 110, 111, 112, 113, 114, 115, 116, 117, 118, 119, 120, 121, 122, 48, 49, 50, 51, 52, 53, 54, 55, 56, 57]], .str [65])
theorem r19_ok : rowOk cfg0 M0 3000 110 r19 = true := by kernel_rfl
def r20 : List AV × AV := ([.str [98, 97, 115, 101, 32, 117, 97, 32, 113, 10, 98, 97, 115, 101, 32, 117, 98, 32, 113, 10, 98, 97, 115, 101, 32, 117, 99, 32, 113, 10, 98, 97, 115, 101, 32, 117, 100, 32, 113, 10, 98, 97, 115, 101, 32, 117, 101, 32, 113, 10, 98, 97, 115, 101, 32, 117, 102, 32, 113, 10, 98, 97, 115, 101, 32, 117, 103, 32, 113, 10, 98, 97, 115, 101, 32, 117, 104, 32, 113, 10, 98, 97, 115, 101, 32, 117, 105, 32, 113, 10]], .tuple [.ro [.int .i64 1, .ro [.str [98, 97, 115, 101], .str [117, 97], .str [113]] 3, .int .i64 2, .ro [.str [98, 97, 115, 101], .str [117, 98], .str [113]] 3, .int .i64 3, .ro [.str [98, 97, 115, 101], .str [117, 99], .str [113]] 3, .int .i64 4, .ro [.str [98, 97, 115, 101], .str [117, 100], .str [113]] 3, .int .i64 5, .ro [.str [98, 97, 115, 101], .str [117, 101], .str [113]] 3, .int .i64 6, .ro [.str [98, 97, 115, 101], .str [117, 102], .str [113]] 3, .int .i64 7, .ro [.str [98, 97, 115, 101], .str [117, 103], .str [113]] 3, .int .i64 8, .ro [.str [98, 97, 115, 101], .str [117, 104], .str [113]] 3, .int .i64 9, .ro [.str [98, 97, 115, 101], .str [117, 105], .str [113]] 3] 9, .int .i64 0, .int .i64 0])
theorem r20_ok : rowOk cfg0 M0 3000 32 r20 = true := by kernel_rfl
def r21 : List AV × AV := ([.str [117, 97], .str [97, 98, 99, 100, 101, 102, 103, 104, 105, 106, 107, 108, 109, 110, 111, 112, 113, 114, 115, 116, 117, 118, 119, 120, 121, 122, 48, 49, 50, 51, 52, 53, 54, 55, 56, 57]], .str [])
theorem r21_ok : rowOk cfg0 M0 3000 110 r21 = true := by kernel_rfl
def r22 : List AV × AV := ([.str [113], .str [97, 98, 99, 100, 101, 102, 103, 104, 105, 106, 107, 108, 109, 110, 111, 112, 113, 114, 115, 116, 117, 118, 119, 120, 121, 122, 48, 49, 50, 51, 52, 53, 54, 55, 56, 57]], .str [])
theorem r22_ok : rowOk cfg0 M0 3000 110 r22 = true := by kernel_rfl
def r23 : List AV × AV := ([.str [117, 98], .str [97, 98, 99, 100, 101, 102, 103, 104, 105, 106, 107, 108, 109, 110, 111, 112, 113, 114, 115, 116, 117, 118, 119, 120, 121, 122, 48, 49, 50, 51, 52, 53, 54, 55, 56, 57]], .str [])
theorem r23_ok : rowOk cfg0 M0 3000 110 r23 = true := by kernel_rfl
def r24 : List AV × AV := ([.str [117, 99], .str [97, 98, 99, 100, 101, 102, 103, 104, 105, 106, 107, 108, 109, 110, 111, 112, 113, 114, 115, 116, 117, 118, 119, 120, 121, 122, 48, 49, 50, 51, 52, 53, 54, 55, 56, 57]], .str [])
theorem r24_ok : rowOk cfg0 M0 3000 110 r24 = true := by kernel_rfl
def r25 : List AV × AV := ([.str [117, 100], .str [97, 98, 99, 100, 101, 102, 103, 104, 105, 106, 107, 108, 109, 110, 111, 112, 113, 114, 115, 116, 117, 118, 119, 120, 121, 122, 48, 49, 50, 51, 52, 53, 54, 55, 56, 57]], .str [])
theorem r25_ok : rowOk cfg0 M0 3000 110 r25 = true := by kernel_rfl
def r26 : List AV × AV := ([.str [117, 101], .str [97, 98, 99, 100, 101, 102, 103, 104, 105, 106, 107, 108, 109, 110, 111, 112, 113, 114, 115, 116, 117, 118, 119, 120, 121, 122, 48, 49, 50, 51, 52, 53, 54, 55, 56, 57]], .str [])
theorem r26_ok : rowOk cfg0 M0 3000 110 r26 = true := by kernel_rfl
def r27 : List AV × AV := ([.str [117, 102], .str [97, 98, 99, 100, 101, 102, 103, 104, 105, 106, 107, 108, 109, 110, 111, 112, 113, 114, 115, 116, 117, 118, 119, 120, 121, 122, 48, 49, 50, 51, 52, 53, 54, 55, 56, 57]], .str [])
theorem r27_ok : rowOk cfg0 M0 3000 110 r27 = true := by kernel_rfl
def r28 : List AV × AV := ([.str [117, 103], .str [97, 98, 99, 100, 101, 102, 103, 104, 105, 106, 107, 108, 109, 110, 111, 112, 113, 114, 115, 116, 117, 118, 119, 120, 121, 122, 48, 49, 50, 51, 52, 53, 54, 55, 56, 57]], .str [])
theorem r28_ok : rowOk cfg0 M0 3000 110 r28 = true := by kernel_rfl
def r29 : List AV × AV := ([.str [117, 104], .str [97, 98, 99, 100, 101, 102, 103, 104, 105, 106, 107, 108, 109, 110, 111, 112, 113, 114, 115, 116, 117, 118, 119, 120, 121, 122, 48, 49, 50, 51, 52, 53, 54, 55, 56, 57]], .str [])
theorem r29_ok : rowOk cfg0 M0 3000 110 r29 = true := by kernel_rfl
def r30 : List AV × AV := ([.str [117, 105], .str [97, 98, 99, 100, 101, 102, 103, 104, 105, 106, 107, 108, 109, 110, 111, 112, 113, 114, 115, 116, 117, 118, 119, 120, 121, 122, 48, 49, 50, 51, 52, 53, 54, 55, 56, 57]], .str [])
theorem r30_ok : rowOk cfg0 M0 3000 110 r30 = true := by kernel_rfl
def r31 : List AV × AV := ([.str [112, 114, 101, 102, 105, 120, 32, 107, 32, 49, 48, 32, 51, 49]], .ro [.str [112, 114, 101, 102, 105, 120], .str [107], .str [49, 48], .str [51, 49]] 4)
theorem r31_ok : rowOk cfg0 M0 3000 70 r31 = true := by kernel_rfl
def r32 : List AV × AV := ([.str [107], .str [97, 98, 99, 100, 101, 102, 103, 104, 105, 106, 107, 108, 109, 110, 111, 112, 113, 114, 115, 116, 117, 118, 119, 120, 121, 122, 48, 49, 50, 51, 52, 53, 54, 55, 56, 57]], .str [])
theorem r32_ok : rowOk cfg0 M0 3000 110 r32 = true := by kernel_rfl
def r33 : List AV × AV := ([.str [51, 49]], .tuple [.agg [.ro [.int .u32 31] 1], .bool true])
theorem r33_ok : rowOk cfg0 M0 3000 96 r33 = true := by kernel_rfl
def r34 : List AV × AV := ([.str [112, 114, 101, 102, 105, 120, 32, 107, 32, 51, 32, 49]], .ro [.str [112, 114, 101, 102, 105, 120], .str [107], .str [51], .str [49]] 4)
theorem r34_ok : rowOk cfg0 M0 3000 70 r34 = true := by kernel_rfl
def r35 : List AV × AV := ([.str [49]], .tuple [.agg [.ro [.int .u32 1] 1], .bool true])
theorem r35_ok : rowOk cfg0 M0 3000 96 r35 = true := by kernel_rfl
def r36 : List AV × AV := ([.str [112, 114, 101, 102, 105, 120, 32, 107, 32, 49, 48, 32, 48, 51]], .ro [.str [112, 114, 101, 102, 105, 120], .str [107], .str [49, 48], .str [48, 51]] 4)
theorem r36_ok : rowOk cfg0 M0 3000 70 r36 = true := by kernel_rfl
def r37 : List AV × AV := ([.str [48, 51]], .tuple [.agg [.ro [.int .u32 3] 1], .bool true])
theorem r37_ok : rowOk cfg0 M0 3000 96 r37 = true := by kernel_rfl
def r38 : List AV × AV := ([.str [112, 114, 101, 102, 105, 120, 32, 107, 32, 49, 48, 32, 49]], .ro [.str [112, 114, 101, 102, 105, 120], .str [107], .str [49, 48], .str [49]] 4)
theorem r38_ok : rowOk cfg0 M0 3000 70 r38 = true := by kernel_rfl
def r39 : List AV × AV := ([.str [112, 114, 101, 102, 105, 120, 32, 107, 32, 50, 32, 49]], .ro [.str [112, 114, 101, 102, 105, 120], .str [107], .str [50], .str [49]] 4)
theorem r39_ok : rowOk cfg0 M0 3000 70 r39 = true := by kernel_rfl
def r40 : List AV × AV := ([.agg [.ro [.int .u32 10] 1], .agg [.ro [.int .u32 1] 1]], .agg [.ro [.int .u32 1] 1])
theorem r40_ok : rowOk cfg0 M0 3000 118 r40 = true := by kernel_rfl
def r41 : List AV × AV := ([.str [117, 110, 105, 116, 32, 102, 32, 48, 32, 109]], .ro [.str [117, 110, 105, 116], .str [102], .str [48], .str [109]] 4)
theorem r41_ok : rowOk cfg0 M0 3000 70 r41 = true := by kernel_rfl
def r42 : List AV × AV := ([.str [102], .str [97, 98, 99, 100, 101, 102, 103, 104, 105, 106, 107, 108, 109, 110, 111, 112, 113, 114, 115, 116, 117, 118, 119, 120, 121, 122, 48, 49, 50, 51, 52, 53, 54, 55, 56, 57]], .str [])
theorem r42_ok : rowOk cfg0 M0 3000 110 r42 = true := by kernel_rfl
def r43 : List AV × AV := ([.str [48]], .tuple [.agg [.nilsl], .bool true])
theorem r43_ok : rowOk cfg0 M0 3000 96 r43 = true := by kernel_rfl
def r44 : List AV × AV := ([.agg [.bool false, .e0], .agg [.ro [.int .u32 1] 1]], .tuple [.agg [.bool false, .nilsl, .ro [.int .u32 1] 1], .bool true])
theorem r44_ok : rowOk cfg0 M0 3000 85 r44 = true := by kernel_rfl
def r45 : List AV × AV := ([.agg [.bool false, .nilsl], .agg [.ro [.int .u32 1] 1]], .tuple [.agg [.bool false, .nilsl, .ro [.int .u32 1] 1], .bool true])
theorem r45_ok : rowOk cfg0 M0 3000 85 r45 = true := by kernel_rfl
def r46 : List AV × AV := ([.str [117, 110, 105, 116, 32, 102, 32, 49, 32, 120]], .ro [.str [117, 110, 105, 116], .str [102], .str [49], .str [120]] 4)
theorem r46_ok : rowOk cfg0 M0 3000 70 r46 = true := by kernel_rfl
def r47 : List AV × AV := ([.str [120], .str [97, 98, 99, 100, 101, 102, 103, 104, 105, 106, 107, 108, 109, 110, 111, 112, 113, 114, 115, 116, 117, 118, 119, 120, 121, 122, 48, 49, 50, 51, 52, 53, 54, 55, 56, 57]], .str [])
theorem r47_ok : rowOk cfg0 M0 3000 110 r47 = true := by kernel_rfl
def r48 : List AV × AV := ([.str [120]], .int .i64 1)
theorem r48_ok : rowOk cfg0 M0 3000 162 r48 = true := by kernel_rfl
def r49 : List AV × AV := ([.str [117, 110, 105, 116, 32, 102, 32, 49, 32, 109, 45, 97, 110, 100, 45, 109]], .ro [.str [117, 110, 105, 116], .str [102], .str [49], .str [109, 45, 97, 110, 100, 45, 109]] 4)
theorem r49_ok : rowOk cfg0 M0 3000 70 r49 = true := by kernel_rfl
def r50 : List AV × AV := ([.str [117, 110, 105, 116, 32, 102, 32, 49, 32, 109, 45, 97, 110, 100, 45, 109], .func 72 [] [], .bool true], .int .i64 (-1))
theorem r50_ok : rowOk cfg0 M0 3000 132 r50 = true := by kernel_rfl
def r51 : List AV × AV := ([.str [97, 110, 100], .str [97, 98, 99, 100, 101, 102, 103, 104, 105, 106, 107, 108, 109, 110, 111, 112, 113, 114, 115, 116, 117, 118, 119, 120, 121, 122, 48, 49, 50, 51, 52, 53, 54, 55, 56, 57]], .str [])
theorem r51_ok : rowOk cfg0 M0 3000 110 r51 = true := by kernel_rfl
def r52 : List AV × AV := ([.str [109]], .int .i64 1)
theorem r52_ok : rowOk cfg0 M0 3000 162 r52 = true := by kernel_rfl
def r53 : List AV × AV := ([.str [117, 110, 105, 116, 32, 102, 32, 49, 32, 115, 113, 117, 97, 114, 101, 45, 109, 32, 49]], .ro [.str [117, 110, 105, 116], .str [102], .str [49], .str [115, 113, 117, 97, 114, 101, 45, 109], .str [49]] 5)
theorem r53_ok : rowOk cfg0 M0 3000 70 r53 = true := by kernel_rfl
def r54 : List AV × AV := ([.str [117, 110, 105, 116, 32, 102, 32, 49, 32, 115, 113, 117, 97, 114, 101, 45, 109, 32, 49], .func 72 [] [], .bool true], .int .i64 (-1))
theorem r54_ok : rowOk cfg0 M0 3000 132 r54 = true := by kernel_rfl
def r55 : List AV × AV := ([.str [115, 113, 117, 97, 114, 101], .str [97, 98, 99, 100, 101, 102, 103, 104, 105, 106, 107, 108, 109, 110, 111, 112, 113, 114, 115, 116, 117, 118, 119, 120, 121, 122, 48, 49, 50, 51, 52, 53, 54, 55, 56, 57]], .str [])
theorem r55_ok : rowOk cfg0 M0 3000 110 r55 = true := by kernel_rfl
def r56 : List AV × AV := ([.str [117, 110, 105, 116, 32, 99, 32, 49, 32, 109, 32, 53]], .ro [.str [117, 110, 105, 116], .str [99], .str [49], .str [109], .str [53]] 5)
theorem r56_ok : rowOk cfg0 M0 3000 70 r56 = true := by kernel_rfl
def r57 : List AV × AV := ([.str [117, 110, 105, 116, 32, 100, 32, 49, 32, 99]], .ro [.str [117, 110, 105, 116], .str [100], .str [49], .str [99]] 4)
theorem r57_ok : rowOk cfg0 M0 3000 70 r57 = true := by kernel_rfl
def r58 : List AV × AV := ([.str [99], .str [97, 98, 99, 100, 101, 102, 103, 104, 105, 106, 107, 108, 109, 110, 111, 112, 113, 114, 115, 116, 117, 118, 119, 120, 121, 122, 48, 49, 50, 51, 52, 53, 54, 55, 56, 57]], .str [])
theorem r58_ok : rowOk cfg0 M0 3000 110 r58 = true := by kernel_rfl
def r59 : List AV × AV := ([.str [53]], .tuple [.agg [.ro [.int .u32 5] 1], .bool true])
theorem r59_ok : rowOk cfg0 M0 3000 96 r59 = true := by kernel_rfl
def r60 : List AV × AV := ([.agg [.ro [.int .u32 5] 1], .agg [.ro [.int .u32 1] 1]], .agg [.ro [.int .u32 1] 1])
theorem r60_ok : rowOk cfg0 M0 3000 118 r60 = true := by kernel_rfl
def r61 : List AV × AV := ([.str [100], .str [97, 98, 99, 100, 101, 102, 103, 104, 105, 106, 107, 108, 109, 110, 111, 112, 113, 114, 115, 116, 117, 118, 119, 120, 121, 122, 48, 49, 50, 51, 52, 53, 54, 55, 56, 57]], .str [])
theorem r61_ok : rowOk cfg0 M0 3000 110 r61 = true := by kernel_rfl
def r62 : List AV × AV := ([.str [99]], .int .i64 1)
theorem r62_ok : rowOk cfg0 M0 3000 162 r62 = true := by kernel_rfl
def r63 : List AV × AV := ([.str [117, 110, 105, 116, 32, 100, 32, 49, 32, 109, 45, 112, 101, 114, 45, 99]], .ro [.str [117, 110, 105, 116], .str [100], .str [49], .str [109, 45, 112, 101, 114, 45, 99]] 4)
theorem r63_ok : rowOk cfg0 M0 3000 70 r63 = true := by kernel_rfl
def r64 : List AV × AV := ([.str [117, 110, 105, 116, 32, 100, 32, 49, 32, 109, 45, 112, 101, 114, 45, 99], .func 72 [] [], .bool true], .int .i64 (-1))
theorem r64_ok : rowOk cfg0 M0 3000 132 r64 = true := by kernel_rfl
def r65 : List AV × AV := ([.str [112, 101, 114], .str [97, 98, 99, 100, 101, 102, 103, 104, 105, 106, 107, 108, 109, 110, 111, 112, 113, 114, 115, 116, 117, 118, 119, 120, 121, 122, 48, 49, 50, 51, 52, 53, 54, 55, 56, 57]], .str [])
theorem r65_ok : rowOk cfg0 M0 3000 110 r65 = true := by kernel_rfl
def r66 : List AV × AV := ([.str [117, 110, 105, 116, 32, 100, 32, 49, 32, 99, 32, 50]], .ro [.str [117, 110, 105, 116], .str [100], .str [49], .str [99], .str [50]] 5)
theorem r66_ok : rowOk cfg0 M0 3000 70 r66 = true := by kernel_rfl
def r67 : List AV × AV := ([.str [50]], .tuple [.agg [.ro [.int .u32 2] 1], .bool true])
theorem r67_ok : rowOk cfg0 M0 3000 96 r67 = true := by kernel_rfl
def r68 : List AV × AV := ([.agg [.ro [.int .u32 2] 1], .agg [.ro [.int .u32 1] 1]], .agg [.ro [.int .u32 1] 1])
theorem r68_ok : rowOk cfg0 M0 3000 118 r68 = true := by kernel_rfl
def r69 : List AV × AV := ([.str [117, 110, 105, 116, 32, 102, 32, 49, 32, 112, 111, 119, 49, 53, 45, 109, 45, 112, 111, 119, 49, 53, 45, 109, 45, 112, 111, 119, 49, 53, 45, 109, 45, 112, 111, 119, 49, 53, 45, 109, 45, 112, 111, 119, 49, 53, 45, 109, 45, 112, 111, 119, 49, 53, 45, 109, 45, 112, 111, 119, 49, 53, 45, 109]], .ro [.str [117, 110, 105, 116], .str [102], .str [49], .str [112, 111, 119, 49, 53, 45, 109, 45, 112, 111, 119, 49, 53, 45, 109, 45, 112, 111, 119, 49, 53, 45, 109, 45, 112, 111, 119, 49, 53, 45, 109, 45, 112, 111, 119, 49, 53, 45, 109, 45, 112, 111, 119, 49, 53, 45, 109, 45, 112, 111, 119, 49, 53, 45, 109]] 4)
theorem r69_ok : rowOk cfg0 M0 3000 70 r69 = true := by kernel_rfl
def r70 : List AV × AV := ([.str [117, 110, 105, 116, 32, 102, 32, 49, 32, 112, 111, 119, 49, 53, 45, 109, 45, 112, 111, 119, 49, 53, 45, 109, 45, 112, 111, 119, 49, 53, 45, 109, 45, 112, 111, 119, 49, 53, 45, 109, 45, 112, 111, 119, 49, 53, 45, 109, 45, 112, 111, 119, 49, 53, 45, 109, 45, 112, 111, 119, 49, 53, 45, 109], .func 72 [] [], .bool true], .int .i64 (-1))
theorem r70_ok : rowOk cfg0 M0 3000 132 r70 = true := by kernel_rfl
def r71 : List AV × AV := ([.str [112, 111, 119, 49, 53], .str [97, 98, 99, 100, 101, 102, 103, 104, 105, 106, 107, 108, 109, 110, 111, 112, 113, 114, 115, 116, 117, 118, 119, 120, 121, 122, 48, 49, 50, 51, 52, 53, 54, 55, 56, 57]], .str [])
theorem r71_ok : rowOk cfg0 M0 3000 110 r71 = true := by kernel_rfl
def r72 : List AV × AV := ([.str [112, 111, 119, 49, 53]], .int .i64 15)
theorem r72_ok : rowOk cfg0 M0 3000 162 r72 = true := by kernel_rfl
def r73 : List AV × AV := ([.agg [.int .i64 1, .int .i64 0, .int .i64 0, .int .i64 0, .int .i64 0, .int .i64 0, .int .i64 0, .int .i64 0], .int .i64 15], .tuple [.agg [.int .i64 15, .int .i64 0, .int .i64 0, .int .i64 0, .int .i64 0, .int .i64 0, .int .i64 0, .int .i64 0], .bool true])
theorem r73_ok : rowOk cfg0 M0 3000 38 r73 = true := by kernel_rfl
def r74 : List AV × AV := ([.agg [.int .i64 0, .int .i64 0, .int .i64 0, .int .i64 0, .int .i64 0, .int .i64 0, .int .i64 0, .int .i64 0], .agg [.int .i64 15, .int .i64 0, .int .i64 0, .int .i64 0, .int .i64 0, .int .i64 0, .int .i64 0, .int .i64 0]], .tuple [.agg [.int .i64 15, .int .i64 0, .int .i64 0, .int .i64 0, .int .i64 0, .int .i64 0, .int .i64 0, .int .i64 0], .bool true])
theorem r74_ok : rowOk cfg0 M0 3000 40 r74 = true := by kernel_rfl
def r75 : List AV × AV := ([.agg [.int .i64 15, .int .i64 0, .int .i64 0, .int .i64 0, .int .i64 0, .int .i64 0, .int .i64 0, .int .i64 0], .agg [.int .i64 15, .int .i64 0, .int .i64 0, .int .i64 0, .int .i64 0, .int .i64 0, .int .i64 0, .int .i64 0]], .tuple [.agg [.int .i64 30, .int .i64 0, .int .i64 0, .int .i64 0, .int .i64 0, .int .i64 0, .int .i64 0, .int .i64 0], .bool true])
theorem r75_ok : rowOk cfg0 M0 3000 40 r75 = true := by kernel_rfl
def r76 : List AV × AV := ([.agg [.int .i64 30, .int .i64 0, .int .i64 0, .int .i64 0, .int .i64 0, .int .i64 0, .int .i64 0, .int .i64 0], .agg [.int .i64 15, .int .i64 0, .int .i64 0, .int .i64 0, .int .i64 0, .int .i64 0, .int .i64 0, .int .i64 0]], .tuple [.agg [.int .i64 45, .int .i64 0, .int .i64 0, .int .i64 0, .int .i64 0, .int .i64 0, .int .i64 0, .int .i64 0], .bool true])
theorem r76_ok : rowOk cfg0 M0 3000 40 r76 = true := by kernel_rfl
def r77 : List AV × AV := ([.agg [.int .i64 45, .int .i64 0, .int .i64 0, .int .i64 0, .int .i64 0, .int .i64 0, .int .i64 0, .int .i64 0], .agg [.int .i64 15, .int .i64 0, .int .i64 0, .int .i64 0, .int .i64 0, .int .i64 0, .int .i64 0, .int .i64 0]], .tuple [.agg [.int .i64 60, .int .i64 0, .int .i64 0, .int .i64 0, .int .i64 0, .int .i64 0, .int .i64 0, .int .i64 0], .bool true])
theorem r77_ok : rowOk cfg0 M0 3000 40 r77 = true := by kernel_rfl
def r78 : List AV × AV := ([.agg [.int .i64 60, .int .i64 0, .int .i64 0, .int .i64 0, .int .i64 0, .int .i64 0, .int .i64 0, .int .i64 0], .agg [.int .i64 15, .int .i64 0, .int .i64 0, .int .i64 0, .int .i64 0, .int .i64 0, .int .i64 0, .int .i64 0]], .tuple [.agg [.int .i64 75, .int .i64 0, .int .i64 0, .int .i64 0, .int .i64 0, .int .i64 0, .int .i64 0, .int .i64 0], .bool true])
theorem r78_ok : rowOk cfg0 M0 3000 40 r78 = true := by kernel_rfl
def r79 : List AV × AV := ([.agg [.int .i64 75, .int .i64 0, .int .i64 0, .int .i64 0, .int .i64 0, .int .i64 0, .int .i64 0, .int .i64 0], .agg [.int .i64 15, .int .i64 0, .int .i64 0, .int .i64 0, .int .i64 0, .int .i64 0, .int .i64 0, .int .i64 0]], .tuple [.agg [.int .i64 90, .int .i64 0, .int .i64 0, .int .i64 0, .int .i64 0, .int .i64 0, .int .i64 0, .int .i64 0], .bool true])
theorem r79_ok : rowOk cfg0 M0 3000 40 r79 = true := by kernel_rfl
def r80 : List AV × AV := ([.agg [.int .i64 90, .int .i64 0, .int .i64 0, .int .i64 0, .int .i64 0, .int .i64 0, .int .i64 0, .int .i64 0], .agg [.int .i64 15, .int .i64 0, .int .i64 0, .int .i64 0, .int .i64 0, .int .i64 0, .int .i64 0, .int .i64 0]], .tuple [.agg [.int .i64 0, .int .i64 0, .int .i64 0, .int .i64 0, .int .i64 0, .int .i64 0, .int .i64 0, .int .i64 0], .bool false])
theorem r80_ok : rowOk cfg0 M0 3000 40 r80 = true := by kernel_rfl
def r81 : List AV × AV := ([.str [98, 97, 115, 101, 32, 109, 32, 108, 101, 110, 103, 116, 104, 10, 113, 117, 97, 110, 116, 105, 116, 121, 32, 97, 32, 109]], .tuple [.ro [.int .i64 1, .ro [.str [98, 97, 115, 101], .str [109], .str [108, 101, 110, 103, 116, 104]] 3, .int .i64 2, .ro [.str [113, 117, 97, 110, 116, 105, 116, 121], .str [97], .str [109]] 3] 2, .int .i64 0, .int .i64 0])
theorem r81_ok : rowOk cfg0 M0 3000 32 r81 = true := by kernel_rfl
def r82 : List AV × AV := ([.str [97], .str [97, 98, 99, 100, 101, 102, 103, 104, 105, 106, 107, 108, 109, 110, 111, 112, 113, 114, 115, 116, 117, 118, 119, 120, 121, 122, 48, 49, 50, 51, 52, 53, 54, 55, 56, 57]], .str [])
theorem r82_ok : rowOk cfg0 M0 3000 110 r82 = true := by kernel_rfl
def r83 : List AV × AV := ([.str [113, 117, 97, 110, 116, 105, 116, 121, 32, 97, 32, 115, 113, 117, 97, 114, 101, 45, 109], .func 72 [] [], .bool true], .int .i64 (-1))
theorem r83_ok : rowOk cfg0 M0 3000 132 r83 = true := by kernel_rfl
def r84 : List AV × AV := ([.agg [.int .i64 1, .int .i64 0, .int .i64 0, .int .i64 0, .int .i64 0, .int .i64 0, .int .i64 0, .int .i64 0], .int .i64 2], .tuple [.agg [.int .i64 2, .int .i64 0, .int .i64 0, .int .i64 0, .int .i64 0, .int .i64 0, .int .i64 0, .int .i64 0], .bool true])
theorem r84_ok : rowOk cfg0 M0 3000 38 r84 = true := by kernel_rfl
def r85 : List AV × AV := ([.agg [.int .i64 0, .int .i64 0, .int .i64 0, .int .i64 0, .int .i64 0, .int .i64 0, .int .i64 0, .int .i64 0], .agg [.int .i64 2, .int .i64 0, .int .i64 0, .int .i64 0, .int .i64 0, .int .i64 0, .int .i64 0, .int .i64 0]], .tuple [.agg [.int .i64 2, .int .i64 0, .int .i64 0, .int .i64 0, .int .i64 0, .int .i64 0, .int .i64 0, .int .i64 0], .bool true])
theorem r85_ok : rowOk cfg0 M0 3000 40 r85 = true := by kernel_rfl
def r86 : List AV × AV := ([.str [98], .str [97, 98, 99, 100, 101, 102, 103, 104, 105, 106, 107, 108, 109, 110, 111, 112, 113, 114, 115, 116, 117, 118, 119, 120, 121, 122, 48, 49, 50, 51, 52, 53, 54, 55, 56, 57]], .str [])
theorem r86_ok : rowOk cfg0 M0 3000 110 r86 = true := by kernel_rfl
def r87 : List AV × AV := ([.agg [.int .i64 1, .int .i64 0, .int .i64 0, .int .i64 0, .int .i64 0, .int .i64 0, .int .i64 0, .int .i64 0], .agg [.int .i64 1, .int .i64 0, .int .i64 0, .int .i64 0, .int .i64 0, .int .i64 0, .int .i64 0, .int .i64 0]], .tuple [.agg [.int .i64 2, .int .i64 0, .int .i64 0, .int .i64 0, .int .i64 0, .int .i64 0, .int .i64 0, .int .i64 0], .bool true])
theorem r87_ok : rowOk cfg0 M0 3000 40 r87 = true := by kernel_rfl
def r88 : List AV × AV := ([.str [98, 97, 115, 101, 32, 109, 32, 108, 101, 110, 103, 116, 104, 10, 97, 108, 105, 97, 115, 32, 109, 32, 109]], .tuple [.ro [.int .i64 1, .ro [.str [98, 97, 115, 101], .str [109], .str [108, 101, 110, 103, 116, 104]] 3, .int .i64 2, .ro [.str [97, 108, 105, 97, 115], .str [109], .str [109]] 3] 2, .int .i64 0, .int .i64 0])
theorem r88_ok : rowOk cfg0 M0 3000 32 r88 = true := by kernel_rfl
def r89 : List AV × AV := ([.str [117, 110, 105, 116, 32, 111, 32, 49, 32, 109]], .ro [.str [117, 110, 105, 116], .str [111], .str [49], .str [109]] 4)
theorem r89_ok : rowOk cfg0 M0 3000 70 r89 = true := by kernel_rfl
def r90 : List AV × AV := ([.str [111], .str [97, 98, 99, 100, 101, 102, 103, 104, 105, 106, 107, 108, 109, 110, 111, 112, 113, 114, 115, 116, 117, 118, 119, 120, 121, 122, 48, 49, 50, 51, 52, 53, 54, 55, 56, 57]], .str [])
theorem r90_ok : rowOk cfg0 M0 3000 110 r90 = true := by kernel_rfl
def r91 : List AV × AV := ([.str [98, 97, 115, 101, 32, 109, 32, 108, 101, 110, 103, 116, 104, 10, 97, 108, 105, 97, 115, 32, 111, 32, 120]], .tuple [.ro [.int .i64 1, .ro [.str [98, 97, 115, 101], .str [109], .str [108, 101, 110, 103, 116, 104]] 3, .int .i64 2, .ro [.str [97, 108, 105, 97, 115], .str [111], .str [120]] 3] 2, .int .i64 0, .int .i64 0])
theorem r91_ok : rowOk cfg0 M0 3000 32 r91 = true := by kernel_rfl
def r92 : List AV × AV := ([.str [98, 97, 115, 101, 32, 109, 32, 108, 101, 110, 103, 116, 104, 10, 97, 108, 105, 97, 115, 32, 111, 32, 109, 10, 97, 108, 105, 97, 115, 32, 112, 32, 111]], .tuple [.ro [.int .i64 1, .ro [.str [98, 97, 115, 101], .str [109], .str [108, 101, 110, 103, 116, 104]] 3, .int .i64 2, .ro [.str [97, 108, 105, 97, 115], .str [111], .str [109]] 3, .int .i64 3, .ro [.str [97, 108, 105, 97, 115], .str [112], .str [111]] 3] 3, .int .i64 0, .int .i64 0])
theorem r92_ok : rowOk cfg0 M0 3000 32 r92 = true := by kernel_rfl
def r93 : List AV × AV := ([.str [112], .str [97, 98, 99, 100, 101, 102, 103, 104, 105, 106, 107, 108, 109, 110, 111, 112, 113, 114, 115, 116, 117, 118, 119, 120, 121, 122, 48, 49, 50, 51, 52, 53, 54, 55, 56, 57]], .str [])
theorem r93_ok : rowOk cfg0 M0 3000 110 r93 = true := by kernel_rfl
def r94 : List AV × AV := ([.str [111]], .int .i64 1)
theorem r94_ok : rowOk cfg0 M0 3000 162 r94 = true := by kernel_rfl
def r95 : List AV × AV := ([.str [98, 97, 115, 101, 32, 115, 101, 99, 111, 110, 100, 32, 116, 105, 109, 101], .func 72 [] [], .bool true], .int .i64 (-1))
theorem r95_ok : rowOk cfg0 M0 3000 132 r95 = true := by kernel_rfl
def r96 : List AV × AV := ([.str [98, 97, 115, 101, 32, 107, 101, 108, 118, 105, 110, 32, 116, 101, 109, 112, 101, 114, 97, 116, 117, 114, 101], .func 72 [] [], .bool true], .int .i64 (-1))
theorem r96_ok : rowOk cfg0 M0 3000 132 r96 = true := by kernel_rfl
def r97 : List AV × AV := ([.str [112, 114, 101, 102, 105, 120, 32, 107, 105, 108, 111, 32, 49, 48, 32, 51]], .ro [.str [112, 114, 101, 102, 105, 120], .str [107, 105, 108, 111], .str [49, 48], .str [51]] 4)
theorem r97_ok : rowOk cfg0 M0 3000 70 r97 = true := by kernel_rfl
def r98 : List AV × AV := ([.str [112, 114, 101, 102, 105, 120, 32, 107, 105, 108, 111, 32, 49, 48, 32, 51], .func 72 [] [], .bool true], .int .i64 (-1))
theorem r98_ok : rowOk cfg0 M0 3000 132 r98 = true := by kernel_rfl
def r99 : List AV × AV := ([.str [112, 114, 101, 102, 105, 120, 32, 109, 105, 108, 108, 105, 32, 49, 48, 32, 45, 51]], .ro [.str [112, 114, 101, 102, 105, 120], .str [109, 105, 108, 108, 105], .str [49, 48], .str [45, 51]] 4)
theorem r99_ok : rowOk cfg0 M0 3000 70 r99 = true := by kernel_rfl
def r100 : List AV × AV := ([.str [112, 114, 101, 102, 105, 120, 32, 109, 105, 108, 108, 105, 32, 49, 48, 32, 45, 51], .func 72 [] [], .bool true], .int .i64 (-1))
theorem r100_ok : rowOk cfg0 M0 3000 132 r100 = true := by kernel_rfl
def r101 : List AV × AV := ([.str [117, 110, 105, 116, 32, 105, 110, 99, 104, 32, 49, 47, 49, 50, 32, 102, 111, 111, 116]], .ro [.str [117, 110, 105, 116], .str [105, 110, 99, 104], .str [49, 47, 49, 50], .str [102, 111, 111, 116]] 4)
theorem r101_ok : rowOk cfg0 M0 3000 70 r101 = true := by kernel_rfl
def r102 : List AV × AV := ([.str [117, 110, 105, 116, 32, 105, 110, 99, 104, 32, 49, 47, 49, 50, 32, 102, 111, 111, 116], .func 72 [] [], .bool true], .int .i64 (-1))
theorem r102_ok : rowOk cfg0 M0 3000 132 r102 = true := by kernel_rfl
def r103 : List AV × AV := ([.str [117, 110, 105, 116, 32, 121, 97, 114, 100, 32, 51, 32, 102, 111, 111, 116]], .ro [.str [117, 110, 105, 116], .str [121, 97, 114, 100], .str [51], .str [102, 111, 111, 116]] 4)
theorem r103_ok : rowOk cfg0 M0 3000 70 r103 = true := by kernel_rfl
def r104 : List AV × AV := ([.str [117, 110, 105, 116, 32, 121, 97, 114, 100, 32, 51, 32, 102, 111, 111, 116], .func 72 [] [], .bool true], .int .i64 (-1))
theorem r104_ok : rowOk cfg0 M0 3000 132 r104 = true := by kernel_rfl
def r105 : List AV × AV := ([.str [117, 110, 105, 116, 32, 109, 105, 110, 117, 116, 101, 32, 54, 48, 32, 115, 101, 99, 111, 110, 100]], .ro [.str [117, 110, 105, 116], .str [109, 105, 110, 117, 116, 101], .str [54, 48], .str [115, 101, 99, 111, 110, 100]] 4)
theorem r105_ok : rowOk cfg0 M0 3000 70 r105 = true := by kernel_rfl
def r106 : List AV × AV := ([.str [117, 110, 105, 116, 32, 109, 105, 110, 117, 116, 101, 32, 54, 48, 32, 115, 101, 99, 111, 110, 100], .func 72 [] [], .bool true], .int .i64 (-1))
theorem r106_ok : rowOk cfg0 M0 3000 132 r106 = true := by kernel_rfl
def r107 : List AV × AV := ([.str [117, 110, 105, 116, 32, 99, 101, 108, 115, 105, 117, 115, 32, 49, 32, 107, 101, 108, 118, 105, 110, 32, 50, 55, 51, 49, 53, 47, 49, 48, 48]], .ro [.str [117, 110, 105, 116], .str [99, 101, 108, 115, 105, 117, 115], .str [49], .str [107, 101, 108, 118, 105, 110], .str [50, 55, 51, 49, 53, 47, 49, 48, 48]] 5)
theorem r107_ok : rowOk cfg0 M0 3000 70 r107 = true := by kernel_rfl
def r108 : List AV × AV := ([.str [117, 110, 105, 116, 32, 99, 101, 108, 115, 105, 117, 115, 32, 49, 32, 107, 101, 108, 118, 105, 110, 32, 50, 55, 51, 49, 53, 47, 49, 48, 48], .func 72 [] [], .bool true], .int .i64 (-1))
theorem r108_ok : rowOk cfg0 M0 3000 132 r108 = true := by kernel_rfl
def r109 : List AV × AV := ([.str [117, 110, 105, 116, 32, 102, 97, 104, 114, 101, 110, 104, 101, 105, 116, 32, 53, 47, 57, 32, 107, 101, 108, 118, 105, 110, 32, 52, 53, 57, 54, 55, 47, 49, 56, 48]], .ro [.str [117, 110, 105, 116], .str [102, 97, 104, 114, 101, 110, 104, 101, 105, 116], .str [53, 47, 57], .str [107, 101, 108, 118, 105, 110], .str [52, 53, 57, 54, 55, 47, 49, 56, 48]] 5)
theorem r109_ok : rowOk cfg0 M0 3000 70 r109 = true := by kernel_rfl
def r110 : List AV × AV := ([.str [117, 110, 105, 116, 32, 102, 97, 104, 114, 101, 110, 104, 101, 105, 116, 32, 53, 47, 57, 32, 107, 101, 108, 118, 105, 110, 32, 52, 53, 57, 54, 55, 47, 49, 56, 48], .func 72 [] [], .bool true], .int .i64 (-1))
theorem r110_ok : rowOk cfg0 M0 3000 132 r110 = true := by kernel_rfl
def r111 : List AV × AV := ([.str [113, 117, 97, 110, 116, 105, 116, 121, 32, 115, 112, 101, 101, 100, 32, 109, 101, 116, 101, 114, 45, 112, 101, 114, 45, 115, 101, 99, 111, 110, 100], .func 72 [] [], .bool true], .int .i64 (-1))
theorem r111_ok : rowOk cfg0 M0 3000 132 r111 = true := by kernel_rfl
def r112 : List AV × AV := ([.str [113, 117, 97, 110, 116, 105, 116, 121, 32, 97, 114, 101, 97, 32, 115, 113, 117, 97, 114, 101, 45, 109, 101, 116, 101, 114], .func 72 [] [], .bool true], .int .i64 (-1))
theorem r112_ok : rowOk cfg0 M0 3000 132 r112 = true := by kernel_rfl
def r113 : List AV × AV := ([.str [97, 108, 105, 97, 115, 32, 107, 112, 104, 32, 107, 105, 108, 111, 109, 101, 116, 101, 114, 45, 112, 101, 114, 45, 115, 101, 99, 111, 110, 100], .func 72 [] [], .bool true], .int .i64 (-1))
theorem r113_ok : rowOk cfg0 M0 3000 132 r113 = true := by kernel_rfl
def r114 : List AV × AV := ([.str [115, 101, 99, 111, 110, 100], .str [97, 98, 99, 100, 101, 102, 103, 104, 105, 106, 107, 108, 109, 110, 111, 112, 113, 114, 115, 116, 117, 118, 119, 120, 121, 122, 48, 49, 50, 51, 52, 53, 54, 55, 56, 57]], .str [])
theorem r114_ok : rowOk cfg0 M0 3000 110 r114 = true := by kernel_rfl
def r115 : List AV × AV := ([.str [116, 105, 109, 101], .str [97, 98, 99, 100, 101, 102, 103, 104, 105, 106, 107, 108, 109, 110, 111, 112, 113, 114, 115, 116, 117, 118, 119, 120, 121, 122, 48, 49, 50, 51, 52, 53, 54, 55, 56, 57]], .str [])
theorem r115_ok : rowOk cfg0 M0 3000 110 r115 = true := by kernel_rfl
def r116 : List AV × AV := ([.str [107, 101, 108, 118, 105, 110], .str [97, 98, 99, 100, 101, 102, 103, 104, 105, 106, 107, 108, 109, 110, 111, 112, 113, 114, 115, 116, 117, 118, 119, 120, 121, 122, 48, 49, 50, 51, 52, 53, 54, 55, 56, 57]], .str [])
theorem r116_ok : rowOk cfg0 M0 3000 110 r116 = true := by kernel_rfl
def r117 : List AV × AV := ([.str [116, 101, 109, 112, 101, 114, 97, 116, 117, 114, 101], .str [97, 98, 99, 100, 101, 102, 103, 104, 105, 106, 107, 108, 109, 110, 111, 112, 113, 114, 115, 116, 117, 118, 119, 120, 121, 122, 48, 49, 50, 51, 52, 53, 54, 55, 56, 57]], .str [])
theorem r117_ok : rowOk cfg0 M0 3000 110 r117 = true := by kernel_rfl
def r118 : List AV × AV := ([.str [107, 105, 108, 111], .str [97, 98, 99, 100, 101, 102, 103, 104, 105, 106, 107, 108, 109, 110, 111, 112, 113, 114, 115, 116, 117, 118, 119, 120, 121, 122, 48, 49, 50, 51, 52, 53, 54, 55, 56, 57]], .str [])
theorem r118_ok : rowOk cfg0 M0 3000 110 r118 = true := by kernel_rfl
def r119 : List AV × AV := ([.str [51]], .tuple [.agg [.ro [.int .u32 3] 1], .bool true])
theorem r119_ok : rowOk cfg0 M0 3000 96 r119 = true := by kernel_rfl
def r120 : List AV × AV := ([.agg [.ro [.int .u32 10] 1], .int .i64 3], .agg [.ro [.int .u32 1000] 1])
theorem r120_ok : rowOk cfg0 M0 3000 100 r120 = true := by kernel_rfl
def r121 : List AV × AV := ([.agg [.ro [.int .u32 1] 1], .int .i64 3], .agg [.ro [.int .u32 1] 1])
theorem r121_ok : rowOk cfg0 M0 3000 100 r121 = true := by kernel_rfl
def r122 : List AV × AV := ([.str [109, 105, 108, 108, 105], .str [97, 98, 99, 100, 101, 102, 103, 104, 105, 106, 107, 108, 109, 110, 111, 112, 113, 114, 115, 116, 117, 118, 119, 120, 121, 122, 48, 49, 50, 51, 52, 53, 54, 55, 56, 57]], .str [])
theorem r122_ok : rowOk cfg0 M0 3000 110 r122 = true := by kernel_rfl
def r123 : List AV × AV := ([.agg [.ro [.int .u32 1] 1], .agg [.ro [.int .u32 10] 1]], .agg [.ro [.int .u32 1] 1])
theorem r123_ok : rowOk cfg0 M0 3000 118 r123 = true := by kernel_rfl
def r124 : List AV × AV := ([.agg [.ro [.int .u32 1] 1], .int .i64 2], .agg [.ro [.int .u32 1] 1])
theorem r124_ok : rowOk cfg0 M0 3000 100 r124 = true := by kernel_rfl
def r125 : List AV × AV := ([.agg [.ro [.int .u32 10] 1], .int .i64 2], .agg [.ro [.int .u32 100] 1])
theorem r125_ok : rowOk cfg0 M0 3000 100 r125 = true := by kernel_rfl
def r126 : List AV × AV := ([.agg [.ro [.int .u32 1] 1], .agg [.ro [.int .u32 100] 1]], .agg [.ro [.int .u32 1] 1])
theorem r126_ok : rowOk cfg0 M0 3000 118 r126 = true := by kernel_rfl
def r127 : List AV × AV := ([.agg [.ro [.int .u32 1] 1], .agg [.ro [.int .u32 1000] 1]], .agg [.ro [.int .u32 1] 1])
theorem r127_ok : rowOk cfg0 M0 3000 118 r127 = true := by kernel_rfl
def r128 : List AV × AV := ([.str [105, 110, 99, 104], .str [97, 98, 99, 100, 101, 102, 103, 104, 105, 106, 107, 108, 109, 110, 111, 112, 113, 114, 115, 116, 117, 118, 119, 120, 121, 122, 48, 49, 50, 51, 52, 53, 54, 55, 56, 57]], .str [])
theorem r128_ok : rowOk cfg0 M0 3000 110 r128 = true := by kernel_rfl
def r129 : List AV × AV := ([.str [49, 50]], .tuple [.agg [.ro [.int .u32 12] 1], .bool true])
theorem r129_ok : rowOk cfg0 M0 3000 96 r129 = true := by kernel_rfl
def r130 : List AV × AV := ([.agg [.ro [.int .u32 1] 1], .agg [.ro [.int .u32 12] 1]], .agg [.ro [.int .u32 1] 1])
theorem r130_ok : rowOk cfg0 M0 3000 118 r130 = true := by kernel_rfl
def r131 : List AV × AV := ([.str [102, 111, 111, 116]], .int .i64 1)
theorem r131_ok : rowOk cfg0 M0 3000 162 r131 = true := by kernel_rfl
def r132 : List AV × AV := ([.agg [.ro [.int .u32 381] 1], .agg [.ro [.int .u32 15000] 1]], .agg [.ro [.int .u32 3] 1])
theorem r132_ok : rowOk cfg0 M0 3000 118 r132 = true := by kernel_rfl
def r133 : List AV × AV := ([.str [121, 97, 114, 100], .str [97, 98, 99, 100, 101, 102, 103, 104, 105, 106, 107, 108, 109, 110, 111, 112, 113, 114, 115, 116, 117, 118, 119, 120, 121, 122, 48, 49, 50, 51, 52, 53, 54, 55, 56, 57]], .str [])
theorem r133_ok : rowOk cfg0 M0 3000 110 r133 = true := by kernel_rfl
def r134 : List AV × AV := ([.agg [.ro [.int .u32 3] 1], .agg [.ro [.int .u32 1] 1]], .agg [.ro [.int .u32 1] 1])
theorem r134_ok : rowOk cfg0 M0 3000 118 r134 = true := by kernel_rfl
def r135 : List AV × AV := ([.agg [.ro [.int .u32 1143] 1], .agg [.ro [.int .u32 1250] 1]], .agg [.ro [.int .u32 1] 1])
theorem r135_ok : rowOk cfg0 M0 3000 118 r135 = true := by kernel_rfl
def r136 : List AV × AV := ([.str [109, 105, 110, 117, 116, 101], .str [97, 98, 99, 100, 101, 102, 103, 104, 105, 106, 107, 108, 109, 110, 111, 112, 113, 114, 115, 116, 117, 118, 119, 120, 121, 122, 48, 49, 50, 51, 52, 53, 54, 55, 56, 57]], .str [])
theorem r136_ok : rowOk cfg0 M0 3000 110 r136 = true := by kernel_rfl
def r137 : List AV × AV := ([.str [54, 48]], .tuple [.agg [.ro [.int .u32 60] 1], .bool true])
theorem r137_ok : rowOk cfg0 M0 3000 96 r137 = true := by kernel_rfl
def r138 : List AV × AV := ([.agg [.ro [.int .u32 60] 1], .agg [.ro [.int .u32 1] 1]], .agg [.ro [.int .u32 1] 1])
theorem r138_ok : rowOk cfg0 M0 3000 118 r138 = true := by kernel_rfl
def r139 : List AV × AV := ([.str [115, 101, 99, 111, 110, 100]], .int .i64 1)
theorem r139_ok : rowOk cfg0 M0 3000 162 r139 = true := by kernel_rfl
def r140 : List AV × AV := ([.agg [.int .i64 0, .int .i64 1, .int .i64 0, .int .i64 0, .int .i64 0, .int .i64 0, .int .i64 0, .int .i64 0], .int .i64 1], .tuple [.agg [.int .i64 0, .int .i64 1, .int .i64 0, .int .i64 0, .int .i64 0, .int .i64 0, .int .i64 0, .int .i64 0], .bool true])
theorem r140_ok : rowOk cfg0 M0 3000 38 r140 = true := by kernel_rfl
def r141 : List AV × AV := ([.agg [.int .i64 0, .int .i64 0, .int .i64 0, .int .i64 0, .int .i64 0, .int .i64 0, .int .i64 0, .int .i64 0], .agg [.int .i64 0, .int .i64 1, .int .i64 0, .int .i64 0, .int .i64 0, .int .i64 0, .int .i64 0, .int .i64 0]], .tuple [.agg [.int .i64 0, .int .i64 1, .int .i64 0, .int .i64 0, .int .i64 0, .int .i64 0, .int .i64 0, .int .i64 0], .bool true])
theorem r141_ok : rowOk cfg0 M0 3000 40 r141 = true := by kernel_rfl
def r142 : List AV × AV := ([.str [99, 101, 108, 115, 105, 117, 115], .str [97, 98, 99, 100, 101, 102, 103, 104, 105, 106, 107, 108, 109, 110, 111, 112, 113, 114, 115, 116, 117, 118, 119, 120, 121, 122, 48, 49, 50, 51, 52, 53, 54, 55, 56, 57]], .str [])
theorem r142_ok : rowOk cfg0 M0 3000 110 r142 = true := by kernel_rfl
def r143 : List AV × AV := ([.str [107, 101, 108, 118, 105, 110]], .int .i64 1)
theorem r143_ok : rowOk cfg0 M0 3000 162 r143 = true := by kernel_rfl
def r144 : List AV × AV := ([.str [50, 55, 51, 49, 53], .str [48, 49, 50, 51, 52, 53, 54, 55, 56, 57]], .str [])
theorem r144_ok : rowOk cfg0 M0 3000 110 r144 = true := by kernel_rfl
def r145 : List AV × AV := ([.str [49, 48, 48]], .tuple [.agg [.ro [.int .u32 100] 1], .bool true])
theorem r145_ok : rowOk cfg0 M0 3000 96 r145 = true := by kernel_rfl
def r146 : List AV × AV := ([.agg [.ro [.int .u32 27315] 1], .agg [.ro [.int .u32 100] 1]], .agg [.ro [.int .u32 5] 1])
theorem r146_ok : rowOk cfg0 M0 3000 118 r146 = true := by kernel_rfl
def r147 : List AV × AV := ([.agg [.int .i64 0, .int .i64 0, .int .i64 1, .int .i64 0, .int .i64 0, .int .i64 0, .int .i64 0, .int .i64 0], .int .i64 1], .tuple [.agg [.int .i64 0, .int .i64 0, .int .i64 1, .int .i64 0, .int .i64 0, .int .i64 0, .int .i64 0, .int .i64 0], .bool true])
theorem r147_ok : rowOk cfg0 M0 3000 38 r147 = true := by kernel_rfl
def r148 : List AV × AV := ([.agg [.int .i64 0, .int .i64 0, .int .i64 0, .int .i64 0, .int .i64 0, .int .i64 0, .int .i64 0, .int .i64 0], .agg [.int .i64 0, .int .i64 0, .int .i64 1, .int .i64 0, .int .i64 0, .int .i64 0, .int .i64 0, .int .i64 0]], .tuple [.agg [.int .i64 0, .int .i64 0, .int .i64 1, .int .i64 0, .int .i64 0, .int .i64 0, .int .i64 0, .int .i64 0], .bool true])
theorem r148_ok : rowOk cfg0 M0 3000 40 r148 = true := by kernel_rfl
def r149 : List AV × AV := ([.str [102, 97, 104, 114, 101, 110, 104, 101, 105, 116], .str [97, 98, 99, 100, 101, 102, 103, 104, 105, 106, 107, 108, 109, 110, 111, 112, 113, 114, 115, 116, 117, 118, 119, 120, 121, 122, 48, 49, 50, 51, 52, 53, 54, 55, 56, 57]], .str [])
theorem r149_ok : rowOk cfg0 M0 3000 110 r149 = true := by kernel_rfl
def r150 : List AV × AV := ([.str [57]], .tuple [.agg [.ro [.int .u32 9] 1], .bool true])
theorem r150_ok : rowOk cfg0 M0 3000 96 r150 = true := by kernel_rfl
def r151 : List AV × AV := ([.agg [.ro [.int .u32 5] 1], .agg [.ro [.int .u32 9] 1]], .agg [.ro [.int .u32 1] 1])
theorem r151_ok : rowOk cfg0 M0 3000 118 r151 = true := by kernel_rfl
def r152 : List AV × AV := ([.str [52, 53, 57, 54, 55], .str [48, 49, 50, 51, 52, 53, 54, 55, 56, 57]], .str [])
theorem r152_ok : rowOk cfg0 M0 3000 110 r152 = true := by kernel_rfl
def r153 : List AV × AV := ([.str [49, 56, 48]], .tuple [.agg [.ro [.int .u32 180] 1], .bool true])
theorem r153_ok : rowOk cfg0 M0 3000 96 r153 = true := by kernel_rfl
def r154 : List AV × AV := ([.agg [.ro [.int .u32 45967] 1], .agg [.ro [.int .u32 180] 1]], .agg [.ro [.int .u32 1] 1])
theorem r154_ok : rowOk cfg0 M0 3000 118 r154 = true := by kernel_rfl
def r155 : List AV × AV := ([.str [115, 112, 101, 101, 100], .str [97, 98, 99, 100, 101, 102, 103, 104, 105, 106, 107, 108, 109, 110, 111, 112, 113, 114, 115, 116, 117, 118, 119, 120, 121, 122, 48, 49, 50, 51, 52, 53, 54, 55, 56, 57]], .str [])
theorem r155_ok : rowOk cfg0 M0 3000 110 r155 = true := by kernel_rfl
def r156 : List AV × AV := ([.agg [.int .i64 0, .int .i64 1, .int .i64 0, .int .i64 0, .int .i64 0, .int .i64 0, .int .i64 0, .int .i64 0], .int .i64 (-1)], .tuple [.agg [.int .i64 0, .int .i64 (-1), .int .i64 0, .int .i64 0, .int .i64 0, .int .i64 0, .int .i64 0, .int .i64 0], .bool true])
theorem r156_ok : rowOk cfg0 M0 3000 38 r156 = true := by kernel_rfl
def r157 : List AV × AV := ([.agg [.int .i64 1, .int .i64 0, .int .i64 0, .int .i64 0, .int .i64 0, .int .i64 0, .int .i64 0, .int .i64 0], .agg [.int .i64 0, .int .i64 (-1), .int .i64 0, .int .i64 0, .int .i64 0, .int .i64 0, .int .i64 0, .int .i64 0]], .tuple [.agg [.int .i64 1, .int .i64 (-1), .int .i64 0, .int .i64 0, .int .i64 0, .int .i64 0, .int .i64 0, .int .i64 0], .bool true])
theorem r157_ok : rowOk cfg0 M0 3000 40 r157 = true := by kernel_rfl
def r158 : List AV × AV := ([.str [97, 114, 101, 97], .str [97, 98, 99, 100, 101, 102, 103, 104, 105, 106, 107, 108, 109, 110, 111, 112, 113, 114, 115, 116, 117, 118, 119, 120, 121, 122, 48, 49, 50, 51, 52, 53, 54, 55, 56, 57]], .str [])
theorem r158_ok : rowOk cfg0 M0 3000 110 r158 = true := by kernel_rfl
def r159 : List AV × AV := ([.str [107, 112, 104], .str [97, 98, 99, 100, 101, 102, 103, 104, 105, 106, 107, 108, 109, 110, 111, 112, 113, 114, 115, 116, 117, 118, 119, 120, 121, 122, 48, 49, 50, 51, 52, 53, 54, 55, 56, 57]], .str [])
theorem r159_ok : rowOk cfg0 M0 3000 110 r159 = true := by kernel_rfl
def r160 : List AV × AV := ([.str [107, 105, 108, 111, 109, 101, 116, 101, 114], .str [97, 98, 99, 100, 101, 102, 103, 104, 105, 106, 107, 108, 109, 110, 111, 112, 113, 114, 115, 116, 117, 118, 119, 120, 121, 122, 48, 49, 50, 51, 52, 53, 54, 55, 56, 57]], .str [])
theorem r160_ok : rowOk cfg0 M0 3000 110 r160 = true := by kernel_rfl
def r161 : List AV × AV := ([.str [107, 105, 108, 111, 109, 101, 116, 101, 114]], .int .i64 1)
theorem r161_ok : rowOk cfg0 M0 3000 162 r161 = true := by kernel_rfl
def r162 : List AV × AV := ([.agg [.ro [.int .u32 5463] 1], .agg [.ro [.int .u32 20] 1]], .agg [.ro [.int .u32 1] 1])
theorem r162_ok : rowOk cfg0 M0 3000 118 r162 = true := by kernel_rfl
def r163 : List AV × AV := ([.agg [.bool false, .ro [.int .u32 5463] 1]], .str [53, 52, 54, 51])
theorem r163_ok : rowOk cfg0 M0 3000 46 r163 = true := by kernel_rfl
def t0 : Tr (List (List AV × AV)) := (.nd (.nd (.nd (.nd .lf 32 [r14, r16, r17, r18, r20, r81, r88, r91, r92] .lf) 38 [r10, r73, r84, r140, r147, r156] (.nd .lf 40 [r11, r74, r75, r76, r77, r78, r79, r80, r85, r87, r141, r148, r157] .lf)) 46 [r13, r163] (.nd (.nd .lf 70 [r1, r31, r34, r36, r38, r39, r41, r46, r49, r53, r56, r57, r63, r66, r69, r89, r97, r99, r101, r103, r105, r107, r109] .lf) 85 [r44, r45] .lf)) 96 [r6, r33, r35, r37, r43, r59, r67, r119, r129, r137, r145, r150, r153] (.nd (.nd (.nd .lf 100 [r120, r121, r124, r125] .lf) 110 [r3, r4, r5, r7, r15, r19, r21, r22, r23, r24, r25, r26, r27, r28, r29, r30, r32, r42, r47, r51, r55, r58, r61, r65, r71, r82, r86, r90, r93, r114, r115, r116, r117, r118, r122, r128, r133, r136, r142, r144, r149, r152, r155, r158, r159, r160] .lf) 118 [r8, r12, r40, r60, r68, r123, r126, r127, r130, r132, r134, r135, r138, r146, r151, r154, r162] (.nd (.nd .lf 132 [r0, r2, r50, r54, r64, r70, r83, r95, r96, r98, r100, r102, r104, r106, r108, r110, r111, r112, r113] .lf) 162 [r9, r48, r52, r62, r72, r94, r131, r139, r143, r161] .lf)))
theorem t0_ok : MemoOk cfg0 (tabM t0) := tabM_ok (t := t0) ⟨⟨⟨⟨trivial, (lcons (rowOk_did M0_ok r14_ok) (lcons (rowOk_did M0_ok r16_ok) (lcons (rowOk_did M0_ok r17_ok) (lcons (rowOk_did M0_ok r18_ok) (lcons (rowOk_did M0_ok r20_ok) (lcons (rowOk_did M0_ok r81_ok) (lcons (rowOk_did M0_ok r88_ok) (lcons (rowOk_did M0_ok r91_ok) (lcons (rowOk_did M0_ok r92_ok) lnil))))))))), trivial⟩, (lcons (rowOk_did M0_ok r10_ok) (lcons (rowOk_did M0_ok r73_ok) (lcons (rowOk_did M0_ok r84_ok) (lcons (rowOk_did M0_ok r140_ok) (lcons (rowOk_did M0_ok r147_ok) (lcons (rowOk_did M0_ok r156_ok) lnil)))))), ⟨trivial, (lcons (rowOk_did M0_ok r11_ok) (lcons (rowOk_did M0_ok r74_ok) (lcons (rowOk_did M0_ok r75_ok) (lcons (rowOk_did M0_ok r76_ok) (lcons (rowOk_did M0_ok r77_ok) (lcons (rowOk_did M0_ok r78_ok) (lcons (rowOk_did M0_ok r79_ok) (lcons (rowOk_did M0_ok r80_ok) (lcons (rowOk_did M0_ok r85_ok) (lcons (rowOk_did M0_ok r87_ok) (lcons (rowOk_did M0_ok r141_ok) (lcons (rowOk_did M0_ok r148_ok) (lcons (rowOk_did M0_ok r157_ok) lnil))))))))))))), trivial⟩⟩, (lcons (rowOk_did M0_ok r13_ok) (lcons (rowOk_did M0_ok r163_ok) lnil)), ⟨⟨trivial, (lcons (rowOk_did M0_ok r1_ok) (lcons (rowOk_did M0_ok r31_ok) (lcons (rowOk_did M0_ok r34_ok) (lcons (rowOk_did M0_ok r36_ok) (lcons (rowOk_did M0_ok r38_ok) (lcons (rowOk_did M0_ok r39_ok) (lcons (rowOk_did M0_ok r41_ok) (lcons (rowOk_did M0_ok r46_ok) (lcons (rowOk_did M0_ok r49_ok) (lcons (rowOk_did M0_ok r53_ok) (lcons (rowOk_did M0_ok r56_ok) (lcons (rowOk_did M0_ok r57_ok) (lcons (rowOk_did M0_ok r63_ok) (lcons (rowOk_did M0_ok r66_ok) (lcons (rowOk_did M0_ok r69_ok) (lcons (rowOk_did M0_ok r89_ok) (lcons (rowOk_did M0_ok r97_ok) (lcons (rowOk_did M0_ok r99_ok) (lcons (rowOk_did M0_ok r101_ok) (lcons (rowOk_did M0_ok r103_ok) (lcons (rowOk_did M0_ok r105_ok) (lcons (rowOk_did M0_ok r107_ok) (lcons (rowOk_did M0_ok r109_ok) lnil))))))))))))))))))))))), trivial⟩, (lcons (rowOk_did M0_ok r44_ok) (lcons (rowOk_did M0_ok r45_ok) lnil)), trivial⟩⟩, (lcons (rowOk_did M0_ok r6_ok) (lcons (rowOk_did M0_ok r33_ok) (lcons (rowOk_did M0_ok r35_ok) (lcons (rowOk_did M0_ok r37_ok) (lcons (rowOk_did M0_ok r43_ok) (lcons (rowOk_did M0_ok r59_ok) (lcons (rowOk_did M0_ok r67_ok) (lcons (rowOk_did M0_ok r119_ok) (lcons (rowOk_did M0_ok r129_ok) (lcons (rowOk_did M0_ok r137_ok) (lcons (rowOk_did M0_ok r145_ok) (lcons (rowOk_did M0_ok r150_ok) (lcons (rowOk_did M0_ok r153_ok) lnil))))))))))))), ⟨⟨⟨trivial, (lcons (rowOk_did M0_ok r120_ok) (lcons (rowOk_did M0_ok r121_ok) (lcons (rowOk_did M0_ok r124_ok) (lcons (rowOk_did M0_ok r125_ok) lnil)))), trivial⟩, (lcons (rowOk_did M0_ok r3_ok) (lcons (rowOk_did M0_ok r4_ok) (lcons (rowOk_did M0_ok r5_ok) (lcons (rowOk_did M0_ok r7_ok) (lcons (rowOk_did M0_ok r15_ok) (lcons (rowOk_did M0_ok r19_ok) (lcons (rowOk_did M0_ok r21_ok) (lcons (rowOk_did M0_ok r22_ok) (lcons (rowOk_did M0_ok r23_ok) (lcons (rowOk_did M0_ok r24_ok) (lcons (rowOk_did M0_ok r25_ok) (lcons (rowOk_did M0_ok r26_ok) (lcons (rowOk_did M0_ok r27_ok) (lcons (rowOk_did M0_ok r28_ok) (lcons (rowOk_did M0_ok r29_ok) (lcons (rowOk_did M0_ok r30_ok) (lcons (rowOk_did M0_ok r32_ok) (lcons (rowOk_did M0_ok r42_ok) (lcons (rowOk_did M0_ok r47_ok) (lcons (rowOk_did M0_ok r51_ok) (lcons (rowOk_did M0_ok r55_ok) (lcons (rowOk_did M0_ok r58_ok) (lcons (rowOk_did M0_ok r61_ok) (lcons (rowOk_did M0_ok r65_ok) (lcons (rowOk_did M0_ok r71_ok) (lcons (rowOk_did M0_ok r82_ok) (lcons (rowOk_did M0_ok r86_ok) (lcons (rowOk_did M0_ok r90_ok) (lcons (rowOk_did M0_ok r93_ok) (lcons (rowOk_did M0_ok r114_ok) (lcons (rowOk_did M0_ok r115_ok) (lcons (rowOk_did M0_ok r116_ok) (lcons (rowOk_did M0_ok r117_ok) (lcons (rowOk_did M0_ok r118_ok) (lcons (rowOk_did M0_ok r122_ok) (lcons (rowOk_did M0_ok r128_ok) (lcons (rowOk_did M0_ok r133_ok) (lcons (rowOk_did M0_ok r136_ok) (lcons (rowOk_did M0_ok r142_ok) (lcons (rowOk_did M0_ok r144_ok) (lcons (rowOk_did M0_ok r149_ok) (lcons (rowOk_did M0_ok r152_ok) (lcons (rowOk_did M0_ok r155_ok) (lcons (rowOk_did M0_ok r158_ok) (lcons (rowOk_did M0_ok r159_ok) (lcons (rowOk_did M0_ok r160_ok) lnil)))))))))))))))))))))))))))))))))))))))))))))), trivial⟩, (lcons (rowOk_did M0_ok r8_ok) (lcons (rowOk_did M0_ok r12_ok) (lcons (rowOk_did M0_ok r40_ok) (lcons (rowOk_did M0_ok r60_ok) (lcons (rowOk_did M0_ok r68_ok) (lcons (rowOk_did M0_ok r123_ok) (lcons (rowOk_did M0_ok r126_ok) (lcons (rowOk_did M0_ok r127_ok) (lcons (rowOk_did M0_ok r130_ok) (lcons (rowOk_did M0_ok r132_ok) (lcons (rowOk_did M0_ok r134_ok) (lcons (rowOk_did M0_ok r135_ok) (lcons (rowOk_did M0_ok r138_ok) (lcons (rowOk_did M0_ok r146_ok) (lcons (rowOk_did M0_ok r151_ok) (lcons (rowOk_did M0_ok r154_ok) (lcons (rowOk_did M0_ok r162_ok) lnil))))))))))))))))), ⟨⟨trivial, (lcons (rowOk_did M0_ok r0_ok) (lcons (rowOk_did M0_ok r2_ok) (lcons (rowOk_did M0_ok r50_ok) (lcons (rowOk_did M0_ok r54_ok) (lcons (rowOk_did M0_ok r64_ok) (lcons (rowOk_did M0_ok r70_ok) (lcons (rowOk_did M0_ok r83_ok) (lcons (rowOk_did M0_ok r95_ok) (lcons (rowOk_did M0_ok r96_ok) (lcons (rowOk_did M0_ok r98_ok) (lcons (rowOk_did M0_ok r100_ok) (lcons (rowOk_did M0_ok r102_ok) (lcons (rowOk_did M0_ok r104_ok) (lcons (rowOk_did M0_ok r106_ok) (lcons (rowOk_did M0_ok r108_ok) (lcons (rowOk_did M0_ok r110_ok) (lcons (rowOk_did M0_ok r111_ok) (lcons (rowOk_did M0_ok r112_ok) (lcons (rowOk_did M0_ok r113_ok) lnil))))))))))))))))))), trivial⟩, (lcons (rowOk_did M0_ok r9_ok) (lcons (rowOk_did M0_ok r48_ok) (lcons (rowOk_did M0_ok r52_ok) (lcons (rowOk_did M0_ok r62_ok) (lcons (rowOk_did M0_ok r72_ok) (lcons (rowOk_did M0_ok r94_ok) (lcons (rowOk_did M0_ok r131_ok) (lcons (rowOk_did M0_ok r139_ok) (lcons (rowOk_did M0_ok r143_ok) (lcons (rowOk_did M0_ok r161_ok) lnil)))))))))), trivial⟩⟩⟩
def M1 : Memo := orM (tabM t0) M0
theorem M1_ok : MemoOk cfg0 M1 := orM_ok t0_ok M0_ok
def r164 : List AV × AV := ([.str [98, 97, 115, 101, 32, 109, 101, 116, 101, 114, 32, 108, 101, 110, 103, 116, 104, 10, 117, 110, 105, 116, 32, 102, 111, 111, 116, 32, 51, 56, 49, 47, 49, 50, 53, 48, 32, 109, 101, 116, 101, 114]], .tuple [.ro [.int .i64 1, .ro [.str [98, 97, 115, 101], .str [109, 101, 116, 101, 114], .str [108, 101, 110, 103, 116, 104]] 3, .int .i64 2, .ro [.str [117, 110, 105, 116], .str [102, 111, 111, 116], .str [51, 56, 49, 47, 49, 50, 53, 48], .str [109, 101, 116, 101, 114]] 4] 2, .int .i64 0, .int .i64 0])
theorem r164_ok : rowOk cfg0 M1 3000 32 r164 = true := by kernel_rfl
def r165 : List AV × AV := ([.str [109, 101, 116, 101, 114]], .bool true)
theorem r165_ok : rowOk cfg0 M1 3000 123 r165 = true := by kernel_rfl
def r166 : List AV × AV := ([.str [102, 111, 111, 116]], .bool true)
theorem r166_ok : rowOk cfg0 M1 3000 123 r166 = true := by kernel_rfl
def r167 : List AV × AV := ([.str [49, 50, 53, 48]], .tuple [.agg [.ro [.int .u32 1250] 1], .bool true])
theorem r167_ok : rowOk cfg0 M1 3000 96 r167 = true := by kernel_rfl
def r168 : List AV × AV := ([.agg [.bool false, .ro [.int .u32 381] 1], .agg [.ro [.int .u32 1250] 1]], .tuple [.agg [.bool false, .ro [.int .u32 381] 1, .ro [.int .u32 1250] 1], .bool true])
theorem r168_ok : rowOk cfg0 M1 3000 85 r168 = true := by kernel_rfl
def r169 : List AV × AV := ([.agg [.bool false, .ro [.int .u32 1] 1], .agg [.ro [.int .u32 1] 1]], .tuple [.agg [.bool false, .ro [.int .u32 1] 1, .ro [.int .u32 1] 1], .bool true])
theorem r169_ok : rowOk cfg0 M1 3000 85 r169 = true := by kernel_rfl
end Go.Am.tableKnown
