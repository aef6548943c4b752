/- The machine for this seat: its tables, what it answers itself; its frame is sound. -/
import Derived.Test.YtnlldmaaiegihaaGreatDoorAmTab
import Derived.Test.YtnlldmaaiegihaaGreatDoorAmLift
import Derived.Test.YtnlldmaaiegihaaGreatDoorShelf
namespace Go.Am
open Go.Proofs
def pow10s : List Int := [1, 10, 100, 1000, 10000, 100000, 1000000, 10000000, 100000000, 1000000000, 10000000000, 100000000000, 1000000000000, 10000000000000, 100000000000000, 1000000000000000, 10000000000000000, 100000000000000000, 1000000000000000000, 10000000000000000000]
noncomputable def cfg0 : Cfg where
  P := Tryz.prog
  ty := tyTab.find
  fn := fnTab.find
  intr f := match f with
    | 191 => some iIndexByte
    | 157 => some iCountByte
    | 91 => some iRepeat
    | 35 => some iJoin
    | _ => none
  glob g := match g with
    | 1 => some (pow10s.map (AV.int .u64 ·))
    | _ => none
set_option maxRecDepth 100000
theorem fnTab_code : fnTab.All fun _ a => codeOk cfg0 a.ntmps a.body = true :=
  ⟨⟨⟨⟨⟨⟨⟨⟨trivial, by show _ = _; kernel_rfl, trivial⟩, by show _ = _; kernel_rfl, trivial⟩, by show _ = _; kernel_rfl, ⟨⟨trivial, by show _ = _; kernel_rfl, trivial⟩, by show _ = _; kernel_rfl, trivial⟩⟩, by show _ = _; kernel_rfl, ⟨⟨⟨trivial, by show _ = _; kernel_rfl, trivial⟩, by show _ = _; kernel_rfl, trivial⟩, by show _ = _; kernel_rfl, ⟨⟨trivial, by show _ = _; kernel_rfl, trivial⟩, by show _ = _; kernel_rfl, trivial⟩⟩⟩, by show _ = _; kernel_rfl, ⟨⟨⟨⟨trivial, by show _ = _; kernel_rfl, trivial⟩, by show _ = _; kernel_rfl, trivial⟩, by show _ = _; kernel_rfl, ⟨⟨trivial, by show _ = _; kernel_rfl, trivial⟩, by show _ = _; kernel_rfl, trivial⟩⟩, by show _ = _; kernel_rfl, ⟨⟨⟨trivial, by show _ = _; kernel_rfl, trivial⟩, by show _ = _; kernel_rfl, trivial⟩, by show _ = _; kernel_rfl, ⟨⟨trivial, by show _ = _; kernel_rfl, trivial⟩, by show _ = _; kernel_rfl, trivial⟩⟩⟩⟩, by show _ = _; kernel_rfl, ⟨⟨⟨⟨⟨trivial, by show _ = _; kernel_rfl, trivial⟩, by show _ = _; kernel_rfl, trivial⟩, by show _ = _; kernel_rfl, ⟨⟨trivial, by show _ = _; kernel_rfl, trivial⟩, by show _ = _; kernel_rfl, trivial⟩⟩, by show _ = _; kernel_rfl, ⟨⟨⟨trivial, by show _ = _; kernel_rfl, trivial⟩, by show _ = _; kernel_rfl, trivial⟩, by show _ = _; kernel_rfl, ⟨⟨trivial, by show _ = _; kernel_rfl, trivial⟩, by show _ = _; kernel_rfl, trivial⟩⟩⟩, by show _ = _; kernel_rfl, ⟨⟨⟨⟨trivial, by show _ = _; kernel_rfl, trivial⟩, by show _ = _; kernel_rfl, trivial⟩, by show _ = _; kernel_rfl, ⟨⟨trivial, by show _ = _; kernel_rfl, trivial⟩, by show _ = _; kernel_rfl, trivial⟩⟩, by show _ = _; kernel_rfl, ⟨⟨⟨trivial, by show _ = _; kernel_rfl, trivial⟩, by show _ = _; kernel_rfl, trivial⟩, by show _ = _; kernel_rfl, ⟨⟨trivial, by show _ = _; kernel_rfl, trivial⟩, by show _ = _; kernel_rfl, trivial⟩⟩⟩⟩⟩, by show _ = _; kernel_rfl, ⟨⟨⟨⟨⟨⟨trivial, by show _ = _; kernel_rfl, trivial⟩, by show _ = _; kernel_rfl, trivial⟩, by show _ = _; kernel_rfl, ⟨⟨trivial, by show _ = _; kernel_rfl, trivial⟩, by show _ = _; kernel_rfl, trivial⟩⟩, by show _ = _; kernel_rfl, ⟨⟨⟨trivial, by show _ = _; kernel_rfl, trivial⟩, by show _ = _; kernel_rfl, trivial⟩, by show _ = _; kernel_rfl, ⟨⟨trivial, by show _ = _; kernel_rfl, trivial⟩, by show _ = _; kernel_rfl, trivial⟩⟩⟩, by show _ = _; kernel_rfl, ⟨⟨⟨⟨trivial, by show _ = _; kernel_rfl, trivial⟩, by show _ = _; kernel_rfl, trivial⟩, by show _ = _; kernel_rfl, ⟨⟨trivial, by show _ = _; kernel_rfl, trivial⟩, by show _ = _; kernel_rfl, trivial⟩⟩, by show _ = _; kernel_rfl, ⟨⟨⟨trivial, by show _ = _; kernel_rfl, trivial⟩, by show _ = _; kernel_rfl, trivial⟩, by show _ = _; kernel_rfl, ⟨⟨trivial, by show _ = _; kernel_rfl, trivial⟩, by show _ = _; kernel_rfl, trivial⟩⟩⟩⟩, by show _ = _; kernel_rfl, ⟨⟨⟨⟨⟨trivial, by show _ = _; kernel_rfl, trivial⟩, by show _ = _; kernel_rfl, trivial⟩, by show _ = _; kernel_rfl, ⟨⟨trivial, by show _ = _; kernel_rfl, trivial⟩, by show _ = _; kernel_rfl, trivial⟩⟩, by show _ = _; kernel_rfl, ⟨⟨⟨trivial, by show _ = _; kernel_rfl, trivial⟩, by show _ = _; kernel_rfl, trivial⟩, by show _ = _; kernel_rfl, ⟨⟨trivial, by show _ = _; kernel_rfl, trivial⟩, by show _ = _; kernel_rfl, trivial⟩⟩⟩, by show _ = _; kernel_rfl, ⟨⟨⟨⟨trivial, by show _ = _; kernel_rfl, trivial⟩, by show _ = _; kernel_rfl, trivial⟩, by show _ = _; kernel_rfl, ⟨⟨trivial, by show _ = _; kernel_rfl, trivial⟩, by show _ = _; kernel_rfl, trivial⟩⟩, by show _ = _; kernel_rfl, ⟨⟨⟨trivial, by show _ = _; kernel_rfl, trivial⟩, by show _ = _; kernel_rfl, trivial⟩, by show _ = _; kernel_rfl, ⟨⟨trivial, by show _ = _; kernel_rfl, trivial⟩, by show _ = _; kernel_rfl, trivial⟩⟩⟩⟩⟩⟩, by show _ = _; kernel_rfl, ⟨⟨⟨⟨⟨⟨⟨trivial, by show _ = _; kernel_rfl, trivial⟩, by show _ = _; kernel_rfl, trivial⟩, by show _ = _; kernel_rfl, ⟨⟨trivial, by show _ = _; kernel_rfl, trivial⟩, by show _ = _; kernel_rfl, trivial⟩⟩, by show _ = _; kernel_rfl, ⟨⟨⟨trivial, by show _ = _; kernel_rfl, trivial⟩, by show _ = _; kernel_rfl, trivial⟩, by show _ = _; kernel_rfl, ⟨⟨trivial, by show _ = _; kernel_rfl, trivial⟩, by show _ = _; kernel_rfl, trivial⟩⟩⟩, by show _ = _; kernel_rfl, ⟨⟨⟨⟨trivial, by show _ = _; kernel_rfl, trivial⟩, by show _ = _; kernel_rfl, trivial⟩, by show _ = _; kernel_rfl, ⟨⟨trivial, by show _ = _; kernel_rfl, trivial⟩, by show _ = _; kernel_rfl, trivial⟩⟩, by show _ = _; kernel_rfl, ⟨⟨⟨trivial, by show _ = _; kernel_rfl, trivial⟩, by show _ = _; kernel_rfl, trivial⟩, by show _ = _; kernel_rfl, ⟨⟨trivial, by show _ = _; kernel_rfl, trivial⟩, by show _ = _; kernel_rfl, trivial⟩⟩⟩⟩, by show _ = _; kernel_rfl, ⟨⟨⟨⟨⟨trivial, by show _ = _; kernel_rfl, trivial⟩, by show _ = _; kernel_rfl, trivial⟩, by show _ = _; kernel_rfl, ⟨⟨trivial, by show _ = _; kernel_rfl, trivial⟩, by show _ = _; kernel_rfl, trivial⟩⟩, by show _ = _; kernel_rfl, ⟨⟨⟨trivial, by show _ = _; kernel_rfl, trivial⟩, by show _ = _; kernel_rfl, trivial⟩, by show _ = _; kernel_rfl, ⟨⟨trivial, by show _ = _; kernel_rfl, trivial⟩, by show _ = _; kernel_rfl, trivial⟩⟩⟩, by show _ = _; kernel_rfl, ⟨⟨⟨⟨trivial, by show _ = _; kernel_rfl, trivial⟩, by show _ = _; kernel_rfl, trivial⟩, by show _ = _; kernel_rfl, ⟨⟨trivial, by show _ = _; kernel_rfl, trivial⟩, by show _ = _; kernel_rfl, trivial⟩⟩, by show _ = _; kernel_rfl, ⟨⟨⟨trivial, by show _ = _; kernel_rfl, trivial⟩, by show _ = _; kernel_rfl, trivial⟩, by show _ = _; kernel_rfl, ⟨⟨trivial, by show _ = _; kernel_rfl, trivial⟩, by show _ = _; kernel_rfl, trivial⟩⟩⟩⟩⟩, by show _ = _; kernel_rfl, ⟨⟨⟨⟨⟨⟨trivial, by show _ = _; kernel_rfl, trivial⟩, by show _ = _; kernel_rfl, trivial⟩, by show _ = _; kernel_rfl, ⟨⟨trivial, by show _ = _; kernel_rfl, trivial⟩, by show _ = _; kernel_rfl, trivial⟩⟩, by show _ = _; kernel_rfl, ⟨⟨⟨trivial, by show _ = _; kernel_rfl, trivial⟩, by show _ = _; kernel_rfl, trivial⟩, by show _ = _; kernel_rfl, ⟨⟨trivial, by show _ = _; kernel_rfl, trivial⟩, by show _ = _; kernel_rfl, trivial⟩⟩⟩, by show _ = _; kernel_rfl, ⟨⟨⟨⟨trivial, by show _ = _; kernel_rfl, trivial⟩, by show _ = _; kernel_rfl, trivial⟩, by show _ = _; kernel_rfl, ⟨⟨trivial, by show _ = _; kernel_rfl, trivial⟩, by show _ = _; kernel_rfl, trivial⟩⟩, by show _ = _; kernel_rfl, ⟨⟨⟨trivial, by show _ = _; kernel_rfl, trivial⟩, by show _ = _; kernel_rfl, trivial⟩, by show _ = _; kernel_rfl, ⟨⟨trivial, by show _ = _; kernel_rfl, trivial⟩, by show _ = _; kernel_rfl, trivial⟩⟩⟩⟩, by show _ = _; kernel_rfl, ⟨⟨⟨⟨⟨trivial, by show _ = _; kernel_rfl, trivial⟩, by show _ = _; kernel_rfl, trivial⟩, by show _ = _; kernel_rfl, ⟨⟨trivial, by show _ = _; kernel_rfl, trivial⟩, by show _ = _; kernel_rfl, trivial⟩⟩, by show _ = _; kernel_rfl, ⟨⟨⟨trivial, by show _ = _; kernel_rfl, trivial⟩, by show _ = _; kernel_rfl, trivial⟩, by show _ = _; kernel_rfl, ⟨⟨trivial, by show _ = _; kernel_rfl, trivial⟩, by show _ = _; kernel_rfl, trivial⟩⟩⟩, by show _ = _; kernel_rfl, ⟨⟨⟨⟨trivial, by show _ = _; kernel_rfl, trivial⟩, by show _ = _; kernel_rfl, trivial⟩, by show _ = _; kernel_rfl, ⟨⟨trivial, by show _ = _; kernel_rfl, trivial⟩, by show _ = _; kernel_rfl, trivial⟩⟩, by show _ = _; kernel_rfl, ⟨⟨⟨trivial, by show _ = _; kernel_rfl, trivial⟩, by show _ = _; kernel_rfl, trivial⟩, by show _ = _; kernel_rfl, ⟨trivial, by show _ = _; kernel_rfl, trivial⟩⟩⟩⟩⟩⟩⟩
theorem cfg0_ok (N0 : Nat) : CfgOk cfg0 (fun _ => True) N0 where
  ty t i h := Tr.find_all tyTab_ok h
  mixed := by kernel_rfl
  fn f a h := ⟨Tr.find_all fnTab_ok h, Tr.find_all fnTab_code h⟩
  intr f g h args hp v h' hr s w Args hl hi := by
    simp only [cfg0] at h
    split at h
    · cases h
      exact indexByte_run (fn := Tryz.f191) Tryz.func191 (by kernel_rfl) (by kernel_rfl) (by kernel_rfl) (by kernel_rfl) hr hl hi
    · cases h
      exact countByte_run (fn := Tryz.f157) Tryz.func157 (by kernel_rfl) (by kernel_rfl) (by kernel_rfl) (by kernel_rfl) hr hl hi
    · cases h
      exact repeat_run ⟨_, Tryz.func91, by kernel_rfl, by kernel_rfl⟩ Tryz.strings_Repeat hr hl hi
    · cases h
      exact join_run ⟨_, Tryz.func35, by kernel_rfl, by kernel_rfl⟩ Tryz.strings_Join_none Tryz.strings_Join hr hl hi
    · cases h
  mono _ _ _ h := h
theorem glob0 {g : Nat} {imm : Nat → Nat → Option Value} (hg : g = 1) (h : ∀ (j : Nat) z, pow10s[j]? = some z → imm g j = some (.int .u64 z)) : GlobOk cfg0 imm := by
  intro g' cs hc
  simp only [cfg0] at hc
  split at hc
  · cases hc
    exact ⟨hfL_ints _ _, irel_ints fun j z hz => by rw [Nat.zero_add, ← hg]; exact h j z hz⟩
  · cases hc
end Go.Am
