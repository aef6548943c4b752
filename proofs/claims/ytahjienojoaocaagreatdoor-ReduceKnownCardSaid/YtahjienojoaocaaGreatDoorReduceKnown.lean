/- cubitlaw12.ReduceKnown answers true, and changes nothing: the closed statement of its chapter; its listed variables tied to the program's text; no condition. -/
import Derived.Test.YtahjienojoaocaaGreatDoorReduceKnownRun
import Derived.Test.YtahjienojoaocaaGreatDoorRows
import Derived.Test.YtahjienojoaocaaGreatDoorCards
import Derived.Test.YtahjienojoaocaaGreatDoorTie
import Derived.ChangeSame
import Derived.ChangeVars
import Derived.JoinedOf
import Derived.RowKit
import Derived.RowKitTokens
import Derived.ProofKit
import Derived.OpenShut
import Derived.Lay
import Derived.LaidOnce
import Derived.SevenTiedAt
import Derived.Stop.Joined
namespace Go.Proofs.YtahjienojoaocaaGreatDoor
open Go.ChangeShapes Go.WideShapes Go.RowKit Go.ChangeAt Go.Am
theorem kn_own : ownKnob Tryz.prog.godebug = none := by kernel_rfl
abbrev knLaid : List (String × DataW Unit) := Rows.reduceKnownRow.laid
theorem kn_calls (W : World) (hL : laidMet Tryz.prog knLaid W) : Calls Tryz.prog 4 #[] W fun e w' => e = .returned (.bool true) ∧ Below W.heap.size W w' := by
  obtain ⟨m, h', hr⟩ := Go.Am.reduceKnown.run
  have hcell := ints_of_reads (zs := pow10s) (t := 312) (m := 20) (e := 52) (Lib.laidMet.reads hL (n := "internal/strconv.uint64pow10") (d := Rows.laid_internal_strconv_uint64pow10) (by repeat (first | exact List.Mem.head _ | apply List.Mem.tail))) (by kernel_rfl : Tryz.prog.globalNamed "internal/strconv.uint64pow10" = some 1) (by kernel_rfl) (by kernel_rfl) (by kernel_rfl) (by kernel_rfl)
  have hi := inv_start (cfg := cfg0) (G := fun _ => True) (N0 := 0) (imm := fun b o => if b = 1 then W.cell? ⟨b, o, none⟩ else none) (w := W) (fun b o v h => by
      split at h
      · exact h
      · cases h) trivial (glob0 rfl fun j z hz => by simp only [if_true]; exact hcell j z hz) (Nat.zero_le _)
  refine (calls_of_run (cfg0_ok 0) hr ⟨_, Tryz.func4, by kernel_rfl, by kernel_rfl⟩ LRel.nil hi).mono fun e w' ⟨V, s', he, hv, hb⟩ => ?_
  simp only [VRel] at hv
  subst hv
  exact ⟨he, hb⟩
set_option maxRecDepth 100000 in
theorem kn_lifted (os : Os) (started : os.Started) (H : Type) (enc : TypeId × Value → H) :
    ReturnsInHanded {} Tryz.checked os 4 .any (fun w args => (Rows.reduceKnownSpec.pre enc Tryz.prog Tryz.f4 [] false w args ∧ laidMetH Tryz.prog knLaid w) ∧ sizedMet enc Tryz.prog Tryz.f4 (OpenSpec.ofChange Rows.reduceKnownSpec) false w args)
      (Rows.reduceKnownSpec.post enc Tryz.prog Tryz.f4 false true false false) := by
  refine returnsInHanded_of_change_and (C := Tryz.checked) (X := fun w _ => laidMetH Tryz.prog knLaid w) (fun _ _ _ hh h => h.of_heap hh) kn_own started (by kernel_rfl) Tryz.func4
    (ChangeSpec.witness_shaped (enc := enc) (C := Tryz.checked) (os := os) (X := fun w _ => laidMetH Tryz.prog knLaid w) false (World.laidAll Tryz.prog os knLaid) #[] 8 (World.laidAll_os _ _ _)
      (World.shaped_of_ZipB (by kernel_rfl) (by kernel_rfl)) (by kernel_rfl) (by kernel_rfl) (by kernel_rfl)
      (by rw [MakeChecks.laidMetH_plain _ _ _ (by kernel_rfl)]; exact laidMet_laidAll _ (by kernel_rfl) (by kernel_rfl))) ?_
  intro W base args ds gs before hval0 hW _ _ hL _
  have hW' := hW
  obtain ⟨p, q, hA0, hV, rfl, _, _⟩ := hW
  have hA : DataW.TrodAll enc Tryz.prog W 0 (fun _ => true) true Tryz.f4.params.toList args.toList ds p := hA0
  rw [Tryz.params4] at hA
  obtain ⟨ha, rfl, rfl⟩ : args = #[] ∧ ds = [] ∧ p = [] := by
    obtain ⟨l⟩ := args
    cases l with
    | nil => cases ds with
      | nil => exact ⟨rfl, rfl, hA⟩
      | cons d r => exact absurd hA (by intro h; cases h)
    | cons a r => exact absurd hA (by intro h; cases h)
  subst ha
  obtain ⟨rfl, rfl⟩ := trodVars_none hV
  rw [MakeChecks.laidMetH_plain _ _ _ (by kernel_rfl)] at hL
  refine (kn_calls W hL).mono fun e W' ⟨he, hb⟩ => ?_
  subst he
  exact ⟨_, rfl, _, _, _, [], [], [], hW', trodAll_mk1 (shut_bool Tryz.underlying4 _), rfl, rfl, hb.frame _, fun h => by cases h⟩
theorem kn_holds : Rows.ReduceKnownSaid :=
  OpenClaim.holds_of_wide 4 Tryz.f4 rfl rfl rfl rfl rfl rfl rfl ⟨rfl, rfl, rfl, rfl, rfl⟩ rfl rfl rfl rfl rfl (by kernel_rfl) Tryz.func4 (by kernel_rfl)
    (of_decide_eq_true (by kernel_rfl)) (by unfold Func.isWrapper; first | (rw [if_pos (by decide +kernel)]; kernel_rfl) | (rw [if_neg (by decide +kernel)]; exact ⟨rfl, rfl⟩))
    (fun os started H enc _ => kn_lifted os started H enc)
theorem reduceKnown_card : Rows.ReduceKnownCardSaid :=
  Claim7.holds_tied_plain_at .later [] Rows.reduceKnownCard.laidKinds true Rows.reduceKnownCard.stood.harness true
    kn_holds (fun _ h => by cases h) (by kernel_rfl) (fun _ h => by cases h) reduceKnown_row_tie rfl ⟨rfl, rfl⟩ (by kernel_rfl) rfl
    (fun f fn hf hfn => by
      obtain rfl : f = 4 := Option.some.inj ((show Tryz.prog.funcNamed "cubit/cubitlaw12.ReduceKnown" = some 4 by kernel_rfl).symm.trans hf) |>.symm
      obtain rfl : fn = Tryz.f4 := (Option.some.inj (Tryz.func4.symm.trans hfn)).symm
      exact ⟨by kernel_rfl, fun j t ht => by
        rw [Tryz.params4] at ht
        simp at ht⟩)
    (by kernel_rfl)
#print axioms reduceKnown_card
end Go.Proofs.YtahjienojoaocaaGreatDoor
