/- cubitlaw17.SplitKnown answers true, and changes nothing: the closed statement of its chapter; its listed variables tied to the program's text; no condition. -/
import Derived.Test.YtphmddmboankhaaGreatDoorSplitKnownRun
import Derived.Test.YtphmddmboankhaaGreatDoorRows
import Derived.Test.YtphmddmboankhaaGreatDoorCards
import Derived.Test.YtphmddmboankhaaGreatDoorTie
import Derived.ChangeSame
import Derived.ChangeVars
import Derived.JoinedOf
import Derived.RowKit
import Derived.RowKitTokens
import Derived.ProofKit
import Derived.OpenShut
import Derived.Lay
import Derived.LaidOnce
import Derived.SevenTiedAt
import Derived.Stop.Joined
namespace Go.Proofs.YtphmddmboankhaaGreatDoor
open Go.ChangeShapes Go.WideShapes Go.RowKit Go.ChangeAt Go.Am
theorem kn_own : ownKnob Tryz.prog.godebug = none := by kernel_rfl
abbrev knLaid : List (String × DataW Unit) := Rows.splitKnownRow.laid
theorem kn_calls (W : World) (hL : laidMet Tryz.prog knLaid W) : Calls Tryz.prog 3 #[] W fun e w' => e = .returned (.bool true) ∧ Below W.heap.size W w' := by
  obtain ⟨m, h', hr⟩ := Go.Am.splitKnown.run
  have hcell := ints_of_reads (zs := pow10s) (t := 368) (m := 20) (e := 97) (Lib.laidMet.reads hL (n := "internal/strconv.uint64pow10") (d := Rows.laid_internal_strconv_uint64pow10) (by repeat (first | exact List.Mem.head _ | apply List.Mem.tail))) (by kernel_rfl : Tryz.prog.globalNamed "internal/strconv.uint64pow10" = some 5) (by kernel_rfl) (by kernel_rfl) (by kernel_rfl) (by kernel_rfl)
  have hi := inv_start (cfg := cfg0) (G := fun _ => True) (N0 := 0) (imm := fun b o => if b = 5 then W.cell? ⟨b, o, none⟩ else none) (w := W) (fun b o v h => by
      split at h
      · exact h
      · cases h) trivial (glob0 rfl fun j z hz => by simp only [if_true]; exact hcell j z hz) (Nat.zero_le _)
  refine (calls_of_run (cfg0_ok 0) hr ⟨_, Tryz.func3, by kernel_rfl, by kernel_rfl⟩ LRel.nil hi).mono fun e w' ⟨V, s', he, hv, hb⟩ => ?_
  simp only [VRel] at hv
  subst hv
  exact ⟨he, hb⟩
set_option maxRecDepth 100000 in
theorem kn_lifted (os : Os) (started : os.Started) (H : Type) (enc : TypeId × Value → H) :
    ReturnsInHanded {} Tryz.checked os 3 .any (fun w args => (Rows.splitKnownSpec.pre enc Tryz.prog Tryz.f3 [] false w args ∧ laidMetH Tryz.prog knLaid w) ∧ sizedMet enc Tryz.prog Tryz.f3 (OpenSpec.ofChange Rows.splitKnownSpec) false w args)
      (Rows.splitKnownSpec.post enc Tryz.prog Tryz.f3 false true false false) := by
  refine returnsInHanded_of_change_and (C := Tryz.checked) (X := fun w _ => laidMetH Tryz.prog knLaid w) (fun _ _ _ hh h => h.of_heap hh) kn_own started (by kernel_rfl) Tryz.func3
    (ChangeSpec.witness_shaped (enc := enc) (C := Tryz.checked) (os := os) (X := fun w _ => laidMetH Tryz.prog knLaid w) false (World.laidAll Tryz.prog os knLaid) #[] 8 (World.laidAll_os _ _ _)
      (World.shaped_of_ZipB (by kernel_rfl) (by kernel_rfl)) (by kernel_rfl) (by kernel_rfl) (by kernel_rfl)
      (by rw [MakeChecks.laidMetH_plain _ _ _ (by kernel_rfl)]; exact laidMet_laidAll _ (by kernel_rfl) (by kernel_rfl))) ?_
  intro W base args ds gs before hval0 hW _ _ hL _
  have hW' := hW
  obtain ⟨p, q, hA0, hV, rfl, _, _⟩ := hW
  have hA : DataW.TrodAll enc Tryz.prog W 0 (fun _ => true) true Tryz.f3.params.toList args.toList ds p := hA0
  rw [Tryz.params3] at hA
  obtain ⟨ha, rfl, rfl⟩ : args = #[] ∧ ds = [] ∧ p = [] := by
    obtain ⟨l⟩ := args
    cases l with
    | nil => cases ds with
      | nil => exact ⟨rfl, rfl, hA⟩
      | cons d r => exact absurd hA (by intro h; cases h)
    | cons a r => exact absurd hA (by intro h; cases h)
  subst ha
  obtain ⟨rfl, rfl⟩ := trodVars_none hV
  rw [MakeChecks.laidMetH_plain _ _ _ (by kernel_rfl)] at hL
  refine (kn_calls W hL).mono fun e W' ⟨he, hb⟩ => ?_
  subst he
  exact ⟨_, rfl, _, _, _, [], [], [], hW', trodAll_mk1 (shut_bool Tryz.underlying4 _), rfl, rfl, hb.frame _, fun h => by cases h⟩
theorem kn_holds : Rows.SplitKnownSaid :=
  OpenClaim.holds_of_wide 3 Tryz.f3 rfl rfl rfl rfl rfl rfl rfl ⟨rfl, rfl, rfl, rfl, rfl⟩ rfl rfl rfl rfl rfl (by kernel_rfl) Tryz.func3 (by kernel_rfl)
    (of_decide_eq_true (by kernel_rfl)) (by unfold Func.isWrapper; first | (rw [if_pos (by decide +kernel)]; kernel_rfl) | (rw [if_neg (by decide +kernel)]; exact ⟨rfl, rfl⟩))
    (fun os started H enc _ => kn_lifted os started H enc)
theorem splitKnown_card : Rows.SplitKnownCardSaid :=
  Claim7.holds_tied_plain_at .later [] Rows.splitKnownCard.laidKinds true Rows.splitKnownCard.stood.harness true
    kn_holds (fun _ h => by cases h) (by kernel_rfl) (fun _ h => by cases h) splitKnown_row_tie rfl ⟨rfl, rfl⟩ (by kernel_rfl) rfl
    (fun f fn hf hfn => by
      obtain rfl : f = 3 := Option.some.inj ((show Tryz.prog.funcNamed "cubit/cubitlaw17.SplitKnown" = some 3 by kernel_rfl).symm.trans hf) |>.symm
      obtain rfl : fn = Tryz.f3 := (Option.some.inj (Tryz.func3.symm.trans hfn)).symm
      exact ⟨by kernel_rfl, fun j t ht => by
        rw [Tryz.params3] at ht
        simp at ht⟩)
    (by kernel_rfl)
#print axioms splitKnown_card
end Go.Proofs.YtphmddmboankhaaGreatDoor
