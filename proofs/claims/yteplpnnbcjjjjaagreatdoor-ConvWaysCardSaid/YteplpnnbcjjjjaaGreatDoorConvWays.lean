/- cubitlaw13.ConvWays answers true for every two rows of eight numbers, and changes nothing; its listed variables tied to the program's text; no condition. -/
import Derived.Test.YteplpnnbcjjjjaaGreatDoorAwakeFRun
import Derived.Test.YteplpnnbcjjjjaaGreatDoorWkX
import Derived.Test.YteplpnnbcjjjjaaGreatDoorWkL
import Derived.Test.YteplpnnbcjjjjaaGreatDoorRows
import Derived.Test.YteplpnnbcjjjjaaGreatDoorCards
import Derived.Test.YteplpnnbcjjjjaaGreatDoorTie
import Derived.ChangeSame
import Derived.ChangeVars
import Derived.JoinedOf
import Derived.RowKit
import Derived.RowKitTokens
import Derived.Carry
import Derived.Lay
import Derived.LaidOnce
import Derived.SevenTiedAt
import Derived.Stop.Joined
namespace Go.Proofs.YteplpnnbcjjjjaaGreatDoor
open Go.ChangeShapes Go.WideShapes Go.RowKit Go.ChangeAt Go.Am
theorem cw_own : ownKnob Tryz.prog.godebug = none := by kernel_rfl
theorem cw_laidOut : laidOutB Tryz.prog = true := by kernel_rfl
abbrev cwLaid : List (String × DataW Unit) := Rows.convWaysRow.laid
theorem cw_calls (W : World) (hL : laidMet Tryz.prog cwLaid W) {a b : List Int} (ha : a.length = 8) (hb : b.length = 8) : Calls Tryz.prog 3 #[.agg (a.map (Value.int .i64 ·)).toArray, .agg (b.map (Value.int .i64 ·)).toArray] W fun e w' => e = .returned (.bool true) ∧ Below W.heap.size W w' := by
  obtain ⟨v, h', ⟨m, hm⟩, hv⟩ := convWays_spec Go.Am.awakeF.did ha hb (h := .empty) (K := fun v _ => v = .bool true) rfl
  subst hv
  have hcell := ints_of_reads (zs := pow10s) (t := 350) (m := 20) (e := 86) (Lib.laidMet.reads hL (n := "internal/strconv.uint64pow10") (d := Rows.laid_internal_strconv_uint64pow10) (by repeat (first | exact List.Mem.head _ | apply List.Mem.tail))) (by kernel_rfl : Tryz.prog.globalNamed "internal/strconv.uint64pow10" = some 1) (by kernel_rfl) (by kernel_rfl) (by kernel_rfl) (by kernel_rfl)
  have hi := inv_start (cfg := cfg0) (G := fun _ => True) (N0 := 0) (imm := fun b o => if b = 1 then W.cell? ⟨b, o, none⟩ else none) (w := W) (fun b o v h => by
      split at h
      · exact h
      · cases h) trivial (glob0 rfl fun j z hz => by simp only [if_true]; exact hcell j z hz) (Nat.zero_le _)
  refine (calls_of_run (cfg0_ok 0) (hm m (Nat.le_refl _)) ⟨_, Tryz.func3, by kernel_rfl, by kernel_rfl⟩ (LRel.cons (v := .agg (a.map (Value.int .i64 ·)).toArray) (by unfold v8; simp only [VRel]; exact ⟨_, rfl, lrel_ints _ _⟩) (LRel.cons (v := .agg (b.map (Value.int .i64 ·)).toArray) (by unfold v8; simp only [VRel]; exact ⟨_, rfl, lrel_ints _ _⟩) LRel.nil)) hi).mono fun e w' ⟨V, s', he, hv, hb⟩ => ?_
  simp only [VRel] at hv
  subst hv
  exact ⟨he, hb⟩
set_option maxRecDepth 100000 in
theorem cw_lifted (os : Os) (started : os.Started) (H : Type) (enc : TypeId × Value → H) :
    ReturnsInHanded {} Tryz.checked os 3 .any (fun w args => (Rows.convWaysSpec.pre enc Tryz.prog Tryz.f3 [] false w args ∧ laidMetH Tryz.prog cwLaid w) ∧ sizedMet enc Tryz.prog Tryz.f3 (OpenSpec.ofChange Rows.convWaysSpec) false w args)
      (Rows.convWaysSpec.post enc Tryz.prog Tryz.f3 false true false false) := by
  refine returnsInHanded_of_change_and (C := Tryz.checked) (X := fun w _ => laidMetH Tryz.prog cwLaid w) (fun _ _ _ hh h => h.of_heap hh) cw_own started (by kernel_rfl) Tryz.func3
    (ChangeSpec.witness_shaped (enc := enc) (C := Tryz.checked) (os := os) (X := fun w _ => laidMetH Tryz.prog cwLaid w) false (World.laidAll Tryz.prog os cwLaid) #[.agg #[.int .i64 0, .int .i64 0, .int .i64 0, .int .i64 0, .int .i64 0, .int .i64 0, .int .i64 0, .int .i64 0], .agg #[.int .i64 0, .int .i64 0, .int .i64 0, .int .i64 0, .int .i64 0, .int .i64 0, .int .i64 0, .int .i64 0]] 8 (World.laidAll_os _ _ _)
      (World.shaped_of_ZipB (by kernel_rfl) (by kernel_rfl)) (by kernel_rfl) (by kernel_rfl) (by kernel_rfl)
      (by rw [MakeChecks.laidMetH_plain _ _ _ (by kernel_rfl)]; exact laidMet_laidAll _ (by kernel_rfl) (by kernel_rfl))) ?_
  intro W base args ds gs before hval0 hW _ _ hL _
  have hval : ∀ (j : Nat) t v, Tryz.f3.params[j]? = some t → args[j]? = some v → Value.okWide Tryz.prog W .any base t v := hval0
  have hW' := hW
  obtain ⟨p, q, hA0, hV, rfl, _, _⟩ := hW
  have hA : DataW.TrodAll enc Tryz.prog W 0 (fun _ => true) true Tryz.f3.params.toList args.toList ds p := hA0
  rw [Tryz.params3] at hA hval
  obtain ⟨v0, v1, d0, d1, p0, p1, rfl, rfl, rfl, h0, h1⟩ := trodAll_two hA
  obtain ⟨rfl, rfl⟩ := trodVars_none hV
  obtain ⟨a, ha, rfl⟩ := open_intsV Tryz.underlying22 Tryz.underlying3 (by kernel_rfl) (by kernel_rfl) (hval 0 22 v0 rfl rfl) h0
  obtain ⟨b, hb, rfl⟩ := open_intsV Tryz.underlying22 Tryz.underlying3 (by kernel_rfl) (by kernel_rfl) (hval 1 22 v1 rfl rfl) h1
  simp only [List.append_nil] at hW'
  have hlt : ∀ x ∈ p0 ++ p1, x.block < W.heap.size := fun x hx => by simpa using hW'.lt x hx
  rw [MakeChecks.laidMetH_plain _ _ _ (by kernel_rfl)] at hL
  refine (cw_calls W hL ha hb).mono fun e W' ⟨he, hbel⟩ => ?_
  subst he
  refine ⟨_, rfl, _, _, _, [], p0 ++ p1, [], hW', trodAll_mk1 (shut_bool Tryz.underlying4 _), ?_, rfl, hbel.frame _, fun h => by cases h⟩
  exact trodAll_mk2 (Below.trod cw_laidOut (by kernel_rfl) (of_decide_eq_true (by kernel_rfl)) h0 hbel fun x hx => hlt x (List.mem_append.2 (.inl hx))) (Below.trod cw_laidOut (by kernel_rfl) (of_decide_eq_true (by kernel_rfl)) h1 hbel fun x hx => hlt x (List.mem_append.2 (.inr hx)))
theorem cw_holds : Rows.ConvWaysSaid :=
  OpenClaim.holds_of_wide 3 Tryz.f3 rfl rfl rfl rfl rfl rfl rfl ⟨rfl, rfl, rfl, rfl, rfl⟩ rfl rfl rfl rfl rfl (by kernel_rfl) Tryz.func3 (by kernel_rfl)
    (of_decide_eq_true (by kernel_rfl)) (by unfold Func.isWrapper; first | (rw [if_pos (by decide +kernel)]; kernel_rfl) | (rw [if_neg (by decide +kernel)]; exact ⟨rfl, rfl⟩))
    (fun os started H enc _ => cw_lifted os started H enc)
theorem convWays_card : Rows.ConvWaysCardSaid :=
  Claim7.holds_tied_plain_at .later [] Rows.convWaysCard.laidKinds true Rows.convWaysCard.stood.harness true
    cw_holds (fun _ h => by cases h) (by kernel_rfl) (fun _ h => by cases h) convWays_row_tie rfl ⟨rfl, rfl⟩ (by kernel_rfl) rfl
    (fun f fn hf hfn => by
      obtain rfl : f = 3 := Option.some.inj ((show Tryz.prog.funcNamed "cubit/cubitlaw13.ConvWays" = some 3 by kernel_rfl).symm.trans hf) |>.symm
      obtain rfl : fn = Tryz.f3 := (Option.some.inj (Tryz.func3.symm.trans hfn)).symm
      exact ⟨by kernel_rfl, fun j t ht => by
        rw [Tryz.params3] at ht
        have hm : t ∈ [22, 22] := by simpa using Array.mem_of_getElem? ht
        have hall : ([22, 22].all fun u => !Tryz.prog.wantsStandIn u) = true := by kernel_rfl
        exact (show Tryz.prog.wantsStandIn t = false by simpa using List.all_eq_true.1 hall t hm)⟩)
    (by kernel_rfl)
#print axioms convWays_card
end Go.Proofs.YteplpnnbcjjjjaaGreatDoor
