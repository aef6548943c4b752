/- conv.Ways of sums that have exponents alone; the law ConvWays. -/
import Derived.Test.YteplpnnbcjjjjaaGreatDoorWkV
noncomputable section
namespace Go.Am
open Go.Proofs
/-- A sum that has exponents alone. -/
def restS : List AV := [.bool false, .nilsl, .nilsl, .bool false, .nilsl, .nilsl, .bool false]
def sumV (a : List Int) : AV := .agg (il a ++ restS)
theorem sumV_hf (a : List Int) : (sumV a).hf = true := by
  show hfL (il a ++ restS) = true
  have : ∀ (l m : List AV), hfL l = true → hfL m = true → hfL (l ++ m) = true := by
    intro l m h1 h2
    induction l with
    | nil => exact h2
    | cons x l ih => simp only [hfL, Bool.and_eq_true, List.cons_append] at h1 ⊢; exact ⟨h1.1, ih h1.2⟩
  exact this _ _ (il_hf a) rfl
theorem tySum : cfg0.ty 33 = some ⟨.struct [(0, 24), (8, 31), (11, 31), (14, 4)], 15, 184, .agg [.int .i64 0, .int .i64 0, .int .i64 0, .int .i64 0, .int .i64 0, .int .i64 0, .int .i64 0, .int .i64 0, .bool false, .nilsl, .nilsl, .bool false, .nilsl, .nilsl, .bool false], none⟩ := by kernel_rfl
theorem box_sum {a : List Int} (ha : a.length = 8) : aboxed cfg0 33 (sumV a) = some (.cells (il a ++ restS) 33, fun id => .ptr id 0) := by
  unfold aboxed
  rw [tySum]
  have h1 : (Nat.beq (sumV a).cells.length 15 && (sumV a).cells.all AV.one) = true := by
    show (Nat.beq (il a ++ restS).length 15 && (il a ++ restS).all AV.one) = true
    rw [List.length_append, il_len, ha, List.all_append, il_one]; rfl
  simp only [h1, cond_true]
  rfl
theorem load_sumV {a : List Int} (ha : a.length = 8) {h : AHeap} {id : Nat} {e : TypeId} (hg : h.get id = some (.cells (il a ++ restS) e)) : aload cfg0 24 (.ptr id (0 + 0)) h = some (v8 a) := by
  have h1 : aload cfg0 24 (.ptr id (0 + 0)) h = match h.get id with | some (.cells cs _) => apart cfg0 24 cs 0 | _ => none := rfl
  rw [h1, hg]
  unfold apart
  rw [tyV]
  simp only [isAggK, cond_true, List.drop_zero]
  have h2 : (il a ++ restS).take 8 = il a := by
    rw [List.take_append_of_le_length (by rw [il_len]; omega), List.take_of_length_le (by rw [il_len]; omega)]
  rw [h2, il_len, ha]
  rfl
def negV (a : List Int) : List Int := if a.all okN then a.map (fun z => z * -1) else zeros8
theorem negV_len {a : List Int} (ha : a.length = 8) : (negV a).length = 8 := by
  unfold negV; split <;> simp [ha, zeros8]
def wayV (a b : List Int) : Int := if a = b then 1 else if a = negV b ∧ negV a = b then -1 else 0
theorem ways_spec {a b : List Int} (ha : a.length = 8) (hb : b.length = 8) {h : AHeap} {K : AV → AHeap → Prop} (k : K (.tuple [.int .i64 (wayV a b), .bool (decide (wayV a b ≠ 0))]) h) : wpCall cfg0 9 [sumV a, sumV b] h K := by
  refine call_pure (fn := mkFn Tryz.f9 true) rfl (by kernel_rfl) rfl (by simp [hfL, sumV_hf]) rfl ?_
  refine hs_text rfl ?_
  refine cB rfl rfl rfl rfl (box_sum ha) ?_
  refine cB rfl rfl rfl rfl (box_sum hb) ?_
  repeat (first | refine hoM_nil ?_ | refine m1 rfl rfl rfl rfl rfl ?_ | refine m2 rfl rfl rfl rfl rfl rfl ?_ | refine rL rfl rfl rfl rfl rfl ?_ | refine cB rfl rfl rfl rfl rfl ?_ | refine cA rfl rfl rfl rfl rfl ?_ | refine mB rfl rfl rfl rfl rfl ?_ | refine mL rfl rfl rfl rfl rfl ?_ | refine m3 rfl rfl rfl rfl rfl rfl rfl ?_ | refine aS rfl rfl rfl rfl rfl nofun ?_ | refine mS rfl rfl rfl rfl rfl rfl rfl rfl ?_ | refine gT rfl rfl rfl ?_ | refine gF rfl rfl rfl rfl ?_ | refine gU rfl rfl rfl ?_ | refine hs_text rfl ?_ | refine ho_text rfl ?_ | refine hs_draw rfl (by kernel_rfl) ?_ | refine ho_draw rfl (by kernel_rfl) ?_ | refine es_n ?_ | refine es_x ?_ | refine es_r ?_ | refine eb_n ?_ | refine eb_r ?_ | refine eb_s ?_ | refine eb_x rfl ?_ | refine el_x ?_ | refine el_r ?_ | refine ho_skip ?_ | refine ho_ret ?_ | refine ho_exit ?_ | refine ho_block ?_ | refine ho_label ?_ | refine ho_seq ?_)
  refine rL rfl rfl rfl rfl (load_sumV ha rfl) ?_
  repeat (first | refine hoM_nil ?_ | refine m1 rfl rfl rfl rfl rfl ?_ | refine m2 rfl rfl rfl rfl rfl rfl ?_ | refine rL rfl rfl rfl rfl rfl ?_ | refine cB rfl rfl rfl rfl rfl ?_ | refine cA rfl rfl rfl rfl rfl ?_ | refine mB rfl rfl rfl rfl rfl ?_ | refine mL rfl rfl rfl rfl rfl ?_ | refine m3 rfl rfl rfl rfl rfl rfl rfl ?_ | refine aS rfl rfl rfl rfl rfl nofun ?_ | refine mS rfl rfl rfl rfl rfl rfl rfl rfl ?_ | refine gT rfl rfl rfl ?_ | refine gF rfl rfl rfl rfl ?_ | refine gU rfl rfl rfl ?_ | refine hs_text rfl ?_ | refine ho_text rfl ?_ | refine hs_draw rfl (by kernel_rfl) ?_ | refine ho_draw rfl (by kernel_rfl) ?_ | refine es_n ?_ | refine es_x ?_ | refine es_r ?_ | refine eb_n ?_ | refine eb_r ?_ | refine eb_s ?_ | refine eb_x rfl ?_ | refine el_x ?_ | refine el_r ?_ | refine ho_skip ?_ | refine ho_ret ?_ | refine ho_exit ?_ | refine ho_block ?_ | refine ho_label ?_ | refine ho_seq ?_)
  refine rL rfl rfl rfl rfl (load_sumV hb rfl) ?_
  refine aF rfl rfl rfl ?_
  refine same_spec ha hb ⟨nofun, ?_⟩
  repeat (first | refine hoM_nil ?_ | refine m1 rfl rfl rfl rfl rfl ?_ | refine m2 rfl rfl rfl rfl rfl rfl ?_ | refine rL rfl rfl rfl rfl rfl ?_ | refine cB rfl rfl rfl rfl rfl ?_ | refine cA rfl rfl rfl rfl rfl ?_ | refine mB rfl rfl rfl rfl rfl ?_ | refine mL rfl rfl rfl rfl rfl ?_ | refine m3 rfl rfl rfl rfl rfl rfl rfl ?_ | refine aS rfl rfl rfl rfl rfl nofun ?_ | refine mS rfl rfl rfl rfl rfl rfl rfl rfl ?_ | refine gT rfl rfl rfl ?_ | refine gF rfl rfl rfl rfl ?_ | refine gU rfl rfl rfl ?_ | refine hs_text rfl ?_ | refine ho_text rfl ?_ | refine hs_draw rfl (by kernel_rfl) ?_ | refine ho_draw rfl (by kernel_rfl) ?_ | refine es_n ?_ | refine es_x ?_ | refine es_r ?_ | refine eb_n ?_ | refine eb_r ?_ | refine eb_s ?_ | refine eb_x rfl ?_ | refine el_x ?_ | refine el_r ?_ | refine ho_skip ?_ | refine ho_ret ?_ | refine ho_exit ?_ | refine ho_block ?_ | refine ho_label ?_ | refine ho_seq ?_)
  refine ho_if rfl (fun e => ?_) (fun e => ?_)
  · have hab : a = b := of_decide_eq_true e
    have hw : wayV a b = 1 := by unfold wayV; rw [if_pos hab]
    rw [hw] at k
    repeat (first | refine hoM_nil ?_ | refine m1 rfl rfl rfl rfl rfl ?_ | refine m2 rfl rfl rfl rfl rfl rfl ?_ | refine rL rfl rfl rfl rfl rfl ?_ | refine cB rfl rfl rfl rfl rfl ?_ | refine cA rfl rfl rfl rfl rfl ?_ | refine mB rfl rfl rfl rfl rfl ?_ | refine mL rfl rfl rfl rfl rfl ?_ | refine m3 rfl rfl rfl rfl rfl rfl rfl ?_ | refine aS rfl rfl rfl rfl rfl nofun ?_ | refine mS rfl rfl rfl rfl rfl rfl rfl rfl ?_ | refine gT rfl rfl rfl ?_ | refine gF rfl rfl rfl rfl ?_ | refine gU rfl rfl rfl ?_ | refine hs_text rfl ?_ | refine ho_text rfl ?_ | refine hs_draw rfl (by kernel_rfl) ?_ | refine ho_draw rfl (by kernel_rfl) ?_ | refine es_n ?_ | refine es_x ?_ | refine es_r ?_ | refine eb_n ?_ | refine eb_r ?_ | refine eb_s ?_ | refine eb_x rfl ?_ | refine el_x ?_ | refine el_r ?_ | refine ho_skip ?_ | refine ho_ret ?_ | refine ho_exit ?_ | refine ho_block ?_ | refine ho_label ?_ | refine ho_seq ?_)
    exact ⟨_, rfl, _, rfl, k⟩
  · have hab : a ≠ b := of_decide_eq_false e
    repeat (first | refine hoM_nil ?_ | refine m1 rfl rfl rfl rfl rfl ?_ | refine m2 rfl rfl rfl rfl rfl rfl ?_ | refine rL rfl rfl rfl rfl rfl ?_ | refine cB rfl rfl rfl rfl rfl ?_ | refine cA rfl rfl rfl rfl rfl ?_ | refine mB rfl rfl rfl rfl rfl ?_ | refine mL rfl rfl rfl rfl rfl ?_ | refine m3 rfl rfl rfl rfl rfl rfl rfl ?_ | refine aS rfl rfl rfl rfl rfl nofun ?_ | refine mS rfl rfl rfl rfl rfl rfl rfl rfl ?_ | refine gT rfl rfl rfl ?_ | refine gF rfl rfl rfl rfl ?_ | refine gU rfl rfl rfl ?_ | refine hs_text rfl ?_ | refine ho_text rfl ?_ | refine hs_draw rfl (by kernel_rfl) ?_ | refine ho_draw rfl (by kernel_rfl) ?_ | refine es_n ?_ | refine es_x ?_ | refine es_r ?_ | refine eb_n ?_ | refine eb_r ?_ | refine eb_s ?_ | refine eb_x rfl ?_ | refine el_x ?_ | refine el_r ?_ | refine ho_skip ?_ | refine ho_ret ?_ | refine ho_exit ?_ | refine ho_block ?_ | refine ho_label ?_ | refine ho_seq ?_)
    refine rL rfl rfl rfl rfl (load_sumV ha rfl) ?_
    repeat (first | refine hoM_nil ?_ | refine m1 rfl rfl rfl rfl rfl ?_ | refine m2 rfl rfl rfl rfl rfl rfl ?_ | refine rL rfl rfl rfl rfl rfl ?_ | refine cB rfl rfl rfl rfl rfl ?_ | refine cA rfl rfl rfl rfl rfl ?_ | refine mB rfl rfl rfl rfl rfl ?_ | refine mL rfl rfl rfl rfl rfl ?_ | refine m3 rfl rfl rfl rfl rfl rfl rfl ?_ | refine aS rfl rfl rfl rfl rfl nofun ?_ | refine mS rfl rfl rfl rfl rfl rfl rfl rfl ?_ | refine gT rfl rfl rfl ?_ | refine gF rfl rfl rfl rfl ?_ | refine gU rfl rfl rfl ?_ | refine hs_text rfl ?_ | refine ho_text rfl ?_ | refine hs_draw rfl (by kernel_rfl) ?_ | refine ho_draw rfl (by kernel_rfl) ?_ | refine es_n ?_ | refine es_x ?_ | refine es_r ?_ | refine eb_n ?_ | refine eb_r ?_ | refine eb_s ?_ | refine eb_x rfl ?_ | refine el_x ?_ | refine el_r ?_ | refine ho_skip ?_ | refine ho_ret ?_ | refine ho_exit ?_ | refine ho_block ?_ | refine ho_label ?_ | refine ho_seq ?_)
    refine rL rfl rfl rfl rfl (load_sumV hb rfl) ?_
    refine aF rfl rfl rfl ?_
    refine neg_spec hb ⟨fun _ _ => rfl, ?_⟩
    refine aF rfl rfl rfl ?_
    refine same_spec (b := negV b) ha (negV_len hb) ⟨fun _ _ => rfl, ?_⟩
    by_cases h1 : a = negV b
    · rw [decide_eq_true h1]
      repeat (first | refine hoM_nil ?_ | refine m1 rfl rfl rfl rfl rfl ?_ | refine m2 rfl rfl rfl rfl rfl rfl ?_ | refine rL rfl rfl rfl rfl rfl ?_ | refine cB rfl rfl rfl rfl rfl ?_ | refine cA rfl rfl rfl rfl rfl ?_ | refine mB rfl rfl rfl rfl rfl ?_ | refine mL rfl rfl rfl rfl rfl ?_ | refine m3 rfl rfl rfl rfl rfl rfl rfl ?_ | refine aS rfl rfl rfl rfl rfl nofun ?_ | refine mS rfl rfl rfl rfl rfl rfl rfl rfl ?_ | refine gT rfl rfl rfl ?_ | refine gF rfl rfl rfl rfl ?_ | refine gU rfl rfl rfl ?_ | refine hs_text rfl ?_ | refine ho_text rfl ?_ | refine hs_draw rfl (by kernel_rfl) ?_ | refine ho_draw rfl (by kernel_rfl) ?_ | refine es_n ?_ | refine es_x ?_ | refine es_r ?_ | refine eb_n ?_ | refine eb_r ?_ | refine eb_s ?_ | refine eb_x rfl ?_ | refine el_x ?_ | refine el_r ?_ | refine ho_skip ?_ | refine ho_ret ?_ | refine ho_exit ?_ | refine ho_block ?_ | refine ho_label ?_ | refine ho_seq ?_)
      refine rL rfl rfl rfl rfl (load_sumV ha rfl) ?_
      refine gT rfl rfl rfl ?_
      refine aF rfl rfl rfl ?_
      refine neg_spec ha ⟨fun _ _ => rfl, ?_⟩
      repeat (first | refine hoM_nil ?_ | refine m1 rfl rfl rfl rfl rfl ?_ | refine m2 rfl rfl rfl rfl rfl rfl ?_ | refine rL rfl rfl rfl rfl rfl ?_ | refine cB rfl rfl rfl rfl rfl ?_ | refine cA rfl rfl rfl rfl rfl ?_ | refine mB rfl rfl rfl rfl rfl ?_ | refine mL rfl rfl rfl rfl rfl ?_ | refine m3 rfl rfl rfl rfl rfl rfl rfl ?_ | refine aS rfl rfl rfl rfl rfl nofun ?_ | refine mS rfl rfl rfl rfl rfl rfl rfl rfl ?_ | refine gT rfl rfl rfl ?_ | refine gF rfl rfl rfl rfl ?_ | refine gU rfl rfl rfl ?_ | refine hs_text rfl ?_ | refine ho_text rfl ?_ | refine hs_draw rfl (by kernel_rfl) ?_ | refine ho_draw rfl (by kernel_rfl) ?_ | refine es_n ?_ | refine es_x ?_ | refine es_r ?_ | refine eb_n ?_ | refine eb_r ?_ | refine eb_s ?_ | refine eb_x rfl ?_ | refine el_x ?_ | refine el_r ?_ | refine ho_skip ?_ | refine ho_ret ?_ | refine ho_exit ?_ | refine ho_block ?_ | refine ho_label ?_ | refine ho_seq ?_)
      refine rL rfl rfl rfl rfl (load_sumV hb rfl) ?_
      refine gT rfl rfl rfl ?_
      refine aF rfl rfl rfl ?_
      refine same_spec (a := negV a) (negV_len ha) hb ⟨fun _ _ => rfl, ?_⟩
      repeat (first | refine hoM_nil ?_ | refine m1 rfl rfl rfl rfl rfl ?_ | refine m2 rfl rfl rfl rfl rfl rfl ?_ | refine rL rfl rfl rfl rfl rfl ?_ | refine cB rfl rfl rfl rfl rfl ?_ | refine cA rfl rfl rfl rfl rfl ?_ | refine mB rfl rfl rfl rfl rfl ?_ | refine mL rfl rfl rfl rfl rfl ?_ | refine m3 rfl rfl rfl rfl rfl rfl rfl ?_ | refine aS rfl rfl rfl rfl rfl nofun ?_ | refine mS rfl rfl rfl rfl rfl rfl rfl rfl ?_ | refine gT rfl rfl rfl ?_ | refine gF rfl rfl rfl rfl ?_ | refine gU rfl rfl rfl ?_ | refine hs_text rfl ?_ | refine ho_text rfl ?_ | refine hs_draw rfl (by kernel_rfl) ?_ | refine ho_draw rfl (by kernel_rfl) ?_ | refine es_n ?_ | refine es_x ?_ | refine es_r ?_ | refine eb_n ?_ | refine eb_r ?_ | refine eb_s ?_ | refine eb_x rfl ?_ | refine el_x ?_ | refine el_r ?_ | refine ho_skip ?_ | refine ho_ret ?_ | refine ho_exit ?_ | refine ho_block ?_ | refine ho_label ?_ | refine ho_seq ?_)
      refine ho_if rfl (fun e2 => ?_) (fun e2 => ?_)
      · have hw : wayV a b = -1 := by unfold wayV; rw [if_neg hab, if_pos ⟨h1, of_decide_eq_true e2⟩]
        rw [hw] at k
        repeat (first | refine hoM_nil ?_ | refine m1 rfl rfl rfl rfl rfl ?_ | refine m2 rfl rfl rfl rfl rfl rfl ?_ | refine rL rfl rfl rfl rfl rfl ?_ | refine cB rfl rfl rfl rfl rfl ?_ | refine cA rfl rfl rfl rfl rfl ?_ | refine mB rfl rfl rfl rfl rfl ?_ | refine mL rfl rfl rfl rfl rfl ?_ | refine m3 rfl rfl rfl rfl rfl rfl rfl ?_ | refine aS rfl rfl rfl rfl rfl nofun ?_ | refine mS rfl rfl rfl rfl rfl rfl rfl rfl ?_ | refine gT rfl rfl rfl ?_ | refine gF rfl rfl rfl rfl ?_ | refine gU rfl rfl rfl ?_ | refine hs_text rfl ?_ | refine ho_text rfl ?_ | refine hs_draw rfl (by kernel_rfl) ?_ | refine ho_draw rfl (by kernel_rfl) ?_ | refine es_n ?_ | refine es_x ?_ | refine es_r ?_ | refine eb_n ?_ | refine eb_r ?_ | refine eb_s ?_ | refine eb_x rfl ?_ | refine el_x ?_ | refine el_r ?_ | refine ho_skip ?_ | refine ho_ret ?_ | refine ho_exit ?_ | refine ho_block ?_ | refine ho_label ?_ | refine ho_seq ?_)
        exact ⟨_, rfl, _, rfl, k⟩
      · have hw : wayV a b = 0 := by unfold wayV; rw [if_neg hab, if_neg (fun ⟨_, x⟩ => of_decide_eq_false e2 x)]
        rw [hw] at k
        repeat (first | refine hoM_nil ?_ | refine m1 rfl rfl rfl rfl rfl ?_ | refine m2 rfl rfl rfl rfl rfl rfl ?_ | refine rL rfl rfl rfl rfl rfl ?_ | refine cB rfl rfl rfl rfl rfl ?_ | refine cA rfl rfl rfl rfl rfl ?_ | refine mB rfl rfl rfl rfl rfl ?_ | refine mL rfl rfl rfl rfl rfl ?_ | refine m3 rfl rfl rfl rfl rfl rfl rfl ?_ | refine aS rfl rfl rfl rfl rfl nofun ?_ | refine mS rfl rfl rfl rfl rfl rfl rfl rfl ?_ | refine gT rfl rfl rfl ?_ | refine gF rfl rfl rfl rfl ?_ | refine gU rfl rfl rfl ?_ | refine hs_text rfl ?_ | refine ho_text rfl ?_ | refine hs_draw rfl (by kernel_rfl) ?_ | refine ho_draw rfl (by kernel_rfl) ?_ | refine es_n ?_ | refine es_x ?_ | refine es_r ?_ | refine eb_n ?_ | refine eb_r ?_ | refine eb_s ?_ | refine eb_x rfl ?_ | refine el_x ?_ | refine el_r ?_ | refine ho_skip ?_ | refine ho_ret ?_ | refine ho_exit ?_ | refine ho_block ?_ | refine ho_label ?_ | refine ho_seq ?_)
        exact ⟨_, rfl, _, rfl, k⟩
    · rw [decide_eq_false h1]
      repeat (first | refine hoM_nil ?_ | refine m1 rfl rfl rfl rfl rfl ?_ | refine m2 rfl rfl rfl rfl rfl rfl ?_ | refine rL rfl rfl rfl rfl rfl ?_ | refine cB rfl rfl rfl rfl rfl ?_ | refine cA rfl rfl rfl rfl rfl ?_ | refine mB rfl rfl rfl rfl rfl ?_ | refine mL rfl rfl rfl rfl rfl ?_ | refine m3 rfl rfl rfl rfl rfl rfl rfl ?_ | refine aS rfl rfl rfl rfl rfl nofun ?_ | refine mS rfl rfl rfl rfl rfl rfl rfl rfl ?_ | refine gT rfl rfl rfl ?_ | refine gF rfl rfl rfl rfl ?_ | refine gU rfl rfl rfl ?_ | refine hs_text rfl ?_ | refine ho_text rfl ?_ | refine hs_draw rfl (by kernel_rfl) ?_ | refine ho_draw rfl (by kernel_rfl) ?_ | refine es_n ?_ | refine es_x ?_ | refine es_r ?_ | refine eb_n ?_ | refine eb_r ?_ | refine eb_s ?_ | refine eb_x rfl ?_ | refine el_x ?_ | refine el_r ?_ | refine ho_skip ?_ | refine ho_ret ?_ | refine ho_exit ?_ | refine ho_block ?_ | refine ho_label ?_ | refine ho_seq ?_)
      refine ho_if rfl (fun e2 => by cases e2) (fun _ => ?_)
      have hw : wayV a b = 0 := by unfold wayV; rw [if_neg hab, if_neg (fun ⟨x, _⟩ => h1 x)]
      rw [hw] at k
      repeat (first | refine hoM_nil ?_ | refine m1 rfl rfl rfl rfl rfl ?_ | refine m2 rfl rfl rfl rfl rfl rfl ?_ | refine rL rfl rfl rfl rfl rfl ?_ | refine cB rfl rfl rfl rfl rfl ?_ | refine cA rfl rfl rfl rfl rfl ?_ | refine mB rfl rfl rfl rfl rfl ?_ | refine mL rfl rfl rfl rfl rfl ?_ | refine m3 rfl rfl rfl rfl rfl rfl rfl ?_ | refine aS rfl rfl rfl rfl rfl nofun ?_ | refine mS rfl rfl rfl rfl rfl rfl rfl rfl ?_ | refine gT rfl rfl rfl ?_ | refine gF rfl rfl rfl rfl ?_ | refine gU rfl rfl rfl ?_ | refine hs_text rfl ?_ | refine ho_text rfl ?_ | refine hs_draw rfl (by kernel_rfl) ?_ | refine ho_draw rfl (by kernel_rfl) ?_ | refine es_n ?_ | refine es_x ?_ | refine es_r ?_ | refine eb_n ?_ | refine eb_r ?_ | refine eb_s ?_ | refine eb_x rfl ?_ | refine el_x ?_ | refine el_r ?_ | refine ho_skip ?_ | refine ho_ret ?_ | refine ho_exit ?_ | refine ho_block ?_ | refine ho_label ?_ | refine ho_seq ?_)
      exact ⟨_, rfl, _, rfl, k⟩
end Go.Am
