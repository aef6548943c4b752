/- dims: rows of eight numbers: what the functions come to. -/
import Derived.Test.YteplpnnbcjjjjaaGreatDoorAmCfgA
import Derived.Test.YteplpnnbcjjjjaaGreatDoorWk0
noncomputable section
namespace Go.Am
open Go.Proofs
theorem bT {p : Prop} [Decidable p] (h : p) : some (AV.bool (decide p)) = some (AV.bool true) := by rw [decide_eq_true h]
theorem bF {p : Prop} [Decidable p] (h : ¬ p) : some (AV.bool (decide p)) = some (AV.bool false) := by rw [decide_eq_false h]
def okN (z : Int) : Bool := decide (-100 ≤ z) && decide (z ≤ 100)
theorem in_spec {z : Int} {h : AHeap} {K : AV → AHeap → Prop} (k : K (.bool (okN z)) h) : wpCall cfg0 118 [.int .i64 z] h K := by
  refine call_pure (fn := mkFn Tryz.f118 true) rfl (by kernel_rfl) rfl rfl rfl ?_
  refine hs_text rfl ?_
  refine m1 rfl rfl rfl rfl rfl ?_
  refine hoM_nil ?_
  refine hs_text rfl ?_
  refine m1 rfl rfl rfl rfl rfl ?_
  by_cases h1 : -100 ≤ z
  · refine m2 rfl rfl rfl rfl rfl (bT h1) ?_
    refine m1 rfl rfl rfl rfl rfl ?_
    refine gT rfl rfl rfl ?_
    refine m1 rfl rfl rfl rfl rfl ?_
    refine gT rfl rfl rfl ?_
    refine m2 rfl rfl rfl rfl rfl rfl ?_
    refine m3 rfl rfl rfl rfl rfl rfl rfl ?_
    refine m1 rfl rfl rfl rfl rfl ?_
    refine hoM_nil ?_
    refine ho_ret ⟨_, rfl, _, rfl, ?_⟩
    have e : okN z = decide (z ≤ 100) := by unfold okN; rw [decide_eq_true h1]; rfl
    rw [e] at k; exact k
  · refine m2 rfl rfl rfl rfl rfl (bF h1) ?_
    refine m1 rfl rfl rfl rfl rfl ?_
    refine gF rfl rfl rfl rfl ?_
    refine gF rfl rfl rfl rfl ?_
    refine m3 rfl rfl rfl rfl rfl rfl rfl ?_
    refine m1 rfl rfl rfl rfl rfl ?_
    refine hoM_nil ?_
    refine ho_ret ⟨_, rfl, _, rfl, ?_⟩
    have e : okN z = false := by unfold okN; rw [decide_eq_false h1]; rfl
    rw [e] at k; exact k
theorem bad_spec {z : Int} {h : AHeap} {K : AV → AHeap → Prop} (k : K (.bool (!okN z)) h) : wpCall cfg0 165 [.int .i64 z] h K := by
  refine call_pure (fn := mkFn Tryz.f165 true) rfl (by kernel_rfl) rfl rfl rfl ?_
  repeat (first | refine hoM_nil ?_ | refine m1 rfl rfl rfl rfl rfl ?_ | refine m2 rfl rfl rfl rfl rfl rfl ?_ | refine rL rfl rfl rfl rfl rfl ?_ | refine cB rfl rfl rfl rfl rfl ?_ | refine cA rfl rfl rfl rfl rfl ?_ | refine mB rfl rfl rfl rfl rfl ?_ | refine mL rfl rfl rfl rfl rfl ?_ | refine m3 rfl rfl rfl rfl rfl rfl rfl ?_ | refine aS rfl rfl rfl rfl rfl nofun ?_ | refine mS rfl rfl rfl rfl rfl rfl rfl rfl ?_ | refine gT rfl rfl rfl ?_ | refine gF rfl rfl rfl rfl ?_ | refine gU rfl rfl rfl ?_ | refine hs_text rfl ?_ | refine ho_text rfl ?_ | refine hs_draw rfl (by kernel_rfl) ?_ | refine ho_draw rfl (by kernel_rfl) ?_ | refine es_n ?_ | refine es_x ?_ | refine es_r ?_ | refine eb_n ?_ | refine eb_r ?_ | refine eb_s ?_ | refine eb_x rfl ?_ | refine el_x ?_ | refine el_r ?_ | refine ho_skip ?_ | refine ho_ret ?_ | refine ho_exit ?_ | refine ho_block ?_ | refine ho_label ?_ | refine ho_seq ?_)
  refine aF rfl rfl rfl ?_
  refine in_spec ⟨nofun, ?_⟩
  repeat (first | refine hoM_nil ?_ | refine m1 rfl rfl rfl rfl rfl ?_ | refine m2 rfl rfl rfl rfl rfl rfl ?_ | refine rL rfl rfl rfl rfl rfl ?_ | refine cB rfl rfl rfl rfl rfl ?_ | refine cA rfl rfl rfl rfl rfl ?_ | refine mB rfl rfl rfl rfl rfl ?_ | refine mL rfl rfl rfl rfl rfl ?_ | refine m3 rfl rfl rfl rfl rfl rfl rfl ?_ | refine aS rfl rfl rfl rfl rfl nofun ?_ | refine mS rfl rfl rfl rfl rfl rfl rfl rfl ?_ | refine gT rfl rfl rfl ?_ | refine gF rfl rfl rfl rfl ?_ | refine gU rfl rfl rfl ?_ | refine hs_text rfl ?_ | refine ho_text rfl ?_ | refine hs_draw rfl (by kernel_rfl) ?_ | refine ho_draw rfl (by kernel_rfl) ?_ | refine es_n ?_ | refine es_x ?_ | refine es_r ?_ | refine eb_n ?_ | refine eb_r ?_ | refine eb_s ?_ | refine eb_x rfl ?_ | refine el_x ?_ | refine el_r ?_ | refine ho_skip ?_ | refine ho_ret ?_ | refine ho_exit ?_ | refine ho_block ?_ | refine ho_label ?_ | refine ho_seq ?_)
  exact ⟨_, rfl, _, rfl, k⟩
/-! ### Rows -/
def il (zs : List Int) : List AV := zs.map (AV.int .i64 ·)
theorem il_len (zs : List Int) : (il zs).length = zs.length := by simp [il]
theorem il_get (zs : List Int) (n : Nat) (h : n < zs.length) : (il zs)[n]? = some (.int .i64 zs[n]) := by simp [il, h]
theorem il_hf : ∀ zs : List Int, hfL (il zs) = true
  | [] => rfl
  | z :: zs => by simp only [il, List.map_cons, hfL, AV.hf, Bool.true_and]; exact il_hf zs
theorem il_one : ∀ zs : List Int, (il zs).all AV.one = true
  | [] => rfl
  | z :: zs => by simp only [il, List.map_cons, List.all_cons, AV.one, Bool.true_and]; exact il_one zs
theorem tyV : cfg0.ty 24 = some ⟨.array 8 3, 8, 64, .agg [.int .i64 0, .int .i64 0, .int .i64 0, .int .i64 0, .int .i64 0, .int .i64 0, .int .i64 0, .int .i64 0], some [1, 1, 1, 1, 1, 1, 1, 1]⟩ := by kernel_rfl
theorem tyInt : cfg0.ty 3 = some ⟨.int .i64, 1, 8, .int .i64 0, some [1]⟩ := by kernel_rfl
theorem tyInts : cfg0.ty 40 = some ⟨.slice 3, 1, 24, .nilsl, none⟩ := by kernel_rfl
/-- The place of the first that may not be. -/
def firstBad : List Int → Nat → Int
  | [], _ => -1
  | z :: l, i => bif okN z then firstBad l (i + 1) else i
theorem firstBad_at : ∀ (zs : List Int) (i n : Nat), (∀ j, j < n → ∀ z, zs[j]? = some z → okN z = true) → n ≤ zs.length → firstBad zs i = firstBad (zs.drop n) (i + n)
  | _, i, 0, _, _ => by simp
  | [], i, n + 1, _, h => by simp at h
  | z :: zs, i, n + 1, hj, h => by
    have hz := hj 0 (by omega) z rfl
    have e : firstBad (z :: zs) i = bif okN z then firstBad zs (i + 1) else i := rfl
    rw [e, hz, cond_true, firstBad_at zs (i + 1) n (fun j hlt y hy => hj (j + 1) (by omega) y (by simpa using hy)) (by simpa using h)]
    simp only [List.drop_succ_cons]
    rw [show i + 1 + n = i + (n + 1) by omega]
theorem firstBad_neg : ∀ (zs : List Int) (i : Nat), decide (0 ≤ firstBad zs i) = !zs.all okN
  | [], i => rfl
  | z :: zs, i => by
    have e : firstBad (z :: zs) i = bif okN z then firstBad zs (i + 1) else i := rfl
    rw [e, List.all_cons]
    cases okN z with
    | true => simp only [cond_true, Bool.true_and]; exact firstBad_neg zs (i + 1)
    | false => simp
theorem sl_addr {cfg : Cfg} {t e : TypeId} {i j : TI} (ht : cfg.ty t = some i) (hk : i.kd = .slice e) (he : cfg.ty e = some j) (hj : j.size = 1) {id off len : Nat} {c : ACap} {k : IntKind} {n : Nat} (hn : n < len) : aindexAddr cfg t (.sl id off len c) (.int k n) = some (.ptr id (off + n)) := by
  unfold aindexAddr
  rw [ht]
  simp only [hk, he, hj, Nat.mul_one, Int.toNat_natCast]
  have h1 : (decide ((0 : Int) ≤ (n : Int)) && decide ((n : Int) < (len : Int))) = true := by simp only [Bool.and_eq_true, decide_eq_true_eq]; omega
  rw [h1]; rfl
theorem cell_load {cfg : Cfg} {e : TypeId} {j : TI} (he : cfg.ty e = some j) (hj : isAggK j.kd = false) {h : AHeap} {id : Nat} {cs : List AV} {e' : TypeId} (hg : h.get id = some (.cells cs e')) {n : Nat} {v : AV} (hv : cs[n]? = some v) : aload cfg e (.ptr id (0 + n)) h = some v := by
  have h1 : aload cfg e (.ptr id (0 + n)) h = match h.get id with | some (.cells cs _) => apart cfg e cs (0 + n) | _ => none := rfl
  rw [h1, hg]
  unfold apart
  rw [he, Nat.zero_add]
  simp only [hj, cond_false, hv]
theorem index_spec {id : Nat} {h : AHeap} {zs : List Int} {e : TypeId} (hg : h.get id = some (.cells (il zs) e)) (hl : zs.length = 8) {K : AV → AHeap → Prop} (k : K (.int .i64 (firstBad zs 0)) h) : wpCall cfg0 212 [.sl id 0 8 (.known 8), .func 165 [] []] h K := by
  refine call_body (fn := mkFn Tryz.f212 true) rfl (by kernel_rfl) rfl rfl ?_
  repeat (first | refine hoM_nil ?_ | refine m1 rfl rfl rfl rfl rfl ?_ | refine m2 rfl rfl rfl rfl rfl rfl ?_ | refine rL rfl rfl rfl rfl rfl ?_ | refine cB rfl rfl rfl rfl rfl ?_ | refine cA rfl rfl rfl rfl rfl ?_ | refine mB rfl rfl rfl rfl rfl ?_ | refine mL rfl rfl rfl rfl rfl ?_ | refine m3 rfl rfl rfl rfl rfl rfl rfl ?_ | refine aS rfl rfl rfl rfl rfl nofun ?_ | refine mS rfl rfl rfl rfl rfl rfl rfl rfl ?_ | refine gT rfl rfl rfl ?_ | refine gF rfl rfl rfl rfl ?_ | refine gU rfl rfl rfl ?_ | refine hs_text rfl ?_ | refine ho_text rfl ?_ | refine hs_draw rfl (by kernel_rfl) ?_ | refine ho_draw rfl (by kernel_rfl) ?_ | refine es_n ?_ | refine es_x ?_ | refine es_r ?_ | refine eb_n ?_ | refine eb_r ?_ | refine eb_s ?_ | refine eb_x rfl ?_ | refine el_x ?_ | refine el_r ?_ | refine ho_skip ?_ | refine ho_ret ?_ | refine ho_exit ?_ | refine ho_block ?_ | refine ho_label ?_ | refine ho_seq ?_)
  refine ho_loop (fun m L h1 => ∃ i : Nat, m = 8 - i ∧ i ≤ 8 ∧ h1 = h ∧ Env.Sub [(0, .sl id 0 8 (.known 8)), (1, .func 165 [] []), (7, .int .i64 8), (8, .int .i64 i)] L ∧ ∀ j, j < i → ∀ z, zs[j]? = some z → okN z = true) 8 ?_ ?_
  · exact ⟨0, rfl, Nat.zero_le _, rfl, ⟨rfl, rfl, rfl, rfl, trivial⟩, fun j hj => absurd hj (Nat.not_lt_zero _)⟩
  · rintro m L h1 ⟨i, rfl, hi, rfl, hs, hall⟩
    refine ho_sub hs ?_
    repeat (first | refine hoM_nil ?_ | refine m1 rfl rfl rfl rfl rfl ?_ | refine m2 rfl rfl rfl rfl rfl rfl ?_ | refine rL rfl rfl rfl rfl rfl ?_ | refine cB rfl rfl rfl rfl rfl ?_ | refine cA rfl rfl rfl rfl rfl ?_ | refine mB rfl rfl rfl rfl rfl ?_ | refine mL rfl rfl rfl rfl rfl ?_ | refine m3 rfl rfl rfl rfl rfl rfl rfl ?_ | refine aS rfl rfl rfl rfl rfl nofun ?_ | refine mS rfl rfl rfl rfl rfl rfl rfl rfl ?_ | refine gT rfl rfl rfl ?_ | refine gF rfl rfl rfl rfl ?_ | refine gU rfl rfl rfl ?_ | refine hs_text rfl ?_ | refine ho_text rfl ?_ | refine hs_draw rfl (by kernel_rfl) ?_ | refine ho_draw rfl (by kernel_rfl) ?_ | refine es_n ?_ | refine es_x ?_ | refine es_r ?_ | refine eb_n ?_ | refine eb_r ?_ | refine eb_s ?_ | refine eb_x rfl ?_ | refine el_x ?_ | refine el_r ?_ | refine ho_skip ?_ | refine ho_ret ?_ | refine ho_exit ?_ | refine ho_block ?_ | refine ho_label ?_ | refine ho_seq ?_)
    refine ho_if rfl (fun e => ?_) (fun e => ?_)
    · have hi8 : i < 8 := by have := of_decide_eq_true e; omega
      repeat (first | refine hoM_nil ?_ | refine m1 rfl rfl rfl rfl rfl ?_ | refine m2 rfl rfl rfl rfl rfl rfl ?_ | refine rL rfl rfl rfl rfl rfl ?_ | refine cB rfl rfl rfl rfl rfl ?_ | refine cA rfl rfl rfl rfl rfl ?_ | refine mB rfl rfl rfl rfl rfl ?_ | refine mL rfl rfl rfl rfl rfl ?_ | refine m3 rfl rfl rfl rfl rfl rfl rfl ?_ | refine aS rfl rfl rfl rfl rfl nofun ?_ | refine mS rfl rfl rfl rfl rfl rfl rfl rfl ?_ | refine gT rfl rfl rfl ?_ | refine gF rfl rfl rfl rfl ?_ | refine gU rfl rfl rfl ?_ | refine hs_text rfl ?_ | refine ho_text rfl ?_ | refine hs_draw rfl (by kernel_rfl) ?_ | refine ho_draw rfl (by kernel_rfl) ?_ | refine es_n ?_ | refine es_x ?_ | refine es_r ?_ | refine eb_n ?_ | refine eb_r ?_ | refine eb_s ?_ | refine eb_x rfl ?_ | refine el_x ?_ | refine el_r ?_ | refine ho_skip ?_ | refine ho_ret ?_ | refine ho_exit ?_ | refine ho_block ?_ | refine ho_label ?_ | refine ho_seq ?_)
      refine m2 rfl rfl rfl rfl rfl (sl_addr tyInts rfl tyInt rfl hi8) ?_
      refine rL rfl rfl rfl rfl (cell_load tyInt rfl hg (il_get zs i (by omega))) ?_
      refine aC rfl rfl rfl rfl ?_
      refine bad_spec ⟨nofun, ?_⟩
      repeat (first | refine hoM_nil ?_ | refine m1 rfl rfl rfl rfl rfl ?_ | refine m2 rfl rfl rfl rfl rfl rfl ?_ | refine rL rfl rfl rfl rfl rfl ?_ | refine cB rfl rfl rfl rfl rfl ?_ | refine cA rfl rfl rfl rfl rfl ?_ | refine mB rfl rfl rfl rfl rfl ?_ | refine mL rfl rfl rfl rfl rfl ?_ | refine m3 rfl rfl rfl rfl rfl rfl rfl ?_ | refine aS rfl rfl rfl rfl rfl nofun ?_ | refine mS rfl rfl rfl rfl rfl rfl rfl rfl ?_ | refine gT rfl rfl rfl ?_ | refine gF rfl rfl rfl rfl ?_ | refine gU rfl rfl rfl ?_ | refine hs_text rfl ?_ | refine ho_text rfl ?_ | refine hs_draw rfl (by kernel_rfl) ?_ | refine ho_draw rfl (by kernel_rfl) ?_ | refine es_n ?_ | refine es_x ?_ | refine es_r ?_ | refine eb_n ?_ | refine eb_r ?_ | refine eb_s ?_ | refine eb_x rfl ?_ | refine el_x ?_ | refine el_r ?_ | refine ho_skip ?_ | refine ho_ret ?_ | refine ho_exit ?_ | refine ho_block ?_ | refine ho_label ?_ | refine ho_seq ?_)
      refine ho_if rfl (fun e2 => ?_) (fun e2 => ?_)
      · repeat (first | refine hoM_nil ?_ | refine m1 rfl rfl rfl rfl rfl ?_ | refine m2 rfl rfl rfl rfl rfl rfl ?_ | refine rL rfl rfl rfl rfl rfl ?_ | refine cB rfl rfl rfl rfl rfl ?_ | refine cA rfl rfl rfl rfl rfl ?_ | refine mB rfl rfl rfl rfl rfl ?_ | refine mL rfl rfl rfl rfl rfl ?_ | refine m3 rfl rfl rfl rfl rfl rfl rfl ?_ | refine aS rfl rfl rfl rfl rfl nofun ?_ | refine mS rfl rfl rfl rfl rfl rfl rfl rfl ?_ | refine gT rfl rfl rfl ?_ | refine gF rfl rfl rfl rfl ?_ | refine gU rfl rfl rfl ?_ | refine hs_text rfl ?_ | refine ho_text rfl ?_ | refine hs_draw rfl (by kernel_rfl) ?_ | refine ho_draw rfl (by kernel_rfl) ?_ | refine es_n ?_ | refine es_x ?_ | refine es_r ?_ | refine eb_n ?_ | refine eb_r ?_ | refine eb_s ?_ | refine eb_x rfl ?_ | refine el_x ?_ | refine el_r ?_ | refine ho_skip ?_ | refine ho_ret ?_ | refine ho_exit ?_ | refine ho_block ?_ | refine ho_label ?_ | refine ho_seq ?_)
        refine ⟨_, rfl, ?_⟩
        have hz : zs.drop i = zs[i] :: zs.drop (i + 1) := List.drop_eq_getElem_cons (by omega)
        have e3 : firstBad zs 0 = i := by
          rw [firstBad_at zs 0 i hall (by omega), hz, Nat.zero_add]
          show (bif okN zs[i] then _ else _) = _
          have : okN zs[i] = false := by simpa using e2
          rw [this]; rfl
        rw [e3] at k; exact k
      · repeat (first | refine hoM_nil ?_ | refine m1 rfl rfl rfl rfl rfl ?_ | refine m2 rfl rfl rfl rfl rfl rfl ?_ | refine rL rfl rfl rfl rfl rfl ?_ | refine cB rfl rfl rfl rfl rfl ?_ | refine cA rfl rfl rfl rfl rfl ?_ | refine mB rfl rfl rfl rfl rfl ?_ | refine mL rfl rfl rfl rfl rfl ?_ | refine m3 rfl rfl rfl rfl rfl rfl rfl ?_ | refine aS rfl rfl rfl rfl rfl nofun ?_ | refine mS rfl rfl rfl rfl rfl rfl rfl rfl ?_ | refine gT rfl rfl rfl ?_ | refine gF rfl rfl rfl rfl ?_ | refine gU rfl rfl rfl ?_ | refine hs_text rfl ?_ | refine ho_text rfl ?_ | refine hs_draw rfl (by kernel_rfl) ?_ | refine ho_draw rfl (by kernel_rfl) ?_ | refine es_n ?_ | refine es_x ?_ | refine es_r ?_ | refine eb_n ?_ | refine eb_r ?_ | refine eb_s ?_ | refine eb_x rfl ?_ | refine el_x ?_ | refine el_r ?_ | refine ho_skip ?_ | refine ho_ret ?_ | refine ho_exit ?_ | refine ho_block ?_ | refine ho_label ?_ | refine ho_seq ?_)
        rw [wrapF_i64 (n := (i : Int) + 1) (by omega) (by omega)]
        refine ⟨8 - (i + 1), by omega, i + 1, rfl, hi8, rfl, ⟨rfl, rfl, rfl, rfl, trivial⟩, fun j hj z hz => ?_⟩
        by_cases hji : j < i
        · exact hall j hji z hz
        · have : j = i := by omega
          subst this
          have hlt : j < zs.length := by omega
          rw [List.getElem?_eq_getElem hlt] at hz
          cases hz
          simpa using e2
    · have hi8 : i = 8 := by have := of_decide_eq_false e; omega
      repeat (first | refine hoM_nil ?_ | refine m1 rfl rfl rfl rfl rfl ?_ | refine m2 rfl rfl rfl rfl rfl rfl ?_ | refine rL rfl rfl rfl rfl rfl ?_ | refine cB rfl rfl rfl rfl rfl ?_ | refine cA rfl rfl rfl rfl rfl ?_ | refine mB rfl rfl rfl rfl rfl ?_ | refine mL rfl rfl rfl rfl rfl ?_ | refine m3 rfl rfl rfl rfl rfl rfl rfl ?_ | refine aS rfl rfl rfl rfl rfl nofun ?_ | refine mS rfl rfl rfl rfl rfl rfl rfl rfl ?_ | refine gT rfl rfl rfl ?_ | refine gF rfl rfl rfl rfl ?_ | refine gU rfl rfl rfl ?_ | refine hs_text rfl ?_ | refine ho_text rfl ?_ | refine hs_draw rfl (by kernel_rfl) ?_ | refine ho_draw rfl (by kernel_rfl) ?_ | refine es_n ?_ | refine es_x ?_ | refine es_r ?_ | refine eb_n ?_ | refine eb_r ?_ | refine eb_s ?_ | refine eb_x rfl ?_ | refine el_x ?_ | refine el_r ?_ | refine ho_skip ?_ | refine ho_ret ?_ | refine ho_exit ?_ | refine ho_block ?_ | refine ho_label ?_ | refine ho_seq ?_)
      refine ⟨_, rfl, ?_⟩
      subst hi8
      have e3 : firstBad zs 0 = -1 := by
        rw [firstBad_at zs 0 8 hall (by omega), List.drop_eq_nil_of_le (by omega)]; rfl
      rw [e3] at k; exact k
theorem contains_spec {id : Nat} {h : AHeap} {zs : List Int} {e : TypeId} (hg : h.get id = some (.cells (il zs) e)) (hl : zs.length = 8) {K : AV → AHeap → Prop} (k : K (.bool (!zs.all okN)) h) : wpCall cfg0 164 [.sl id 0 8 (.known 8), .func 165 [] []] h K := by
  refine call_body (fn := mkFn Tryz.f164 true) rfl (by kernel_rfl) rfl rfl ?_
  repeat (first | refine hoM_nil ?_ | refine m1 rfl rfl rfl rfl rfl ?_ | refine m2 rfl rfl rfl rfl rfl rfl ?_ | refine rL rfl rfl rfl rfl rfl ?_ | refine cB rfl rfl rfl rfl rfl ?_ | refine cA rfl rfl rfl rfl rfl ?_ | refine mB rfl rfl rfl rfl rfl ?_ | refine mL rfl rfl rfl rfl rfl ?_ | refine m3 rfl rfl rfl rfl rfl rfl rfl ?_ | refine aS rfl rfl rfl rfl rfl nofun ?_ | refine mS rfl rfl rfl rfl rfl rfl rfl rfl ?_ | refine gT rfl rfl rfl ?_ | refine gF rfl rfl rfl rfl ?_ | refine gU rfl rfl rfl ?_ | refine hs_text rfl ?_ | refine ho_text rfl ?_ | refine hs_draw rfl (by kernel_rfl) ?_ | refine ho_draw rfl (by kernel_rfl) ?_ | refine es_n ?_ | refine es_x ?_ | refine es_r ?_ | refine eb_n ?_ | refine eb_r ?_ | refine eb_s ?_ | refine eb_x rfl ?_ | refine el_x ?_ | refine el_r ?_ | refine ho_skip ?_ | refine ho_ret ?_ | refine ho_exit ?_ | refine ho_block ?_ | refine ho_label ?_ | refine ho_seq ?_)
  refine aF rfl rfl rfl ?_
  refine index_spec hg hl ⟨nofun, ?_⟩
  repeat (first | refine hoM_nil ?_ | refine m1 rfl rfl rfl rfl rfl ?_ | refine m2 rfl rfl rfl rfl rfl rfl ?_ | refine rL rfl rfl rfl rfl rfl ?_ | refine cB rfl rfl rfl rfl rfl ?_ | refine cA rfl rfl rfl rfl rfl ?_ | refine mB rfl rfl rfl rfl rfl ?_ | refine mL rfl rfl rfl rfl rfl ?_ | refine m3 rfl rfl rfl rfl rfl rfl rfl ?_ | refine aS rfl rfl rfl rfl rfl nofun ?_ | refine mS rfl rfl rfl rfl rfl rfl rfl rfl ?_ | refine gT rfl rfl rfl ?_ | refine gF rfl rfl rfl rfl ?_ | refine gU rfl rfl rfl ?_ | refine hs_text rfl ?_ | refine ho_text rfl ?_ | refine hs_draw rfl (by kernel_rfl) ?_ | refine ho_draw rfl (by kernel_rfl) ?_ | refine es_n ?_ | refine es_x ?_ | refine es_r ?_ | refine eb_n ?_ | refine eb_r ?_ | refine eb_s ?_ | refine eb_x rfl ?_ | refine el_x ?_ | refine el_r ?_ | refine ho_skip ?_ | refine ho_ret ?_ | refine ho_exit ?_ | refine ho_block ?_ | refine ho_label ?_ | refine ho_seq ?_)
  refine ⟨_, rfl, ?_⟩
  rw [← firstBad_neg zs 0] at k
  exact k
/-- Eight numbers. -/
def v8 (zs : List Int) : AV := .agg (il zs)
theorem v8_hf (zs : List Int) : (v8 zs).hf = true := il_hf zs
theorem box_v8 {zs : List Int} (hl : zs.length = 8) : aboxed cfg0 24 (v8 zs) = some (.cells (il zs) 24, fun id => .ptr id 0) := by
  unfold aboxed
  rw [tyV]
  have h1 : (Nat.beq (v8 zs).cells.length 8 && (v8 zs).cells.all AV.one) = true := by
    show (Nat.beq (il zs).length 8 && (il zs).all AV.one) = true
    rw [il_len, hl, il_one]; rfl
  simp only [h1, cond_true]
  rfl
theorem load_v8 {zs : List Int} (hl : zs.length = 8) {h : AHeap} {id : Nat} {e : TypeId} (hg : h.get id = some (.cells (il zs) e)) : aload cfg0 24 (.ptr id 0) h = some (v8 zs) := by
  have h1 : aload cfg0 24 (.ptr id 0) h = match h.get id with | some (.cells cs _) => apart cfg0 24 cs 0 | _ => none := rfl
  rw [h1, hg]
  unfold apart
  rw [tyV]
  simp only [isAggK, cond_true, List.drop_zero]
  have h2 : (il zs).take 8 = il zs := List.take_of_length_le (by rw [il_len]; omega)
  rw [h2, il_len, hl]
  rfl
theorem good_spec {zs : List Int} (hl : zs.length = 8) {h : AHeap} {K : AV → AHeap → Prop} (k : K (.bool (zs.all okN)) h) : wpCall cfg0 117 [v8 zs] h K := by
  refine call_pure (fn := mkFn Tryz.f117 true) rfl (by kernel_rfl) rfl (by simp [hfL, v8_hf]) rfl ?_
  refine hs_text rfl ?_
  refine cB rfl rfl rfl rfl (box_v8 hl) ?_
  repeat (first | refine hoM_nil ?_ | refine m1 rfl rfl rfl rfl rfl ?_ | refine m2 rfl rfl rfl rfl rfl rfl ?_ | refine rL rfl rfl rfl rfl rfl ?_ | refine cB rfl rfl rfl rfl rfl ?_ | refine cA rfl rfl rfl rfl rfl ?_ | refine mB rfl rfl rfl rfl rfl ?_ | refine mL rfl rfl rfl rfl rfl ?_ | refine m3 rfl rfl rfl rfl rfl rfl rfl ?_ | refine aS rfl rfl rfl rfl rfl nofun ?_ | refine mS rfl rfl rfl rfl rfl rfl rfl rfl ?_ | refine gT rfl rfl rfl ?_ | refine gF rfl rfl rfl rfl ?_ | refine gU rfl rfl rfl ?_ | refine hs_text rfl ?_ | refine ho_text rfl ?_ | refine hs_draw rfl (by kernel_rfl) ?_ | refine ho_draw rfl (by kernel_rfl) ?_ | refine es_n ?_ | refine es_x ?_ | refine es_r ?_ | refine eb_n ?_ | refine eb_r ?_ | refine eb_s ?_ | refine eb_x rfl ?_ | refine el_x ?_ | refine el_r ?_ | refine ho_skip ?_ | refine ho_ret ?_ | refine ho_exit ?_ | refine ho_block ?_ | refine ho_label ?_ | refine ho_seq ?_)
  refine aF rfl rfl rfl ?_
  refine contains_spec rfl hl ⟨nofun, ?_⟩
  repeat (first | refine hoM_nil ?_ | refine m1 rfl rfl rfl rfl rfl ?_ | refine m2 rfl rfl rfl rfl rfl rfl ?_ | refine rL rfl rfl rfl rfl rfl ?_ | refine cB rfl rfl rfl rfl rfl ?_ | refine cA rfl rfl rfl rfl rfl ?_ | refine mB rfl rfl rfl rfl rfl ?_ | refine mL rfl rfl rfl rfl rfl ?_ | refine m3 rfl rfl rfl rfl rfl rfl rfl ?_ | refine aS rfl rfl rfl rfl rfl nofun ?_ | refine mS rfl rfl rfl rfl rfl rfl rfl rfl ?_ | refine gT rfl rfl rfl ?_ | refine gF rfl rfl rfl rfl ?_ | refine gU rfl rfl rfl ?_ | refine hs_text rfl ?_ | refine ho_text rfl ?_ | refine hs_draw rfl (by kernel_rfl) ?_ | refine ho_draw rfl (by kernel_rfl) ?_ | refine es_n ?_ | refine es_x ?_ | refine es_r ?_ | refine eb_n ?_ | refine eb_r ?_ | refine eb_s ?_ | refine eb_x rfl ?_ | refine el_x ?_ | refine el_r ?_ | refine ho_skip ?_ | refine ho_ret ?_ | refine ho_exit ?_ | refine ho_block ?_ | refine ho_label ?_ | refine ho_seq ?_)
  refine ⟨_, rfl, _, rfl, ?_⟩
  rw [Bool.not_not]
  exact k
theorem v8_index {zs : List Int} (hl : zs.length = 8) {i : Nat} (hi : i < 8) {k : IntKind} : aindex cfg0 24 (v8 zs) (.int k i) = some (.int .i64 (zs[i]'(by omega))) := by
  unfold aindex
  rw [tyV]
  simp only [v8, tyInt]
  have h1 : (decide ((0 : Int) ≤ (i : Int)) && decide ((i : Int) < ((8 : Nat) : Int))) = true := by simp only [Bool.and_eq_true, decide_eq_true_eq]; omega
  rw [h1]
  unfold apart
  rw [tyInt]
  simp only [isAggK, cond_false, cond_true, Int.toNat_natCast, Nat.mul_one]
  exact il_get zs i (by omega)
theorem v8_addr {i : Nat} (hi : i < 8) {k : IntKind} {id : Nat} : aindexAddr cfg0 24 (.ptr id 0) (.int k i) = some (.ptr id i) := by
  unfold aindexAddr
  rw [tyV]
  simp only [tyInt]
  have h1 : (decide ((0 : Int) ≤ (i : Int)) && decide ((i : Int) < ((8 : Nat) : Int))) = true := by simp only [Bool.and_eq_true, decide_eq_true_eq]; omega
  rw [h1]
  simp only [cond_true, Int.toNat_natCast, Nat.mul_one, Nat.zero_add]
theorem il_set (ys : List Int) (n : Nat) (z : Int) : il (ys.set n z) = (il ys).set n (.int .i64 z) := by simp [il, List.map_set]
theorem int_store {ys : List Int} {n : Nat} (hn : n < ys.length) {z : Int} {t : HT AObj} {m id : Nat} {e : TypeId} (hg : AHeap.get ⟨t, m⟩ id = some (.cells (il ys) e)) : astore cfg0 3 (.ptr id n) (.int .i64 z) ⟨t, m⟩ = some ⟨HT.set (id + 1) t id (some (.cells (il (ys.set n z)) e)), m⟩ := by
  unfold astore
  rw [tyInt]
  simp only [hg]
  have h1 : (Nat.beq (AV.int .i64 z).cells.length 1 && (AV.int .i64 z).cells.all AV.one && Nat.ble (n + (AV.int .i64 z).cells.length) (il ys).length) = true := by
    show (true && true && Nat.ble (n + 1) (il ys).length) = true
    simp only [Bool.and_self, Bool.true_and, ble_true, il_len]; omega
  rw [h1]
  simp only [cond_true]
  rw [il_set, List.set_eq_take_append_cons_drop, if_pos (by rw [il_len]; exact hn)]
  show some (AHeap.put ⟨t, m⟩ id (.cells ((il ys).take n ++ [AV.int .i64 z] ++ (il ys).drop (n + 1)) e)) = _
  rw [List.append_assoc]; rfl
theorem v8_store {ws ys : List Int} (hw : ws.length = 8) (hy : ys.length = 8) {t : HT AObj} {m id : Nat} {e : TypeId} (hg : AHeap.get ⟨t, m⟩ id = some (.cells (il ws) e)) : astore cfg0 24 (.ptr id 0) (v8 ys) ⟨t, m⟩ = some ⟨HT.set (id + 1) t id (some (.cells (il ys) e)), m⟩ := by
  unfold astore
  rw [tyV]
  simp only [hg]
  have h1 : (Nat.beq (v8 ys).cells.length 8 && (v8 ys).cells.all AV.one && Nat.ble (0 + (v8 ys).cells.length) (il ws).length) = true := by
    show (Nat.beq (il ys).length 8 && (il ys).all AV.one && Nat.ble (0 + (il ys).length) (il ws).length) = true
    rw [il_len, il_len, hy, hw, il_one]; rfl
  rw [h1]
  simp only [cond_true]
  show some (AHeap.put ⟨t, m⟩ id (.cells ((il ws).take 0 ++ il ys ++ (il ws).drop (0 + (il ys).length)) e)) = _
  rw [List.take_zero, List.nil_append, List.drop_eq_nil_of_le (by rw [il_len, il_len]; omega), List.append_nil]; rfl
def negTo (zs : List Int) (i : Nat) : List Int := (zs.take i).map (fun z => z * -1) ++ zs.drop i
theorem negTo_len (zs : List Int) (i : Nat) : (negTo zs i).length = zs.length := by
  unfold negTo; simp; omega
theorem negTo_set {zs : List Int} {i : Nat} (hi : i < zs.length) : (negTo zs i).set i (zs[i] * -1) = negTo zs (i + 1) := by
  unfold negTo
  rw [List.take_succ_eq_append_getElem hi, List.map_append, List.drop_eq_getElem_cons hi, List.append_assoc]
  rw [List.set_append_right _ _ (by simp; omega)]
  congr 1
  simp only [List.length_map, List.length_take]
  rw [show i - min i zs.length = 0 by omega]
  rfl
theorem negTo_zero {zs : List Int} {i : Nat} (hi : i < zs.length) (hz : zs[i] = 0) : negTo zs i = negTo zs (i + 1) := by
  have h := negTo_set hi
  rw [hz] at h
  have e : (negTo zs i)[i]? = some 0 := by
    unfold negTo
    rw [List.getElem?_append_right (by simp; omega)]
    simp only [List.length_map, List.length_take]
    rw [show i - min i zs.length = 0 by omega, List.getElem?_drop, Nat.add_zero, List.getElem?_eq_getElem hi, hz]
  rw [← h]
  apply List.ext_getElem?
  intro j
  rw [List.getElem?_set]
  by_cases hj : i = j
  · subst hj
    rw [if_pos rfl, if_pos (by rw [negTo_len]; exact hi), e]; rfl
  · rw [if_neg hj]
def zeros8 : List Int := [0, 0, 0, 0, 0, 0, 0, 0]
theorem okN_neg {z : Int} (h : okN z = true) : okN (z * -1) = true := by
  unfold okN at h ⊢
  simp only [Bool.and_eq_true, decide_eq_true_eq] at h ⊢
  omega
theorem okN_bound {z : Int} (h : okN z = true) : -100 ≤ z ∧ z ≤ 100 := by
  unfold okN at h
  simpa only [Bool.and_eq_true, decide_eq_true_eq] using h
theorem resE_v8 {cfg : Cfg} {L : Env} {h : AHeap} {a t u : Nat} {p v w : AV} (ha : L.get a = some p) (hv : aload cfg t p h = some v) (hu : L.get u = some w) : resE cfg L h [.cell a t, .tmp u] = some [v, w] := by
  unfold resE
  rw [ha]
  simp only [hv, resE, hu]
theorem resE_1 {cfg : Cfg} {L : Env} {h : AHeap} {a t : Nat} {p v : AV} (ha : L.get a = some p) (hv : aload cfg t p h = some v) : resE cfg L h [.cell a t] = some [v] := by
  unfold resE
  rw [ha]
  simp only [hv, resE]
theorem frzL_ints (f : AV → Option AV) (hf : ∀ n, f (.int .i64 n) = some (.int .i64 n)) : ∀ zs : List Int, frzL f (il zs) = some (il zs)
  | [] => rfl
  | z :: zs => by
    show frzL f (AV.int .i64 z :: il zs) = _
    unfold frzL
    rw [hf, frzL_ints f hf zs]
    rfl
theorem frz_1 (h : AHeap) (zs : List Int) : frz cfg0 h 8 (resultA [v8 zs]) = some (v8 zs) := by
  show (match frzL (frz cfg0 h 7) (il zs) with | some l => some (AV.agg l) | none => none) = _
  rw [frzL_ints (frz cfg0 h 7) (fun n => rfl)]; rfl
theorem frz_v8 (h : AHeap) (zs : List Int) {b : Bool} : frz cfg0 h 8 (resultA [v8 zs, .bool b]) = some (.tuple [v8 zs, .bool b]) := by
  show (match frzL (frz cfg0 h 7) [v8 zs, .bool b] with | some l => some (AV.tuple l) | none => none) = _
  have h1 : frz cfg0 h 7 (v8 zs) = some (v8 zs) := by
    show (match frzL (frz cfg0 h 6) (il zs) with | some l => some (AV.agg l) | none => none) = _
    rw [frzL_ints (frz cfg0 h 6) (fun n => rfl)]; rfl
  unfold frzL
  rw [h1]
  rfl
abbrev timesH (ys : List Int) : AHeap := ⟨HT.set 2 (HT.set 1 .nil 0 (some (.cells (il ys) 24))) 1 (some (.cells (il zeros8) 24)), 2⟩
theorem times_spec {zs : List Int} (hl : zs.length = 8) {h : AHeap} {K : AV → AHeap → Prop} (k : K (.tuple [v8 (if zs.all okN then zs.map (fun z => z * -1) else zeros8), .bool (zs.all okN)]) h) : wpCall cfg0 72 [v8 zs, .int .i64 (-1)] h K := by
  refine call_pure (fn := mkFn Tryz.f72 true) rfl (by kernel_rfl) rfl (by simp [hfL, v8_hf, AV.hf]) rfl ?_
  refine hs_text rfl ?_
  refine cB rfl rfl rfl rfl (box_v8 hl) ?_
  repeat (first | refine hoM_nil ?_ | refine m1 rfl rfl rfl rfl rfl ?_ | refine m2 rfl rfl rfl rfl rfl rfl ?_ | refine rL rfl rfl rfl rfl rfl ?_ | refine cB rfl rfl rfl rfl rfl ?_ | refine cA rfl rfl rfl rfl rfl ?_ | refine mB rfl rfl rfl rfl rfl ?_ | refine mL rfl rfl rfl rfl rfl ?_ | refine m3 rfl rfl rfl rfl rfl rfl rfl ?_ | refine aS rfl rfl rfl rfl rfl nofun ?_ | refine mS rfl rfl rfl rfl rfl rfl rfl rfl ?_ | refine gT rfl rfl rfl ?_ | refine gF rfl rfl rfl rfl ?_ | refine gU rfl rfl rfl ?_ | refine hs_text rfl ?_ | refine ho_text rfl ?_ | refine hs_draw rfl (by kernel_rfl) ?_ | refine ho_draw rfl (by kernel_rfl) ?_ | refine es_n ?_ | refine es_x ?_ | refine es_r ?_ | refine eb_n ?_ | refine eb_r ?_ | refine eb_s ?_ | refine eb_x rfl ?_ | refine el_x ?_ | refine el_r ?_ | refine ho_skip ?_ | refine ho_ret ?_ | refine ho_exit ?_ | refine ho_block ?_ | refine ho_label ?_ | refine ho_seq ?_)
  refine rL rfl rfl rfl rfl (load_v8 hl rfl) ?_
  refine aF rfl rfl rfl ?_
  refine good_spec hl ⟨nofun, ?_⟩
  repeat (first | refine hoM_nil ?_ | refine m1 rfl rfl rfl rfl rfl ?_ | refine m2 rfl rfl rfl rfl rfl rfl ?_ | refine rL rfl rfl rfl rfl rfl ?_ | refine cB rfl rfl rfl rfl rfl ?_ | refine cA rfl rfl rfl rfl rfl ?_ | refine mB rfl rfl rfl rfl rfl ?_ | refine mL rfl rfl rfl rfl rfl ?_ | refine m3 rfl rfl rfl rfl rfl rfl rfl ?_ | refine aS rfl rfl rfl rfl rfl nofun ?_ | refine mS rfl rfl rfl rfl rfl rfl rfl rfl ?_ | refine gT rfl rfl rfl ?_ | refine gF rfl rfl rfl rfl ?_ | refine gU rfl rfl rfl ?_ | refine hs_text rfl ?_ | refine ho_text rfl ?_ | refine hs_draw rfl (by kernel_rfl) ?_ | refine ho_draw rfl (by kernel_rfl) ?_ | refine es_n ?_ | refine es_x ?_ | refine es_r ?_ | refine eb_n ?_ | refine eb_r ?_ | refine eb_s ?_ | refine eb_x rfl ?_ | refine el_x ?_ | refine el_r ?_ | refine ho_skip ?_ | refine ho_ret ?_ | refine ho_exit ?_ | refine ho_block ?_ | refine ho_label ?_ | refine ho_seq ?_)
  refine ho_if rfl (fun e => ?_) (fun e => ?_)
  · have ha : zs.all okN = false := by simpa using e
    rw [ha] at k
    repeat (first | refine hoM_nil ?_ | refine m1 rfl rfl rfl rfl rfl ?_ | refine m2 rfl rfl rfl rfl rfl rfl ?_ | refine rL rfl rfl rfl rfl rfl ?_ | refine cB rfl rfl rfl rfl rfl ?_ | refine cA rfl rfl rfl rfl rfl ?_ | refine mB rfl rfl rfl rfl rfl ?_ | refine mL rfl rfl rfl rfl rfl ?_ | refine m3 rfl rfl rfl rfl rfl rfl rfl ?_ | refine aS rfl rfl rfl rfl rfl nofun ?_ | refine mS rfl rfl rfl rfl rfl rfl rfl rfl ?_ | refine gT rfl rfl rfl ?_ | refine gF rfl rfl rfl rfl ?_ | refine gU rfl rfl rfl ?_ | refine hs_text rfl ?_ | refine ho_text rfl ?_ | refine hs_draw rfl (by kernel_rfl) ?_ | refine ho_draw rfl (by kernel_rfl) ?_ | refine es_n ?_ | refine es_x ?_ | refine es_r ?_ | refine eb_n ?_ | refine eb_r ?_ | refine eb_s ?_ | refine eb_x rfl ?_ | refine el_x ?_ | refine el_r ?_ | refine ho_skip ?_ | refine ho_ret ?_ | refine ho_exit ?_ | refine ho_block ?_ | refine ho_label ?_ | refine ho_seq ?_)
    exact ⟨_, rfl, _, rfl, k⟩
  · have ha : zs.all okN = true := by simpa using e
    rw [ha] at k
    have hall : ∀ z ∈ zs, okN z = true := List.all_eq_true.1 ha
    repeat (first | refine hoM_nil ?_ | refine m1 rfl rfl rfl rfl rfl ?_ | refine m2 rfl rfl rfl rfl rfl rfl ?_ | refine rL rfl rfl rfl rfl rfl ?_ | refine cB rfl rfl rfl rfl rfl ?_ | refine cA rfl rfl rfl rfl rfl ?_ | refine mB rfl rfl rfl rfl rfl ?_ | refine mL rfl rfl rfl rfl rfl ?_ | refine m3 rfl rfl rfl rfl rfl rfl rfl ?_ | refine aS rfl rfl rfl rfl rfl nofun ?_ | refine mS rfl rfl rfl rfl rfl rfl rfl rfl ?_ | refine gT rfl rfl rfl ?_ | refine gF rfl rfl rfl rfl ?_ | refine gU rfl rfl rfl ?_ | refine hs_text rfl ?_ | refine ho_text rfl ?_ | refine hs_draw rfl (by kernel_rfl) ?_ | refine ho_draw rfl (by kernel_rfl) ?_ | refine es_n ?_ | refine es_x ?_ | refine es_r ?_ | refine eb_n ?_ | refine eb_r ?_ | refine eb_s ?_ | refine eb_x rfl ?_ | refine el_x ?_ | refine el_r ?_ | refine ho_skip ?_ | refine ho_ret ?_ | refine ho_exit ?_ | refine ho_block ?_ | refine ho_label ?_ | refine ho_seq ?_)
    refine rL rfl rfl rfl rfl (load_v8 hl rfl) ?_
    repeat (first | refine hoM_nil ?_ | refine m1 rfl rfl rfl rfl rfl ?_ | refine m2 rfl rfl rfl rfl rfl rfl ?_ | refine rL rfl rfl rfl rfl rfl ?_ | refine cB rfl rfl rfl rfl rfl ?_ | refine cA rfl rfl rfl rfl rfl ?_ | refine mB rfl rfl rfl rfl rfl ?_ | refine mL rfl rfl rfl rfl rfl ?_ | refine m3 rfl rfl rfl rfl rfl rfl rfl ?_ | refine aS rfl rfl rfl rfl rfl nofun ?_ | refine mS rfl rfl rfl rfl rfl rfl rfl rfl ?_ | refine gT rfl rfl rfl ?_ | refine gF rfl rfl rfl rfl ?_ | refine gU rfl rfl rfl ?_ | refine hs_text rfl ?_ | refine ho_text rfl ?_ | refine hs_draw rfl (by kernel_rfl) ?_ | refine ho_draw rfl (by kernel_rfl) ?_ | refine es_n ?_ | refine es_x ?_ | refine es_r ?_ | refine eb_n ?_ | refine eb_r ?_ | refine eb_s ?_ | refine eb_x rfl ?_ | refine el_x ?_ | refine el_r ?_ | refine ho_skip ?_ | refine ho_ret ?_ | refine ho_exit ?_ | refine ho_block ?_ | refine ho_label ?_ | refine ho_seq ?_)
    refine ho_loop (fun m L h1 => ∃ i : Nat, m = 8 - i ∧ i ≤ 8 ∧ h1 = timesH (negTo zs i) ∧ Env.Sub [(1, .int .i64 (-1)), (2, .ptr 0 0), (4, .ptr 1 0), (12, v8 zs), (13, .int .i64 i)] L) 8 ?_ ?_
    · exact ⟨0, rfl, Nat.zero_le _, rfl, ⟨rfl, rfl, rfl, rfl, rfl, trivial⟩⟩
    · rintro m L h1 ⟨i, rfl, hi, rfl, hs⟩
      refine ho_sub hs ?_
      repeat (first | refine hoM_nil ?_ | refine m1 rfl rfl rfl rfl rfl ?_ | refine m2 rfl rfl rfl rfl rfl rfl ?_ | refine rL rfl rfl rfl rfl rfl ?_ | refine cB rfl rfl rfl rfl rfl ?_ | refine cA rfl rfl rfl rfl rfl ?_ | refine mB rfl rfl rfl rfl rfl ?_ | refine mL rfl rfl rfl rfl rfl ?_ | refine m3 rfl rfl rfl rfl rfl rfl rfl ?_ | refine aS rfl rfl rfl rfl rfl nofun ?_ | refine mS rfl rfl rfl rfl rfl rfl rfl rfl ?_ | refine gT rfl rfl rfl ?_ | refine gF rfl rfl rfl rfl ?_ | refine gU rfl rfl rfl ?_ | refine hs_text rfl ?_ | refine ho_text rfl ?_ | refine hs_draw rfl (by kernel_rfl) ?_ | refine ho_draw rfl (by kernel_rfl) ?_ | refine es_n ?_ | refine es_x ?_ | refine es_r ?_ | refine eb_n ?_ | refine eb_r ?_ | refine eb_s ?_ | refine eb_x rfl ?_ | refine el_x ?_ | refine el_r ?_ | refine ho_skip ?_ | refine ho_ret ?_ | refine ho_exit ?_ | refine ho_block ?_ | refine ho_label ?_ | refine ho_seq ?_)
      refine ho_if rfl (fun e => ?_) (fun e => ?_)
      · have hi8 : i < 8 := by have := of_decide_eq_true e; omega
        have hil : i < zs.length := by omega
        have hok := hall zs[i] (List.getElem_mem hil)
        have hb := okN_bound hok
        repeat (first | refine hoM_nil ?_ | refine m1 rfl rfl rfl rfl rfl ?_ | refine m2 rfl rfl rfl rfl rfl rfl ?_ | refine rL rfl rfl rfl rfl rfl ?_ | refine cB rfl rfl rfl rfl rfl ?_ | refine cA rfl rfl rfl rfl rfl ?_ | refine mB rfl rfl rfl rfl rfl ?_ | refine mL rfl rfl rfl rfl rfl ?_ | refine m3 rfl rfl rfl rfl rfl rfl rfl ?_ | refine aS rfl rfl rfl rfl rfl nofun ?_ | refine mS rfl rfl rfl rfl rfl rfl rfl rfl ?_ | refine gT rfl rfl rfl ?_ | refine gF rfl rfl rfl rfl ?_ | refine gU rfl rfl rfl ?_ | refine hs_text rfl ?_ | refine ho_text rfl ?_ | refine hs_draw rfl (by kernel_rfl) ?_ | refine ho_draw rfl (by kernel_rfl) ?_ | refine es_n ?_ | refine es_x ?_ | refine es_r ?_ | refine eb_n ?_ | refine eb_r ?_ | refine eb_s ?_ | refine eb_x rfl ?_ | refine el_x ?_ | refine el_r ?_ | refine ho_skip ?_ | refine ho_ret ?_ | refine ho_exit ?_ | refine ho_block ?_ | refine ho_label ?_ | refine ho_seq ?_)
        refine m2 rfl rfl rfl rfl rfl (v8_index hl hi8) ?_
        repeat (first | refine hoM_nil ?_ | refine m1 rfl rfl rfl rfl rfl ?_ | refine m2 rfl rfl rfl rfl rfl rfl ?_ | refine rL rfl rfl rfl rfl rfl ?_ | refine cB rfl rfl rfl rfl rfl ?_ | refine cA rfl rfl rfl rfl rfl ?_ | refine mB rfl rfl rfl rfl rfl ?_ | refine mL rfl rfl rfl rfl rfl ?_ | refine m3 rfl rfl rfl rfl rfl rfl rfl ?_ | refine aS rfl rfl rfl rfl rfl nofun ?_ | refine mS rfl rfl rfl rfl rfl rfl rfl rfl ?_ | refine gT rfl rfl rfl ?_ | refine gF rfl rfl rfl rfl ?_ | refine gU rfl rfl rfl ?_ | refine hs_text rfl ?_ | refine ho_text rfl ?_ | refine hs_draw rfl (by kernel_rfl) ?_ | refine ho_draw rfl (by kernel_rfl) ?_ | refine es_n ?_ | refine es_x ?_ | refine es_r ?_ | refine eb_n ?_ | refine eb_r ?_ | refine eb_s ?_ | refine eb_x rfl ?_ | refine el_x ?_ | refine el_r ?_ | refine ho_skip ?_ | refine ho_ret ?_ | refine ho_exit ?_ | refine ho_block ?_ | refine ho_label ?_ | refine ho_seq ?_)
        refine ho_if rfl (fun e2 => ?_) (fun e2 => ?_)
        · have hz : zs[i] = 0 := of_decide_eq_true e2
          repeat (first | refine hoM_nil ?_ | refine m1 rfl rfl rfl rfl rfl ?_ | refine m2 rfl rfl rfl rfl rfl rfl ?_ | refine rL rfl rfl rfl rfl rfl ?_ | refine cB rfl rfl rfl rfl rfl ?_ | refine cA rfl rfl rfl rfl rfl ?_ | refine mB rfl rfl rfl rfl rfl ?_ | refine mL rfl rfl rfl rfl rfl ?_ | refine m3 rfl rfl rfl rfl rfl rfl rfl ?_ | refine aS rfl rfl rfl rfl rfl nofun ?_ | refine mS rfl rfl rfl rfl rfl rfl rfl rfl ?_ | refine gT rfl rfl rfl ?_ | refine gF rfl rfl rfl rfl ?_ | refine gU rfl rfl rfl ?_ | refine hs_text rfl ?_ | refine ho_text rfl ?_ | refine hs_draw rfl (by kernel_rfl) ?_ | refine ho_draw rfl (by kernel_rfl) ?_ | refine es_n ?_ | refine es_x ?_ | refine es_r ?_ | refine eb_n ?_ | refine eb_r ?_ | refine eb_s ?_ | refine eb_x rfl ?_ | refine el_x ?_ | refine el_r ?_ | refine ho_skip ?_ | refine ho_ret ?_ | refine ho_exit ?_ | refine ho_block ?_ | refine ho_label ?_ | refine ho_seq ?_)
          rw [wrapF_i64 (n := (i : Int) + 1) (by omega) (by omega)]
          exact ⟨8 - (i + 1), by omega, i + 1, rfl, hi8, by rw [negTo_zero hil hz], ⟨rfl, rfl, rfl, rfl, rfl, trivial⟩⟩
        · repeat (first | refine hoM_nil ?_ | refine m1 rfl rfl rfl rfl rfl ?_ | refine m2 rfl rfl rfl rfl rfl rfl ?_ | refine rL rfl rfl rfl rfl rfl ?_ | refine cB rfl rfl rfl rfl rfl ?_ | refine cA rfl rfl rfl rfl rfl ?_ | refine mB rfl rfl rfl rfl rfl ?_ | refine mL rfl rfl rfl rfl rfl ?_ | refine m3 rfl rfl rfl rfl rfl rfl rfl ?_ | refine aS rfl rfl rfl rfl rfl nofun ?_ | refine mS rfl rfl rfl rfl rfl rfl rfl rfl ?_ | refine gT rfl rfl rfl ?_ | refine gF rfl rfl rfl rfl ?_ | refine gU rfl rfl rfl ?_ | refine hs_text rfl ?_ | refine ho_text rfl ?_ | refine hs_draw rfl (by kernel_rfl) ?_ | refine ho_draw rfl (by kernel_rfl) ?_ | refine es_n ?_ | refine es_x ?_ | refine es_r ?_ | refine eb_n ?_ | refine eb_r ?_ | refine eb_s ?_ | refine eb_x rfl ?_ | refine el_x ?_ | refine el_r ?_ | refine ho_skip ?_ | refine ho_ret ?_ | refine ho_exit ?_ | refine ho_block ?_ | refine ho_label ?_ | refine ho_seq ?_)
          refine aF rfl rfl rfl ?_
          refine in_spec ⟨nofun, ?_⟩
          repeat (first | refine hoM_nil ?_ | refine m1 rfl rfl rfl rfl rfl ?_ | refine m2 rfl rfl rfl rfl rfl rfl ?_ | refine rL rfl rfl rfl rfl rfl ?_ | refine cB rfl rfl rfl rfl rfl ?_ | refine cA rfl rfl rfl rfl rfl ?_ | refine mB rfl rfl rfl rfl rfl ?_ | refine mL rfl rfl rfl rfl rfl ?_ | refine m3 rfl rfl rfl rfl rfl rfl rfl ?_ | refine aS rfl rfl rfl rfl rfl nofun ?_ | refine mS rfl rfl rfl rfl rfl rfl rfl rfl ?_ | refine gT rfl rfl rfl ?_ | refine gF rfl rfl rfl rfl ?_ | refine gU rfl rfl rfl ?_ | refine hs_text rfl ?_ | refine ho_text rfl ?_ | refine hs_draw rfl (by kernel_rfl) ?_ | refine ho_draw rfl (by kernel_rfl) ?_ | refine es_n ?_ | refine es_x ?_ | refine es_r ?_ | refine eb_n ?_ | refine eb_r ?_ | refine eb_s ?_ | refine eb_x rfl ?_ | refine el_x ?_ | refine el_r ?_ | refine ho_skip ?_ | refine ho_ret ?_ | refine ho_exit ?_ | refine ho_block ?_ | refine ho_label ?_ | refine ho_seq ?_)
          rw [wrapF_i64 (n := zs[i] * -1) (by omega) (by omega)]
          refine aF rfl rfl rfl ?_
          refine in_spec ⟨nofun, ?_⟩
          rw [okN_neg hok]
          repeat (first | refine hoM_nil ?_ | refine m1 rfl rfl rfl rfl rfl ?_ | refine m2 rfl rfl rfl rfl rfl rfl ?_ | refine rL rfl rfl rfl rfl rfl ?_ | refine cB rfl rfl rfl rfl rfl ?_ | refine cA rfl rfl rfl rfl rfl ?_ | refine mB rfl rfl rfl rfl rfl ?_ | refine mL rfl rfl rfl rfl rfl ?_ | refine m3 rfl rfl rfl rfl rfl rfl rfl ?_ | refine aS rfl rfl rfl rfl rfl nofun ?_ | refine mS rfl rfl rfl rfl rfl rfl rfl rfl ?_ | refine gT rfl rfl rfl ?_ | refine gF rfl rfl rfl rfl ?_ | refine gU rfl rfl rfl ?_ | refine hs_text rfl ?_ | refine ho_text rfl ?_ | refine hs_draw rfl (by kernel_rfl) ?_ | refine ho_draw rfl (by kernel_rfl) ?_ | refine es_n ?_ | refine es_x ?_ | refine es_r ?_ | refine eb_n ?_ | refine eb_r ?_ | refine eb_s ?_ | refine eb_x rfl ?_ | refine el_x ?_ | refine el_r ?_ | refine ho_skip ?_ | refine ho_ret ?_ | refine ho_exit ?_ | refine ho_block ?_ | refine ho_label ?_ | refine ho_seq ?_)
          refine ho_if rfl (fun e3 => by cases e3) (fun _ => ?_)
          repeat (first | refine hoM_nil ?_ | refine m1 rfl rfl rfl rfl rfl ?_ | refine m2 rfl rfl rfl rfl rfl rfl ?_ | refine rL rfl rfl rfl rfl rfl ?_ | refine cB rfl rfl rfl rfl rfl ?_ | refine cA rfl rfl rfl rfl rfl ?_ | refine mB rfl rfl rfl rfl rfl ?_ | refine mL rfl rfl rfl rfl rfl ?_ | refine m3 rfl rfl rfl rfl rfl rfl rfl ?_ | refine aS rfl rfl rfl rfl rfl nofun ?_ | refine mS rfl rfl rfl rfl rfl rfl rfl rfl ?_ | refine gT rfl rfl rfl ?_ | refine gF rfl rfl rfl rfl ?_ | refine gU rfl rfl rfl ?_ | refine hs_text rfl ?_ | refine ho_text rfl ?_ | refine hs_draw rfl (by kernel_rfl) ?_ | refine ho_draw rfl (by kernel_rfl) ?_ | refine es_n ?_ | refine es_x ?_ | refine es_r ?_ | refine eb_n ?_ | refine eb_r ?_ | refine eb_s ?_ | refine eb_x rfl ?_ | refine el_x ?_ | refine el_r ?_ | refine ho_skip ?_ | refine ho_ret ?_ | refine ho_exit ?_ | refine ho_block ?_ | refine ho_label ?_ | refine ho_seq ?_)
          rw [wrapF_i64 (n := zs[i] * -1) (by omega) (by omega)]
          refine m2 rfl rfl rfl rfl rfl (v8_addr hi8) ?_
          refine aS rfl rfl rfl rfl (int_store (ys := negTo zs i) (by rw [negTo_len]; exact hil) rfl) nofun ?_
          repeat (first | refine hoM_nil ?_ | refine m1 rfl rfl rfl rfl rfl ?_ | refine m2 rfl rfl rfl rfl rfl rfl ?_ | refine rL rfl rfl rfl rfl rfl ?_ | refine cB rfl rfl rfl rfl rfl ?_ | refine cA rfl rfl rfl rfl rfl ?_ | refine mB rfl rfl rfl rfl rfl ?_ | refine mL rfl rfl rfl rfl rfl ?_ | refine m3 rfl rfl rfl rfl rfl rfl rfl ?_ | refine aS rfl rfl rfl rfl rfl nofun ?_ | refine mS rfl rfl rfl rfl rfl rfl rfl rfl ?_ | refine gT rfl rfl rfl ?_ | refine gF rfl rfl rfl rfl ?_ | refine gU rfl rfl rfl ?_ | refine hs_text rfl ?_ | refine ho_text rfl ?_ | refine hs_draw rfl (by kernel_rfl) ?_ | refine ho_draw rfl (by kernel_rfl) ?_ | refine es_n ?_ | refine es_x ?_ | refine es_r ?_ | refine eb_n ?_ | refine eb_r ?_ | refine eb_s ?_ | refine eb_x rfl ?_ | refine el_x ?_ | refine el_r ?_ | refine ho_skip ?_ | refine ho_ret ?_ | refine ho_exit ?_ | refine ho_block ?_ | refine ho_label ?_ | refine ho_seq ?_)
          rw [wrapF_i64 (n := (i : Int) + 1) (by omega) (by omega)]
          exact ⟨8 - (i + 1), by omega, i + 1, rfl, hi8, by rw [negTo_set hil]; rfl, ⟨rfl, rfl, rfl, rfl, rfl, trivial⟩⟩
      · have hi8 : i = 8 := by have := of_decide_eq_false e; omega
        subst hi8
        repeat (first | refine hoM_nil ?_ | refine m1 rfl rfl rfl rfl rfl ?_ | refine m2 rfl rfl rfl rfl rfl rfl ?_ | refine rL rfl rfl rfl rfl rfl ?_ | refine cB rfl rfl rfl rfl rfl ?_ | refine cA rfl rfl rfl rfl rfl ?_ | refine mB rfl rfl rfl rfl rfl ?_ | refine mL rfl rfl rfl rfl rfl ?_ | refine m3 rfl rfl rfl rfl rfl rfl rfl ?_ | refine aS rfl rfl rfl rfl rfl nofun ?_ | refine mS rfl rfl rfl rfl rfl rfl rfl rfl ?_ | refine gT rfl rfl rfl ?_ | refine gF rfl rfl rfl rfl ?_ | refine gU rfl rfl rfl ?_ | refine hs_text rfl ?_ | refine ho_text rfl ?_ | refine hs_draw rfl (by kernel_rfl) ?_ | refine ho_draw rfl (by kernel_rfl) ?_ | refine es_n ?_ | refine es_x ?_ | refine es_r ?_ | refine eb_n ?_ | refine eb_r ?_ | refine eb_s ?_ | refine eb_x rfl ?_ | refine el_x ?_ | refine el_r ?_ | refine ho_skip ?_ | refine ho_ret ?_ | refine ho_exit ?_ | refine ho_block ?_ | refine ho_label ?_ | refine ho_seq ?_)
        refine rL rfl rfl rfl rfl (load_v8 (by rw [negTo_len]; exact hl) rfl) ?_
        refine aS rfl rfl rfl rfl (v8_store (ws := zeros8) (ys := negTo zs 8) rfl (by rw [negTo_len]; exact hl) rfl) nofun ?_
        repeat (first | refine hoM_nil ?_ | refine m1 rfl rfl rfl rfl rfl ?_ | refine m2 rfl rfl rfl rfl rfl rfl ?_ | refine rL rfl rfl rfl rfl rfl ?_ | refine cB rfl rfl rfl rfl rfl ?_ | refine cA rfl rfl rfl rfl rfl ?_ | refine mB rfl rfl rfl rfl rfl ?_ | refine mL rfl rfl rfl rfl rfl ?_ | refine m3 rfl rfl rfl rfl rfl rfl rfl ?_ | refine aS rfl rfl rfl rfl rfl nofun ?_ | refine mS rfl rfl rfl rfl rfl rfl rfl rfl ?_ | refine gT rfl rfl rfl ?_ | refine gF rfl rfl rfl rfl ?_ | refine gU rfl rfl rfl ?_ | refine hs_text rfl ?_ | refine ho_text rfl ?_ | refine hs_draw rfl (by kernel_rfl) ?_ | refine ho_draw rfl (by kernel_rfl) ?_ | refine es_n ?_ | refine es_x ?_ | refine es_r ?_ | refine eb_n ?_ | refine eb_r ?_ | refine eb_s ?_ | refine eb_x rfl ?_ | refine el_x ?_ | refine el_r ?_ | refine ho_skip ?_ | refine ho_ret ?_ | refine ho_exit ?_ | refine ho_block ?_ | refine ho_label ?_ | refine ho_seq ?_)
        have e9 : negTo zs 8 = zs.map (fun z => z * -1) := by
          unfold negTo
          rw [List.take_of_length_le (by omega), List.drop_eq_nil_of_le (by omega), List.append_nil]
        refine ⟨_, resE_v8 rfl (load_v8 (by rw [negTo_len]; exact hl) rfl) rfl, _, frz_v8 _ _, ?_⟩
        rw [e9]
        exact k
theorem neg_spec {zs : List Int} (hl : zs.length = 8) {h : AHeap} {K : AV → AHeap → Prop} (k : K (v8 (if zs.all okN then zs.map (fun z => z * -1) else zeros8)) h) : wpCall cfg0 28 [v8 zs] h K := by
  have hr : ∀ b : Bool, (if b then zs.map (fun z => z * -1) else zeros8).length = 8 := fun b => by cases b <;> simp [hl, zeros8]
  refine call_pure (fn := mkFn Tryz.f28 true) rfl (by kernel_rfl) rfl (by simp [hfL, v8_hf]) rfl ?_
  refine hs_text rfl ?_
  refine cB rfl rfl rfl rfl (box_v8 hl) ?_
  repeat (first | refine hoM_nil ?_ | refine m1 rfl rfl rfl rfl rfl ?_ | refine m2 rfl rfl rfl rfl rfl rfl ?_ | refine rL rfl rfl rfl rfl rfl ?_ | refine cB rfl rfl rfl rfl rfl ?_ | refine cA rfl rfl rfl rfl rfl ?_ | refine mB rfl rfl rfl rfl rfl ?_ | refine mL rfl rfl rfl rfl rfl ?_ | refine m3 rfl rfl rfl rfl rfl rfl rfl ?_ | refine aS rfl rfl rfl rfl rfl nofun ?_ | refine mS rfl rfl rfl rfl rfl rfl rfl rfl ?_ | refine gT rfl rfl rfl ?_ | refine gF rfl rfl rfl rfl ?_ | refine gU rfl rfl rfl ?_ | refine hs_text rfl ?_ | refine ho_text rfl ?_ | refine hs_draw rfl (by kernel_rfl) ?_ | refine ho_draw rfl (by kernel_rfl) ?_ | refine es_n ?_ | refine es_x ?_ | refine es_r ?_ | refine eb_n ?_ | refine eb_r ?_ | refine eb_s ?_ | refine eb_x rfl ?_ | refine el_x ?_ | refine el_r ?_ | refine ho_skip ?_ | refine ho_ret ?_ | refine ho_exit ?_ | refine ho_block ?_ | refine ho_label ?_ | refine ho_seq ?_)
  refine rL rfl rfl rfl rfl (load_v8 hl rfl) ?_
  refine aF rfl rfl rfl ?_
  refine times_spec hl ⟨nofun, ?_⟩
  generalize hb : (if zs.all okN then zs.map (fun z => z * -1) else zeros8) = r at k ⊢
  have hrl : r.length = 8 := by rw [← hb]; exact hr _
  repeat (first | refine hoM_nil ?_ | refine m1 rfl rfl rfl rfl rfl ?_ | refine m2 rfl rfl rfl rfl rfl rfl ?_ | refine rL rfl rfl rfl rfl rfl ?_ | refine cB rfl rfl rfl rfl rfl ?_ | refine cA rfl rfl rfl rfl rfl ?_ | refine mB rfl rfl rfl rfl rfl ?_ | refine mL rfl rfl rfl rfl rfl ?_ | refine m3 rfl rfl rfl rfl rfl rfl rfl ?_ | refine aS rfl rfl rfl rfl rfl nofun ?_ | refine mS rfl rfl rfl rfl rfl rfl rfl rfl ?_ | refine gT rfl rfl rfl ?_ | refine gF rfl rfl rfl rfl ?_ | refine gU rfl rfl rfl ?_ | refine hs_text rfl ?_ | refine ho_text rfl ?_ | refine hs_draw rfl (by kernel_rfl) ?_ | refine ho_draw rfl (by kernel_rfl) ?_ | refine es_n ?_ | refine es_x ?_ | refine es_r ?_ | refine eb_n ?_ | refine eb_r ?_ | refine eb_s ?_ | refine eb_x rfl ?_ | refine el_x ?_ | refine el_r ?_ | refine ho_skip ?_ | refine ho_ret ?_ | refine ho_exit ?_ | refine ho_block ?_ | refine ho_label ?_ | refine ho_seq ?_)
  refine aS rfl rfl rfl rfl (v8_store (ws := zeros8) rfl hrl rfl) nofun ?_
  repeat (first | refine hoM_nil ?_ | refine m1 rfl rfl rfl rfl rfl ?_ | refine m2 rfl rfl rfl rfl rfl rfl ?_ | refine rL rfl rfl rfl rfl rfl ?_ | refine cB rfl rfl rfl rfl rfl ?_ | refine cA rfl rfl rfl rfl rfl ?_ | refine mB rfl rfl rfl rfl rfl ?_ | refine mL rfl rfl rfl rfl rfl ?_ | refine m3 rfl rfl rfl rfl rfl rfl rfl ?_ | refine aS rfl rfl rfl rfl rfl nofun ?_ | refine mS rfl rfl rfl rfl rfl rfl rfl rfl ?_ | refine gT rfl rfl rfl ?_ | refine gF rfl rfl rfl rfl ?_ | refine gU rfl rfl rfl ?_ | refine hs_text rfl ?_ | refine ho_text rfl ?_ | refine hs_draw rfl (by kernel_rfl) ?_ | refine ho_draw rfl (by kernel_rfl) ?_ | refine es_n ?_ | refine es_x ?_ | refine es_r ?_ | refine eb_n ?_ | refine eb_r ?_ | refine eb_s ?_ | refine eb_x rfl ?_ | refine el_x ?_ | refine el_r ?_ | refine ho_skip ?_ | refine ho_ret ?_ | refine ho_exit ?_ | refine ho_block ?_ | refine ho_label ?_ | refine ho_seq ?_)
  refine rL rfl rfl rfl rfl (load_v8 hrl rfl) ?_
  refine aS rfl rfl rfl rfl (v8_store (ws := zeros8) rfl hrl rfl) nofun ?_
  repeat (first | refine hoM_nil ?_ | refine m1 rfl rfl rfl rfl rfl ?_ | refine m2 rfl rfl rfl rfl rfl rfl ?_ | refine rL rfl rfl rfl rfl rfl ?_ | refine cB rfl rfl rfl rfl rfl ?_ | refine cA rfl rfl rfl rfl rfl ?_ | refine mB rfl rfl rfl rfl rfl ?_ | refine mL rfl rfl rfl rfl rfl ?_ | refine m3 rfl rfl rfl rfl rfl rfl rfl ?_ | refine aS rfl rfl rfl rfl rfl nofun ?_ | refine mS rfl rfl rfl rfl rfl rfl rfl rfl ?_ | refine gT rfl rfl rfl ?_ | refine gF rfl rfl rfl rfl ?_ | refine gU rfl rfl rfl ?_ | refine hs_text rfl ?_ | refine ho_text rfl ?_ | refine hs_draw rfl (by kernel_rfl) ?_ | refine ho_draw rfl (by kernel_rfl) ?_ | refine es_n ?_ | refine es_x ?_ | refine es_r ?_ | refine eb_n ?_ | refine eb_r ?_ | refine eb_s ?_ | refine eb_x rfl ?_ | refine el_x ?_ | refine el_r ?_ | refine ho_skip ?_ | refine ho_ret ?_ | refine ho_exit ?_ | refine ho_block ?_ | refine ho_label ?_ | refine ho_seq ?_)
  exact ⟨_, resE_1 rfl (load_v8 hrl rfl), _, frz_1 _ _, k⟩
/-- Two rows, alike? -/
theorem eqCells_ints : ∀ (n : Nat) (a b : List Int), a.length = n → b.length = n → eqCells (List.replicate n 1) (il a) (il b) = some (decide (a = b))
  | 0, a, b, ha, hb => by
    rw [List.length_eq_zero_iff.1 ha, List.length_eq_zero_iff.1 hb]; rfl
  | n + 1, [], _, ha, _ => by simp at ha
  | n + 1, _ :: _, [], _, hb => by simp at hb
  | n + 1, x :: a, y :: b, ha, hb => by
    show (match eqK 1 (.int .i64 x) (.int .i64 y) with | some true => eqCells (List.replicate n 1) (il a) (il b) | some false => some false | none => none) = _
    have h1 : eqK 1 (.int .i64 x) (.int .i64 y) = some (decide (x = y)) := rfl
    rw [h1]
    by_cases hxy : x = y
    · subst hxy
      rw [decide_eq_true rfl]
      simp only
      rw [eqCells_ints n a b (by simpa using ha) (by simpa using hb)]
      simp
    · rw [decide_eq_false hxy]
      simp [hxy]
theorem same_eq8 {a b : List Int} (ha : a.length = 8) (hb : b.length = 8) : abin cfg0 .eql 24 (v8 a) (v8 b) = some (.bool (decide (a = b))) := by
  show (match cfg0.ty 24 with | some i => (aeq i (v8 a) (v8 b)).map AV.bool | none => none) = _
  rw [tyV]
  simp only
  show (aeqAgg (some [1, 1, 1, 1, 1, 1, 1, 1]) (il a) (il b)).map AV.bool = _
  unfold aeqAgg
  have h1 : (Nat.beq (il a).length [1, 1, 1, 1, 1, 1, 1, 1].length && Nat.beq (il b).length [1, 1, 1, 1, 1, 1, 1, 1].length) = true := by
    rw [il_len, il_len, ha, hb]; rfl
  simp only [h1, cond_true]
  have := eqCells_ints 8 a b ha hb
  rw [show List.replicate 8 1 = [1, 1, 1, 1, 1, 1, 1, 1] from rfl] at this
  rw [this]; rfl
theorem same_spec {a b : List Int} (ha : a.length = 8) (hb : b.length = 8) {h : AHeap} {K : AV → AHeap → Prop} (k : K (.bool (decide (a = b))) h) : wpCall cfg0 27 [v8 a, v8 b] h K := by
  refine call_pure (fn := mkFn Tryz.f27 true) rfl (by kernel_rfl) rfl (by simp [hfL, v8_hf]) rfl ?_
  refine hs_text rfl ?_
  refine cB rfl rfl rfl rfl (box_v8 ha) ?_
  refine cB rfl rfl rfl rfl (box_v8 hb) ?_
  repeat (first | refine hoM_nil ?_ | refine m1 rfl rfl rfl rfl rfl ?_ | refine m2 rfl rfl rfl rfl rfl rfl ?_ | refine rL rfl rfl rfl rfl rfl ?_ | refine cB rfl rfl rfl rfl rfl ?_ | refine cA rfl rfl rfl rfl rfl ?_ | refine mB rfl rfl rfl rfl rfl ?_ | refine mL rfl rfl rfl rfl rfl ?_ | refine m3 rfl rfl rfl rfl rfl rfl rfl ?_ | refine aS rfl rfl rfl rfl rfl nofun ?_ | refine mS rfl rfl rfl rfl rfl rfl rfl rfl ?_ | refine gT rfl rfl rfl ?_ | refine gF rfl rfl rfl rfl ?_ | refine gU rfl rfl rfl ?_ | refine hs_text rfl ?_ | refine ho_text rfl ?_ | refine hs_draw rfl (by kernel_rfl) ?_ | refine ho_draw rfl (by kernel_rfl) ?_ | refine es_n ?_ | refine es_x ?_ | refine es_r ?_ | refine eb_n ?_ | refine eb_r ?_ | refine eb_s ?_ | refine eb_x rfl ?_ | refine el_x ?_ | refine el_r ?_ | refine ho_skip ?_ | refine ho_ret ?_ | refine ho_exit ?_ | refine ho_block ?_ | refine ho_label ?_ | refine ho_seq ?_)
  refine rL rfl rfl rfl rfl (load_v8 ha rfl) ?_
  refine rL rfl rfl rfl rfl (load_v8 hb rfl) ?_
  refine m2 rfl rfl rfl rfl rfl (same_eq8 ha hb) ?_
  repeat (first | refine hoM_nil ?_ | refine m1 rfl rfl rfl rfl rfl ?_ | refine m2 rfl rfl rfl rfl rfl rfl ?_ | refine rL rfl rfl rfl rfl rfl ?_ | refine cB rfl rfl rfl rfl rfl ?_ | refine cA rfl rfl rfl rfl rfl ?_ | refine mB rfl rfl rfl rfl rfl ?_ | refine mL rfl rfl rfl rfl rfl ?_ | refine m3 rfl rfl rfl rfl rfl rfl rfl ?_ | refine aS rfl rfl rfl rfl rfl nofun ?_ | refine mS rfl rfl rfl rfl rfl rfl rfl rfl ?_ | refine gT rfl rfl rfl ?_ | refine gF rfl rfl rfl rfl ?_ | refine gU rfl rfl rfl ?_ | refine hs_text rfl ?_ | refine ho_text rfl ?_ | refine hs_draw rfl (by kernel_rfl) ?_ | refine ho_draw rfl (by kernel_rfl) ?_ | refine es_n ?_ | refine es_x ?_ | refine es_r ?_ | refine eb_n ?_ | refine eb_r ?_ | refine eb_s ?_ | refine eb_x rfl ?_ | refine el_x ?_ | refine el_r ?_ | refine ho_skip ?_ | refine ho_ret ?_ | refine ho_exit ?_ | refine ho_block ?_ | refine ho_label ?_ | refine ho_seq ?_)
  exact ⟨_, rfl, _, rfl, k⟩
end Go.Am
