/- The law ConvWays: what it comes to. -/
import Derived.Test.YteplpnnbcjjjjaaGreatDoorWkW
import Derived.Test.YteplpnnbcjjjjaaGreatDoorAmHo3
noncomputable section
namespace Go.Am
open Go.Proofs
theorem tyA8 : cfg0.ty 22 = some ⟨.array 8 3, 8, 64, .agg [.int .i64 0, .int .i64 0, .int .i64 0, .int .i64 0, .int .i64 0, .int .i64 0, .int .i64 0, .int .i64 0], some [1, 1, 1, 1, 1, 1, 1, 1]⟩ := by kernel_rfl
theorem box_a8 {zs : List Int} (hl : zs.length = 8) : aboxed cfg0 22 (v8 zs) = some (.cells (il zs) 22, fun id => .ptr id 0) := by
  unfold aboxed
  rw [tyA8]
  have h1 : (Nat.beq (v8 zs).cells.length 8 && (v8 zs).cells.all AV.one) = true := by
    show (Nat.beq (il zs).length 8 && (il zs).all AV.one) = true
    rw [il_len, hl, il_one]; rfl
  simp only [h1, cond_true]
  rfl
theorem load_a8 {zs : List Int} (hl : zs.length = 8) {h : AHeap} {id : Nat} {e : TypeId} (hg : h.get id = some (.cells (il zs) e)) : aload cfg0 22 (.ptr id 0) h = some (v8 zs) := by
  have h1 : aload cfg0 22 (.ptr id 0) h = match h.get id with | some (.cells cs _) => apart cfg0 22 cs 0 | _ => none := rfl
  rw [h1, hg]
  unfold apart
  rw [tyA8]
  simp only [isAggK, cond_true, List.drop_zero]
  have h2 : (il zs).take 8 = il zs := List.take_of_length_le (by rw [il_len]; omega)
  rw [h2, il_len, hl]
  rfl
theorem a8_addr {i : Nat} (hi : i < 8) {k : IntKind} {id : Nat} : aindexAddr cfg0 22 (.ptr id 0) (.int k i) = some (.ptr id (0 + i)) := by
  unfold aindexAddr
  rw [tyA8]
  simp only [tyInt]
  have h1 : (decide ((0 : Int) ≤ (i : Int)) && decide ((i : Int) < ((8 : Nat) : Int))) = true := by simp only [Bool.and_eq_true, decide_eq_true_eq]; omega
  rw [h1]
  simp only [cond_true, Int.toNat_natCast, Nat.mul_one]
theorem build_sum {a : List Int} (ha : a.length = 8) : abuild cfg0 33 [(0, v8 a)] = some (sumV a) := by
  unfold abuild
  rw [tySum]
  have h1 : fieldsKnown cfg0 [(0, 24), (8, 31), (11, 31), (14, 4)] = true := by kernel_rfl
  simp only [h1, cond_true]
  have h2 : structPlace cfg0 [(0, 24), (8, 31), (11, 31), (14, 4)] 0 = some (0, 8) := by kernel_rfl
  simp only [afill, h2]
  have h3 : (Nat.beq (v8 a).cells.length 8 && Nat.ble (0 + (v8 a).cells.length) (AV.agg [.int .i64 0, .int .i64 0, .int .i64 0, .int .i64 0, .int .i64 0, .int .i64 0, .int .i64 0, .int .i64 0, .bool false, .nilsl, .nilsl, .bool false, .nilsl, .nilsl, .bool false]).cells.length && (v8 a).cells.all AV.one) = true := by
    show (Nat.beq (il a).length 8 && Nat.ble (0 + (il a).length) 15 && (il a).all AV.one) = true
    rw [il_len, ha, il_one]; rfl
  simp only [h3, cond_true, Option.map_some]
  show some (AV.agg (List.take 0 _ ++ il a ++ List.drop (0 + (il a).length) _)) = _
  rw [il_len, ha]
  rfl
theorem sum_store {cs : List AV} (hc : cs.length = 15) {a : List Int} (ha : a.length = 8) {t : HT AObj} {m id : Nat} {e : TypeId} (hg : AHeap.get ⟨t, m⟩ id = some (.cells cs e)) : astore cfg0 33 (.ptr id 0) (sumV a) ⟨t, m⟩ = some ⟨HT.set (id + 1) t id (some (.cells (il a ++ restS) e)), m⟩ := by
  unfold astore
  rw [tySum]
  simp only [hg]
  have hl : (il a ++ restS).length = 15 := by rw [List.length_append, il_len, ha]; rfl
  have h1 : (Nat.beq (sumV a).cells.length 15 && (sumV a).cells.all AV.one && Nat.ble (0 + (sumV a).cells.length) cs.length) = true := by
    show (Nat.beq (il a ++ restS).length 15 && (il a ++ restS).all AV.one && Nat.ble (0 + (il a ++ restS).length) cs.length) = true
    rw [hl, hc, List.all_append, il_one]; rfl
  rw [h1]
  simp only [cond_true]
  show some (AHeap.put ⟨t, m⟩ id (.cells (cs.take 0 ++ (il a ++ restS) ++ cs.drop (0 + (il a ++ restS).length)) e)) = _
  rw [List.take_zero, List.nil_append, List.drop_eq_nil_of_le (by rw [hl, hc]; omega), List.append_nil]; rfl
theorem load_sum {a : List Int} (ha : a.length = 8) {h : AHeap} {id : Nat} {e : TypeId} (hg : h.get id = some (.cells (il a ++ restS) e)) : aload cfg0 33 (.ptr id 0) h = some (sumV a) := by
  have h1 : aload cfg0 33 (.ptr id 0) h = match h.get id with | some (.cells cs _) => apart cfg0 33 cs 0 | _ => none := rfl
  rw [h1, hg]
  unfold apart
  rw [tySum]
  have hl : (il a ++ restS).length = 15 := by rw [List.length_append, il_len, ha]; rfl
  simp only [isAggK, cond_true, List.drop_zero]
  have h2 : (il a ++ restS).take 15 = il a ++ restS := List.take_of_length_le (by omega)
  rw [h2, hl]
  rfl
theorem wayV_comm (a b : List Int) : wayV b a = wayV a b := by
  unfold wayV
  by_cases h : a = b
  · subst h; rfl
  · rw [if_neg h, if_neg (fun e => h e.symm)]
    by_cases h2 : a = negV b ∧ negV a = b
    · rw [if_pos h2, if_pos ⟨h2.2.symm, h2.1.symm⟩]
    · rw [if_neg h2, if_neg (fun e => h2 ⟨e.2.symm, e.1.symm⟩)]
theorem ho_gen {cfg : Cfg} {c : Code} {L : Env} {H : AHeap} {Q : EK} (P : AHeap → Prop) (hP : P H) (k : ∀ h, P h → ho cfg c L h Q) : ho cfg c L H Q := k H hP
set_option maxHeartbeats 4000000 in
theorem convWays_spec (haw : ∀ g, Did cfg0 8 [] g (.bool true) g) {a b : List Int} (ha : a.length = 8) (hb : b.length = 8) {h : AHeap} {K : AV → AHeap → Prop} (k : K (.bool true) h) : wpCall cfg0 3 [v8 a, v8 b] h K := by
  refine call_pure (fn := mkFn Tryz.f3 true) rfl (by kernel_rfl) rfl (by simp [hfL, v8_hf]) rfl ?_
  refine hs_text rfl ?_
  refine cB rfl rfl rfl rfl (box_a8 ha) ?_
  refine cB rfl rfl rfl rfl (box_a8 hb) ?_
  repeat (first | refine hoM_nil ?_ | refine m1 rfl rfl rfl rfl rfl ?_ | refine m2 rfl rfl rfl rfl rfl rfl ?_ | refine rL rfl rfl rfl rfl rfl ?_ | refine cB rfl rfl rfl rfl rfl ?_ | refine cA rfl rfl rfl rfl rfl ?_ | refine mB rfl rfl rfl rfl rfl ?_ | refine mL rfl rfl rfl rfl rfl ?_ | refine m3 rfl rfl rfl rfl rfl rfl rfl ?_ | refine aS rfl rfl rfl rfl rfl nofun ?_ | refine mS rfl rfl rfl rfl rfl rfl rfl rfl ?_ | refine gT rfl rfl rfl ?_ | refine gF rfl rfl rfl rfl ?_ | refine gU rfl rfl rfl ?_ | refine hs_text rfl ?_ | refine ho_text rfl ?_ | refine hs_draw rfl (by kernel_rfl) ?_ | refine ho_draw rfl (by kernel_rfl) ?_ | refine es_n ?_ | refine es_x ?_ | refine es_r ?_ | refine eb_n ?_ | refine eb_r ?_ | refine eb_s ?_ | refine eb_x rfl ?_ | refine el_x ?_ | refine el_r ?_ | refine ho_skip ?_ | refine ho_ret ?_ | refine ho_exit ?_ | refine ho_block ?_ | refine ho_label ?_ | refine ho_seq ?_)
  refine aF rfl rfl rfl ⟨_, _, haw _, nofun, ?_⟩
  repeat (first | refine hoM_nil ?_ | refine m1 rfl rfl rfl rfl rfl ?_ | refine m2 rfl rfl rfl rfl rfl rfl ?_ | refine rL rfl rfl rfl rfl rfl ?_ | refine cB rfl rfl rfl rfl rfl ?_ | refine cA rfl rfl rfl rfl rfl ?_ | refine mB rfl rfl rfl rfl rfl ?_ | refine mL rfl rfl rfl rfl rfl ?_ | refine m3 rfl rfl rfl rfl rfl rfl rfl ?_ | refine aS rfl rfl rfl rfl rfl nofun ?_ | refine mS rfl rfl rfl rfl rfl rfl rfl rfl ?_ | refine gT rfl rfl rfl ?_ | refine gF rfl rfl rfl rfl ?_ | refine gU rfl rfl rfl ?_ | refine hs_text rfl ?_ | refine ho_text rfl ?_ | refine hs_draw rfl (by kernel_rfl) ?_ | refine ho_draw rfl (by kernel_rfl) ?_ | refine es_n ?_ | refine es_x ?_ | refine es_r ?_ | refine eb_n ?_ | refine eb_r ?_ | refine eb_s ?_ | refine eb_x rfl ?_ | refine el_x ?_ | refine el_r ?_ | refine ho_skip ?_ | refine ho_ret ?_ | refine ho_exit ?_ | refine ho_block ?_ | refine ho_label ?_ | refine ho_seq ?_)
  refine ho_if rfl (fun e => by cases e) (fun _ => ?_)
  refine hs_skip ?_
  refine hs_drawD (ms := [0, 1, 0, 4, 0, 0, 51, 127]) (c := 2) rfl (by kernel_rfl) (by kernel_rfl) ?_
  refine dL rfl rfl rfl rfl (load_a8 ha rfl) ?_
  refine dB rfl rfl rfl rfl (build_sum ha) ?_
  refine dL rfl rfl rfl rfl (load_a8 hb rfl) ?_
  refine dB rfl rfl rfl rfl (build_sum hb) ?_
  refine dAl rfl rfl rfl rfl rfl ?_
  refine dAl rfl rfl rfl rfl rfl ?_
  refine dS rfl rfl rfl rfl rfl rfl (sum_store rfl ha rfl) ?_
  refine dS rfl rfl rfl rfl rfl rfl (sum_store rfl hb rfl) ?_
  refine dNil ⟨?_, ?_⟩
  · refine kL rfl rfl rfl (fun y hy => ?_) ?_
    · simp only [List.reverse_cons, List.reverse_nil, List.nil_append, List.cons_append, List.mem_cons, List.not_mem_nil, or_false] at hy
      rcases hy with rfl | rfl | rfl <;> exact load_a8 ha rfl
    refine kN rfl rfl ?_
    refine kL rfl rfl rfl (fun y hy => ?_) ?_
    · simp only [List.reverse_cons, List.reverse_nil, List.nil_append, List.cons_append, List.mem_cons, List.not_mem_nil, or_false] at hy
      rcases hy with rfl | rfl | rfl <;> exact load_a8 hb rfl
    refine kN rfl rfl ?_
    refine kN rfl rfl ?_
    refine kN rfl rfl ?_
    refine kU rfl rfl ?_
    refine kU rfl rfl ?_
    exact kNil
  refine hs_text rfl ?_
  refine rL rfl rfl rfl rfl (load_sum ha rfl) ?_
  refine rL rfl rfl rfl rfl (load_sum hb rfl) ?_
  refine aF rfl rfl rfl ?_
  refine ways_spec ha hb ⟨nofun, ?_⟩
  repeat (first | refine hoM_nil ?_ | refine m1 rfl rfl rfl rfl rfl ?_ | refine m2 rfl rfl rfl rfl rfl rfl ?_ | refine rL rfl rfl rfl rfl rfl ?_ | refine cB rfl rfl rfl rfl rfl ?_ | refine cA rfl rfl rfl rfl rfl ?_ | refine mB rfl rfl rfl rfl rfl ?_ | refine mL rfl rfl rfl rfl rfl ?_ | refine m3 rfl rfl rfl rfl rfl rfl rfl ?_ | refine aS rfl rfl rfl rfl rfl nofun ?_ | refine mS rfl rfl rfl rfl rfl rfl rfl rfl ?_ | refine gT rfl rfl rfl ?_ | refine gF rfl rfl rfl rfl ?_ | refine gU rfl rfl rfl ?_ | refine hs_text rfl ?_ | refine ho_text rfl ?_ | refine hs_draw rfl (by kernel_rfl) ?_ | refine ho_draw rfl (by kernel_rfl) ?_ | refine es_n ?_ | refine es_x ?_ | refine es_r ?_ | refine eb_n ?_ | refine eb_r ?_ | refine eb_s ?_ | refine eb_x rfl ?_ | refine el_x ?_ | refine el_r ?_ | refine ho_skip ?_ | refine ho_ret ?_ | refine ho_exit ?_ | refine ho_block ?_ | refine ho_label ?_ | refine ho_seq ?_)
  refine rL rfl rfl rfl rfl (load_sum hb rfl) ?_
  refine rL rfl rfl rfl rfl (load_sum ha rfl) ?_
  refine aF rfl rfl rfl ?_
  refine ways_spec hb ha ⟨nofun, ?_⟩
  rw [wayV_comm a b]
  generalize hw : wayV a b = u
  repeat (first | refine hoM_nil ?_ | refine m1 rfl rfl rfl rfl rfl ?_ | refine m2 rfl rfl rfl rfl rfl rfl ?_ | refine rL rfl rfl rfl rfl rfl ?_ | refine cB rfl rfl rfl rfl rfl ?_ | refine cA rfl rfl rfl rfl rfl ?_ | refine mB rfl rfl rfl rfl rfl ?_ | refine mL rfl rfl rfl rfl rfl ?_ | refine m3 rfl rfl rfl rfl rfl rfl rfl ?_ | refine aS rfl rfl rfl rfl rfl nofun ?_ | refine mS rfl rfl rfl rfl rfl rfl rfl rfl ?_ | refine gT rfl rfl rfl ?_ | refine gF rfl rfl rfl rfl ?_ | refine gU rfl rfl rfl ?_ | refine hs_text rfl ?_ | refine ho_text rfl ?_ | refine hs_draw rfl (by kernel_rfl) ?_ | refine ho_draw rfl (by kernel_rfl) ?_ | refine es_n ?_ | refine es_x ?_ | refine es_r ?_ | refine eb_n ?_ | refine eb_r ?_ | refine eb_s ?_ | refine eb_x rfl ?_ | refine el_x ?_ | refine el_r ?_ | refine ho_skip ?_ | refine ho_ret ?_ | refine ho_exit ?_ | refine ho_block ?_ | refine ho_label ?_ | refine ho_seq ?_)
  refine ho_sub (l' := [(2, .ptr 0 0), (3, .ptr 1 0), (7, .int .i64 u), (8, .bool (decide (u ≠ 0))), (9, .int .i64 u), (10, .bool (decide (u ≠ 0))), (11, .bool true), (12, .int .i64 0)]) ⟨rfl, rfl, rfl, rfl, rfl, rfl, rfl, rfl, trivial⟩ ?_
  refine ho_gen (fun h => h.get 0 = some (.cells (il a) 22) ∧ h.get 1 = some (.cells (il b) 22)) ⟨rfl, rfl⟩ (fun h2 hP => ?_)
  refine ho_loop (fun m L h1 => ∃ (i : Nat) (g : Bool), m = 8 - i ∧ i ≤ 8 ∧ h1 = h2 ∧ Env.Sub [(2, .ptr 0 0), (3, .ptr 1 0), (7, .int .i64 u), (8, .bool (decide (u ≠ 0))), (9, .int .i64 u), (10, .bool (decide (u ≠ 0))), (11, .bool g), (12, .int .i64 i)] L) 8 ?_ ?_
  · exact ⟨0, true, rfl, Nat.zero_le _, rfl, ⟨rfl, rfl, rfl, rfl, rfl, rfl, rfl, rfl, trivial⟩⟩
  · rintro m L h1 ⟨i, g, rfl, hi, rfl, hs⟩
    refine ho_sub hs ?_
    repeat (first | refine hoM_nil ?_ | refine m1 rfl rfl rfl rfl rfl ?_ | refine m2 rfl rfl rfl rfl rfl rfl ?_ | refine rL rfl rfl rfl rfl rfl ?_ | refine cB rfl rfl rfl rfl rfl ?_ | refine cA rfl rfl rfl rfl rfl ?_ | refine mB rfl rfl rfl rfl rfl ?_ | refine mL rfl rfl rfl rfl rfl ?_ | refine m3 rfl rfl rfl rfl rfl rfl rfl ?_ | refine aS rfl rfl rfl rfl rfl nofun ?_ | refine mS rfl rfl rfl rfl rfl rfl rfl rfl ?_ | refine gT rfl rfl rfl ?_ | refine gF rfl rfl rfl rfl ?_ | refine gU rfl rfl rfl ?_ | refine hs_text rfl ?_ | refine ho_text rfl ?_ | refine hs_draw rfl (by kernel_rfl) ?_ | refine ho_draw rfl (by kernel_rfl) ?_ | refine es_n ?_ | refine es_x ?_ | refine es_r ?_ | refine eb_n ?_ | refine eb_r ?_ | refine eb_s ?_ | refine eb_x rfl ?_ | refine el_x ?_ | refine el_r ?_ | refine ho_skip ?_ | refine ho_ret ?_ | refine ho_exit ?_ | refine ho_block ?_ | refine ho_label ?_ | refine ho_seq ?_)
    refine ho_if rfl (fun e => ?_) (fun e => ?_)
    · have hi8 : i < 8 := by have := of_decide_eq_true e; omega
      cases g with
      | true =>
        repeat (first | refine hoM_nil ?_ | refine m1 rfl rfl rfl rfl rfl ?_ | refine m2 rfl rfl rfl rfl rfl rfl ?_ | refine rL rfl rfl rfl rfl rfl ?_ | refine cB rfl rfl rfl rfl rfl ?_ | refine cA rfl rfl rfl rfl rfl ?_ | refine mB rfl rfl rfl rfl rfl ?_ | refine mL rfl rfl rfl rfl rfl ?_ | refine m3 rfl rfl rfl rfl rfl rfl rfl ?_ | refine aS rfl rfl rfl rfl rfl nofun ?_ | refine mS rfl rfl rfl rfl rfl rfl rfl rfl ?_ | refine gT rfl rfl rfl ?_ | refine gF rfl rfl rfl rfl ?_ | refine gU rfl rfl rfl ?_ | refine hs_text rfl ?_ | refine ho_text rfl ?_ | refine hs_draw rfl (by kernel_rfl) ?_ | refine ho_draw rfl (by kernel_rfl) ?_ | refine es_n ?_ | refine es_x ?_ | refine es_r ?_ | refine eb_n ?_ | refine eb_r ?_ | refine eb_s ?_ | refine eb_x rfl ?_ | refine el_x ?_ | refine el_r ?_ | refine ho_skip ?_ | refine ho_ret ?_ | refine ho_exit ?_ | refine ho_block ?_ | refine ho_label ?_ | refine ho_seq ?_)
        refine m2 rfl rfl rfl rfl rfl (a8_addr hi8) ?_
        refine gT rfl rfl rfl ?_
        refine rL rfl rfl rfl rfl (cell_load tyInt rfl hP.1 (il_get a i (by omega))) ?_
        refine gT rfl rfl rfl ?_
        by_cases c0 : -100 ≤ a[i]
        · refine m2 rfl rfl rfl rfl rfl (bT c0) ?_
          repeat (first | refine hoM_nil ?_ | refine m1 rfl rfl rfl rfl rfl ?_ | refine m2 rfl rfl rfl rfl rfl rfl ?_ | refine rL rfl rfl rfl rfl rfl ?_ | refine cB rfl rfl rfl rfl rfl ?_ | refine cA rfl rfl rfl rfl rfl ?_ | refine mB rfl rfl rfl rfl rfl ?_ | refine mL rfl rfl rfl rfl rfl ?_ | refine m3 rfl rfl rfl rfl rfl rfl rfl ?_ | refine aS rfl rfl rfl rfl rfl nofun ?_ | refine mS rfl rfl rfl rfl rfl rfl rfl rfl ?_ | refine gT rfl rfl rfl ?_ | refine gF rfl rfl rfl rfl ?_ | refine gU rfl rfl rfl ?_ | refine hs_text rfl ?_ | refine ho_text rfl ?_ | refine hs_draw rfl (by kernel_rfl) ?_ | refine ho_draw rfl (by kernel_rfl) ?_ | refine es_n ?_ | refine es_x ?_ | refine es_r ?_ | refine eb_n ?_ | refine eb_r ?_ | refine eb_s ?_ | refine eb_x rfl ?_ | refine el_x ?_ | refine el_r ?_ | refine ho_skip ?_ | refine ho_ret ?_ | refine ho_exit ?_ | refine ho_block ?_ | refine ho_label ?_ | refine ho_seq ?_)
          refine m2 rfl rfl rfl rfl rfl (a8_addr hi8) ?_
          refine gT rfl rfl rfl ?_
          refine rL rfl rfl rfl rfl (cell_load tyInt rfl hP.1 (il_get a i (by omega))) ?_
          refine gT rfl rfl rfl ?_
          by_cases c1 : a[i] ≤ 100
          · refine m2 rfl rfl rfl rfl rfl (bT c1) ?_
            repeat (first | refine hoM_nil ?_ | refine m1 rfl rfl rfl rfl rfl ?_ | refine m2 rfl rfl rfl rfl rfl rfl ?_ | refine rL rfl rfl rfl rfl rfl ?_ | refine cB rfl rfl rfl rfl rfl ?_ | refine cA rfl rfl rfl rfl rfl ?_ | refine mB rfl rfl rfl rfl rfl ?_ | refine mL rfl rfl rfl rfl rfl ?_ | refine m3 rfl rfl rfl rfl rfl rfl rfl ?_ | refine aS rfl rfl rfl rfl rfl nofun ?_ | refine mS rfl rfl rfl rfl rfl rfl rfl rfl ?_ | refine gT rfl rfl rfl ?_ | refine gF rfl rfl rfl rfl ?_ | refine gU rfl rfl rfl ?_ | refine hs_text rfl ?_ | refine ho_text rfl ?_ | refine hs_draw rfl (by kernel_rfl) ?_ | refine ho_draw rfl (by kernel_rfl) ?_ | refine es_n ?_ | refine es_x ?_ | refine es_r ?_ | refine eb_n ?_ | refine eb_r ?_ | refine eb_s ?_ | refine eb_x rfl ?_ | refine el_x ?_ | refine el_r ?_ | refine ho_skip ?_ | refine ho_ret ?_ | refine ho_exit ?_ | refine ho_block ?_ | refine ho_label ?_ | refine ho_seq ?_)
            refine m2 rfl rfl rfl rfl rfl (a8_addr hi8) ?_
            refine gT rfl rfl rfl ?_
            refine rL rfl rfl rfl rfl (cell_load tyInt rfl hP.2 (il_get b i (by omega))) ?_
            refine gT rfl rfl rfl ?_
            by_cases c2 : -100 ≤ b[i]
            · refine m2 rfl rfl rfl rfl rfl (bT c2) ?_
              repeat (first | refine hoM_nil ?_ | refine m1 rfl rfl rfl rfl rfl ?_ | refine m2 rfl rfl rfl rfl rfl rfl ?_ | refine rL rfl rfl rfl rfl rfl ?_ | refine cB rfl rfl rfl rfl rfl ?_ | refine cA rfl rfl rfl rfl rfl ?_ | refine mB rfl rfl rfl rfl rfl ?_ | refine mL rfl rfl rfl rfl rfl ?_ | refine m3 rfl rfl rfl rfl rfl rfl rfl ?_ | refine aS rfl rfl rfl rfl rfl nofun ?_ | refine mS rfl rfl rfl rfl rfl rfl rfl rfl ?_ | refine gT rfl rfl rfl ?_ | refine gF rfl rfl rfl rfl ?_ | refine gU rfl rfl rfl ?_ | refine hs_text rfl ?_ | refine ho_text rfl ?_ | refine hs_draw rfl (by kernel_rfl) ?_ | refine ho_draw rfl (by kernel_rfl) ?_ | refine es_n ?_ | refine es_x ?_ | refine es_r ?_ | refine eb_n ?_ | refine eb_r ?_ | refine eb_s ?_ | refine eb_x rfl ?_ | refine el_x ?_ | refine el_r ?_ | refine ho_skip ?_ | refine ho_ret ?_ | refine ho_exit ?_ | refine ho_block ?_ | refine ho_label ?_ | refine ho_seq ?_)
              refine m2 rfl rfl rfl rfl rfl (a8_addr hi8) ?_
              refine gT rfl rfl rfl ?_
              refine rL rfl rfl rfl rfl (cell_load tyInt rfl hP.2 (il_get b i (by omega))) ?_
              refine gT rfl rfl rfl ?_
              by_cases c3 : b[i] ≤ 100
              · refine m2 rfl rfl rfl rfl rfl (bT c3) ?_
                repeat (first | refine hoM_nil ?_ | refine m1 rfl rfl rfl rfl rfl ?_ | refine m2 rfl rfl rfl rfl rfl rfl ?_ | refine rL rfl rfl rfl rfl rfl ?_ | refine cB rfl rfl rfl rfl rfl ?_ | refine cA rfl rfl rfl rfl rfl ?_ | refine mB rfl rfl rfl rfl rfl ?_ | refine mL rfl rfl rfl rfl rfl ?_ | refine m3 rfl rfl rfl rfl rfl rfl rfl ?_ | refine aS rfl rfl rfl rfl rfl nofun ?_ | refine mS rfl rfl rfl rfl rfl rfl rfl rfl ?_ | refine gT rfl rfl rfl ?_ | refine gF rfl rfl rfl rfl ?_ | refine gU rfl rfl rfl ?_ | refine hs_text rfl ?_ | refine ho_text rfl ?_ | refine hs_draw rfl (by kernel_rfl) ?_ | refine ho_draw rfl (by kernel_rfl) ?_ | refine es_n ?_ | refine es_x ?_ | refine es_r ?_ | refine eb_n ?_ | refine eb_r ?_ | refine eb_s ?_ | refine eb_x rfl ?_ | refine el_x ?_ | refine el_r ?_ | refine ho_skip ?_ | refine ho_ret ?_ | refine ho_exit ?_ | refine ho_block ?_ | refine ho_label ?_ | refine ho_seq ?_)
                rw [wrapF_i64 (n := (i : Int) + 1) (by omega) (by omega)]
                exact ⟨8 - (i + 1), by omega, i + 1, _, rfl, hi8, rfl, ⟨rfl, rfl, rfl, rfl, rfl, rfl, rfl, rfl, trivial⟩⟩
              · refine m2 rfl rfl rfl rfl rfl (bF c3) ?_
                repeat (first | refine hoM_nil ?_ | refine m1 rfl rfl rfl rfl rfl ?_ | refine m2 rfl rfl rfl rfl rfl rfl ?_ | refine rL rfl rfl rfl rfl rfl ?_ | refine cB rfl rfl rfl rfl rfl ?_ | refine cA rfl rfl rfl rfl rfl ?_ | refine mB rfl rfl rfl rfl rfl ?_ | refine mL rfl rfl rfl rfl rfl ?_ | refine m3 rfl rfl rfl rfl rfl rfl rfl ?_ | refine aS rfl rfl rfl rfl rfl nofun ?_ | refine mS rfl rfl rfl rfl rfl rfl rfl rfl ?_ | refine gT rfl rfl rfl ?_ | refine gF rfl rfl rfl rfl ?_ | refine gU rfl rfl rfl ?_ | refine hs_text rfl ?_ | refine ho_text rfl ?_ | refine hs_draw rfl (by kernel_rfl) ?_ | refine ho_draw rfl (by kernel_rfl) ?_ | refine es_n ?_ | refine es_x ?_ | refine es_r ?_ | refine eb_n ?_ | refine eb_r ?_ | refine eb_s ?_ | refine eb_x rfl ?_ | refine el_x ?_ | refine el_r ?_ | refine ho_skip ?_ | refine ho_ret ?_ | refine ho_exit ?_ | refine ho_block ?_ | refine ho_label ?_ | refine ho_seq ?_)
                rw [wrapF_i64 (n := (i : Int) + 1) (by omega) (by omega)]
                exact ⟨8 - (i + 1), by omega, i + 1, _, rfl, hi8, rfl, ⟨rfl, rfl, rfl, rfl, rfl, rfl, rfl, rfl, trivial⟩⟩
            · refine m2 rfl rfl rfl rfl rfl (bF c2) ?_
              repeat (first | refine hoM_nil ?_ | refine m1 rfl rfl rfl rfl rfl ?_ | refine m2 rfl rfl rfl rfl rfl rfl ?_ | refine rL rfl rfl rfl rfl rfl ?_ | refine cB rfl rfl rfl rfl rfl ?_ | refine cA rfl rfl rfl rfl rfl ?_ | refine mB rfl rfl rfl rfl rfl ?_ | refine mL rfl rfl rfl rfl rfl ?_ | refine m3 rfl rfl rfl rfl rfl rfl rfl ?_ | refine aS rfl rfl rfl rfl rfl nofun ?_ | refine mS rfl rfl rfl rfl rfl rfl rfl rfl ?_ | refine gT rfl rfl rfl ?_ | refine gF rfl rfl rfl rfl ?_ | refine gU rfl rfl rfl ?_ | refine hs_text rfl ?_ | refine ho_text rfl ?_ | refine hs_draw rfl (by kernel_rfl) ?_ | refine ho_draw rfl (by kernel_rfl) ?_ | refine es_n ?_ | refine es_x ?_ | refine es_r ?_ | refine eb_n ?_ | refine eb_r ?_ | refine eb_s ?_ | refine eb_x rfl ?_ | refine el_x ?_ | refine el_r ?_ | refine ho_skip ?_ | refine ho_ret ?_ | refine ho_exit ?_ | refine ho_block ?_ | refine ho_label ?_ | refine ho_seq ?_)
              rw [wrapF_i64 (n := (i : Int) + 1) (by omega) (by omega)]
              exact ⟨8 - (i + 1), by omega, i + 1, _, rfl, hi8, rfl, ⟨rfl, rfl, rfl, rfl, rfl, rfl, rfl, rfl, trivial⟩⟩
          · refine m2 rfl rfl rfl rfl rfl (bF c1) ?_
            repeat (first | refine hoM_nil ?_ | refine m1 rfl rfl rfl rfl rfl ?_ | refine m2 rfl rfl rfl rfl rfl rfl ?_ | refine rL rfl rfl rfl rfl rfl ?_ | refine cB rfl rfl rfl rfl rfl ?_ | refine cA rfl rfl rfl rfl rfl ?_ | refine mB rfl rfl rfl rfl rfl ?_ | refine mL rfl rfl rfl rfl rfl ?_ | refine m3 rfl rfl rfl rfl rfl rfl rfl ?_ | refine aS rfl rfl rfl rfl rfl nofun ?_ | refine mS rfl rfl rfl rfl rfl rfl rfl rfl ?_ | refine gT rfl rfl rfl ?_ | refine gF rfl rfl rfl rfl ?_ | refine gU rfl rfl rfl ?_ | refine hs_text rfl ?_ | refine ho_text rfl ?_ | refine hs_draw rfl (by kernel_rfl) ?_ | refine ho_draw rfl (by kernel_rfl) ?_ | refine es_n ?_ | refine es_x ?_ | refine es_r ?_ | refine eb_n ?_ | refine eb_r ?_ | refine eb_s ?_ | refine eb_x rfl ?_ | refine el_x ?_ | refine el_r ?_ | refine ho_skip ?_ | refine ho_ret ?_ | refine ho_exit ?_ | refine ho_block ?_ | refine ho_label ?_ | refine ho_seq ?_)
            rw [wrapF_i64 (n := (i : Int) + 1) (by omega) (by omega)]
            exact ⟨8 - (i + 1), by omega, i + 1, _, rfl, hi8, rfl, ⟨rfl, rfl, rfl, rfl, rfl, rfl, rfl, rfl, trivial⟩⟩
        · refine m2 rfl rfl rfl rfl rfl (bF c0) ?_
          repeat (first | refine hoM_nil ?_ | refine m1 rfl rfl rfl rfl rfl ?_ | refine m2 rfl rfl rfl rfl rfl rfl ?_ | refine rL rfl rfl rfl rfl rfl ?_ | refine cB rfl rfl rfl rfl rfl ?_ | refine cA rfl rfl rfl rfl rfl ?_ | refine mB rfl rfl rfl rfl rfl ?_ | refine mL rfl rfl rfl rfl rfl ?_ | refine m3 rfl rfl rfl rfl rfl rfl rfl ?_ | refine aS rfl rfl rfl rfl rfl nofun ?_ | refine mS rfl rfl rfl rfl rfl rfl rfl rfl ?_ | refine gT rfl rfl rfl ?_ | refine gF rfl rfl rfl rfl ?_ | refine gU rfl rfl rfl ?_ | refine hs_text rfl ?_ | refine ho_text rfl ?_ | refine hs_draw rfl (by kernel_rfl) ?_ | refine ho_draw rfl (by kernel_rfl) ?_ | refine es_n ?_ | refine es_x ?_ | refine es_r ?_ | refine eb_n ?_ | refine eb_r ?_ | refine eb_s ?_ | refine eb_x rfl ?_ | refine el_x ?_ | refine el_r ?_ | refine ho_skip ?_ | refine ho_ret ?_ | refine ho_exit ?_ | refine ho_block ?_ | refine ho_label ?_ | refine ho_seq ?_)
          rw [wrapF_i64 (n := (i : Int) + 1) (by omega) (by omega)]
          exact ⟨8 - (i + 1), by omega, i + 1, _, rfl, hi8, rfl, ⟨rfl, rfl, rfl, rfl, rfl, rfl, rfl, rfl, trivial⟩⟩
      | false =>
        repeat (first | refine hoM_nil ?_ | refine m1 rfl rfl rfl rfl rfl ?_ | refine m2 rfl rfl rfl rfl rfl rfl ?_ | refine rL rfl rfl rfl rfl rfl ?_ | refine cB rfl rfl rfl rfl rfl ?_ | refine cA rfl rfl rfl rfl rfl ?_ | refine mB rfl rfl rfl rfl rfl ?_ | refine mL rfl rfl rfl rfl rfl ?_ | refine m3 rfl rfl rfl rfl rfl rfl rfl ?_ | refine aS rfl rfl rfl rfl rfl nofun ?_ | refine mS rfl rfl rfl rfl rfl rfl rfl rfl ?_ | refine gT rfl rfl rfl ?_ | refine gF rfl rfl rfl rfl ?_ | refine gU rfl rfl rfl ?_ | refine hs_text rfl ?_ | refine ho_text rfl ?_ | refine hs_draw rfl (by kernel_rfl) ?_ | refine ho_draw rfl (by kernel_rfl) ?_ | refine es_n ?_ | refine es_x ?_ | refine es_r ?_ | refine eb_n ?_ | refine eb_r ?_ | refine eb_s ?_ | refine eb_x rfl ?_ | refine el_x ?_ | refine el_r ?_ | refine ho_skip ?_ | refine ho_ret ?_ | refine ho_exit ?_ | refine ho_block ?_ | refine ho_label ?_ | refine ho_seq ?_)
        rw [wrapF_i64 (n := (i : Int) + 1) (by omega) (by omega)]
        exact ⟨8 - (i + 1), by omega, i + 1, _, rfl, hi8, rfl, ⟨rfl, rfl, rfl, rfl, rfl, rfl, rfl, rfl, trivial⟩⟩
    · have hi8 : i = 8 := by have := of_decide_eq_false e; omega
      cases g with
      | true =>
        generalize hq : decide (u ≠ 0) = q at hs ⊢
        repeat (first | refine hoM_nil ?_ | refine m1 rfl rfl rfl rfl rfl ?_ | refine m2 rfl rfl rfl rfl rfl rfl ?_ | refine rL rfl rfl rfl rfl rfl ?_ | refine cB rfl rfl rfl rfl rfl ?_ | refine cA rfl rfl rfl rfl rfl ?_ | refine mB rfl rfl rfl rfl rfl ?_ | refine mL rfl rfl rfl rfl rfl ?_ | refine m3 rfl rfl rfl rfl rfl rfl rfl ?_ | refine aS rfl rfl rfl rfl rfl nofun ?_ | refine mS rfl rfl rfl rfl rfl rfl rfl rfl ?_ | refine gT rfl rfl rfl ?_ | refine gF rfl rfl rfl rfl ?_ | refine gU rfl rfl rfl ?_ | refine hs_text rfl ?_ | refine ho_text rfl ?_ | refine hs_draw rfl (by kernel_rfl) ?_ | refine ho_draw rfl (by kernel_rfl) ?_ | refine es_n ?_ | refine es_x ?_ | refine es_r ?_ | refine eb_n ?_ | refine eb_r ?_ | refine eb_s ?_ | refine eb_x rfl ?_ | refine el_x ?_ | refine el_r ?_ | refine ho_skip ?_ | refine ho_ret ?_ | refine ho_exit ?_ | refine ho_block ?_ | refine ho_label ?_ | refine ho_seq ?_)
        rw [show (q == q) = true from by cases q <;> rfl]
        repeat (first | refine hoM_nil ?_ | refine m1 rfl rfl rfl rfl rfl ?_ | refine m2 rfl rfl rfl rfl rfl rfl ?_ | refine rL rfl rfl rfl rfl rfl ?_ | refine cB rfl rfl rfl rfl rfl ?_ | refine cA rfl rfl rfl rfl rfl ?_ | refine mB rfl rfl rfl rfl rfl ?_ | refine mL rfl rfl rfl rfl rfl ?_ | refine m3 rfl rfl rfl rfl rfl rfl rfl ?_ | refine aS rfl rfl rfl rfl rfl nofun ?_ | refine mS rfl rfl rfl rfl rfl rfl rfl rfl ?_ | refine gT rfl rfl rfl ?_ | refine gF rfl rfl rfl rfl ?_ | refine gU rfl rfl rfl ?_ | refine hs_text rfl ?_ | refine ho_text rfl ?_ | refine hs_draw rfl (by kernel_rfl) ?_ | refine ho_draw rfl (by kernel_rfl) ?_ | refine es_n ?_ | refine es_x ?_ | refine es_r ?_ | refine eb_n ?_ | refine eb_r ?_ | refine eb_s ?_ | refine eb_x rfl ?_ | refine el_x ?_ | refine el_r ?_ | refine ho_skip ?_ | refine ho_ret ?_ | refine ho_exit ?_ | refine ho_block ?_ | refine ho_label ?_ | refine ho_seq ?_)
        rw [show decide (u = u) = true from decide_eq_true rfl]
        repeat (first | refine hoM_nil ?_ | refine m1 rfl rfl rfl rfl rfl ?_ | refine m2 rfl rfl rfl rfl rfl rfl ?_ | refine rL rfl rfl rfl rfl rfl ?_ | refine cB rfl rfl rfl rfl rfl ?_ | refine cA rfl rfl rfl rfl rfl ?_ | refine mB rfl rfl rfl rfl rfl ?_ | refine mL rfl rfl rfl rfl rfl ?_ | refine m3 rfl rfl rfl rfl rfl rfl rfl ?_ | refine aS rfl rfl rfl rfl rfl nofun ?_ | refine mS rfl rfl rfl rfl rfl rfl rfl rfl ?_ | refine gT rfl rfl rfl ?_ | refine gF rfl rfl rfl rfl ?_ | refine gU rfl rfl rfl ?_ | refine hs_text rfl ?_ | refine ho_text rfl ?_ | refine hs_draw rfl (by kernel_rfl) ?_ | refine ho_draw rfl (by kernel_rfl) ?_ | refine es_n ?_ | refine es_x ?_ | refine es_r ?_ | refine eb_n ?_ | refine eb_r ?_ | refine eb_s ?_ | refine eb_x rfl ?_ | refine el_x ?_ | refine el_r ?_ | refine ho_skip ?_ | refine ho_ret ?_ | refine ho_exit ?_ | refine ho_block ?_ | refine ho_label ?_ | refine ho_seq ?_)
        refine ⟨_, rfl, _, rfl, ?_⟩
        have e5 : (q == !decide (u = 0)) = true := by rw [← hq, decide_not]; simp
        rw [← e5] at k
        exact k
      | false =>
        repeat (first | refine hoM_nil ?_ | refine m1 rfl rfl rfl rfl rfl ?_ | refine m2 rfl rfl rfl rfl rfl rfl ?_ | refine rL rfl rfl rfl rfl rfl ?_ | refine cB rfl rfl rfl rfl rfl ?_ | refine cA rfl rfl rfl rfl rfl ?_ | refine mB rfl rfl rfl rfl rfl ?_ | refine mL rfl rfl rfl rfl rfl ?_ | refine m3 rfl rfl rfl rfl rfl rfl rfl ?_ | refine aS rfl rfl rfl rfl rfl nofun ?_ | refine mS rfl rfl rfl rfl rfl rfl rfl rfl ?_ | refine gT rfl rfl rfl ?_ | refine gF rfl rfl rfl rfl ?_ | refine gU rfl rfl rfl ?_ | refine hs_text rfl ?_ | refine ho_text rfl ?_ | refine hs_draw rfl (by kernel_rfl) ?_ | refine ho_draw rfl (by kernel_rfl) ?_ | refine es_n ?_ | refine es_x ?_ | refine es_r ?_ | refine eb_n ?_ | refine eb_r ?_ | refine eb_s ?_ | refine eb_x rfl ?_ | refine el_x ?_ | refine el_r ?_ | refine ho_skip ?_ | refine ho_ret ?_ | refine ho_exit ?_ | refine ho_block ?_ | refine ho_label ?_ | refine ho_seq ?_)
        exact ⟨_, rfl, _, rfl, k⟩
end Go.Am
