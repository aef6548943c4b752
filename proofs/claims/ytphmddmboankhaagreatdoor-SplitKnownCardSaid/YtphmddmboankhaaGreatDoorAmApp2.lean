/- append: the machine's answer is the model's. -/
import Derived.Test.YtphmddmboankhaaGreatDoorAmAppend
namespace Go.Am
section
variable {cfg : Cfg} {G : (Nat → Nat → Option Value) → Prop} {N0 : Nat} {s : St} {h : AHeap} {w : World}
/-! ### 24. An object under a new number -/
def St.alias (s : St) (id b : Nat) : St := ⟨fun i => if i = id then some b else s.mem i, s.geo, s.imm⟩
theorem Inv.rename (hi : Inv cfg G N0 s h w) {id b : Nat} {o : AObj} (hg : h.get id = some o) (hm : s.mem id = some b) {h' : AHeap} (hget : ∀ i, h'.get i = if i = h.next then some o else if i = id then none else h.get i) (hnext : h'.next = h.next + 1) :
    Inv cfg G N0 (s.alias h.next b) h' w ∧ Keep s h w (s.alias h.next b) h' w := by
  have hlt : id < h.next := Nat.lt_of_not_le fun hle => by rw [hi.fresh _ hle] at hm; cases hm
  have hmem : ∀ i, (s.alias h.next b).mem i = if i = h.next then some b else s.mem i := fun _ => rfl
  have hext : Ext s (s.alias h.next b) := ⟨fun i k hk => by
    rw [hmem]
    by_cases e : i = h.next
    · subst e; rw [hi.fresh _ (Nat.le_refl _)] at hk; cases hk
    · rw [if_neg e]; exact hk, fun _ _ hk => hk, fun _ _ _ hk => hk⟩
  have hsome : ∀ i, h'.get i ≠ none → i = h.next ∨ (i ≠ h.next ∧ i ≠ id ∧ h.get i ≠ none) := fun i hne => by
    rw [hget] at hne
    by_cases e : i = h.next
    · exact .inl e
    · rw [if_neg e] at hne
      by_cases e2 : i = id
      · rw [if_pos e2] at hne; exact absurd rfl hne
      · rw [if_neg e2] at hne; exact .inr ⟨e, e2, hne⟩
  obtain ⟨b', hm', hN, ho⟩ := hi.obj id o hg
  rw [hm] at hm'
  cases hm'
  refine ⟨⟨?_, ?_, ?_, ?_, hi.geolt, hi.imm, ?_, hi.glob, hi.old⟩, ⟨⟨rfl, rfl, rfl, Nat.le_refl _, fun _ _ _ => rfl, fun _ _ _ h => h, fun _ _ => rfl, ?_, hext⟩, fun i hi => by rw [hmem, if_neg (by omega)], by omega⟩⟩
  · intro i o' hgi
    rw [hget] at hgi
    by_cases e : i = h.next
    · rw [if_pos e] at hgi
      cases hgi
      exact ⟨b, by rw [hmem, if_pos e], hN, ho.ext hext⟩
    · rw [if_neg e] at hgi
      by_cases e2 : i = id
      · rw [if_pos e2] at hgi; cases hgi
      · rw [if_neg e2] at hgi
        obtain ⟨k, hk, hN', ho'⟩ := hi.obj i o' hgi
        exact ⟨k, hext.mem _ _ hk, hN', ho'.ext hext⟩
  · intro i j k hgi hgj hmi hmj
    rw [hmem] at hmi hmj
    rcases hsome i hgi with ei | ⟨ei, ei2, hgi'⟩ <;> rcases hsome j hgj with ej | ⟨ej, ej2, hgj'⟩
    · rw [ei, ej]
    · rw [if_pos ei] at hmi; rw [if_neg ej] at hmj
      cases hmi
      exact absurd (hi.inj j id b hgj' (by rw [hg]; simp) hmj hm) ej2
    · rw [if_neg ei] at hmi; rw [if_pos ej] at hmj
      cases hmj
      exact absurd (hi.inj i id b hgi' (by rw [hg]; simp) hmi hm) ei2
    · rw [if_neg ei] at hmi; rw [if_neg ej] at hmj
      exact hi.inj i j k hgi' hgj' hmi hmj
  · intro i hle
    rw [hmem, if_neg (by omega)]
    exact hi.fresh i (by omega)
  · intro i k hk
    rw [hmem] at hk
    by_cases e : i = h.next
    · rw [if_pos e] at hk; cases hk; exact hi.memlt _ _ hm
    · rw [if_neg e] at hk; exact hi.memlt _ _ hk
  · intro i k o' hgi hmi
    rw [hmem] at hmi
    rcases hsome i hgi with e | ⟨e, e2, hgi'⟩
    · rw [if_pos e] at hmi; cases hmi
      exact hi.apart id b o' (by rw [hg]; simp) hm
    · rw [if_neg e] at hmi
      exact hi.apart i k o' hgi' hmi
  · rintro k ⟨i, hgi, hmi⟩
    rw [hmem] at hmi
    rcases hsome i hgi with e | ⟨e, e2, hgi'⟩
    · rw [if_pos e] at hmi; cases hmi
      exact .inl ⟨id, by rw [hg]; simp, hm⟩
    · rw [if_neg e] at hmi
      exact .inl ⟨i, hgi', hmi⟩
/-! ### 25. append -/
theorem Inv.extBorn (hi : Inv cfg G N0 s h w) (g : Option (Nat × Nat)) : Ext s (s.born h.next w.heap.size g) := by
  refine ⟨fun i b hm => ?_, fun b k hg => ?_, fun _ _ _ h => h⟩
  · show (if i = h.next then some w.heap.size else s.mem i) = some b
    by_cases e : i = h.next
    · subst e; rw [hi.fresh _ (Nat.le_refl _)] at hm; cases hm
    · rw [if_neg e]; exact hm
  · show (if b = w.heap.size then g else s.geo b) = some k
    by_cases e : b = w.heap.size
    · subst e; have := hi.geolt _ _ hg; omega
    · rw [if_neg e]; exact hg
/-- A row grown anew. -/
theorem grow_sound (hi : Inv cfg G N0 s h w) {e : TypeId} {j : TI} {info : TypeInfo} {d : TypeDesc} {z : Value} (hj : cfg.ty e = some j) (hf : TyF cfg.P e j info d z) (hz : j.zero.cells.length = j.size) {old new : List AV} {OLD NEW : Array Value} (ho : LRel s old OLD.toList) (hn : LRel s new NEW.toList)
    {sLen n : Nat} (h1 : old.length = sLen * j.size) (h2 : new.length = n * j.size) {cap : Nat} (hcap : sLen + n ≤ cap) (dn : Nat) :
    Post cfg G N0 s h w (.sl h.next 0 (sLen + n) (.rest j.size)) (h.new (.cells (old ++ new) e)) (.slice (some ⟨w.heap.size, 0, none⟩) (sLen + n) cap)
      { w with drawn := dn, heap := w.heap.push (.cells (OLD ++ NEW ++ Builtin.zeroCells z.cells (cap - (sLen + n))) e) } := by
  have hz2 : z.cells.size = j.size := by
    have := (absV_rel s hf.zabs).cells.length
    simp only [Array.length_toList] at this
    omega
  have hl1 := ho.length
  have hl2 := hn.length
  simp only [Array.length_toList] at hl1 hl2
  have hsz : ((OLD.toList ++ NEW.toList) ++ (Builtin.zeroCells z.cells (cap - (sLen + n))).toList).length = cap * j.size := by
    simp only [List.length_append, Array.length_toList, Builtin.zeroCells, Array.size_map, Array.size_range, hz2, hl1, hl2, h1, h2]
    rw [Nat.sub_mul, Nat.add_mul]
    have : (sLen + n) * j.size ≤ cap * j.size := Nat.mul_le_mul_right _ hcap
    rw [Nat.add_mul] at this
    omega
  have := hi.new (w' := { w with drawn := dn, heap := w.heap.push (.cells (OLD ++ NEW ++ Builtin.zeroCells z.cells (cap - (sLen + n))) e) }) rfl (ob := .cells (old ++ new) e) (g := some (j.size, ((OLD.toList ++ NEW.toList) ++ (Builtin.zeroCells z.cells (cap - (sLen + n))).toList).length))
    (orel_new (e' := e) (fz := (0, 0)) (by congr 2; apply Array.toList_inj.1; simp) ((ho.append hn).ext (hi.extBorn _)) hj (fun _ _ h => absurd h.2 (Nat.not_lt_zero _))) rfl rfl rfl
  refine ⟨_, this.1, this.2, ?_⟩
  simp only [VRel, CapRel]
  exact ⟨_, cap, born_mem _ _ _ _, rfl, hcap, _, born_geo _ _ _ _, by rw [hsz]; omega⟩
theorem aappend_sound (hc : CfgTy cfg) (hi : Inv cfg G N0 s h w) {st xt : TypeId} {x y : AV} {X Y : Value} (hx : VRel s x X) (hy : VRel s y Y) {v : AV} {h' : AHeap} (ha : aappend cfg st xt x y h = some (v, h')) (ty : TypeId) :
    ∃ V w', (Builtin.append_ #[st, xt] ty #[X, Y]).run cfg.P w = .ok V w' ∧ Post cfg G N0 s h w v h' V w' := by
  unfold aappend at ha
  split at ha
  rotate_left
  · cases ha
  rename_i i ht
  obtain ⟨info, d, z, hf⟩ := hc.facts ht
  split at ha
  rotate_left
  · cases ha
  rename_i e hk
  rw [hf.kd] at hk; cases tk_slice hk
  split at ha
  rotate_left
  · cases ha
  rename_i j hj
  obtain ⟨info', d', z', hf'⟩ := hc.facts hj
  cases hb0 : (Nat.beq j.size 0 || !Nat.beq j.zero.cells.length j.size) with
  | true => rw [hb0] at ha; cases ha
  | false =>
  rw [hb0] at ha
  simp only [Bool.or_eq_false_iff, beq_false, Bool.not_eq_false', beq_true] at hb0
  obtain ⟨hpos, hzl⟩ := hb0
  simp only [cond_false] at ha
  split at ha
  rotate_left
  · cases ha
  rename_i new n hap
  obtain ⟨zeros, hxt, hN, hread⟩ := appended_sound (G := G) (N0 := N0) hc hf' hy hap
  cases hb1 : (allOne new && Nat.beq new.length (n * j.size)) with
  | false => rw [hb1] at ha; cases ha
  | true =>
  rw [hb1] at ha
  simp only [Bool.and_eq_true, beq_true] at hb1
  obtain ⟨hone, hnl⟩ := hb1
  simp only [cond_true] at ha
  have hdrew : Inv cfg G N0 s h w.drew := hi.drewN 1
  obtain ⟨NEW, hr, hrel⟩ := hread w hi
  obtain ⟨NEW2, hr2, hrel2⟩ := hread w.drew hdrew
  have nil : ∀ (a : Option Addr) (u : AV), VRel s u (.slice a 0 0) → (bif Nat.beq n 0 then some (u, h) else bif Nat.ble (n * j.bytes) 140737488355328 && Nat.ble n 9223372036854775807 then some (.sl h.next 0 n (.rest j.size), h.new (.cells new e)) else none) = some (v, h') →
      ∃ V w', (Builtin.append_ #[st, xt] ty #[.slice a 0 0, Y]).run cfg.P w = .ok V w' ∧ Post cfg G N0 s h w v h' V w' := by
    intro a u hu ha
    have hrun := run_append hf.desc hf' hxt hN a 0 0 ty w
    cases hn : Nat.beq n 0 with
    | true =>
      rw [hn] at ha
      cases ha
      have hn := beq_true.1 hn
      subst hn
      have hnew : NEW.toList = [] := by
        have := hrel.length
        rw [hnl] at this
        exact List.length_eq_zero_iff.1 (by omega)
      refine ⟨.slice a 0 0, w, ?_, s, hi, Keep.refl _ _ _, hu⟩
      rw [hrun.1 (Nat.le_refl _), hr]
      cases a with
      | none => rfl
      | some a => simp only [Result.andThen_ok, hnew, storeCells, Sem.run_pure, Nat.add_zero]
    | false =>
      rw [hn] at ha
      simp only [cond_false] at ha
      have hn := beq_false.1 hn
      cases hb : (Nat.ble (n * j.bytes) 140737488355328 && Nat.ble n 9223372036854775807) with
      | false => rw [hb] at ha; cases ha
      | true =>
        rw [hb] at ha
        cases ha
        simp only [Bool.and_eq_true, ble_true] at hb
        have hfc : (Builtin.firstCells j.size 0 (.slice a 0 0)).run cfg.P w.drew = .ok #[] w.drew := by
          cases a with
          | none => rfl
          | some a => simp [Builtin.firstCells, loadCells, loadCellsFrom]
        have h0 := hrun.2 (by omega) (by omega) (by rw [Nat.zero_add]; exact hb.1)
        rw [hfc, Result.andThen_ok, hr2] at h0
        have := grow_sound hi hj hf' hzl (old := []) (OLD := #[]) .nil hrel2 (sLen := 0) (by simp) hnl (cap := grownCap w (0 + n) 0 e) (grownCap_ge w (0 + n) 0 e) (w.drawn + 1)
        simp only [Nat.zero_add, List.nil_append] at this h0
        exact ⟨_, _, h0, this⟩
  split at ha
  · simp only [VRel] at hx
    subst hx
    exact nil none .nilsl (by simp only [VRel]) ha
  · simp only [VRel] at hx
    obtain ⟨a, rfl⟩ := hx
    exact nil (some a) .cap0 (by simp only [VRel]; exact ⟨a, rfl⟩) ha
  · -- capacity known
    rename_i id off len c
    have hxs := hx
    simp only [VRel, CapRel] at hx
    obtain ⟨b, c', hm, rfl, hlc, rfl⟩ := hx
    split at ha
    · rename_i cs e' hg
      have hrun := run_append hf.desc hf' hxt hN (some ⟨b, off, none⟩) len c' ty w
      cases hfit : Nat.ble (len + n) c' with
      | true =>
        rw [hfit] at ha
        simp only [cond_true] at ha
        cases hb : Nat.ble (off + (len + n) * j.size) cs.length with
        | false => rw [hb] at ha; cases ha
        | true =>
          rw [hb] at ha
          cases ha
          have hfit := ble_true.1 hfit
          have hb := ble_true.1 hb
          rw [Nat.add_mul] at hb
          obtain ⟨_, hm', _, cv, rest, _, _, _, _, hlr, _, hgeo, _⟩ := hi.obj id _ hg
          rw [hm] at hm'; cases hm'
          have hl2 := hlr.length
          obtain ⟨w', hw, hI, hK⟩ := write_sound (cs' := cs.take (off + len * j.size) ++ new ++ cs.drop (off + (len + n) * j.size)) hi hg hm hrel hone (o := off + len * j.size) ⟨_, _, hgeo, by simp; omega⟩ (.inl ⟨by omega, by rw [hnl, Nat.add_mul, Nat.add_assoc]⟩)
          refine ⟨.slice (some ⟨b, off, none⟩) (len + n) c', w', ?_, s, hI, hK, ?_⟩
          · rw [hrun.1 hfit, hr, Result.andThen_ok]
            simp only [addr_add, hw, Result.andThen_ok]
          · simp only [VRel, CapRel]
            exact ⟨b, c', hm, rfl, hfit, rfl⟩
      | false =>
        rw [hfit] at ha
        simp only [cond_false] at ha
        have hfit : ¬ (len + n ≤ c') := fun e => by rw [ble_true.2 e] at hfit; cases hfit
        cases hb : (Nat.ble (off + len * j.size) cs.length && Nat.ble ((len + n) * j.bytes) 140737488355328 && Nat.ble (len + n) 9223372036854775807) with
        | false => rw [hb] at ha; cases ha
        | true =>
          rw [hb] at ha
          cases ha
          simp only [Bool.and_eq_true, ble_true] at hb
          have hrc : rowCells j.size (.sl id off len (.known c')) h = some ((cs.drop off).take (len * j.size)) := by
            have hb' : Nat.beq ((cs.drop off).take (len * j.size)).length (len * j.size) = true := beq_true.2 (by rw [List.length_take, List.length_drop]; omega)
            unfold rowCells
            simp only [hg, hb', cond_true]
          obtain ⟨a, n0, c0, OLD, he, _, hro, hrelo, _⟩ := firstCells_rows hdrew hxs hrc
          cases he
          have h0 := hrun.2 (by omega) hb.2 hb.1.2
          rw [hro, Result.andThen_ok, hr2] at h0
          have := grow_sound hi hj hf' hzl hrelo hrel2 (sLen := len) (by rw [List.length_take, List.length_drop]; omega) hnl (cap := grownCap w (len + n) c' e) (grownCap_ge w (len + n) c' e) (w.drawn + 1)
          exact ⟨_, _, h0, this⟩
    · cases ha
  · -- the rest of its block
    rename_i id off len q
    have hxs := hx
    simp only [VRel, CapRel] at hx
    obtain ⟨b, c', hm, rfl, hlc, nn, hgeo0, hnn⟩ := hx
    split at ha
    · rename_i cs e' hg
      have hrun := run_append hf.desc hf' hxt hN (some ⟨b, off, none⟩) len c' ty w
      obtain ⟨_, hm', _, cv, rest, e2, fz2, i2, hblk, hlr, hi2, hgeo, hfz⟩ := hi.obj id _ hg
      rw [hm] at hm'; cases hm'
      rw [hgeo0] at hgeo
      cases hgeo
      have hl2 := hlr.length
      cases hin : (Nat.beq i2.size j.size && Nat.ble (off + (len + n) * j.size) cs.length) with
      | true =>
        rw [hin] at ha
        cases ha
        simp only [Bool.and_eq_true, beq_true, ble_true] at hin
        obtain ⟨hq, hb⟩ := hin
        rw [hq] at hnn
        have hfit : len + n ≤ c' := by
          have h1 : (len + n) * j.size ≤ c' * j.size := by simp at hnn; omega
          exact Nat.le_of_mul_le_mul_right h1 (by omega)
        rw [Nat.add_mul] at hb
        obtain ⟨w', hw, hI, hK⟩ := write_sound (cs' := cs.take (off + len * j.size) ++ new ++ cs.drop (off + (len + n) * j.size)) hi hg hm hrel hone (o := off + len * j.size) ⟨_, _, hgeo0, by simp; omega⟩ (.inl ⟨by omega, by rw [hnl, Nat.add_mul, Nat.add_assoc]⟩)
        refine ⟨.slice (some ⟨b, off, none⟩) (len + n) c', w', ?_, s, hI, hK, ?_⟩
        · rw [hrun.1 hfit, hr, Result.andThen_ok]
          simp only [addr_add, hw, Result.andThen_ok]
        · simp only [VRel, CapRel]
          exact ⟨b, c', hm, rfl, hfit, _, hgeo0, by rw [hq]; exact hnn⟩
      | false =>
        rw [hin] at ha
        simp only [cond_false] at ha
        cases hb : (Nat.beq off 0 && Nat.beq (len * j.size) cs.length && Nat.beq e e' && Nat.beq i2.size j.size && Nat.ble ((len + n) * j.bytes) 140737488355328 && Nat.ble (len + n) 9223372036854775807) with
        | false => rw [hb] at ha; cases ha
        | true =>
          rw [hb] at ha
          cases ha
          simp only [Bool.and_eq_true, beq_true, ble_true] at hb
          obtain ⟨⟨⟨⟨⟨rfl, hcl⟩, rfl⟩, hq⟩, hbytes⟩, hmax⟩ := hb
          rw [hq] at hnn
          by_cases hfit : len + n ≤ c'
          · -- in place
            have hroom : cs.length + new.length ≤ (cv ++ rest).length := by
              have h1 : (len + n) * j.size ≤ c' * j.size := Nat.mul_le_mul_right _ hfit
              rw [Nat.add_mul] at h1
              omega
            obtain ⟨w', hw, hI, hK⟩ := write_sound hi hg hm hrel hone (o := cs.length) ⟨_, _, hgeo0, hroom⟩ (.inr ⟨rfl, rfl⟩)
            have hgp : (h.put id (.cells (cs ++ new) e)).get id = some (.cells (cs ++ new) e) := by rw [AHeap.get_put, if_pos rfl]
            have hlt : id < h.next := Nat.lt_of_not_le fun hle => by rw [hi.fresh _ hle] at hm; cases hm
            have hren := hI.rename hgp hm (h' := (h.drop id).new (.cells (cs ++ new) e)) (fun i => by
              rw [AHeap.get_new, AHeap.get_drop, AHeap.get_put]
              show (if i = h.next then _ else _) = (if i = h.next then _ else _)
              by_cases e1 : i = h.next
              · rw [if_pos e1, if_pos e1]
              · rw [if_neg e1, if_neg e1]
                by_cases e2 : i = id
                · rw [if_pos e2, if_pos e2]
                · rw [if_neg e2, if_neg e2, if_neg e2]) rfl
            refine ⟨.slice (some ⟨b, 0, none⟩) (len + n) c', w', ?_, _, hren.1, hK.trans hren.2, ?_⟩
            · rw [hrun.1 hfit, hr, Result.andThen_ok]
              simp only [addr_add, Nat.zero_add, hcl, hw, Result.andThen_ok]
            · simp only [VRel, CapRel]
              refine ⟨b, c', ?_, rfl, hfit, _, hgeo0, by rw [hq]; exact hnn⟩
              exact if_pos rfl
          · -- grown
            have hdrop := hi.drop id
            have hrc : rowCells j.size (.sl id 0 len (.rest i2.size)) h = some cs := by
              unfold rowCells
              simp only [hg, List.drop_zero, hcl, List.take_length, Nat.beq_refl, cond_true]
            obtain ⟨a, n0, c0, OLD, he, _, hro, hrelo, _⟩ := firstCells_rows hdrew hxs hrc
            cases he
            have h0 := hrun.2 (by omega) hmax hbytes
            rw [hro, Result.andThen_ok, hr2] at h0
            obtain ⟨s', h1, h2, h3⟩ := grow_sound hdrop.1 hj hf' hzl hrelo hrel2 (sLen := len) hcl.symm hnl (cap := grownCap w (len + n) c' e) (grownCap_ge w (len + n) c' e) (w.drawn + 1)
            exact ⟨_, _, h0, s', h1, hdrop.2.trans h2, by rw [hq]; exact h3⟩
    · cases ha
  · cases ha
end
end Go.Am
