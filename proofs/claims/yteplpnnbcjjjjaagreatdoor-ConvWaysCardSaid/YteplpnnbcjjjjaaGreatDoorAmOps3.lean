/- Operations that touch no memory, the last part: values built of parts, slices of slices; all of them together. -/
import Derived.Test.YteplpnnbcjjjjaaGreatDoorAmOps2
namespace Go.Am

section
variable {cfg : Cfg} {s : St}
/-! ### 13. Values built of parts -/
def PRel (s : St) : List (Nat × AV) → List (Nat × Value) → Prop
  | [], ps => ps = []
  | p :: l, ps => ∃ v m, ps = (p.1, v) :: m ∧ VRel s p.2 v ∧ PRel s l m
theorem evalParts_rel {fr : Fr} {a : Act} (h : FRel s fr a.tmps) : ∀ {l : List (Nat × Operand)} {vs : List (Nat × AV)}, evalParts fr l = some vs → PRel s vs (l.map fun (i, x) => (i, a.eval x))
  | [], _, hl => by cases hl; rfl
  | (i, x) :: l, _, hl => by
    unfold evalParts at hl
    split at hl
    · rename_i v m hv hm
      cases hl
      exact ⟨_, _, rfl, evalA_rel h hv, evalParts_rel h hm⟩
    · cases hl
theorem take_set_drop (l : List Value) (i : Nat) (x : Value) (h : i < l.length) : l.set i x = l.take i ++ x :: l.drop (i + 1) := List.set_eq_take_append_cons_drop .. |>.trans (by rw [if_pos h])
theorem fold_set : ∀ (xs : List Value) (off k : Nat) (cs : Array Value), off + k + xs.length ≤ cs.size →
    ((xs.zipIdx k).foldl (fun (c : Array Value) (p : Value × Nat) => c.setIfInBounds (off + p.2) p.1) cs).toList = cs.toList.take (off + k) ++ xs ++ cs.toList.drop (off + k + xs.length)
  | [], off, k, cs, _ => by simp
  | x :: xs, off, k, cs, h => by
    simp only [List.length_cons] at h
    rw [List.zipIdx_cons, List.foldl_cons, fold_set xs off (k + 1) _ (by simp; omega)]
    simp only [Array.toList_setIfInBounds]
    have hlt : off + k < cs.toList.length := by simp; omega
    rw [take_set_drop _ _ _ hlt]
    have e1 : off + (k + 1) = (cs.toList.take (off + k)).length + 1 := by rw [List.length_take]; omega
    have e2 : off + (k + 1) + xs.length = (cs.toList.take (off + k)).length + (xs.length + 1) := by rw [List.length_take]; omega
    rw [e2, List.drop_length_add_append, e1, List.take_length_add_append]
    simp only [List.drop_succ_cons, List.take_succ_cons, List.take_zero, List.drop_drop, List.length_cons]
    rw [show off + k + 1 + xs.length = off + k + (xs.length + 1) by omega]
    simp
theorem cells_rel {a : AV} {v : Value} (h : VRel s a v) : LRel s a.cells v.cells.toList := h.cells
theorem afill_sound {place placeM : Nat → Option (Nat × Nat)} (hp : ∀ i r, place i = some r → placeM i = some r) : ∀ (parts : List (Nat × AV)) (ps : List (Nat × Value)) (cells : List AV) (cs : Array Value) (r : List AV),
    PRel s parts ps → LRel s cells cs.toList → afill place cells parts = some r → ∃ R : Array Value, Instr.fill placeM cs ps = some R ∧ LRel s r R.toList
  | [], ps, cells, cs, r, hps, hl, h => by
    simp only [PRel] at hps; subst hps
    simp only [afill] at h; cases h
    exact ⟨cs, rfl, hl⟩
  | (i, v) :: parts, ps, cells, cs, r, hps, hl, h => by
    simp only [PRel] at hps
    obtain ⟨V, m, rfl, hv, hm⟩ := hps
    unfold afill at h
    split at h
    · cases h
    · rename_i off size hpl
      simp only at h
      cases hb : (Nat.beq v.cells.length size && Nat.ble (off + v.cells.length) cells.length && v.cells.all AV.one) with
      | false => rw [hb] at h; cases h
      | true =>
        rw [hb] at h
        simp only [Bool.and_eq_true, beq_true, ble_true] at hb
        simp only [cond_true] at h
        have hvl := hv.cells.length
        have hcl := hl.length
        simp only [Array.length_toList] at hvl hcl
        have hfold := fold_set V.cells.toList off 0 cs (by simp only [Array.length_toList]; omega)
        have hrel : LRel s (cells.take off ++ v.cells ++ cells.drop (off + v.cells.length)) ((V.cells.toList.zipIdx 0).foldl (fun (c : Array Value) (p : Value × Nat) => c.setIfInBounds (off + p.2) p.1) cs).toList := by
          rw [hfold]
          simp only [Nat.add_zero, Array.length_toList]
          rw [hvl]
          exact ((hl.take _).append hv.cells).append (hl.drop _)
        obtain ⟨R, hR, hr⟩ := afill_sound hp parts m _ _ r hm hrel h
        refine ⟨R, ?_, hr⟩
        unfold Instr.fill
        rw [hp i _ hpl]
        simp only
        have hno : ¬ ((V.cells.size ≠ size || decide (off + V.cells.size > cs.size)) = true) := by
          simp only [ne_eq, Bool.or_eq_true, decide_eq_true_eq, not_or, Decidable.not_not]
          omega
        rw [if_neg hno]
        have : (V.cells.zipIdx.foldl (fun (cs : Array Value) (p : Value × Nat) => cs.setIfInBounds (off + p.2) p.1) cs) = (V.cells.toList.zipIdx 0).foldl (fun (c : Array Value) (p : Value × Nat) => c.setIfInBounds (off + p.2) p.1) cs := by
          rw [← Array.foldl_toList, Array.toList_zipIdx]
        rw [this]
        exact hR
theorem structPlaces (hc : CfgTy cfg) : ∀ (l : List Field), fieldsKnown cfg (l.map fun f => (f.offset, f.type)) = true →
    ∃ places, l.mapM (fun f => (cfg.P.info? f.type).map fun i => (f.offset, i.size)) = some places ∧ ∀ i r, structPlace cfg (l.map fun f => (f.offset, f.type)) i = some r → places[i]? = some r
  | [], _ => ⟨[], rfl, fun i r h => by unfold structPlace fieldAt at h; simp at h⟩
  | f :: l, hk => by
    unfold fieldsKnown at hk
    simp only [List.map_cons, List.all_cons, Bool.and_eq_true] at hk
    obtain ⟨places, hm, hp⟩ := structPlaces hc l hk.2
    obtain ⟨j, hj⟩ := Option.isSome_iff_exists.1 hk.1
    obtain ⟨info, d, z, hf⟩ := hc.facts hj
    refine ⟨(f.offset, j.size) :: places, ?_, ?_⟩
    · rw [List.mapM_cons, hm, hf.hinfo, hf.hsize]; rfl
    · intro i r h
      cases i with
      | zero =>
        unfold structPlace fieldAt at h
        simp only [List.map_cons, List.getElem?_cons_zero, hj, Option.map_some] at h
        cases h; rfl
      | succ i =>
        rw [List.getElem?_cons_succ]
        exact hp i r h
theorem abuild_sound (hc : CfgTy cfg) {t : TypeId} {parts : List (Nat × AV)} {ps : Array (Nat × Value)} (hps : PRel s parts ps.toList) {v : AV} (h : abuild cfg t parts = some v) :
    ∃ V, VRel s v V ∧ ∀ w, (Instr.build t ps).run cfg.P w = .ok V w := by
  unfold abuild at h
  split at h
  · rename_i i ht
    obtain ⟨info, d, z, hf⟩ := hc.facts ht
    have hz : LRel s i.zero.cells z.cells.toList := (absV_rel s hf.zabs).cells
    split at h
    · rename_i fs hk
      rw [hf.kd] at hk
      obtain ⟨a, rfl, rfl⟩ := tk_struct hk
      cases hb : fieldsKnown cfg (a.toList.map fun f => (f.offset, f.type)) with
      | false => rw [hb] at h; cases h
      | true =>
        rw [hb] at h
        obtain ⟨r, hr, rfl⟩ := Option.map_eq_some_iff.1 h
        obtain ⟨places, hm, hp⟩ := structPlaces hc a.toList hb
        obtain ⟨R, hR, hrel⟩ := afill_sound (placeM := (places.toArray[·]?)) (fun i r h => by simpa using hp i r h) parts ps.toList _ z.cells r hps hz hr
        refine ⟨.agg R, by simp only [VRel]; exact ⟨R.toList, by simp, hrel⟩, fun w => run_build w t ps R ?_⟩
        unfold Program.built
        simp only [hf.hinfo, hf.desc, hf.hzero, hm, hR]
    · rename_i n e hk
      rw [hf.kd] at hk
      cases tk_array hk
      split at h
      · rename_i j hj
        obtain ⟨info', d', z', hf'⟩ := hc.facts hj
        obtain ⟨r, hr, rfl⟩ := Option.map_eq_some_iff.1 h
        obtain ⟨R, hR, hrel⟩ := afill_sound (placeM := fun i => some (i * info'.size, info'.size)) (fun i r h => by rw [← hf'.hsize]; exact h) parts ps.toList _ z.cells r hps hz hr
        refine ⟨.agg R, by simp only [VRel]; exact ⟨R.toList, by simp, hrel⟩, fun w => run_build w t ps R ?_⟩
        unfold Program.built
        simp only [hf.hinfo, hf.desc, hf.hzero, hf'.hinfo, hR]
      · cases h
    · cases h
  · cases h

/-! ### 14. Slices of slices -/
/-- An optional value of the one against the other's. -/
def ORelO (s : St) : Option AV → Option Value → Prop
  | none, v => v = none
  | some a, v => ∃ x, v = some x ∧ VRel s a x
theorem evalO_rel {fr : Fr} {a : Act} (h : FRel s fr a.tmps) {x : Option Operand} {v : Option AV} (hx : evalO fr x = some v) : ORelO s v (x.map a.eval) := by
  cases x with
  | none => cases hx; rfl
  | some x =>
    obtain ⟨u, hu, rfl⟩ := Option.map_eq_some_iff.1 hx
    exact ⟨_, rfl, evalA_rel h hu⟩
theorem bnd_some {d n : Nat} {a : AV} {v : Value} (h : bnd d (some a) = some n) (hv : VRel s a v) (y : Nat) (hy : n ≤ y) (code : BoundsCode) (w : World) : (Instr.sliceBound v y code).run cfg.P w = .ok n w := by
  cases a <;> simp only [bnd] at h <;> try cases h
  rename_i k i
  simp only [VRel] at hv
  subst hv
  cases hn : decide (0 ≤ i) with
  | false => rw [hn] at h; cases h
  | true =>
    rw [hn] at h
    have hn := of_decide_eq_true hn
    cases h
    have : i ≤ y := by omega
    unfold Instr.sliceBound
    simp [asIntOf, hn, this]
theorem bounds_ok {dm dh : Nat} {lo hi mx : Option AV} {LO HI MX : Option Value} (hlo : ORelO s lo LO) (hhi : ORelO s hi HI) (hmx : ORelO s mx MX) {l h m : Nat}
    (bl : bnd 0 lo = some l) (bh : bnd dh hi = some h) (bm : bnd dm mx = some m) (len cap : Nat) (b : Bool) (h1 : mx = none → m = cap) (h2 : hi = none → h = len) (h3 : m ≤ cap) (h4 : h ≤ m) (h5 : l ≤ h) (h6 : (hi.isSome || mx.isNone) = true) (w : World) :
    (Instr.sliceBounds b len cap LO HI MX).run cfg.P w = .ok (l, h, m) w := by
  cases mx with
  | none =>
    simp only [ORelO] at hmx; subst hmx
    have e1 := h1 rfl
    subst e1
    cases hi with
    | none =>
      simp only [ORelO] at hhi; subst hhi
      have e2 := h2 rfl
      subst e2
      cases lo with
      | none => simp only [ORelO] at hlo; subst hlo; simp only [bnd] at bl; cases bl; simp [Instr.sliceBounds]
      | some a => obtain ⟨x, rfl, hx⟩ := hlo; simp [Instr.sliceBounds, bnd_some bl hx h h5]
    | some a' =>
      obtain ⟨x', rfl, hx'⟩ := hhi
      cases lo with
      | none => simp only [ORelO] at hlo; subst hlo; simp only [bnd] at bl; cases bl; simp [Instr.sliceBounds, bnd_some bh hx' m h4]
      | some a => obtain ⟨x, rfl, hx⟩ := hlo; simp [Instr.sliceBounds, bnd_some bh hx' m h4, bnd_some bl hx h h5]
  | some a'' =>
    obtain ⟨x'', rfl, hx''⟩ := hmx
    cases hi with
    | none => simp at h6
    | some a' =>
      obtain ⟨x', rfl, hx'⟩ := hhi
      cases lo with
      | none => simp only [ORelO] at hlo; subst hlo; simp only [bnd] at bl; cases bl; simp [Instr.sliceBounds, bnd_some bm hx'' cap h3, bnd_some bh hx' m h4]
      | some a => obtain ⟨x, rfl, hx⟩ := hlo; simp [Instr.sliceBounds, bnd_some bm hx'' cap h3, bnd_some bh hx' m h4, bnd_some bl hx h h5]
theorem run_sliceOf {P : Program} {t e : TypeId} {w : World} (hu : P.underlying t = some (.slice e)) {n : Nat} (hs : ∀ w, (sizeOf e).run P w = .ok n w) {a : Option Addr} {len cap l h m : Nat} {LO HI MX : Option Value}
    (hb : (Instr.sliceBounds true len cap LO HI MX).run P w = .ok (l, h, m) w) :
    (Instr.sliceAt t (.slice a len cap) LO HI MX).run P w = .ok (.slice (if m = l then a else a.map (·.add (l * n))) (h - l) (m - l)) w := by
  unfold Instr.sliceAt Instr.slice
  simp only [Sem.run_bind, Go.run_underlying hu, Result.andThen_ok, hb, hs, Sem.run_pure]
theorem bnd_none {d n : Nat} (h : bnd d none = some n) : n = d := by simp only [bnd] at h; cases h; rfl
theorem bytes_slice (b : List UInt8) (l h : Nat) : (⟨b.toArray⟩ : ByteArray).extract l h = ⟨((b.drop l).take (h - l)).toArray⟩ := by
  apply ByteArray.ext
  rw [ByteArray.data_extract]
  apply Array.toList_inj.1
  simp [List.extract]
theorem aslice_sound (hc : CfgTy cfg) {t : TypeId} {x : AV} {X : Value} (hx : VRel s x X) {lo hi mx : Option AV} {LO HI MX : Option Value} (hlo : ORelO s lo LO) (hhi : ORelO s hi HI) (hmx : ORelO s mx MX)
    {v : AV} (h : aslice cfg t x lo hi mx = some v) : ∃ V, VRel s v V ∧ ∀ w, (Instr.sliceAt t X LO HI MX).run cfg.P w = .ok V w := by
  unfold aslice at h
  split at h
  rotate_left
  · cases h
  rename_i i ht
  obtain ⟨info, d, z, hf⟩ := hc.facts ht
  split at h
  · -- a string
    rename_i b hk
    rw [hf.kd] at hk; cases tk_str hk
    simp only [VRel] at hx
    subst hx
    split at h
    · rename_i l hh bl bh
      cases hb : (Nat.ble hh b.length && Nat.ble l hh) with
      | false => rw [hb] at h; cases h
      | true =>
        rw [hb] at h
        cases h
        simp only [Bool.and_eq_true, ble_true] at hb
        simp only [ORelO] at hmx
        subst hmx
        refine ⟨.string ⟨((b.drop l).take (hh - l)).toArray⟩, by simp only [VRel], fun w => ?_⟩
        have hbd := bounds_ok (cfg := cfg) hlo hhi (mx := none) (MX := none) rfl bl bh (dm := b.length) rfl b.length b.length false (fun _ => rfl) (fun e => by subst e; exact bnd_none bh) (Nat.le_refl _) hb.1 hb.2 (by simp) w
        unfold Instr.sliceAt Instr.slice
        simp only [Sem.run_bind, hf.run_underlying, Result.andThen_ok, Option.isSome_none, Bool.false_eq_true, if_false, Sem.run_pure]
        have e : (⟨b.toArray⟩ : ByteArray).size = b.length := rfl
        rw [e, hbd]
        simp only [Result.andThen_ok, bytes_slice]
    · cases h
  · -- a slice of known capacity
    rename_i e id off len c hk
    rw [hf.kd] at hk; cases tk_slice hk
    simp only [VRel, CapRel] at hx
    obtain ⟨b, c', hm, rfl, hlc, rfl⟩ := hx
    split at h
    · rename_i j m hh l hj bm bh bl
      obtain ⟨info', d', z', hf'⟩ := hc.facts hj
      cases hb : ((hi.isSome || mx.isNone) && Nat.ble m c' && Nat.ble hh m && Nat.ble l hh) with
      | false => rw [hb] at h; cases h
      | true =>
        rw [hb] at h
        cases h
        simp only [Bool.and_eq_true, ble_true] at hb
        refine ⟨_, ?_, fun w => run_sliceOf hf.desc (fun w => hf'.run_sizeOf w) (bounds_ok hlo hhi hmx bl bh bm len c' true (fun e => by subst e; exact bnd_none bm) (fun e => by subst e; exact bnd_none bh) hb.1.1.2 hb.1.2 hb.2 hb.1.1.1 w)⟩
        simp only [VRel, CapRel]
        refine ⟨b, m - l, hm, ?_, by omega, rfl⟩
        by_cases e : m = l
        · rw [if_pos e, beq_true.2 e]; rfl
        · rw [if_neg e, beq_false.2 e]; simp [addr_add]
    · cases h
  · -- a slice of unknown capacity
    rename_i e id off len q hk
    rw [hf.kd] at hk; cases tk_slice hk
    simp only [VRel, CapRel] at hx
    obtain ⟨b, c, hm, rfl, hlc, n, hg, hn⟩ := hx
    split at h
    · rename_i j hh l hj bh bl
      obtain ⟨info', d', z', hf'⟩ := hc.facts hj
      cases hb : (Nat.beq q j.size && Nat.ble hh len && Nat.ble l hh) with
      | false => rw [hb] at h; cases h
      | true =>
        rw [hb] at h
        simp only [Bool.and_eq_true, ble_true, beq_true] at hb
        simp only [cond_true] at h
        have hrun := fun w => run_sliceOf (a := some ⟨b, off, none⟩) (w := w) hf.desc (fun w => hf'.run_sizeOf w) (bounds_ok (cfg := cfg) (mx := none) (MX := none) hlo hhi rfl bl bh (dm := c) rfl len c true (fun _ => rfl) (fun e => by subst e; exact bnd_none bh) (Nat.le_refl _) (by omega) hb.2 (by simp) w)
        simp only [ORelO] at hmx
        subst hmx
        refine ⟨_, ?_, hrun⟩
        cases h0 : Nat.beq l 0 with
        | true =>
          rw [h0] at h
          cases h
          have h0 := beq_true.1 h0
          subst h0
          simp only [VRel, CapRel]
          refine ⟨b, c, hm, ?_, by omega, n, hg, hn⟩
          simp only [Nat.zero_mul, Nat.sub_zero, Option.map_some, addr_add, Nat.add_zero, ite_self]
        | false =>
          rw [h0] at h
          simp only [cond_false] at h
          cases h1 : Nat.beq l hh with
          | true =>
            rw [h1] at h
            cases h
            have h1 := beq_true.1 h1
            subst h1
            simp only [VRel]
            by_cases e : c = l
            · exact ⟨_, _, by rw [Nat.sub_self, if_pos e]⟩
            · exact ⟨_, _, by rw [Nat.sub_self, if_neg e]; rfl⟩
          | false =>
            rw [h1] at h
            cases h
            have h1 := beq_false.1 h1
            have hne : c ≠ l := by omega
            simp only [VRel, CapRel]
            refine ⟨b, c - l, hm, ?_, by omega, n, hg, ?_⟩
            · rw [if_neg hne]; simp [addr_add]
            · rw [hb.1.1, Nat.sub_mul]
              have : l * j.size ≤ c * j.size := Nat.mul_le_mul_right _ (by omega)
              rw [hb.1.1] at hn
              omega
    · rename_i j mx' hh l hj bh bl
      obtain ⟨info', d', z', hf'⟩ := hc.facts hj
      split at h
      · rename_i m bm
        cases hb : (hi.isSome && Nat.ble m len && Nat.ble hh m && Nat.ble l hh) with
        | false => rw [hb] at h; cases h
        | true =>
          rw [hb] at h
          cases h
          simp only [Bool.and_eq_true, ble_true] at hb
          refine ⟨_, ?_, fun w => run_sliceOf hf.desc (fun w => hf'.run_sizeOf w) (bounds_ok hlo hhi hmx bl bh bm len c true (fun e => by cases e) (fun e => by subst e; exact bnd_none bh) (by omega) hb.1.2 hb.2 (by simp [hb.1.1.1]) w)⟩
          simp only [VRel, CapRel]
          refine ⟨b, m - l, hm, ?_, by omega, rfl⟩
          by_cases e : m = l
          · rw [if_pos e, beq_true.2 e]; rfl
          · rw [if_neg e, beq_false.2 e]; simp [addr_add]
      · cases h
    · cases h
  · -- a row at rest
    rename_i e cs len hk
    rw [hf.kd] at hk; cases tk_slice hk
    simp only [VRel] at hx
    obtain ⟨a, c, rfl, hlc, hff, hi'⟩ := hx
    split at h
    · rename_i j m hh l hj bm bh bl
      obtain ⟨info', d', z', hf'⟩ := hc.facts hj
      cases hb : ((hi.isSome || mx.isNone) && Nat.ble m len && Nat.ble hh m && Nat.ble l hh && Nat.beq cs.length (len * j.size)) with
      | false => rw [hb] at h; cases h
      | true =>
        rw [hb] at h
        simp only [Bool.and_eq_true, ble_true, beq_true] at hb
        simp only [cond_true] at h
        have hbd : ∃ M, m ≤ M ∧ (mx ≠ none → M = m) ∧ M ≤ c ∧ ∀ w, (Instr.sliceBounds true len c LO HI MX).run cfg.P w = .ok (l, hh, M) w := by
          cases mx with
          | none =>
            refine ⟨c, by omega, fun e => absurd rfl e, Nat.le_refl _, fun w => ?_⟩
            exact bounds_ok (cfg := cfg) (mx := none) hlo hhi hmx bl bh (dm := c) rfl len c true (fun _ => rfl) (fun e => by subst e; exact bnd_none bh) (Nat.le_refl _) (by omega) hb.1.2 (by simp) w
          | some mm =>
            refine ⟨m, Nat.le_refl _, fun _ => rfl, by omega, fun w => ?_⟩
            exact bounds_ok hlo hhi hmx bl bh bm len c true (fun e => by cases e) (fun e => by subst e; exact bnd_none bh) (by omega) hb.1.1.2 hb.1.2 hb.1.1.1.1 w
        obtain ⟨M, hmM, hMm, hMc, hrun⟩ := hbd
        refine ⟨_, ?_, fun w => run_sliceOf hf.desc (fun w => hf'.run_sizeOf w) (hrun w)⟩
        cases h0 : (mx.isSome && Nat.beq m l) with
        | true =>
          rw [h0] at h
          simp only [cond_true] at h
          simp only [Bool.and_eq_true, beq_true] at h0
          have hM : M = m := hMm (by intro e; subst e; simp at h0)
          cases hcs0 : Nat.beq cs.length 0 with
          | true => rw [hcs0] at h; cases h
          | false =>
            rw [hcs0] at h
            cases h
            rcases hi' with hi' | ⟨b, off, rfl, hi'⟩
            · subst hi'; exact absurd rfl (beq_false.1 hcs0)
            · simp only [VRel]
              refine ⟨⟨b, off, none⟩, ?_⟩
              rw [show hh - l = 0 by omega, show M - l = 0 by omega, if_pos (by omega)]
        | false =>
          rw [h0] at h
          simp only [cond_false] at h
          cases h1 : Nat.beq l hh with
          | true =>
            rw [h1] at h
            simp only [cond_true] at h
            have h1 := beq_true.1 h1
            subst h1
            cases hcs0 : Nat.beq cs.length 0 with
            | true =>
              rw [hcs0] at h
              cases h
              simp only [cond_true, VRel]
              exact ⟨_, _, by rw [Nat.sub_self], by omega, rfl, .inl trivial⟩
            | false =>
              rw [hcs0] at h
              cases h
              rcases hi' with hi' | ⟨b, off, rfl, hi'⟩
              · subst hi'; exact absurd rfl (beq_false.1 hcs0)
              · simp only [cond_false, VRel]
                by_cases e : M = l
                · exact ⟨_, _, by rw [Nat.sub_self, if_pos e]⟩
                · exact ⟨_, _, by rw [Nat.sub_self, if_neg e]; rfl⟩
          | false =>
            rw [h1] at h
            cases h
            have h1 := beq_false.1 h1
            have hne : M ≠ l := by omega
            simp only [VRel]
            refine ⟨_, _, rfl, by omega, hfL_take _ (hfL_drop _ hff), ?_⟩
            rw [if_neg hne]
            rcases hi' with hi' | ⟨b, off, rfl, hi'⟩
            · subst hi'; left; simp
            · right; exact ⟨b, off + l * j.size, by simp [addr_add], (hi'.drop _).take _⟩
    · cases h
  · -- an empty slice that is not nil
    rename_i e hk
    rw [hf.kd] at hk; cases tk_slice hk
    simp only [VRel] at hx
    obtain ⟨a, c, rfl⟩ := hx
    split at h
    · rename_i bm bh bl
      cases hb : ((hi.isSome || mx.isNone) && (cfg.ty e).isSome) with
      | false => rw [hb] at h; cases h
      | true =>
        rw [hb] at h
        cases h
        simp only [Bool.and_eq_true] at hb
        obtain ⟨j, hj⟩ := Option.isSome_iff_exists.1 hb.2
        obtain ⟨info', d', z', hf'⟩ := hc.facts hj
        cases mx with
        | none =>
          refine ⟨_, ?_, fun w => run_sliceOf hf.desc (fun w => hf'.run_sizeOf w) (bounds_ok (mx := none) hlo hhi hmx bl bh (dm := c) rfl 0 c true (fun _ => rfl) (fun _ => rfl) (Nat.le_refl _) (Nat.zero_le _) (Nat.le_refl _) (by simp) w)⟩
          simp only [Option.isSome_none, cond_false, VRel]
          by_cases e : c = 0
          · exact ⟨_, _, by rw [Nat.sub_self, if_pos e]⟩
          · exact ⟨_, _, by rw [Nat.sub_self, if_neg e]; rfl⟩
        | some mm =>
          refine ⟨_, ?_, fun w => run_sliceOf hf.desc (fun w => hf'.run_sizeOf w) (bounds_ok hlo hhi hmx bl bh bm 0 c true (fun e => by cases e) (fun _ => rfl) (Nat.zero_le _) (Nat.le_refl _) (Nat.le_refl _) hb.1 w)⟩
          simp only [Option.isSome_some, cond_true, VRel]
          exact ⟨a, by simp⟩
    · cases h
  · -- a slice of no room
    rename_i e hk
    rw [hf.kd] at hk; cases tk_slice hk
    simp only [VRel] at hx
    obtain ⟨a, rfl⟩ := hx
    split at h
    · rename_i bm bh bl
      cases hb : ((hi.isSome || mx.isNone) && (cfg.ty e).isSome) with
      | false => rw [hb] at h; cases h
      | true =>
        rw [hb] at h
        cases h
        simp only [Bool.and_eq_true] at hb
        obtain ⟨j, hj⟩ := Option.isSome_iff_exists.1 hb.2
        obtain ⟨info', d', z', hf'⟩ := hc.facts hj
        refine ⟨_, ?_, fun w => run_sliceOf hf.desc (fun w => hf'.run_sizeOf w) (bounds_ok hlo hhi hmx bl bh bm 0 0 true (fun _ => rfl) (fun _ => rfl) (Nat.le_refl _) (Nat.le_refl _) (Nat.le_refl _) hb.1 w)⟩
        simp only [VRel]
        exact ⟨a, by simp⟩
    · cases h
  · -- the nil slice
    rename_i e hk
    rw [hf.kd] at hk; cases tk_slice hk
    simp only [VRel] at hx
    subst hx
    split at h
    · rename_i bm bh bl
      cases hb : ((hi.isSome || mx.isNone) && (cfg.ty e).isSome) with
      | false => rw [hb] at h; cases h
      | true =>
        rw [hb] at h
        cases h
        simp only [Bool.and_eq_true] at hb
        obtain ⟨j, hj⟩ := Option.isSome_iff_exists.1 hb.2
        obtain ⟨info', d', z', hf'⟩ := hc.facts hj
        refine ⟨_, ?_, fun w => run_sliceOf hf.desc (fun w => hf'.run_sizeOf w) (bounds_ok hlo hhi hmx bl bh bm 0 0 true (fun _ => rfl) (fun _ => rfl) (Nat.le_refl _) (Nat.le_refl _) (Nat.le_refl _) hb.1 w)⟩
        simp only [VRel]
        simp
    · cases h
  · -- an array's address
    rename_i n e id off hk
    rw [hf.kd] at hk; cases tk_array hk
    simp only [VRel] at hx
    obtain ⟨b, hm, rfl⟩ := hx
    split at h
    · rename_i j hh l hj bh bl
      obtain ⟨info', d', z', hf'⟩ := hc.facts hj
      cases hb : (Nat.ble hh n && Nat.ble l hh) with
      | false => rw [hb] at h; cases h
      | true =>
        rw [hb] at h
        cases h
        simp only [Bool.and_eq_true, ble_true] at hb
        have hbd := fun w => bounds_ok (cfg := cfg) (mx := none) (MX := none) hlo hhi rfl bl bh (dm := n) rfl n n false (fun _ => rfl) (fun e => by subst e; exact bnd_none bh) (Nat.le_refl _) hb.1 hb.2 (by simp) w
        simp only [ORelO] at hmx
        subst hmx
        refine ⟨.slice (some (if n = l then ⟨b, off, none⟩ else (⟨b, off, none⟩ : Addr).add (l * j.size))) (hh - l) (n - l), ?_, fun w => ?_⟩
        · simp only [VRel, CapRel]
          refine ⟨b, n - l, hm, ?_, by omega, rfl⟩
          by_cases e : n = l
          · rw [if_pos e, beq_true.2 e]; rfl
          · rw [if_neg e, beq_false.2 e]; simp [addr_add]
        · unfold Instr.sliceAt
          simp only [Sem.run_bind, hf.run_underlying, Result.andThen_ok, Instr.sureAddr, Sem.run_pure, hbd, hf'.run_sizeOf]
    · cases h
  · cases h
end
end Go.Am
