/- What an abstract memory says of a world; what a step keeps; types and operands. -/
import Derived.Test.YteplpnnbcjjjjaaGreatDoorAmRel
import Derived.Deep.Draws
import Derived.Laws.World
namespace Go.Am

/-! ### 4. Memory -/
def MRel (s : St) : List (AV × AV) → List MapEntry → Prop
  | [], es => es = []
  | p :: l, es => ∃ e m, es = e :: m ∧ VRel s p.1 e.key ∧ p.1.hf = true ∧ VRel s p.2 e.val ∧ MRel s l m
def ORel (cfg : Cfg) (s : St) (w : World) (b : Nat) : AObj → Prop
  | .cells cs e => ∃ (vs rest : List Value) (e' : TypeId) (fz : Nat × Nat) (i : TI), w.heap[b]? = some (.cells (vs ++ rest).toArray e' fz) ∧ LRel s cs vs ∧ cfg.ty e = some i ∧ s.geo b = some (i.size, (vs ++ rest).length) ∧ (∀ j, j < (vs ++ rest).length → ¬ (fz.1 ≤ j ∧ j < fz.2))
  | .map es => ∃ (ents : Array MapEntry) (clock : Nat), w.heap[b]? = some (.map ents clock) ∧ MRel s es ents.toList
  | .iter l pos => w.heap[b]? = some (.stringIter ⟨l.toArray⟩ pos)
/-- What lies at rest in package-level variables. -/
def GlobOk (cfg : Cfg) (imm : Nat → Nat → Option Value) : Prop := ∀ g cs, cfg.glob g = some cs → hfL cs = true ∧ IRel ⟨fun _ => none, fun _ => none, imm⟩ g 0 cs
theorem GlobOk.mono {cfg : Cfg} {i j : Nat → Nat → Option Value} (h : ∀ b o v, i b o = some v → j b o = some v) (hg : GlobOk cfg i) : GlobOk cfg j := fun g cs hc =>
  ⟨(hg g cs hc).1, IRel.free (s := ⟨fun _ => none, fun _ => none, i⟩) (s' := ⟨fun _ => none, fun _ => none, j⟩) h g 0 cs (hg g cs hc).1 (hg g cs hc).2⟩
structure Inv (cfg : Cfg) (G : (Nat → Nat → Option Value) → Prop) (N0 : Nat) (s : St) (h : AHeap) (w : World) : Prop where
  obj : ∀ id o, h.get id = some o → ∃ b, s.mem id = some b ∧ N0 ≤ b ∧ ORel cfg s w b o
  inj : ∀ i j b, h.get i ≠ none → h.get j ≠ none → s.mem i = some b → s.mem j = some b → i = j
  fresh : ∀ id, h.next ≤ id → s.mem id = none
  memlt : ∀ id b, s.mem id = some b → b < w.heap.size
  geolt : ∀ b g, s.geo b = some g → b < w.heap.size
  imm : ∀ b o v, s.imm b o = some v → w.cell? ⟨b, o, none⟩ = some v
  apart : ∀ id b o, h.get id ≠ none → s.mem id = some b → s.imm b o = none
  glob : G s.imm ∧ GlobOk cfg s.imm
  old : N0 ≤ w.heap.size
/-- The blocks that the machine may write. -/
def Own (s : St) (h : AHeap) (b : Nat) : Prop := ∃ id, h.get id ≠ none ∧ s.mem id = some b
structure Keep0 (s : St) (h : AHeap) (w : World) (s' : St) (h' : AHeap) (w' : World) : Prop where
  os : w'.os = w.os
  tape : w'.tape = w.tape
  output : w'.output = w.output
  size : w.heap.size ≤ w'.heap.size
  block : ∀ b, b < w.heap.size → ¬ Own s h b → w'.heap[b]? = w.heap[b]?
  imm : ∀ b o, b < w.heap.size → s'.imm b o ≠ none → s.imm b o ≠ none
  geo : ∀ b, b < w.heap.size → s'.geo b = s.geo b
  own : ∀ b, Own s' h' b → Own s h b ∨ w.heap.size ≤ b
  ext : Ext s s'
structure Keep (s : St) (h : AHeap) (w : World) (s' : St) (h' : AHeap) (w' : World) : Prop extends Keep0 s h w s' h' w' where
  mem : ∀ id, id < h.next → s'.mem id = s.mem id
  next : h.next ≤ h'.next
theorem Keep.refl (s : St) (h : AHeap) (w : World) : Keep s h w s h w :=
  ⟨⟨rfl, rfl, rfl, Nat.le_refl _, fun _ _ _ => rfl, fun _ _ _ h => h, fun _ _ => rfl, fun _ h => .inl h, Ext.refl s⟩, fun _ _ => rfl, Nat.le_refl _⟩
theorem Keep0.trans {s s1 s2 : St} {h h1 h2 : AHeap} {w w1 w2 : World} (a : Keep0 s h w s1 h1 w1) (b : Keep0 s1 h1 w1 s2 h2 w2) : Keep0 s h w s2 h2 w2 where
  os := b.os.trans a.os
  tape := b.tape.trans a.tape
  output := b.output.trans a.output
  size := Nat.le_trans a.size b.size
  block k hk hn := by
    rw [b.block k (Nat.lt_of_lt_of_le hk a.size) (fun ho => by
      rcases a.own k ho with h | h
      · exact hn h
      · omega)]
    exact a.block k hk hn
  imm k o hk hi := a.imm k o hk (b.imm k o (Nat.lt_of_lt_of_le hk a.size) hi)
  geo k hk := (b.geo k (Nat.lt_of_lt_of_le hk a.size)).trans (a.geo k hk)
  own k ho := by
    rcases b.own k ho with h | h
    · exact a.own k h
    · exact .inr (Nat.le_trans a.size h)
  ext := a.ext.trans b.ext
theorem Keep.trans {s s1 s2 : St} {h h1 h2 : AHeap} {w w1 w2 : World} (a : Keep s h w s1 h1 w1) (b : Keep s1 h1 w1 s2 h2 w2) : Keep s h w s2 h2 w2 :=
  ⟨a.toKeep0.trans b.toKeep0, fun i hi => (b.mem i (Nat.lt_of_lt_of_le hi a.next)).trans (a.mem i hi), Nat.le_trans a.next b.next⟩
/-- A draw alone. -/
theorem Keep.drewN (s : St) (h : AHeap) (w : World) (n : Nat) : Keep s h w s h (w.drewN n) :=
  ⟨⟨rfl, rfl, rfl, Nat.le_refl _, fun _ _ _ => rfl, fun _ _ _ h => h, fun _ _ => rfl, fun _ h => .inl h, Ext.refl s⟩, fun _ _ => rfl, Nat.le_refl _⟩
section
variable {cfg : Cfg} {G : (Nat → Nat → Option Value) → Prop} {N0 : Nat} {s : St} {h : AHeap} {w : World}
theorem ORel.of_heap {w' : World} {b : Nat} {o : AObj} (hw : w'.heap[b]? = w.heap[b]?) (ho : ORel cfg s w b o) : ORel cfg s w' b o := by
  cases o with
  | cells cs e => obtain ⟨vs, rest, e', fz, i, hb, r⟩ := ho; exact ⟨vs, rest, e', fz, i, hw.trans hb, r⟩
  | map es => obtain ⟨ents, clock, hb, r⟩ := ho; exact ⟨ents, clock, hw.trans hb, r⟩
  | iter l pos => exact hw.trans ho
theorem MRel.ext {s' : St} (he : Ext s s') : ∀ {l : List (AV × AV)} {es : List MapEntry}, MRel s l es → MRel s' l es
  | [], _, hm => hm
  | _ :: _, _, ⟨e, m, h1, h2, hf, h3, h4⟩ => ⟨e, m, h1, h2.ext he, hf, h3.ext he, MRel.ext he h4⟩
theorem ORel.ext {s' : St} (he : Ext s s') {b : Nat} {o : AObj} (ho : ORel cfg s w b o) : ORel cfg s' w b o := by
  cases o with
  | cells cs e => obtain ⟨vs, rest, e', fz, i, hb, hl, ht, hg, hz⟩ := ho; exact ⟨vs, rest, e', fz, i, hb, hl.ext he, ht, he.geo _ _ hg, hz⟩
  | map es => obtain ⟨ents, clock, hb, hm⟩ := ho; exact ⟨ents, clock, hb, hm.ext he⟩
  | iter l pos => exact ho
theorem Inv.drewN (hi : Inv cfg G N0 s h w) (n : Nat) : Inv cfg G N0 s h (w.drewN n) :=
  ⟨fun id o hg => let ⟨b, hm, hN, ho⟩ := hi.obj id o hg; ⟨b, hm, hN, ho.of_heap rfl⟩, hi.inj, hi.fresh, hi.memlt, hi.geolt, hi.imm, hi.apart, hi.glob, hi.old⟩
/-- A new object, under a number that stands free. -/
def St.born (s : St) (id b : Nat) (g : Option (Nat × Nat)) : St := ⟨fun i => if i = id then some b else s.mem i, fun k => if k = b then g else s.geo k, s.imm⟩
theorem Inv.newAt (hi : Inv cfg G N0 s h w) {id : Nat} (hid : id < h.next) (hfree : s.mem id = none) {w' : World} {o : Obj} (hw : w'.heap = w.heap.push o) {ob : AObj} {g : Option (Nat × Nat)}
    (hob : ORel cfg (s.born id w.heap.size g) w' w.heap.size ob)
    (ho : w'.os = w.os) (ht : w'.tape = w.tape) (hout : w'.output = w.output) :
    Inv cfg G N0 (s.born id w.heap.size g) (h.put id ob) w' ∧ Keep0 s h w (s.born id w.heap.size g) (h.put id ob) w' := by
  have hsz : w'.heap.size = w.heap.size + 1 := by rw [hw]; simp
  have hold : ∀ b, b < w.heap.size → w'.heap[b]? = w.heap[b]? := fun b hb => by rw [hw, Array.getElem?_push_lt hb]; simp [hb]
  have hmem : ∀ i, (s.born id w.heap.size g).mem i = if i = id then some w.heap.size else s.mem i := fun _ => rfl
  have hgeo : ∀ k, (s.born id w.heap.size g).geo k = if k = w.heap.size then g else s.geo k := fun _ => rfl
  have himm : (s.born id w.heap.size g).imm = s.imm := rfl
  have hext : Ext s (s.born id w.heap.size g) := by
    refine ⟨fun i b hm => ?_, fun b k hg => ?_, fun _ _ _ h => h⟩
    · rw [hmem]
      by_cases e : i = id
      · subst e; rw [hfree] at hm; cases hm
      · rw [if_neg e]; exact hm
    · rw [hgeo]
      by_cases e : b = w.heap.size
      · subst e; have := hi.geolt _ _ hg; omega
      · rw [if_neg e]; exact hg
  refine ⟨⟨?_, ?_, ?_, ?_, ?_, ?_, ?_, hi.glob, by rw [hsz]; have := hi.old; omega⟩, ⟨ho, ht, hout, by omega, fun b hb _ => hold b hb, fun _ _ _ h => h, fun b hb => ?_, ?_, hext⟩⟩
  · intro i o' hg
    rw [AHeap.get_put] at hg
    by_cases e : i = id
    · rw [if_pos e] at hg
      cases hg
      exact ⟨w.heap.size, by rw [hmem, if_pos e], hi.old, hob⟩
    · rw [if_neg e] at hg
      obtain ⟨b, hm, hN, hr⟩ := hi.obj i o' hg
      exact ⟨b, hext.mem _ _ hm, hN, (hr.ext hext).of_heap (hold b (hi.memlt _ _ hm))⟩
  · intro i j b hgi hgj hmi hmj
    rw [hmem] at hmi hmj
    rw [AHeap.get_put] at hgi hgj
    by_cases ei : i = id <;> by_cases ej : j = id
    · rw [ei, ej]
    · rw [if_pos ei] at hmi; rw [if_neg ej] at hmj hgj
      cases hmi
      have := hi.memlt _ _ hmj; omega
    · rw [if_neg ei] at hmi hgi; rw [if_pos ej] at hmj
      cases hmj
      have := hi.memlt _ _ hmi; omega
    · rw [if_neg ei] at hmi hgi; rw [if_neg ej] at hmj hgj
      exact hi.inj i j b hgi hgj hmi hmj
  · intro i hid'
    have : (h.put id ob).next = h.next := rfl
    rw [this] at hid'
    rw [hmem, if_neg (by omega)]
    exact hi.fresh _ hid'
  · intro i b hm
    rw [hmem] at hm
    by_cases e : i = id
    · rw [if_pos e] at hm; cases hm; omega
    · rw [if_neg e] at hm; have := hi.memlt _ _ hm; omega
  · intro b k hg
    rw [hgeo] at hg
    by_cases e : b = w.heap.size
    · omega
    · rw [if_neg e] at hg; have := hi.geolt _ _ hg; omega
  · intro b o' v hv
    have hc := hi.imm b o' v hv
    have hb : b < w.heap.size := by
      have := World.block_lt_of_cell? w ⟨b, o', none⟩ hc
      exact this
    unfold World.cell? at hc ⊢
    rw [hold b hb]
    exact hc
  · intro i b o' hg hm
    rw [hmem] at hm
    show s.imm b o' = none
    rw [AHeap.get_put] at hg
    by_cases e : i = id
    · rw [if_pos e] at hm
      cases hm
      cases hv : s.imm w.heap.size o' with
      | none => rfl
      | some v =>
        have := World.block_lt_of_cell? w ⟨w.heap.size, o', none⟩ (hi.imm _ _ _ hv)
        simp at this
    · rw [if_neg e] at hm hg
      exact hi.apart i b o' hg hm
  · rw [hgeo, if_neg (by omega)]
  · rintro b ⟨i, hg, hm⟩
    rw [AHeap.get_put] at hg
    rw [hmem] at hm
    by_cases e : i = id
    · rw [if_pos e] at hm; cases hm; exact .inr (Nat.le_refl _)
    · rw [if_neg e] at hm hg; exact .inl ⟨i, hg, hm⟩
/-- Numbers set aside. -/
theorem Inv.reserve (hi : Inv cfg G N0 s h w) (n : Nat) : Inv cfg G N0 s ⟨h.objs, h.next + n⟩ w :=
  ⟨hi.obj, hi.inj, fun id hid => hi.fresh id (by simp only at hid; omega), hi.memlt, hi.geolt, hi.imm, hi.apart, hi.glob, hi.old⟩
/-- A new object. -/
theorem Inv.new (hi : Inv cfg G N0 s h w) {w' : World} {o : Obj} (hw : w'.heap = w.heap.push o) {ob : AObj} {g : Option (Nat × Nat)}
    (hob : ORel cfg (s.born h.next w.heap.size g) w' w.heap.size ob)
    (ho : w'.os = w.os) (ht : w'.tape = w.tape) (hout : w'.output = w.output) :
    Inv cfg G N0 (s.born h.next w.heap.size g) (h.new ob) w' ∧ Keep s h w (s.born h.next w.heap.size g) (h.new ob) w' := by
  have := (hi.reserve 1).newAt (id := h.next) (Nat.lt_succ_self _) (hi.fresh _ (Nat.le_refl _)) hw hob ho ht hout
  refine ⟨this.1, ⟨⟨this.2.os, this.2.tape, this.2.output, this.2.size, this.2.block, this.2.imm, this.2.geo, this.2.own, this.2.ext⟩, fun i hi => ?_, Nat.le_succ _⟩⟩
  show (if i = h.next then some w.heap.size else s.mem i) = s.mem i
  rw [if_neg (by omega)]
/-- An object written anew, in its own block. -/
theorem Inv.put (hi : Inv cfg G N0 s h w) {id b : Nat} {o : AObj} (hg : h.get id = some o) (hm : s.mem id = some b) {w' : World} {ob : AObj} (hob : ORel cfg s w' b ob)
    (hsz : w'.heap.size = w.heap.size) (hold : ∀ k, k ≠ b → w'.heap[k]? = w.heap[k]?) (ho : w'.os = w.os) (ht : w'.tape = w.tape) (hout : w'.output = w.output) :
    Inv cfg G N0 s (h.put id ob) w' ∧ Keep s h w s (h.put id ob) w' := by
  have hsome : ∀ j, (h.put id ob).get j ≠ none → h.get j ≠ none := fun j hj => by
    rw [AHeap.get_put] at hj
    by_cases e : j = id
    · subst e; rw [hg]; simp
    · rwa [if_neg e] at hj
  refine ⟨⟨?_, fun i j k hgi hgj => hi.inj i j k (hsome i hgi) (hsome j hgj), hi.fresh, fun i k hk => by rw [hsz]; exact hi.memlt i k hk, fun k g hk => by rw [hsz]; exact hi.geolt k g hk, ?_, fun i k o' hgi => hi.apart i k o' (hsome i hgi), hi.glob, by rw [hsz]; exact hi.old⟩,
    ⟨⟨ho, ht, hout, by omega, fun k _ hn => hold k (fun e => hn ⟨id, by rw [hg]; simp, e ▸ hm⟩), fun _ _ _ h => h, fun _ _ => rfl, fun k ⟨i, hgi, hmi⟩ => .inl ⟨i, hsome i hgi, hmi⟩, Ext.refl s⟩, fun _ _ => rfl, Nat.le_refl _⟩⟩
  · intro j o' hj
    rw [AHeap.get_put] at hj
    by_cases e : j = id
    · subst e
      rw [if_pos rfl] at hj
      cases hj
      obtain ⟨b', hm', hN, _⟩ := hi.obj _ _ hg
      rw [hm] at hm'
      cases hm'
      exact ⟨b, hm, hN, hob⟩
    · rw [if_neg e] at hj
      obtain ⟨b', hm', hN, hr⟩ := hi.obj _ _ hj
      refine ⟨b', hm', hN, hr.of_heap (hold b' (fun eb => ?_))⟩
      subst eb
      exact e (hi.inj j id b' (by rw [hj]; simp) (by rw [hg]; simp) hm' hm)
  · intro k o' v hv
    have hc := hi.imm k o' v hv
    have hk : k ≠ b := fun e => by
      subst e
      rw [hi.apart id k o' (by rw [hg]; simp) hm] at hv
      cases hv
    unfold World.cell? at hc ⊢
    rw [hold k hk]
    exact hc
/-- An object given up. -/
theorem Inv.drop (hi : Inv cfg G N0 s h w) (id : Nat) : Inv cfg G N0 s (h.drop id) w ∧ Keep s h w s (h.drop id) w := by
  have hget : ∀ j o, (h.drop id).get j = some o → h.get j = some o := fun j o hj => by
    rw [AHeap.get_drop] at hj
    by_cases e : j = id
    · rw [if_pos e] at hj; cases hj
    · rwa [if_neg e] at hj
  have hsome : ∀ j, (h.drop id).get j ≠ none → h.get j ≠ none := fun j hj => by
    cases e : (h.drop id).get j with
    | none => exact absurd e hj
    | some o => rw [hget j o e]; simp
  exact ⟨⟨fun j o hj => hi.obj j o (hget j o hj), fun i j k hgi hgj => hi.inj i j k (hsome i hgi) (hsome j hgj), hi.fresh, hi.memlt, hi.geolt, hi.imm, fun i k o' hgi => hi.apart i k o' (hsome i hgi), hi.glob, hi.old⟩,
    ⟨⟨rfl, rfl, rfl, Nat.le_refl _, fun _ _ _ => rfl, fun _ _ _ h => h, fun _ _ => rfl, fun k ⟨i, hgi, hmi⟩ => .inl ⟨i, hsome i hgi, hmi⟩, Ext.refl s⟩, fun _ _ => rfl, Nat.le_refl _⟩⟩
end

/-! ### 5. Types -/
structure TyF (P : Program) (t : TypeId) (i : TI) (info : TypeInfo) (d : TypeDesc) (z : Value) : Prop where
  hinfo : P.info? t = some info
  desc : P.underlying t = some d
  hzero : info.zero = some z
  zabs : absV z = some i.zero
  kd : i.kd = tkOf d
  hsize : i.size = info.size
  hbytes : i.bytes = info.bytes
  eqv : i.eqv = (bif P.eqGuardType P.depth t then none else flatKs P 6 t)
theorem tiOf_facts {P : Program} {t : TypeId} {i : TI} (h : tiOf P t = some i) : ∃ info d z, TyF P t i info d z := by
  unfold tiOf at h
  split at h
  · rename_i info d h1 h2
    split at h
    · rename_i z hz
      split at h
      · rename_i a ha
        cases h
        exact ⟨info, d, z, h1, h2, hz, ha, rfl, rfl, rfl, rfl⟩
      · cases h
    · cases h
  · cases h
section
variable {P : Program} {t : TypeId} {i : TI} {info : TypeInfo} {d : TypeDesc} {z : Value} (w : World)
theorem TyF.run_underlying (h : TyF P t i info d z) : (underlying t).run P w = .ok d w := by unfold underlying; simp [h.desc]
theorem TyF.run_typeInfo (h : TyF P t i info d z) : (typeInfo t).run P w = .ok info w := by unfold typeInfo; simp [h.hinfo]
theorem TyF.run_sizeOf (h : TyF P t i info d z) : (sizeOf t).run P w = .ok i.size w := by unfold sizeOf; simp [h.run_typeInfo, h.hsize]
theorem TyF.run_zeroValue (h : TyF P t i info d z) : (zeroValue t).run P w = .ok z w := by unfold zeroValue; simp [h.run_typeInfo, h.hzero]
theorem TyF.run_isAgg (h : TyF P t i info d z) : (isAgg t).run P w = .ok (isAggK i.kd) w := by
  unfold isAgg
  simp only [Sem.run_bind, h.run_underlying, Result.andThen_ok, h.kd]
  cases d <;> rfl
end
theorem absCell_rel (s : St) {v : Value} {a : AV} (h : absCell v = some a) : VRel s a v := by
  unfold absCell at h
  split at h <;> first | (cases h; simp only [VRel]; done) | (cases h; simp [VRel]; done) | cases h
theorem absCells_rel (s : St) : ∀ {l : List Value} {m : List AV}, absCells l = some m → LRel s m l
  | [], _, h => by cases h; exact .nil
  | v :: l, _, h => by
    unfold absCells at h
    split at h
    · rename_i a m h1 h2
      cases h
      exact .cons (absCell_rel s h1) (absCells_rel s h2)
    · cases h
theorem absV_rel (s : St) {v : Value} {a : AV} (h : absV v = some a) : VRel s a v := by
  unfold absV at h
  split at h
  · rename_i cs
    obtain ⟨m, hm, rfl⟩ := Option.map_eq_some_iff.1 h
    simp only [VRel]
    exact ⟨cs.toList, by simp, absCells_rel s hm⟩
  · rename_i cs
    obtain ⟨m, hm, rfl⟩ := Option.map_eq_some_iff.1 h
    simp only [VRel]
    exact ⟨cs.toList, by simp, absCells_rel s hm⟩
  · exact absCell_rel s h

/-! ### 6. Operands -/
def FRel (s : St) (fr : Fr) (tmps : Array Value) : Prop := ∀ t, VRel s (Fr.at fr t) (tmps.getD t undef)
theorem FRel.ext {s s' : St} (he : Ext s s') {fr : Fr} {tmps : Array Value} (h : FRel s fr tmps) : FRel s' fr tmps := fun t => (h t).ext he
theorem FRel.put {s : St} {fr : Fr} {tmps : Array Value} (h : FRel s fr tmps) {a : AV} {v : Value} (hv : VRel s a v) (d : Option Nat) (hd : ∀ t, d = some t → t < tmps.size) (ds : List Deferred) :
    FRel s (Fr.put fr d a) ((⟨tmps, ds⟩ : Act).put d v).tmps := by
  cases d with
  | none => exact h
  | some t =>
    intro u
    rw [Fr.at_put]
    show VRel s _ ((tmps.setIfInBounds t v).getD u undef)
    by_cases e : u = t
    · subst e
      have hlt := hd u rfl
      rw [if_pos rfl]
      rw [Array.getD_eq_getD_getElem?]
      simp [hlt]
      exact hv
    · rw [if_neg e, Array.getD_eq_getD_getElem?, Array.getElem?_setIfInBounds_ne (Ne.symm e), ← Array.getD_eq_getD_getElem?]
      exact h u
theorem put_size (a : Act) (d : Option Nat) (v : Value) : (a.put d v).tmps.size = a.tmps.size := by
  cases d with
  | none => rfl
  | some t => simp [Act.put]
theorem evalA_rel {s : St} {fr : Fr} {a : Act} (h : FRel s fr a.tmps) {x : Operand} {v : AV} (hx : evalA fr x = some v) : VRel s v (a.eval x) := by
  cases x with
  | tmp t => cases hx; exact h t
  | const c => exact absV_rel s hx
  | global g => cases hx; simp only [VRel]; rfl
  | func f => cases hx; simp only [VRel, Act.eval]; exact ⟨[], [], rfl, .nil, .nil⟩
theorem evalAs_cons (fr : Fr) (x : Operand) (l : List Operand) : evalAs fr (x :: l) = match evalA fr x with
    | some a => match evalAs fr l with
      | some m => some (a :: m)
      | none => none
    | none => none := rfl
theorem evalAs_rel {s : St} {fr : Fr} {a : Act} (h : FRel s fr a.tmps) : ∀ {l : List Operand} {vs : List AV}, evalAs fr l = some vs → LRel s vs (l.map a.eval)
  | [], _, hl => by cases hl; exact .nil
  | x :: l, _, hl => by
    rw [evalAs_cons] at hl
    split at hl
    · rename_i v hv
      split at hl
      · rename_i m hm
        cases hl
        exact .cons (evalA_rel h hv) (evalAs_rel h hm)
      · cases hl
    · cases hl
end Go.Am
