/- A region that draws its order: every order answers as the machine does. -/
import Derived.Test.YtphmddmboankhaaGreatDoorAmTrace
namespace Go.Am
section
variable {cfg : Cfg} {G : (Nat → Nat → Option Value) → Prop} {N0 : Nat} {s : St} {h : AHeap} {w : World}
/-! ### 33. Heaps with more or fewer objects -/
theorem Inv.sub (hi : Inv cfg G N0 s h w) {h' : AHeap} (hs : ∀ i o, h'.get i = some o → h.get i = some o) (hn : h'.next = h.next) : Inv cfg G N0 s h' w := by
  have hsome : ∀ i, h'.get i ≠ none → h.get i ≠ none := fun i hne => by
    cases e : h'.get i with
    | none => exact absurd e hne
    | some o => rw [hs i o e]; simp
  exact ⟨fun i o hg => hi.obj i o (hs i o hg), fun i j b h1 h2 => hi.inj i j b (hsome i h1) (hsome j h2), fun i hle => hi.fresh i (by rw [← hn]; exact hle), hi.memlt, hi.geolt, hi.imm, fun i b o hg => hi.apart i b o (hsome i hg), hi.glob, hi.old⟩
theorem Inv.congr (hi : Inv cfg G N0 s h w) {h' : AHeap} (hs : ∀ i, h'.get i = h.get i) (hn : h'.next = h.next) : Inv cfg G N0 s h' w := hi.sub (fun i o hg => by rw [← hs]; exact hg) hn
theorem Own.congr {h' : AHeap} (hs : ∀ i, h'.get i = h.get i) (b : Nat) : Own s h' b ↔ Own s h b := ⟨fun ⟨i, h1, h2⟩ => ⟨i, by rwa [← hs], h2⟩, fun ⟨i, h1, h2⟩ => ⟨i, by rwa [hs], h2⟩⟩
theorem Keep.congr {s0 : St} {h0 : AHeap} {w0 : World} (hk : Keep s0 h0 w0 s h w) {h' : AHeap} (hs : ∀ i, h'.get i = h.get i) (hn : h'.next = h.next) : Keep s0 h0 w0 s h' w :=
  ⟨⟨hk.os, hk.tape, hk.output, hk.size, hk.block, hk.imm, hk.geo, fun b hb => hk.own b ((Own.congr hs b).1 hb), hk.ext⟩, hk.mem, by rw [hn]; exact hk.next⟩
/-- What an actor leaves, with the objects that it did not see. -/
theorem Inv.frame {A h2 H' : AHeap} {s' : St} {w' : World} (hi : Inv cfg G N0 s h w) (hA : ∀ i o, A.get i = some o → h.get i = some o) (hi2 : Inv cfg G N0 s' h2 w') (hk : Keep s A w s' h2 w') (hn : H'.next = h2.next)
    (hget : ∀ i, H'.get i = h2.get i ∨ (A.get i = none ∧ H'.get i = h.get i ∧ h.get i ≠ none)) :
    Inv cfg G N0 s' H' w' ∧ ∀ b, Own s' H' b → Own s h b ∨ w.heap.size ≤ b := by
  have hsub : ∀ i, A.get i ≠ none → h.get i ≠ none := fun i hne => by
    cases e : A.get i with
    | none => exact absurd e hne
    | some o => rw [hA i o e]; simp
  have hnotown : ∀ i b, A.get i = none → h.get i ≠ none → s.mem i = some b → ¬ Own s A b := fun i b h1 h2 h3 ⟨j, h4, h5⟩ => by
    have := hi.inj j i b (hsub j h4) h2 h5 h3
    subst this
    exact h4 h1
  have hclash : ∀ i j b, A.get i = none → h.get i ≠ none → s.mem i = some b → h2.get j ≠ none → s'.mem j = some b → False := fun i j b h1 h2' h3 h4 h5 => by
    rcases hk.own b ⟨j, h4, h5⟩ with ho | hle
    · exact hnotown i b h1 h2' h3 ho
    · have := hi.memlt _ _ h3; omega
  have hsplit : ∀ i, H'.get i ≠ none → (h2.get i ≠ none ∧ H'.get i = h2.get i) ∨ (A.get i = none ∧ H'.get i = h.get i ∧ h.get i ≠ none) := fun i hne => by
    rcases hget i with e | e
    · exact .inl ⟨by rw [← e]; exact hne, e⟩
    · exact .inr e
  have hmem : ∀ i, h.get i ≠ none → ∃ b, s.mem i = some b := fun i hne => by
    cases e : h.get i with
    | none => exact absurd e hne
    | some o => obtain ⟨b, hm, _⟩ := hi.obj i o e; exact ⟨b, hm⟩
  refine ⟨⟨?_, ?_, fun i hle => hi2.fresh i (by rw [← hn]; exact hle), hi2.memlt, hi2.geolt, hi2.imm, ?_, hi2.glob, hi2.old⟩, ?_⟩
  · intro i o hg
    rcases hsplit i (by rw [hg]; simp) with ⟨_, e⟩ | ⟨h1, e, h2'⟩
    · exact hi2.obj i o (by rw [← e]; exact hg)
    · rw [e] at hg
      obtain ⟨b, hm, hN, ho⟩ := hi.obj i o hg
      exact ⟨b, hk.ext.mem _ _ hm, hN, (ho.ext hk.ext).of_heap (hk.block b (hi.memlt _ _ hm) (hnotown i b h1 h2' hm))⟩
  · intro i j b hgi hgj hmi hmj
    rcases hsplit i hgi with ⟨h1, _⟩ | ⟨h1, _, h1'⟩ <;> rcases hsplit j hgj with ⟨h2', _⟩ | ⟨h2', _, h2''⟩
    · exact hi2.inj i j b h1 h2' hmi hmj
    · obtain ⟨b0, hb0⟩ := hmem j h2''
      have := hk.ext.mem _ _ hb0
      rw [hmj] at this; cases this
      exact (hclash j i b h2' h2'' hb0 h1 hmi).elim
    · obtain ⟨b0, hb0⟩ := hmem i h1'
      have := hk.ext.mem _ _ hb0
      rw [hmi] at this; cases this
      exact (hclash i j b h1 h1' hb0 h2' hmj).elim
    · obtain ⟨b0, hb0⟩ := hmem i h1'
      have := hk.ext.mem _ _ hb0
      rw [hmi] at this; cases this
      obtain ⟨b1, hb1⟩ := hmem j h2''
      have := hk.ext.mem _ _ hb1
      rw [hmj] at this; cases this
      exact hi.inj i j b h1' h2'' hb0 hb1
  · intro i b o hgi hmi
    rcases hsplit i hgi with ⟨h1, _⟩ | ⟨h1, _, h1'⟩
    · exact hi2.apart i b o h1 hmi
    · obtain ⟨b0, hb0⟩ := hmem i h1'
      have := hk.ext.mem _ _ hb0
      rw [hmi] at this; cases this
      have h0 := hi.apart i b o h1' hb0
      cases e : s'.imm b o with
      | none => rfl
      | some v => exact absurd h0 (hk.imm b o (hi.memlt _ _ hb0) (by rw [e]; simp))
  · rintro b ⟨i, hgi, hmi⟩
    rcases hsplit i hgi with ⟨h1, _⟩ | ⟨h1, _, h1'⟩
    · rcases hk.own b ⟨i, h1, hmi⟩ with ⟨j, hj, hmj⟩ | hle
      · exact .inl ⟨j, hsub j hj, hmj⟩
      · exact .inr hle
    · obtain ⟨b0, hb0⟩ := hmem i h1'
      have := hk.ext.mem _ _ hb0
      rw [hmi] at this; cases this
      exact .inl ⟨i, h1', hb0⟩
theorem putAll_next : ∀ (l : List (Nat × Nat × AObj)) (h : AHeap), (putAll h l).next = h.next
  | [], _ => rfl
  | (_, id, o) :: l, h => by unfold putAll; rw [putAll_next l]; rfl
theorem putAll_miss : ∀ (l : List (Nat × Nat × AObj)) (h : AHeap) (i : Nat), (∀ x ∈ l, x.2.1 ≠ i) → (putAll h l).get i = h.get i
  | [], _, _, _ => rfl
  | (c, id, o) :: l, h, i, hm => by
    unfold putAll
    rw [putAll_miss l _ i (fun x hx => hm x (by simp [hx])), AHeap.get_put, if_neg]
    exact fun e => hm (c, id, o) (by simp) e.symm
theorem putAll_hit : ∀ (l : List (Nat × Nat × AObj)) (h : AHeap) (i : Nat) (o : AObj), (∃ x ∈ l, x.2.1 = i) → (∀ x ∈ l, x.2.1 = i → x.2.2 = o) → (putAll h l).get i = some o
  | [], _, _, _, ⟨_, hx, _⟩, _ => by cases hx
  | (c, id, o') :: l, h, i, o, hex, hall => by
    unfold putAll
    by_cases hin : ∃ x ∈ l, x.2.1 = i
    · exact putAll_hit l _ i o hin (fun x hx => hall x (by simp [hx]))
    · rw [putAll_miss l _ i (fun x hx e => hin ⟨x, hx, e⟩), AHeap.get_put]
      obtain ⟨x, hx, e⟩ := hex
      rcases List.mem_cons.1 hx with rfl | hx
      · simp only at e
        subst e
        have : o' = o := hall (c, id, o') (by simp) rfl
        rw [if_pos rfl, this]
      · exact absurd ⟨x, hx, e⟩ hin
end
/-! ### 34. The state after any part of the region -/
section
variable {cfg : Cfg} {G : (Nat → Nat → Option Value) → Prop} {N0 nt : Nat} {callf : CallF} {ops : List Oper} {m : List Nat} {D : Nat → DSt} {s0 : St} {h0 : AHeap} {w0 : World} {fr0 : Fr} {a0 : Act}
/-- An object of L that no actor of L has taken up. -/
def Unfl (cfg : Cfg) (ops : List Oper) (m : List Nat) (D : Nat → DSt) (L : Nat → Prop) (c : Nat) : Prop := L c ∧ ¬ ∃ i, L i ∧ ActAt cfg ops D i ∧ Anc m i c
structure HeapIs (cfg : Cfg) (ops : List Oper) (m : List Nat) (D : Nat → DSt) (L : Nat → Prop) (p : Nat) (H : AHeap) : Prop where
  next : H.next = (D p).h.next
  hit : ∀ c ob, Unfl cfg ops m D L c → CrOf cfg ops D c ob → H.get (D c).nid = some ob
  miss : ∀ i, (∀ c ob, Unfl cfg ops m D L c → CrOf cfg ops D c ob → i ≠ (D c).nid) → H.get i = (D p).h.get i
structure J (cfg : Cfg) (G : (Nat → Nat → Option Value) → Prop) (N0 nt : Nat) (ops : List Oper) (m : List Nat) (D : Nat → DSt) (s0 : St) (h0 : AHeap) (w0 : World) (fr0 : Fr) (L : Nat → Prop) (s : St) (w : World) (a : Act) : Prop where
  closed : Closed ops L
  heap : ∃ p H, p ≤ ops.length ∧ (∀ i o, ops[i]? = some o → isA (insOf cfg o.op) = true → (L i ↔ i < p)) ∧ HeapIs cfg ops m D L p H ∧ Inv cfg G N0 s H w ∧ h0.next + countC cfg ops ≤ H.next ∧ Keep s0 h0 w0 s H w ∧
    (∀ c ob, CrOf cfg ops D c ob → (¬ ∃ i, L i ∧ ActAt cfg ops D i ∧ Anc m i c) → (D p).h.get (D c).nid = none)
  fresh : ∀ c o, ops[c]? = some o → isC (insOf cfg o.op) = true → ¬ L c → s.mem (D c).nid = none
  frame : ∃ F, FrameIs ops D fr0 L F ∧ FRel s F a.tmps
  size : a.tmps.size = nt
  defers : a.defers = []
/-- What is known of the run. -/
structure Run (cfg : Cfg) (nt : Nat) (callf : CallF) (ops : List Oper) (m : List Nat) (D : Nat → DSt) (h0 : AHeap) (fr0 : Fr) : Prop where
  plan : Plan cfg ops m
  trace : Trace cfg callf ops m D
  dsts : ∀ o ∈ ops, ∀ t, o.dst = some t → t < nt
  fr00 : (D 0).fr = fr0
  h00 : (D 0).h = ⟨h0.objs, h0.next + countC cfg ops⟩
  nid0 : (D 0).nid = h0.next
  pend0 : (D 0).pend = []
  reads : ∀ j o f, ops[j]? = some o → insOf cfg o.op = .R f → wantedA ops o (D j).fr = true → ∀ p, p ≤ ops.length → countA cfg (fun i => (m.getD j 0).testBit i) ops 0 ≤ cntA cfg ops p → cntA cfg ops p ≤ countA cfg (fun i => !(m.getD i 0).testBit j) ops 0 → f (D j).fr (D p).h = some (Vt D j)
theorem Run.nid_lt (hr : Run cfg nt callf ops m D h0 fr0) {c : Nat} {o : Oper} (ho : ops[c]? = some o) (hc : isC (insOf cfg o.op) = true) : h0.next ≤ (D c).nid ∧ (D c).nid < h0.next + countC cfg ops := by
  have hlt := (List.getElem?_eq_some_iff.1 ho).1
  have h1 := hr.trace.nid_le c (p := 0) (Nat.zero_le _) (by omega)
  have h2 := hr.trace.nid_lt ho hc hlt (Nat.le_refl _)
  have h3 := hr.trace.nid_count ops 0 (Nat.zero_le _) rfl
  rw [hr.nid0] at h1 h3
  omega
theorem CrOf.inj (hr : Run cfg nt callf ops m D h0 fr0) {c c' : Nat} {ob ob' : AObj} (h1 : CrOf cfg ops D c ob) (h2 : CrOf cfg ops D c' ob') (he : (D c).nid = (D c').nid) : c = c' := by
  obtain ⟨o, ho, hc⟩ := h1.isC
  obtain ⟨o', ho', hc'⟩ := h2.isC
  exact hr.trace.nid_inj ho hc ho' hc' he
/-- The frame of J and the frame of the run are alike where an operation looks. -/
theorem J.alike (hr : Run cfg nt callf ops m D h0 fr0) {L : Nat → Prop} (hc : Closed ops L) {F : Fr} (hF : FrameIs ops D fr0 L F) {j : Nat} {o : Oper} (ho : ops[j]? = some o) (hrd : Ready ops L j) (hn : ¬ L j) {t : Nat} (ht : t ∈ namesOf ops o) : Fr.at F t = Fr.at (D j).fr t :=
  hF.same (hr.trace.frame hr.fr00 j (Nat.le_of_lt (List.getElem?_eq_some_iff.1 ho).1)) (fun _ _ hq hd => hr.plan.named hc ho hrd hn ht hq hd)
theorem J.feq (hr : Run cfg nt callf ops m D h0 fr0) {L : Nat → Prop} (hc : Closed ops L) {F : Fr} (hF : FrameIs ops D fr0 L F) {j : Nat} {o : Oper} (ho : ops[j]? = some o) (hrd : Ready ops L j) (hn : ¬ L j) : FEq F (D j).fr o.op.operands.toList :=
  .of_tmps fun t ht => J.alike hr hc hF ho hrd hn (by unfold namesOf; simp [ht])
theorem J.wanted (hr : Run cfg nt callf ops m D h0 fr0) {L : Nat → Prop} (hc : Closed ops L) {F : Fr} (hF : FrameIs ops D fr0 L F) {j : Nat} {o : Oper} (ho : ops[j]? = some o) (hrd : Ready ops L j) (hn : ¬ L j) : wantedA ops o F = wantedA ops o (D j).fr := by
  have hal := fun t ht => J.alike hr hc hF ho hrd hn (t := t) ht
  unfold wantedA
  cases hg : o.guard with
  | none => rfl
  | some p =>
    obtain ⟨i, b⟩ := p
    simp only
    cases hd : (ops[i]?).bind (·.dst) with
    | none => rfl
    | some t =>
      simp only
      rw [hal t (by unfold namesOf guardTmp; simp [hg, hd])]
theorem J.fstep (hr : Run cfg nt callf ops m D h0 fr0) {L : Nat → Prop} (hc : Closed ops L) {F : Fr} (hF : FrameIs ops D fr0 L F) {j : Nat} {o : Oper} (ho : ops[j]? = some o) (hrd : Ready ops L j) (hn : ¬ L j) : FrameIs ops D fr0 (With L j) (Fr.put F o.dst (Vt D j)) :=
  hF.step ho fun t i q hd hi hq hdq => (hr.plan.named hc ho hrd hn (by unfold namesOf; simp [hd]) hq hdq).1 hi
theorem FRel.step {s : St} {F : Fr} {a : Act} (hf : FRel s F a.tmps) (hs : a.tmps.size = nt) {v : AV} {V : Value} (hv : VRel s v V) {d : Option Nat} (hd : ∀ t, d = some t → t < nt) : FRel s (Fr.put F d v) (a.put d V).tmps :=
  hf.put hv d (fun t e => by rw [hs]; exact hd t e) a.defers
theorem put_defers (a : Act) (d : Option Nat) (V : Value) : (a.put d V).defers = a.defers := by cases d <;> rfl
/-- The objects that wait are the same if an operation joins that is no wanted actor and no wanted creator. -/
theorem Unfl.with {L : Nat → Prop} {j : Nat} (hna : ¬ ActAt cfg ops D j) (hnc : ∀ ob, ¬ CrOf cfg ops D j ob) {c : Nat} {ob : AObj} (hcr : CrOf cfg ops D c ob) : Unfl cfg ops m D (With L j) c ↔ Unfl cfg ops m D L c := by
  unfold Unfl
  constructor
  · rintro ⟨h1, h2⟩
    refine ⟨?_, fun ⟨i, hi, ha, hx⟩ => h2 ⟨i, .inl hi, ha, hx⟩⟩
    rcases h1 with h1 | rfl
    · exact h1
    · exact absurd hcr (hnc ob)
  · rintro ⟨h1, h2⟩
    refine ⟨.inl h1, fun ⟨i, hi, ha, hx⟩ => ?_⟩
    rcases hi with hi | rfl
    · exact h2 ⟨i, hi, ha, hx⟩
    · exact hna ha
theorem HeapIs.with {L : Nat → Prop} {p j : Nat} {H : AHeap} (hh : HeapIs cfg ops m D L p H) (hna : ¬ ActAt cfg ops D j) (hnc : ∀ ob, ¬ CrOf cfg ops D j ob) : HeapIs cfg ops m D (With L j) p H :=
  ⟨hh.next, fun c ob hu hc => hh.hit c ob ((Unfl.with hna hnc hc).1 hu) hc, fun i hi => hh.miss i fun c ob hu hc => hi c ob ((Unfl.with hna hnc hc).2 hu) hc⟩
/-- An operation that leaves the heaps as they are. -/
theorem J.plain (hr : Run cfg nt callf ops m D h0 fr0) {L : Nat → Prop} {s : St} {w : World} {a : Act} (hj : J cfg G N0 nt ops m D s0 h0 w0 fr0 L s w a) {j : Nat} {o : Oper} (ho : ops[j]? = some o) (hrd : Ready ops L j) (hn : ¬ L j)
    (hna : ¬ ActAt cfg ops D j) (hnc : ∀ ob, ¬ CrOf cfg ops D j ob) (hh : (D (j + 1)).h = (D j).h) {V : Value} (hv : VRel s (Vt D j) V) : J cfg G N0 nt ops m D s0 h0 w0 fr0 (With L j) s w (a.put o.dst V) := by
  obtain ⟨p, H, hp, hact, hH, hI, hnx, hK, hcl⟩ := hj.heap
  obtain ⟨F, hF, hFR⟩ := hj.frame
  have hlen := (List.getElem?_eq_some_iff.1 ho).1
  have hnoex : ∀ {c}, (¬ ∃ i, With L j i ∧ ActAt cfg ops D i ∧ Anc m i c) → ¬ ∃ i, L i ∧ ActAt cfg ops D i ∧ Anc m i c := fun h ⟨i, hi, ha, hx⟩ => h ⟨i, .inl hi, ha, hx⟩
  refine ⟨hj.closed.with hrd, ?_, fun c o' ho' hc' hL => hj.fresh c o' ho' hc' (fun h => hL (.inl h)), ⟨_, J.fstep hr hj.closed hF ho hrd hn, hFR.step hj.size hv (fun t e => hr.dsts o (List.mem_of_getElem? ho) t e)⟩, by rw [put_size]; exact hj.size, by rw [put_defers]; exact hj.defers⟩
  cases hA : isA (insOf cfg o.op) with
  | false =>
    refine ⟨p, H, hp, fun i q hq hqa => ?_, hH.with hna hnc, hI, hnx, hK, fun c ob hc hx => hcl c ob hc (hnoex hx)⟩
    rw [← hact i q hq hqa]
    refine ⟨fun hi => ?_, .inl⟩
    rcases hi with hi | rfl
    · exact hi
    · rw [ho] at hq; cases hq; rw [hA] at hqa; cases hqa
  | true =>
    have hpj : (D p).h = (D j).h := by
      have hiff : ∀ i q, ops[i]? = some q → isA (insOf cfg q.op) = true → (i < p ↔ i < j) := fun i q hq hqa => by
        rw [← hact i q hq hqa]; exact hr.plan.actors hj.closed ho hrd hn hA hq hqa
      by_cases hle : p ≤ j
      · exact (hr.trace.heap_eq j hle (by omega) (fun i q h1 h2 hq => by
          cases e : isA (insOf cfg q.op) with
          | false => rfl
          | true => have := (hiff i q hq e).2 h2; omega)).symm
      · exact hr.trace.heap_eq p (by omega) hp (fun i q h1 h2 hq => by
          cases e : isA (insOf cfg q.op) with
          | false => rfl
          | true => have := (hiff i q hq e).1 h2; omega)
    have hh' := hH.with (j := j) hna hnc
    refine ⟨j + 1, H, by omega, fun i q hq hqa => ?_, ⟨by rw [hh, ← hpj]; exact hh'.next, hh'.hit, fun i hi => by rw [hh, ← hpj]; exact hh'.miss i hi⟩, hI, hnx, hK, fun c ob hc hx => by rw [hh, ← hpj]; exact hcl c ob hc (hnoex hx)⟩
    have := hr.plan.actors hj.closed ho hrd hn hA hq hqa
    constructor
    · rintro (hi | rfl)
      · have := this.1 hi; omega
      · omega
    · intro hi
      by_cases e : i = j
      · exact .inr e
      · exact .inl (this.2 (by omega))
/-- A read. -/
theorem J.reads (hr : Run cfg nt callf ops m D h0 fr0) {L : Nat → Prop} {s : St} {w : World} {a : Act} (hj : J cfg G N0 nt ops m D s0 h0 w0 fr0 L s w a) {j : Nat} {o : Oper} (ho : ops[j]? = some o) (hrd : Ready ops L j) (hn : ¬ L j)
    {f : Fr → AHeap → Option AV} (hi : insOf cfg o.op = .R f) (hw : wantedA ops o (D j).fr = true) : ∃ H F, Inv cfg G N0 s H w ∧ FRel s F a.tmps ∧ f F H = some (Vt D j) := by
  obtain ⟨p, H, hp, hact, hH, hI, hnx, hK, hcl⟩ := hj.heap
  obtain ⟨F, hF, hFR⟩ := hj.frame
  have hcong := ins_congr (cfg := cfg) o.op
  rw [hi] at hcong
  have hfe := hcong F (D j).fr (J.feq hr hj.closed hF ho hrd hn)
  have hsub : ∀ i ob, (D p).h.get i = some ob → H.get i = some ob := fun i ob hg => by
    by_cases hx : ∀ c ob', Unfl cfg ops m D L c → CrOf cfg ops D c ob' → i ≠ (D c).nid
    · rw [hH.miss i hx]; exact hg
    · exfalso
      apply hx
      intro c ob' hu hc e
      subst e
      rw [hcl c ob' hc hu.2] at hg
      cases hg
  refine ⟨(D p).h, F, hI.sub hsub hH.next.symm, hFR, ?_⟩
  rw [hfe]
  refine hr.reads j o f ho hi hw p hp ?_ ?_
  · refine countA_mono _ _ ops 0 fun k q hk hqa hx => ?_
    simp only [Nat.zero_add] at hx ⊢
    have := Ready.anc hr.plan hj.closed hrd ⟨o, ho⟩ (i := k) hx
    simpa using (hact k q hk hqa).1 this
  · refine countA_mono _ _ ops 0 fun k q hk hqa hx => ?_
    simp only [Nat.zero_add, decide_eq_true_eq] at hx ⊢
    have hL := (hact k q hk hqa).2 hx
    cases e : (m.getD k 0).testBit j with
    | false => rfl
    | true => exact absurd (hj.closed.anc hr.plan hL ⟨q, hk⟩ e) hn
/-- A creator. -/
theorem J.make (hr : Run cfg nt callf ops m D h0 fr0) {L : Nat → Prop} {s : St} {w : World} {a : Act} (hc : CfgTy cfg) (hj : J cfg G N0 nt ops m D s0 h0 w0 fr0 L s w a) {j : Nat} {o : Oper} (ho : ops[j]? = some o) (hrd : Ready ops L j) (hn : ¬ L j)
    {f : Fr → Option (AObj × (Nat → AV))} {q : AObj × (Nat → AV)} (hi : insOf cfg o.op = .C f) (hw : wantedA ops o (D j).fr = true) (hf : f (D j).fr = some q) (hv : Vt D j = q.2 (D j).nid) (hh : (D (j + 1)).h = (D j).h) :
    ∃ V w' s', (execOp a.eval o).run cfg.P w = .ok (.value V) w' ∧ J cfg G N0 nt ops m D s0 h0 w0 fr0 (With L j) s' w' (a.put o.dst V) := by
  obtain ⟨p, H, hp, hact, hH, hI, hnx, hK, hcl⟩ := hj.heap
  obtain ⟨F, hF, hFR⟩ := hj.frame
  have hcong := ins_congr (cfg := cfg) o.op
  rw [hi] at hcong
  have hfe := hcong F (D j).fr (J.feq hr hj.closed hF ho hrd hn)
  have hisC : isC (insOf cfg o.op) = true := by rw [hi]; rfl
  have hcrj : CrOf cfg ops D j q.1 := ⟨o, f, q, ho, hi, hw, hf, rfl⟩
  have hfree := hj.fresh j o ho hisC hn
  have hnid := hr.nid_lt ho hisC
  have hE : ∀ g, Ext s (s.born (D j).nid w.heap.size g) := fun g => by
    refine ⟨fun i b hm => ?_, fun b k hg => ?_, fun _ _ _ h => h⟩
    · show (if i = (D j).nid then some w.heap.size else s.mem i) = some b
      by_cases e : i = (D j).nid
      · subst e; rw [hfree] at hm; cases hm
      · rw [if_neg e]; exact hm
    · show (if b = w.heap.size then g else s.geo b) = some k
      by_cases e : b = w.heap.size
      · subst e; have := hI.geolt _ _ hg; omega
      · rw [if_neg e]; exact hg
  obtain ⟨V, w', hrun, g, ob, hw', hos, htape, hout, hob, hval⟩ := insC_sound hc hE hi hFR (by rw [hfe]; exact hf)
  obtain ⟨hI', hK'⟩ := hI.newAt (by omega) hfree hw' hob hos htape hout
  have hmem : ∀ i, i ≠ (D j).nid → (s.born (D j).nid w.heap.size g).mem i = s.mem i := fun i hne => if_neg hne
  have hnotA : ¬ ActAt cfg ops D j := fun ⟨o', h1, h2, _⟩ => by rw [ho] at h1; cases h1; rw [hi] at h2; cases h2
  have hnoflush : ¬ ∃ i, With L j i ∧ ActAt cfg ops D i ∧ Anc m i j := fun ⟨i, hLi, ha, hx⟩ => by
    obtain ⟨o', ho', _⟩ := id ha
    rcases hLi with hLi | rfl
    · exact hn (hj.closed.anc hr.plan hLi ⟨o', ho'⟩ hx)
    · exact hnotA ha
  have hunfl : ∀ c ob, CrOf cfg ops D c ob → (Unfl cfg ops m D (With L j) c ↔ Unfl cfg ops m D L c ∨ c = j) := fun c ob hcr => by
    constructor
    · rintro ⟨h1, h2⟩
      rcases h1 with h1 | rfl
      · exact .inl ⟨h1, fun ⟨i, hi, ha, hx⟩ => h2 ⟨i, .inl hi, ha, hx⟩⟩
      · exact .inr rfl
    · rintro (⟨h1, h2⟩ | rfl)
      · refine ⟨.inl h1, fun ⟨i, hi, ha, hx⟩ => ?_⟩
        rcases hi with hi | rfl
        · exact h2 ⟨i, hi, ha, hx⟩
        · exact hnotA ha
      · exact ⟨.inr rfl, hnoflush⟩
  refine ⟨V, w', _, hrun, hj.closed.with hrd, ⟨p, H.put (D j).nid q.1, hp, fun i u hu hua => ?_, ⟨hH.next, fun c ob' hu hcr => ?_, fun i hx => ?_⟩, hI', hnx, ?_, fun c ob' hcr hx => hcl c ob' hcr (fun ⟨i, hi, ha, hy⟩ => hx ⟨i, .inl hi, ha, hy⟩)⟩, ?_, ?_, by rw [put_size]; exact hj.size, by rw [put_defers]; exact hj.defers⟩
  · rw [← hact i u hu hua]
    refine ⟨fun hi' => ?_, .inl⟩
    rcases hi' with hi' | rfl
    · exact hi'
    · rw [ho] at hu; cases hu; rw [hi] at hua; cases hua
  · rw [AHeap.get_put]
    by_cases e : (D c).nid = (D j).nid
    · have := hcr.inj hr hcrj e
      subst this
      rw [if_pos rfl, hcr.fun hcrj]
    · rw [if_neg e]
      rcases (hunfl c ob' hcr).1 hu with hu | rfl
      · exact hH.hit c ob' hu hcr
      · exact absurd rfl e
  · have hne : i ≠ (D j).nid := hx j q.1 ((hunfl j q.1 hcrj).2 (.inr rfl)) hcrj
    rw [AHeap.get_put, if_neg hne]
    exact hH.miss i fun c ob' hu hcr => hx c ob' ((hunfl c ob' hcr).2 (.inl hu)) hcr
  · refine ⟨hK.toKeep0.trans hK', fun i hlt => ?_, hK.next⟩
    rw [hmem i (by omega)]
    exact hK.mem i hlt
  · intro c u hu huc hL
    have hne : c ≠ j := fun e => hL (.inr e)
    rw [hmem _ (fun e => hne (hr.trace.nid_inj hu huc ho hisC e))]
    exact hj.fresh c u hu huc (fun e => hL (.inl e))
  · exact ⟨_, J.fstep hr hj.closed hF ho hrd hn, (hFR.ext (hE g)).step hj.size (by rw [hv]; exact hval) (fun t e => hr.dsts o (List.mem_of_getElem? ho) t e)⟩
/-- Ahead of an actor the machine's heap is the run's. -/
theorem J.base (hr : Run cfg nt callf ops m D h0 fr0) {L : Nat → Prop} (hcl : Closed ops L) {p j : Nat} {o : Oper} (hp : p ≤ ops.length) (hact : ∀ i o, ops[i]? = some o → isA (insOf cfg o.op) = true → (L i ↔ i < p)) (ho : ops[j]? = some o) (hrd : Ready ops L j) (hn : ¬ L j) (hA : isA (insOf cfg o.op) = true) : (D p).h = (D j).h := by
  have hlen := (List.getElem?_eq_some_iff.1 ho).1
  have hiff : ∀ i q, ops[i]? = some q → isA (insOf cfg q.op) = true → (i < p ↔ i < j) := fun i q hq hqa => by
    rw [← hact i q hq hqa]; exact hr.plan.actors hcl ho hrd hn hA hq hqa
  by_cases hle : p ≤ j
  · exact (hr.trace.heap_eq j hle (by omega) (fun i q h1 h2 hq => by
      cases e : isA (insOf cfg q.op) with
      | false => rfl
      | true => have := (hiff i q hq e).2 h2; omega)).symm
  · exact hr.trace.heap_eq p (by omega) hp (fun i q h1 h2 hq => by
      cases e : isA (insOf cfg q.op) with
      | false => rfl
      | true => have := (hiff i q hq e).1 h2; omega)
theorem ext_list (P : Nat → Prop) : ∀ n : Nat, ∃ l : List (Nat × Nat × AObj), ∀ x, x ∈ l ↔ x.1 < n ∧ P x.1 ∧ CrOf cfg ops D x.1 x.2.2 ∧ x.2.1 = (D x.1).nid
  | 0 => ⟨[], fun x => by simp⟩
  | n + 1 => by
    obtain ⟨l, hl⟩ := ext_list P n
    by_cases hc : P n ∧ ∃ ob, CrOf cfg ops D n ob
    · obtain ⟨hP, ob, hob⟩ := hc
      refine ⟨(n, (D n).nid, ob) :: l, fun x => ?_⟩
      rw [List.mem_cons, hl]
      constructor
      · rintro (rfl | ⟨h1, h2⟩)
        · exact ⟨Nat.lt_succ_self _, hP, hob, rfl⟩
        · exact ⟨by omega, h2⟩
      · rintro ⟨h1, h2, h3, h4⟩
        by_cases e : x.1 = n
        · left
          obtain ⟨c, id, ob'⟩ := x
          simp only at e h2 h3 h4
          subst e
          rw [h4, h3.fun hob]
        · exact .inr ⟨by omega, h2, h3, h4⟩
    · refine ⟨l, fun x => ?_⟩
      rw [hl]
      constructor
      · rintro ⟨h1, h2⟩; exact ⟨by omega, h2⟩
      · rintro ⟨h1, h2, h3, h4⟩
        by_cases e : x.1 = n
        · exact absurd ⟨e ▸ h2, x.2.2, e ▸ h3⟩ hc
        · exact ⟨by omega, h2, h3, h4⟩
/-- An actor. -/
theorem J.act (hr : Run cfg nt callf ops m D h0 fr0) {L : Nat → Prop} {s : St} {w : World} {a : Act} (hc : CfgTy cfg) (hcall : CallsOk cfg G N0 callf) (hj : J cfg G N0 nt ops m D s0 h0 w0 fr0 L s w a) {j : Nat} {o : Oper} (ho : ops[j]? = some o) (hrd : Ready ops L j) (hn : ¬ L j)
    {f : CallF → Fr → AHeap → Option (AV × AHeap)} (hi : insOf cfg o.op = .A f) (hw : wantedA ops o (D j).fr = true) (hv : f callf (D j).fr (putAll (D j).h ((D j).pend.filter fun p => (m.getD j 0).testBit p.1)) = some (Vt D j, (D (j + 1)).h))
    {next : Act → World → Prop} {Q : Exit → Act → World → Prop} (hnext : ∀ s' V w', J cfg G N0 nt ops m D s0 h0 w0 fr0 (With L j) s' w' (a.put o.dst V) → next (a.put o.dst V) w') : o.wp cfg.P a w next Q := by
  obtain ⟨p, H, hp, hact, hH, hI, hnx, hK, hcl⟩ := hj.heap
  obtain ⟨F, hF, hFR⟩ := hj.frame
  have hcong := ins_congr (cfg := cfg) o.op
  rw [hi] at hcong
  have hfe := hcong F (D j).fr (J.feq hr hj.closed hF ho hrd hn)
  have hlen := (List.getElem?_eq_some_iff.1 ho).1
  have hisA : isA (insOf cfg o.op) = true := by rw [hi]; rfl
  have hactj : ActAt cfg ops D j := ⟨o, ho, hisA, hw⟩
  have hpj := J.base hr hj.closed hp hact ho hrd hn hisA
  have hncr : ∀ ob, ¬ CrOf cfg ops D j ob := fun ob ⟨o', f', p', h1, h2, _⟩ => by rw [ho] at h1; cases h1; rw [hi] at h2; cases h2
  have hpend := hr.trace.pend hr.plan hr.pend0 j (by omega)
  generalize hAdef : putAll (D j).h ((D j).pend.filter fun p => (m.getD j 0).testBit p.1) = A at hv
  have hAn : A.next = H.next := by rw [← hAdef, putAll_next, hH.next, hpj]
  have hflt : ∀ x, x ∈ (D j).pend.filter (fun p => (m.getD j 0).testBit p.1) → Unfl cfg ops m D L x.1 ∧ CrOf cfg ops D x.1 x.2.2 ∧ x.2.1 = (D x.1).nid ∧ Anc m j x.1 := fun x hx => by
    rw [List.mem_filter, hpend] at hx
    obtain ⟨⟨h1, h2, h3, h4⟩, h5⟩ := hx
    refine ⟨⟨Ready.anc hr.plan hj.closed hrd ⟨o, ho⟩ h5, fun ⟨i, hLi, ha, hy⟩ => h4 ⟨i, ?_, ha, hy⟩⟩, h2, h3, h5⟩
    obtain ⟨q, hq, hqa, _⟩ := id ha
    exact (hr.plan.actors hj.closed ho hrd hn hisA hq hqa).1 hLi
  have hA : ∀ i ob, A.get i = some ob → H.get i = some ob := fun i ob hg => by
    by_cases hx : ∃ x ∈ (D j).pend.filter (fun p => (m.getD j 0).testBit p.1), x.2.1 = i
    · obtain ⟨x, hx, e⟩ := hx
      obtain ⟨hu, hcr, hid, _⟩ := hflt x hx
      have hAi : A.get i = some x.2.2 := by
        rw [← hAdef]
        refine putAll_hit _ _ i _ ⟨x, hx, e⟩ fun y hy e' => ?_
        obtain ⟨_, hcr', hid', _⟩ := hflt y hy
        have := hcr.inj hr hcr' (by rw [← hid, ← hid', e, e'])
        rw [← this] at hcr'
        exact hcr'.fun hcr
      rw [hAi] at hg
      cases hg
      rw [← e, hid]
      exact hH.hit x.1 x.2.2 hu hcr
    · rw [← hAdef, putAll_miss _ _ i (fun x hx' e => hx ⟨x, hx', e⟩), ← hpj] at hg
      by_cases hy : ∀ c ob', Unfl cfg ops m D L c → CrOf cfg ops D c ob' → i ≠ (D c).nid
      · rw [hH.miss i hy]; exact hg
      · exfalso
        apply hy
        intro c ob' hu hcr e
        subst e
        rw [hcl c ob' hcr hu.2] at hg
        cases hg
  have hIA : Inv cfg G N0 s A w := hI.sub hA hAn
  refine insA_sound hc hcall hIA hi hFR (by rw [hfe]; exact hv) (fun V w' hpost => ?_)
  obtain ⟨s', hI2, hK2, hV⟩ := hpost
  refine hnext s' V w' ?_
  have hunfl : ∀ c ob, CrOf cfg ops D c ob → Unfl cfg ops m D (With L j) c → Unfl cfg ops m D L c ∧ ¬ Anc m j c := fun c ob hcr ⟨h1, h2⟩ => by
    refine ⟨⟨?_, fun ⟨i, hLi, ha, hx⟩ => h2 ⟨i, .inl hLi, ha, hx⟩⟩, fun hx => h2 ⟨j, .inr rfl, hactj, hx⟩⟩
    rcases h1 with h1 | rfl
    · exact h1
    · exact absurd hcr (hncr ob)
  have hidlt : ∀ c ob, CrOf cfg ops D c ob → (D c).nid < A.next := fun c ob hcr => by
    obtain ⟨q, hq, hqc⟩ := hcr.isC
    have := (hr.nid_lt hq hqc).2
    omega
  have hAmiss : ∀ c ob, CrOf cfg ops D c ob → (¬ ∃ i, With L j i ∧ ActAt cfg ops D i ∧ Anc m i c) → A.get (D c).nid = none := fun c ob hcr hno => by
    rw [← hAdef, putAll_miss _ _ _ (fun x hx e => ?_), ← hpj]
    · exact hcl c ob hcr (fun ⟨i, hLi, ha, hx⟩ => hno ⟨i, .inl hLi, ha, hx⟩)
    · obtain ⟨_, hcr', hid', hanc⟩ := hflt x hx
      have := hcr'.inj hr hcr (by rw [← hid', e])
      rw [this] at hanc
      exact hno ⟨j, .inr rfl, hactj, hanc⟩
  have hmem : ∀ i, i < A.next → s'.mem i = s.mem i := hK2.mem
  have hclean : ∀ c ob, CrOf cfg ops D c ob → (¬ ∃ i, With L j i ∧ ActAt cfg ops D i ∧ Anc m i c) → (D (j + 1)).h.get (D c).nid = none := fun c ob hcr hno => by
    cases e : (D (j + 1)).h.get (D c).nid with
    | none => rfl
    | some o2 =>
      exfalso
      obtain ⟨b, hm, _⟩ := hI2.obj _ _ e
      have hms := hm
      rw [hmem _ (hidlt c ob hcr)] at hms
      by_cases hLc : L c
      · have hu : Unfl cfg ops m D L c := ⟨hLc, fun ⟨i, hLi, ha, hx⟩ => hno ⟨i, .inl hLi, ha, hx⟩⟩
        rcases hK2.own b ⟨_, by rw [e]; simp, hm⟩ with ⟨i2, h1, h2⟩ | hle
        · have hne : H.get i2 ≠ none := by
            cases e2 : A.get i2 with
            | none => exact absurd e2 h1
            | some o3 => rw [hA i2 o3 e2]; simp
          have := hI.inj i2 (D c).nid b hne (by rw [hH.hit c ob hu hcr]; simp) h2 hms
          subst this
          exact h1 (hAmiss c ob hcr hno)
        · have := hI.memlt _ _ hms; omega
      · obtain ⟨q, hq, hqc⟩ := hcr.isC
        rw [hj.fresh c q hq hqc hLc] at hms
        cases hms
  obtain ⟨l, hl⟩ := ext_list (cfg := cfg) (ops := ops) (D := D) (Unfl cfg ops m D (With L j)) ops.length
  have hin : ∀ c ob, Unfl cfg ops m D (With L j) c → CrOf cfg ops D c ob → (c, (D c).nid, ob) ∈ l := fun c ob hu hcr => by
    obtain ⟨q, hq, _⟩ := hcr.isC
    exact (hl _).2 ⟨(List.getElem?_eq_some_iff.1 hq).1, hu, hcr, rfl⟩
  have hhit : ∀ c ob, Unfl cfg ops m D (With L j) c → CrOf cfg ops D c ob → (putAll (D (j + 1)).h l).get (D c).nid = some ob := fun c ob hu hcr => by
    refine putAll_hit l _ _ ob ⟨_, hin c ob hu hcr, rfl⟩ fun y hy e => ?_
    obtain ⟨_, _, hcr', hid'⟩ := (hl y).1 hy
    have := hcr'.inj hr hcr (by rw [← hid', e])
    rw [this] at hcr'
    exact hcr'.fun hcr
  have hmiss : ∀ i, (∀ c ob, Unfl cfg ops m D (With L j) c → CrOf cfg ops D c ob → i ≠ (D c).nid) → (putAll (D (j + 1)).h l).get i = (D (j + 1)).h.get i := fun i hi' =>
    putAll_miss l _ i fun x hx e => by
      obtain ⟨_, hu, hcr', hid'⟩ := (hl x).1 hx
      exact hi' x.1 x.2.2 hu hcr' (by rw [← hid', e])
  have hfr := hI.frame (H' := putAll (D (j + 1)).h l) hA hI2 hK2 (putAll_next _ _) (fun i => by
    by_cases hx : ∀ c ob, Unfl cfg ops m D (With L j) c → CrOf cfg ops D c ob → i ≠ (D c).nid
    · exact .inl (hmiss i hx)
    · right
      have : ∃ c ob, Unfl cfg ops m D (With L j) c ∧ CrOf cfg ops D c ob ∧ i = (D c).nid := by
        apply Classical.byContradiction
        intro hno
        exact hx fun c ob hu hcr e => hno ⟨c, ob, hu, hcr, e⟩
      obtain ⟨c, ob, hu, hcr, rfl⟩ := this
      have hu' := (hunfl c ob hcr hu).1
      refine ⟨hAmiss c ob hcr hu.2, ?_, ?_⟩
      · rw [hhit c ob hu hcr, hH.hit c ob hu' hcr]
      · rw [hH.hit c ob hu' hcr]; simp)
  have hAsub : ∀ b, Own s A b → Own s H b := fun b ⟨i, h1, h2⟩ => ⟨i, by
    cases e2 : A.get i with
    | none => exact absurd e2 h1
    | some o3 => rw [hA i o3 e2]; simp, h2⟩
  refine ⟨hj.closed.with hrd, ⟨j + 1, putAll (D (j + 1)).h l, by omega, fun i q hq hqa => ?_, ⟨putAll_next _ _, hhit, hmiss⟩, hfr.1, ?_, ?_, hclean⟩, ?_, ?_, by rw [put_size]; exact hj.size, by rw [put_defers]; exact hj.defers⟩
  · have := hr.plan.actors hj.closed ho hrd hn hisA hq hqa
    constructor
    · rintro (hi' | rfl)
      · have := this.1 hi'; omega
      · omega
    · intro hi'
      by_cases e : i = j
      · exact .inr e
      · exact .inl (this.2 (by omega))
  · rw [putAll_next]
    have := hK2.next
    omega
  · refine ⟨⟨hK2.os.trans hK.os, hK2.tape.trans hK.tape, hK2.output.trans hK.output, Nat.le_trans hK.size hK2.size, fun b hb hno => ?_, fun b o' hb hx => hK.imm b o' hb (hK2.imm b o' (Nat.lt_of_lt_of_le hb hK.size) hx), fun b hb => (hK2.geo b (Nat.lt_of_lt_of_le hb hK.size)).trans (hK.geo b hb), fun b hb => ?_, hK.ext.trans hK2.ext⟩, fun i hlt => ?_, ?_⟩
    · rw [hK2.block b (Nat.lt_of_lt_of_le hb hK.size) (fun hown => ?_)]
      · exact hK.block b hb hno
      · rcases hK.own b (hAsub b hown) with h | h
        · exact hno h
        · omega
    · rcases hfr.2 b hb with h | h
      · exact hK.own b h
      · exact .inr (Nat.le_trans hK.size h)
    · rw [hK2.mem i (by have := hK.next; omega)]
      exact hK.mem i hlt
    · rw [putAll_next]
      have h1 := hK2.next
      have h2 := hK.next
      omega
  · intro c u hu huc hL
    rw [hmem _ (by have := (hr.nid_lt hu huc).2; omega)]
    exact hj.fresh c u hu huc (fun e => hL (.inl e))
  · exact ⟨_, J.fstep hr hj.closed hF ho hrd hn, (hFR.ext hK2.ext).step hj.size hV (fun t e => hr.dsts o (List.mem_of_getElem? ho) t e)⟩
end
end Go.Am
