/- What the machine's one run through a region tells of each operation. -/
import Derived.Test.YtphmddmboankhaaGreatDoorAmPlan
namespace Go.Am
section
variable {cfg : Cfg} {callf : CallF} {ops : List Oper} {m : List Nat} {D : Nat → DSt}
/-! ### 29. The run, step by step -/
/-- The state ahead of each operation. -/
def Trace (cfg : Cfg) (callf : CallF) (ops : List Oper) (m : List Nat) (D : Nat → DSt) : Prop :=
  ∀ j o, ops[j]? = some o → (wantedA ops o (D j).fr = true ∧ stepD callf (insOf cfg o.op) o.dst (m.getD j 0) j (D j) = some (D (j + 1))) ∨ (wantedA ops o (D j).fr = false ∧ D (j + 1) = dN (D j) o.dst (isC (insOf cfg o.op)) (isA (insOf cfg o.op)))
theorem runD_trace : ∀ (l : List Oper) (ms : List Nat) (i : Nat) (s s' : DSt), runD cfg callf ops l ms i s = some s' → ∃ D : Nat → DSt, D i = s ∧ D (i + l.length) = s' ∧
    ∀ j o, l[j]? = some o → (wantedA ops o (D (i + j)).fr = true ∧ stepD callf (insOf cfg o.op) o.dst (ms.getD j 0) (i + j) (D (i + j)) = some (D (i + j + 1))) ∨ (wantedA ops o (D (i + j)).fr = false ∧ D (i + j + 1) = dN (D (i + j)) o.dst (isC (insOf cfg o.op)) (isA (insOf cfg o.op)))
  | [], ms, i, s, s', h => by
    unfold runD at h
    cases h
    exact ⟨fun _ => s, rfl, rfl, fun j o hj => by simp at hj⟩
  | o :: l, [], i, s, s', h => by unfold runD at h; cases h
  | o :: l, mk :: ms, i, s, s', h => by
    have key : ∀ s1, runD cfg callf ops l ms (i + 1) s1 = some s' → ((wantedA ops o s.fr = true ∧ stepD callf (insOf cfg o.op) o.dst mk i s = some s1) ∨ (wantedA ops o s.fr = false ∧ s1 = dN s o.dst (isC (insOf cfg o.op)) (isA (insOf cfg o.op)))) →
        ∃ D : Nat → DSt, D i = s ∧ D (i + (o :: l).length) = s' ∧
    ∀ j q, (o :: l)[j]? = some q → (wantedA ops q (D (i + j)).fr = true ∧ stepD callf (insOf cfg q.op) q.dst ((mk :: ms).getD j 0) (i + j) (D (i + j)) = some (D (i + j + 1))) ∨ (wantedA ops q (D (i + j)).fr = false ∧ D (i + j + 1) = dN (D (i + j)) q.dst (isC (insOf cfg q.op)) (isA (insOf cfg q.op))) := by
      intro s1 h1 h2
      obtain ⟨D1, e1, e2, e3⟩ := runD_trace l ms (i + 1) s1 s' h1
      have hi : (if i ≤ i then s else D1 i) = s := if_pos (Nat.le_refl i)
      have hgt : ∀ k, i < k → (if k ≤ i then s else D1 k) = D1 k := fun k hk => if_neg (by omega)
      refine ⟨fun k => if k ≤ i then s else D1 k, hi, ?_, fun j q hq => ?_⟩
      · show (if i + (l.length + 1) ≤ i then s else D1 (i + (l.length + 1))) = s'
        rw [hgt _ (by omega), show i + (l.length + 1) = i + 1 + l.length by omega]
        exact e2
      · cases j with
        | zero =>
          simp only [List.getElem?_cons_zero, Option.some.injEq] at hq
          subst hq
          have e0 : (if i + 1 ≤ i then s else D1 (i + 1)) = s1 := by rw [hgt _ (by omega), e1]
          simp only [Nat.add_zero, List.getD_cons_zero, hi, e0]
          exact h2
        | succ j =>
          have := e3 j q (by simpa using hq)
          simp only [List.getD_cons_succ, hgt (i + (j + 1)) (by omega), hgt (i + (j + 1) + 1) (by omega)]
          rw [show i + (j + 1) = i + 1 + j by omega]
          exact this
    unfold runD at h
    cases hw : wantedA ops o s.fr with
    | true =>
      rw [hw] at h
      simp only [cond_true] at h
      split at h
      · rename_i s1 hs
        exact key s1 h (.inl ⟨hw, hs⟩)
      · cases h
    | false =>
      rw [hw] at h
      exact key _ h (.inr ⟨hw, rfl⟩)
/-- What operation j lays into its temporary. -/
def Vt (D : Nat → DSt) (j : Nat) : AV := (D (j + 1)).vals.headD .undef
/-- A wanted creator and its object. -/
def CrOf (cfg : Cfg) (ops : List Oper) (D : Nat → DSt) (c : Nat) (ob : AObj) : Prop :=
  ∃ o f p, ops[c]? = some o ∧ insOf cfg o.op = .C f ∧ wantedA ops o (D c).fr = true ∧ f (D c).fr = some p ∧ p.1 = ob
/-- A wanted actor. -/
def ActAt (cfg : Cfg) (ops : List Oper) (D : Nat → DSt) (j : Nat) : Prop := ∃ o, ops[j]? = some o ∧ isA (insOf cfg o.op) = true ∧ wantedA ops o (D j).fr = true
theorem CrOf.fun {c : Nat} {x y : AObj} (hx : CrOf cfg ops D c x) (hy : CrOf cfg ops D c y) : x = y := by
  obtain ⟨o, f, p, h1, h2, _, h3, rfl⟩ := hx
  obtain ⟨o', f', p', h1', h2', _, h3', rfl⟩ := hy
  rw [h1] at h1'; cases h1'
  rw [h2] at h2'; cases h2'
  rw [h3] at h3'; cases h3'
  rfl
inductive Kind (cfg : Cfg) (callf : CallF) (ops : List Oper) (m : List Nat) (D : Nat → DSt) (j : Nat) (o : Oper) : Prop where
  | unwanted (hw : wantedA ops o (D j).fr = false) (hv : Vt D j = .undef) (hh : (D (j + 1)).h = (D j).h) (hp : (D (j + 1)).pend = (D j).pend)
  | pure (f : Fr → Option AV) (hi : insOf cfg o.op = .P f) (hw : wantedA ops o (D j).fr = true) (hv : f (D j).fr = some (Vt D j)) (hh : (D (j + 1)).h = (D j).h) (hp : (D (j + 1)).pend = (D j).pend)
  | read (f : Fr → AHeap → Option AV) (hi : insOf cfg o.op = .R f) (hw : wantedA ops o (D j).fr = true) (hv : f (D j).fr (D j).h = some (Vt D j)) (hh : (D (j + 1)).h = (D j).h) (hp : (D (j + 1)).pend = (D j).pend)
  | make (f : Fr → Option (AObj × (Nat → AV))) (p : AObj × (Nat → AV)) (hi : insOf cfg o.op = .C f) (hw : wantedA ops o (D j).fr = true) (hf : f (D j).fr = some p) (hv : Vt D j = p.2 (D j).nid) (hh : (D (j + 1)).h = (D j).h) (hp : (D (j + 1)).pend = (D j).pend ++ [(j, (D j).nid, p.1)])
  | act (f : CallF → Fr → AHeap → Option (AV × AHeap)) (hi : insOf cfg o.op = .A f) (hw : wantedA ops o (D j).fr = true) (hv : f callf (D j).fr (putAll (D j).h ((D j).pend.filter fun p => (m.getD j 0).testBit p.1)) = some (Vt D j, (D (j + 1)).h)) (hp : (D (j + 1)).pend = (D j).pend.filter fun p => !(m.getD j 0).testBit p.1)
theorem Trace.inv (ht : Trace cfg callf ops m D) {j : Nat} {o : Oper} (ho : ops[j]? = some o) :
    (D (j + 1)).fr = Fr.put (D j).fr o.dst (Vt D j) ∧ (D (j + 1)).vals = Vt D j :: (D j).vals ∧ (D (j + 1)).nid = (bif isC (insOf cfg o.op) then (D j).nid + 1 else (D j).nid) ∧ (D (j + 1)).hts = (bif isA (insOf cfg o.op) then (D (j + 1)).h :: (D j).hts else (D j).hts) ∧ Kind cfg callf ops m D j o := by
  rcases ht j o ho with ⟨hw, hs⟩ | ⟨hw, hs⟩
  · cases hi : insOf cfg o.op with
    | P f =>
      rw [hi] at hs
      simp only [stepD, force_eq] at hs
      split at hs
      · rename_i v hv
        have hs := (Option.some.inj hs).symm
        have hV : Vt D j = v := by unfold Vt; rw [hs]; rfl
        exact ⟨by rw [hs, hV]; rfl, by rw [hs, hV]; rfl, by rw [hs]; rfl, by rw [hs]; rfl, .pure f hi hw (by rw [hV]; exact hv) (by rw [hs]; rfl) (by rw [hs]; rfl)⟩
      · cases hs
    | R f =>
      rw [hi] at hs
      simp only [stepD, force_eq] at hs
      split at hs
      · rename_i v hv
        have hs := (Option.some.inj hs).symm
        have hV : Vt D j = v := by unfold Vt; rw [hs]; rfl
        exact ⟨by rw [hs, hV]; rfl, by rw [hs, hV]; rfl, by rw [hs]; rfl, by rw [hs]; rfl, .read f hi hw (by rw [hV]; exact hv) (by rw [hs]; rfl) (by rw [hs]; rfl)⟩
      · cases hs
    | C f =>
      rw [hi] at hs
      simp only [stepD] at hs
      split at hs
      · rename_i p hv
        have hs := (Option.some.inj hs).symm
        have hV : Vt D j = p.2 (D j).nid := by unfold Vt; rw [hs]; rfl
        exact ⟨by rw [hs, hV]; rfl, by rw [hs, hV]; rfl, by rw [hs]; rfl, by rw [hs]; rfl, .make f p hi hw hv hV (by rw [hs]; rfl) (by rw [hs]; rfl)⟩
      · cases hs
    | A f =>
      rw [hi] at hs
      simp only [stepD, force_eq] at hs
      split at hs
      · rename_i v h2 hv
        have hs := (Option.some.inj hs).symm
        have hV : Vt D j = v := by unfold Vt; rw [hs]; rfl
        exact ⟨by rw [hs, hV]; rfl, by rw [hs, hV]; rfl, by rw [hs]; rfl, by rw [hs]; rfl, .act f hi hw (by rw [hV, hs]; exact hv) (by rw [hs]; rfl)⟩
      · cases hs
    | X => rw [hi] at hs; cases hs
  · have hV : Vt D j = .undef := by unfold Vt; rw [hs]; rfl
    exact ⟨by rw [hs, hV]; rfl, by rw [hs, hV]; rfl, by rw [hs]; rfl, by rw [hs]; rfl, .unwanted hw hV (by rw [hs]; rfl) (by rw [hs]; rfl)⟩
/-! ### 30. Frames -/
/-- A frame that holds what the operations of L laid, each temporary's last. -/
def FrameIs (ops : List Oper) (D : Nat → DSt) (fr0 : Fr) (L : Nat → Prop) (F : Fr) : Prop :=
  ∀ t, (∃ i o, L i ∧ ops[i]? = some o ∧ o.dst = some t ∧ (∀ i' o', L i' → ops[i']? = some o' → o'.dst = some t → i' ≤ i) ∧ Fr.at F t = Vt D i) ∨ ((∀ i o, L i → ops[i]? = some o → o.dst ≠ some t) ∧ Fr.at F t = Fr.at fr0 t)
theorem FrameIs.same {fr0 : Fr} {L L' : Nat → Prop} {F F' : Fr} (hF : FrameIs ops D fr0 L F) (hF' : FrameIs ops D fr0 L' F') {t : Nat} (hL : ∀ i o, ops[i]? = some o → o.dst = some t → (L i ↔ L' i)) : Fr.at F t = Fr.at F' t := by
  rcases hF t with ⟨i, o, h1, h2, h3, h4, h5⟩ | ⟨h1, h2⟩
  · rcases hF' t with ⟨i', o', h1', h2', h3', h4', h5'⟩ | ⟨h1', h2'⟩
    · have e1 := h4 i' o' ((hL i' o' h2' h3').2 h1') h2' h3'
      have e2 := h4' i o ((hL i o h2 h3).1 h1) h2 h3
      have : i = i' := by omega
      subst this
      rw [h5, h5']
    · exact absurd h3 (h1' i o ((hL i o h2 h3).1 h1) h2)
  · rcases hF' t with ⟨i', o', h1', h2', h3', h4', h5'⟩ | ⟨h1', h2'⟩
    · exact absurd h3' (h1 i' o' ((hL i' o' h2' h3').2 h1') h2')
    · rw [h2, h2']
theorem FrameIs.step {fr0 : Fr} {L : Nat → Prop} {F : Fr} (hF : FrameIs ops D fr0 L F) {j : Nat} {o : Oper} (ho : ops[j]? = some o) (hlt : ∀ t i q, o.dst = some t → L i → ops[i]? = some q → q.dst = some t → i < j) : FrameIs ops D fr0 (With L j) (Fr.put F o.dst (Vt D j)) := by
  intro t
  by_cases hd : o.dst = some t
  · refine .inl ⟨j, o, .inr rfl, ho, hd, fun i' o' hi' ho' hd' => ?_, ?_⟩
    · rcases hi' with hi' | rfl
      · exact Nat.le_of_lt (hlt t i' o' hd hi' ho' hd')
      · exact Nat.le_refl _
    · rw [hd, Fr.at_put, if_pos rfl]
  · have hat : Fr.at (Fr.put F o.dst (Vt D j)) t = Fr.at F t := by
      cases hdd : o.dst with
      | none => rfl
      | some u =>
        rw [Fr.at_put, if_neg]
        intro e
        subst e
        exact hd hdd
    rcases hF t with ⟨i, q, h1, h2, h3, h4, h5⟩ | ⟨h1, h2⟩
    · refine .inl ⟨i, q, .inl h1, h2, h3, fun i' o' hi' ho' hd' => ?_, by rw [hat]; exact h5⟩
      rcases hi' with hi' | rfl
      · exact h4 i' o' hi' ho' hd'
      · rw [ho] at ho'; cases ho'; exact absurd hd' hd
    · refine .inr ⟨fun i q hi hq hdq => ?_, by rw [hat]; exact h2⟩
      rcases hi with hi | rfl
      · exact h1 i q hi hq hdq
      · rw [ho] at hq; cases hq; exact hd hdq
theorem Trace.frame (ht : Trace cfg callf ops m D) {fr0 : Fr} (h0 : (D 0).fr = fr0) : ∀ j, j ≤ ops.length → FrameIs ops D fr0 (fun i => i < j) (D j).fr
  | 0, _ => fun t => .inr ⟨fun i o hi => absurd hi (Nat.not_lt_zero _), by rw [h0]⟩
  | j + 1, hj => by
    have ho : ops[j]? = some (ops[j]'(by omega)) := List.getElem?_eq_getElem (by omega)
    have := (ht.frame h0 j (by omega)).step ho (fun t i q _ hi _ _ => hi)
    rw [← (ht.inv ho).1] at this
    have e : With (fun i => i < j) j = fun i => i < j + 1 := by
      funext i
      simp only [With, eq_iff_iff]
      omega
    rw [e] at this
    exact this
/-! ### 31. Heaps, numbers, objects that wait -/
theorem Trace.heap_eq (ht : Trace cfg callf ops m D) {p : Nat} : ∀ q, p ≤ q → q ≤ ops.length → (∀ i o, p ≤ i → i < q → ops[i]? = some o → isA (insOf cfg o.op) = false) → (D q).h = (D p).h
  | 0, hpq, _, _ => by rw [Nat.le_zero.1 hpq]
  | q + 1, hpq, hq, hn => by
    by_cases e : p = q + 1
    · rw [e]
    · have ho : ops[q]? = some (ops[q]'(by omega)) := List.getElem?_eq_getElem (by omega)
      have hna := hn q _ (by omega) (by omega) ho
      rw [← ht.heap_eq q (by omega) (by omega) (fun i o h1 h2 => hn i o h1 (by omega))]
      cases (ht.inv ho).2.2.2.2 with
      | unwanted hw hv hh hp => exact hh
      | pure f hi hw hv hh hp => exact hh
      | read f hi hw hv hh hp => exact hh
      | make f p hi hw hf hv hh hp => exact hh
      | act f hi hw hv hp => rw [hi] at hna; cases hna
theorem Trace.nid_le (ht : Trace cfg callf ops m D) {p : Nat} : ∀ q, p ≤ q → q ≤ ops.length → (D p).nid ≤ (D q).nid
  | 0, hpq, _ => by rw [Nat.le_zero.1 hpq]; exact Nat.le_refl _
  | q + 1, hpq, hq => by
    by_cases e : p = q + 1
    · rw [e]; exact Nat.le_refl _
    · have ho : ops[q]? = some (ops[q]'(by omega)) := List.getElem?_eq_getElem (by omega)
      have := ht.nid_le (p := p) q (by omega) (by omega)
      rw [(ht.inv ho).2.2.1]
      cases isC (insOf cfg (ops[q]'(by omega)).op) <;> simp <;> omega
theorem Trace.nid_lt (ht : Trace cfg callf ops m D) {c q : Nat} {o : Oper} (ho : ops[c]? = some o) (hc : isC (insOf cfg o.op) = true) (hcq : c < q) (hq : q ≤ ops.length) : (D c).nid < (D q).nid := by
  have h1 := (ht.inv ho).2.2.1
  rw [hc] at h1
  have := ht.nid_le q (p := c + 1) (by omega) hq
  rw [h1] at this
  simp only [cond_true] at this
  omega
theorem CrOf.isC {c : Nat} {ob : AObj} (h : CrOf cfg ops D c ob) : ∃ o, ops[c]? = some o ∧ isC (insOf cfg o.op) = true := by
  obtain ⟨o, f, p, h1, h2, _⟩ := h
  exact ⟨o, h1, by rw [h2]; rfl⟩
/-- Creators have numbers of their own. -/
theorem Trace.nid_inj (ht : Trace cfg callf ops m D) {c c' : Nat} {o o' : Oper} (ho : ops[c]? = some o) (hc : Am.isC (insOf cfg o.op) = true) (ho' : ops[c']? = some o') (hc' : Am.isC (insOf cfg o'.op) = true) (he : (D c).nid = (D c').nid) : c = c' := by
  have h1 := (List.getElem?_eq_some_iff.1 ho).1
  have h2 := (List.getElem?_eq_some_iff.1 ho').1
  by_cases hlt : c < c'
  · have := ht.nid_lt ho hc hlt (by omega); omega
  · by_cases hgt : c' < c
    · have := ht.nid_lt ho' hc' hgt (by omega); omega
    · omega
theorem drop_cons {l : List Oper} {j : Nat} {o : Oper} {r : List Oper} (hd : l.drop j = o :: r) : l[j]? = some o ∧ l.drop (j + 1) = r := by
  constructor
  · have := congrArg (·[0]?) hd
    simpa using this
  · rw [← List.drop_drop, hd]; rfl
theorem Trace.nid_count (ht : Trace cfg callf ops m D) : ∀ (l : List Oper) (j : Nat), j ≤ ops.length → ops.drop j = l → (D ops.length).nid = (D j).nid + countC cfg l
  | [], j, hj, hd => by
    have : ops.length ≤ j := by simpa using hd
    rw [show j = ops.length by omega]
    rfl
  | o :: l, j, hj, hd => by
    obtain ⟨ho, hd'⟩ := drop_cons hd
    have hlt := (List.getElem?_eq_some_iff.1 ho).1
    rw [ht.nid_count l (j + 1) (by omega) hd', (ht.inv ho).2.2.1, countC]
    cases isC (insOf cfg o.op) <;> simp
    omega
/-- The objects that wait ahead of j. -/
theorem Trace.pend (ht : Trace cfg callf ops m D) (hpl : Plan cfg ops m) (h0 : (D 0).pend = []) : ∀ j, j ≤ ops.length → ∀ x, x ∈ (D j).pend ↔ x.1 < j ∧ CrOf cfg ops D x.1 x.2.2 ∧ x.2.1 = (D x.1).nid ∧ ¬ ∃ i, i < j ∧ ActAt cfg ops D i ∧ Anc m i x.1
  | 0, _, x => by rw [h0]; simp
  | j + 1, hj, x => by
    have ho : ops[j]? = some (ops[j]'(by omega)) := List.getElem?_eq_getElem (by omega)
    have ih := ht.pend hpl h0 j (by omega) x
    have same : (D (j + 1)).pend = (D j).pend → ¬ ActAt cfg ops D j → (∀ ob, ¬ CrOf cfg ops D j ob) → (x ∈ (D (j + 1)).pend ↔ x.1 < j + 1 ∧ CrOf cfg ops D x.1 x.2.2 ∧ x.2.1 = (D x.1).nid ∧ ¬ ∃ i, i < j + 1 ∧ ActAt cfg ops D i ∧ Anc m i x.1) := by
      intro he hna hnc
      rw [he, ih]
      constructor
      · rintro ⟨h1, h2, h3, h4⟩
        refine ⟨by omega, h2, h3, fun ⟨i, hi, ha, hx⟩ => ?_⟩
        by_cases e : i = j
        · subst e; exact hna ha
        · exact h4 ⟨i, by omega, ha, hx⟩
      · rintro ⟨h1, h2, h3, h4⟩
        have : x.1 ≠ j := fun e => hnc _ (e ▸ h2)
        exact ⟨by omega, h2, h3, fun ⟨i, hi, ha, hx⟩ => h4 ⟨i, by omega, ha, hx⟩⟩
    have notcr : ∀ {q : Ins}, insOf cfg (ops[j]'(by omega)).op = q → isC q = false → ∀ ob, ¬ CrOf cfg ops D j ob := fun hq hc ob hcr => by
      obtain ⟨o', f', p', h1, h2, _⟩ := hcr
      rw [ho] at h1; cases h1
      rw [hq] at h2; subst h2; cases hc
    have notact : ∀ {q : Ins}, insOf cfg (ops[j]'(by omega)).op = q → isA q = false → ¬ ActAt cfg ops D j := fun hq hc ha => by
      obtain ⟨o', h1, h2, _⟩ := ha
      rw [ho] at h1; cases h1
      rw [hq, hc] at h2; cases h2
    cases (ht.inv ho).2.2.2.2 with
    | unwanted hw hv hh hp =>
      refine same hp (fun ⟨o', h1, _, h3⟩ => ?_) (fun ob ⟨o', f', p', h1, _, h3, _⟩ => ?_)
      · rw [ho] at h1; cases h1; rw [hw] at h3; cases h3
      · rw [ho] at h1; cases h1; rw [hw] at h3; cases h3
    | pure f hi hw hv hh hp => exact same hp (notact hi rfl) (notcr hi rfl)
    | read f hi hw hv hh hp => exact same hp (notact hi rfl) (notcr hi rfl)
    | make f p hi hw hf hv hh hp =>
      have hcr : CrOf cfg ops D j p.1 := ⟨_, f, p, ho, hi, hw, hf, rfl⟩
      rw [hp, List.mem_append, List.mem_singleton, ih]
      constructor
      · rintro (⟨h1, h2, h3, h4⟩ | rfl)
        · refine ⟨by omega, h2, h3, fun ⟨i, hii, ha, hx⟩ => ?_⟩
          by_cases e : i = j
          · subst e; exact notact hi rfl ha
          · exact h4 ⟨i, by omega, ha, hx⟩
        · refine ⟨Nat.lt_succ_self _, hcr, rfl, fun ⟨i, hii, ha, hx⟩ => ?_⟩
          obtain ⟨o', ho', _⟩ := id ha
          have := hpl.anc_lt (i + 1) i j (Nat.lt_succ_self _) ⟨o', ho'⟩ hx
          by_cases e : i = j
          · omega
          · omega
      · rintro ⟨h1, h2, h3, h4⟩
        by_cases e : x.1 = j
        · right
          obtain ⟨c, id, ob⟩ := x
          simp only at e h2 h3
          subst e
          rw [h3, h2.fun hcr]
        · exact .inl ⟨by omega, h2, h3, fun ⟨i, hi, ha, hx⟩ => h4 ⟨i, by omega, ha, hx⟩⟩
    | act f hi hw hv hp =>
      have hact : ActAt cfg ops D j := ⟨_, ho, by rw [hi]; rfl, hw⟩
      rw [hp, List.mem_filter, ih]
      constructor
      · rintro ⟨⟨h1, h2, h3, h4⟩, h5⟩
        refine ⟨by omega, h2, h3, fun ⟨i, hii, ha, hx⟩ => ?_⟩
        by_cases e : i = j
        · subst e
          unfold Anc at hx
          rw [hx] at h5
          cases h5
        · exact h4 ⟨i, by omega, ha, hx⟩
      · rintro ⟨h1, h2, h3, h4⟩
        have : x.1 ≠ j := fun e => notcr hi rfl _ (e ▸ h2)
        refine ⟨⟨by omega, h2, h3, fun ⟨i, hi, ha, hx⟩ => h4 ⟨i, by omega, ha, hx⟩⟩, ?_⟩
        cases hb : (m.getD j 0).testBit x.1 with
        | false => rfl
        | true => exact absurd ⟨j, by omega, hact, hb⟩ h4
/-! ### 32. What is read -/
theorem countA_zero (p : Nat → Bool) : ∀ (l : List Oper) (i : Nat), (∀ k, i ≤ k → p k = false) → countA cfg p l i = 0
  | [], _, _ => rfl
  | o :: l, i, h => by
    unfold countA
    rw [h i (Nat.le_refl _), countA_zero p l (i + 1) (fun k hk => h k (by omega))]
    simp
theorem countA_mono (p q : Nat → Bool) : ∀ (l : List Oper) (i : Nat), (∀ k o, l[k]? = some o → isA (insOf cfg o.op) = true → p (i + k) = true → q (i + k) = true) → countA cfg p l i ≤ countA cfg q l i
  | [], _, _ => Nat.le_refl _
  | o :: l, i, h => by
    unfold countA
    have ih := countA_mono p q l (i + 1) (fun k o' hk ha hp => by
      have := h (k + 1) o' (by simpa using hk) ha (by rw [show i + (k + 1) = i + 1 + k by omega]; exact hp)
      rwa [show i + (k + 1) = i + 1 + k by omega] at this)
    have h0 := h 0 o rfl
    simp only [Nat.add_zero] at h0
    cases ha : isA (insOf cfg o.op) with
    | false => simpa using ih
    | true =>
      have h0 := h0 ha
      cases hp : p i with
      | false =>
        cases hq : q i <;> simp <;> omega
      | true => rw [h0 hp]; simpa using ih
/-- The actors ahead of p. -/
noncomputable def cntA (cfg : Cfg) (ops : List Oper) (p : Nat) : Nat := countA cfg (fun i => decide (i < p)) ops 0
theorem countA_succ (q : Nat) : ∀ (l : List Oper) (i : Nat) (o : Oper), i ≤ q → l[q - i]? = some o → countA cfg (fun k => decide (k < q + 1)) l i = countA cfg (fun k => decide (k < q)) l i + (bif isA (insOf cfg o.op) then 1 else 0)
  | [], i, o, _, h => by simp at h
  | o' :: l, i, o, hi, h => by
    unfold countA
    by_cases e : i = q
    · subst e
      rw [Nat.sub_self] at h
      simp only [List.getElem?_cons_zero, Option.some.injEq] at h
      subst h
      rw [countA_zero (cfg := cfg) _ l (i + 1) (fun k hk => by simp; omega), countA_zero (cfg := cfg) _ l (i + 1) (fun k hk => by simp; omega)]
      have h1 : decide (i < i + 1) = true := by simp
      have h2 : decide (i < i) = false := by simp
      rw [h1, h2]
      cases isA (insOf cfg o'.op) <;> rfl
    · rw [countA_succ q l (i + 1) o (by omega) (by rw [show q - i = (q - (i + 1)) + 1 by omega] at h; simpa using h)]
      have h1 : decide (i < q + 1) = true := by simp; omega
      have h2 : decide (i < q) = true := by simp; omega
      rw [h1, h2]
      omega
theorem Trace.hts (ht : Trace cfg callf ops m D) (h0 : (D 0).hts = [(D 0).h]) : ∀ j, j ≤ ops.length → (D j).hts.length = cntA cfg ops j + 1 ∧ ∀ p, p ≤ j → (D j).hts.reverse[cntA cfg ops p]? = some (D p).h
  | 0, _ => by
    have hc : cntA cfg ops 0 = 0 := countA_zero _ _ _ (fun k _ => by simp)
    refine ⟨by rw [h0, hc]; rfl, fun p hp => ?_⟩
    rw [Nat.le_zero.1 hp, hc, h0]
    rfl
  | j + 1, hj => by
    obtain ⟨hlen, hget⟩ := ht.hts h0 j (by omega)
    have ho : ops[j]? = some (ops[j]'(by omega)) := List.getElem?_eq_getElem (by omega)
    have hi := ht.inv ho
    have hcs : cntA cfg ops (j + 1) = cntA cfg ops j + (bif isA (insOf cfg (ops[j]'(by omega)).op) then 1 else 0) := countA_succ j ops 0 _ (Nat.zero_le _) (by simp)
    cases ha : isA (insOf cfg (ops[j]'(by omega)).op) with
    | false =>
      rw [ha] at hcs hi
      have hhts : (D (j + 1)).hts = (D j).hts := hi.2.2.2.1
      have hh : (D (j + 1)).h = (D j).h := ht.heap_eq (j + 1) (p := j) (by omega) hj (fun i o h1 h2 hoi => by
        have : i = j := by omega
        subst this
        rw [ho] at hoi; cases hoi; exact ha)
      rw [hhts, hcs]
      refine ⟨hlen, fun p hp => ?_⟩
      by_cases e : p = j + 1
      · rw [e, hcs, hh]; exact hget j (Nat.le_refl _)
      · exact hget p (by omega)
    | true =>
      rw [ha] at hcs hi
      have hhts : (D (j + 1)).hts = (D (j + 1)).h :: (D j).hts := hi.2.2.2.1
      rw [hhts, hcs]
      refine ⟨by simp [hlen], fun p hp => ?_⟩
      rw [List.reverse_cons]
      by_cases e : p = j + 1
      · rw [e, hcs]
        have : (D j).hts.reverse.length = cntA cfg ops j + 1 := by simp [hlen]
        simp only [cond_true]
        rw [← this, List.getElem?_concat_length]
      · have := hget p (by omega)
        rw [List.getElem?_append_left (List.getElem?_eq_some_iff.1 this).1]
        exact this
theorem Trace.vals (ht : Trace cfg callf ops m D) (h0 : (D 0).vals = []) : ∀ j, j ≤ ops.length → (D j).vals.length = j ∧ ∀ p, p < j → (D j).vals.reverse[p]? = some (Vt D p)
  | 0, _ => ⟨by rw [h0]; rfl, fun p hp => absurd hp (Nat.not_lt_zero _)⟩
  | j + 1, hj => by
    obtain ⟨hlen, hget⟩ := ht.vals h0 j (by omega)
    have ho : ops[j]? = some (ops[j]'(by omega)) := List.getElem?_eq_getElem (by omega)
    have hi := (ht.inv ho).2.1
    rw [hi]
    refine ⟨by simp [hlen], fun p hp => ?_⟩
    rw [List.reverse_cons]
    by_cases e : p = j
    · subst e
      have : (D p).vals.reverse.length = p := by simp [hlen]
      conv => lhs; rhs; rw [← this]
      rw [List.getElem?_concat_length]
    · have := hget p (by omega)
      rw [List.getElem?_append_left (List.getElem?_eq_some_iff.1 this).1]
      exact this
mutual
theorem same_eq : ∀ (a b : AV), AV.same a b = true → a = b
  | .int j x, b, h => by
    cases b <;> simp only [AV.same, Bool.false_eq_true, Bool.and_eq_true, decide_eq_true_eq] at h
    rw [kEq_iff.1 h.1, h.2]
  | .bool x, b, h => by cases b <;> simp only [AV.same, Bool.false_eq_true, beq_iff_eq] at h; rw [h]
  | .str x, b, h => by cases b <;> simp only [AV.same, Bool.false_eq_true, eqBytes_iff, beq_iff_eq] at h; rw [h]
  | .ptr x y, b, h => by cases b <;> simp only [AV.same, Bool.false_eq_true, Bool.and_eq_true, beq_true] at h; rw [h.1, h.2]
  | .rptr x, b, h => by cases b <;> simp only [AV.same, Bool.false_eq_true] at h; rw [sameL_eq _ _ h]
  | .gl x y, b, h => by cases b <;> simp only [AV.same, Bool.false_eq_true, Bool.and_eq_true, beq_true] at h; rw [h.1, h.2]
  | .nilptr, b, h => by cases b <;> simp only [AV.same, Bool.false_eq_true] at h; rfl
  | .sl x y z c, b, h => by
    cases b <;> simp only [AV.same, Bool.false_eq_true, Bool.and_eq_true, beq_true] at h
    rename_i d
    obtain ⟨⟨⟨rfl, rfl⟩, rfl⟩, h⟩ := h
    cases c <;> cases d <;> simp only [Bool.false_eq_true, beq_true] at h <;> rw [h]
  | .nilsl, b, h => by cases b <;> simp only [AV.same, Bool.false_eq_true] at h; rfl
  | .cap0, b, h => by cases b <;> simp only [AV.same, Bool.false_eq_true] at h; rfl
  | .e0, b, h => by cases b <;> simp only [AV.same, Bool.false_eq_true] at h; rfl
  | .ro x n, b, h => by cases b <;> simp only [AV.same, Bool.false_eq_true, Bool.and_eq_true, beq_true] at h; rw [h.1, sameL_eq _ _ h.2]
  | .map x, b, h => by cases b <;> simp only [AV.same, Bool.false_eq_true, beq_true] at h; rw [h]
  | .nilmap, b, h => by cases b <;> simp only [AV.same, Bool.false_eq_true] at h; rfl
  | .func f x y, b, h => by cases b <;> simp only [AV.same, Bool.false_eq_true, Bool.and_eq_true, beq_true] at h; rw [h.1.1, sameL_eq _ _ h.1.2, sameL_eq _ _ h.2]
  | .nilfunc, b, h => by cases b <;> simp only [AV.same, Bool.false_eq_true] at h; rfl
  | .iface t x, b, h => by cases b <;> simp only [AV.same, Bool.false_eq_true, Bool.and_eq_true, beq_true] at h; rw [h.1, same_eq _ _ h.2]
  | .niliface, b, h => by cases b <;> simp only [AV.same, Bool.false_eq_true] at h; rfl
  | .agg x, b, h => by cases b <;> simp only [AV.same, Bool.false_eq_true] at h; rw [sameL_eq _ _ h]
  | .tuple x, b, h => by cases b <;> simp only [AV.same, Bool.false_eq_true] at h; rw [sameL_eq _ _ h]
theorem sameL_eq : ∀ (a b : List AV), sameL a b = true → a = b
  | [], b, h => by cases b <;> simp only [sameL, Bool.false_eq_true] at h; rfl
  | x :: l, b, h => by
    cases b <;> simp only [sameL, Bool.false_eq_true, Bool.and_eq_true] at h
    rw [same_eq _ _ h.1, sameL_eq _ _ h.2]
end
theorem readsSame_get {f : Fr → AHeap → Option AV} {fr : Fr} {v : AV} : ∀ {l : List AHeap} {k : Nat} {h : AHeap}, readsSame f fr v l = true → l[k]? = some h → f fr h = some v
  | [], _, _, _, hk => by simp at hk
  | h :: l, k, h', hs, hk => by
    unfold readsSame at hs
    simp only [Bool.and_eq_true] at hs
    cases k with
    | zero =>
      simp only [List.getElem?_cons_zero, Option.some.injEq] at hk
      subst hk
      have := hs.1
      split at this
      · rename_i u hu
        rw [hu, same_eq _ _ this]
      · cases this
    | succ k => exact readsSame_get hs.2 (by simpa using hk)
theorem readsOk_get (ht : Trace cfg callf ops m D) {hts : List AHeap} : ∀ (l : List Oper) (i : Nat) (fr : Fr) (vs : List AV), ops.drop i = l → fr = (D i).fr → (∀ k, k < l.length → vs[k]? = some (Vt D (i + k))) → readsOk cfg ops m hts l i fr vs = true →
    ∀ k o f, l[k]? = some o → insOf cfg o.op = .R f → wantedA ops o (D (i + k)).fr = true → readsSame f (D (i + k)).fr (Vt D (i + k)) ((hts.drop (countA cfg (fun j => (m.getD (i + k) 0).testBit j) ops 0)).take (countA cfg (fun j => !(m.getD j 0).testBit (i + k)) ops 0 + 1 - countA cfg (fun j => (m.getD (i + k) 0).testBit j) ops 0)) = true
  | [], i, fr, vs, _, _, _, _, k, o, f, hk, _, _ => by simp at hk
  | o' :: l, i, fr, [], hd, hf, hv, _, k, o, f, _, _, _ => by have := hv 0 (by simp); simp at this
  | o' :: l, i, fr, v :: vs, hd, hf, hv, hr, k, o, f, hk, hi, hw => by
    have hv0 := hv 0 (by simp)
    simp only [List.getElem?_cons_zero, Option.some.injEq, Nat.add_zero] at hv0
    subst hv0
    unfold readsOk at hr
    simp only [Bool.and_eq_true] at hr
    obtain ⟨ho, hd'⟩ := drop_cons hd
    cases k with
    | zero =>
      simp only [List.getElem?_cons_zero, Option.some.injEq] at hk
      subst hk
      simp only [Nat.add_zero] at hw ⊢
      have := hr.1
      rw [hf, hw] at this
      simp only [cond_true, hi] at this
      exact this
    | succ k =>
      have := readsOk_get ht l (i + 1) _ vs hd' (by rw [(ht.inv ho).1, hf]) (fun q hq => by
        have := hv (q + 1) (by simpa using hq)
        rw [show i + 1 + q = i + (q + 1) by omega]
        simpa using this) hr.2 k o f (by simpa using hk) hi (by rw [show i + 1 + k = i + (k + 1) by omega]; exact hw)
      rw [show i + 1 + k = i + (k + 1) by omega] at this
      exact this
end
end Go.Am
