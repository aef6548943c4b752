/- A region that draws its order: what comes ahead of what; what the one run of the machine tells. -/
import Derived.Test.YtphmddmboankhaaGreatDoorAmCongr
namespace Go.Am
/-! ### 28. What comes ahead of what -/
theorem edgeMask_bit (acc : List Nat) : ∀ (l : List Edge) (i : Nat), (edgeMask acc l).testBit i = true ↔ ∃ e ∈ l, Region.binds .any e = true ∧ (e.on = i ∨ (acc.getD e.on 0).testBit i = true)
  | [], i => by simp [edgeMask]
  | e :: l, i => by
    unfold edgeMask
    have ih := edgeMask_bit acc l i
    cases hb : Region.binds .any e with
    | true =>
      simp only [cond_true, Nat.testBit_or, Bool.or_eq_true, ih, Nat.testBit_two_pow, decide_eq_true_eq]
      constructor
      · rintro ((h | h) | ⟨e', he', h⟩)
        · exact ⟨e, by simp, hb, .inl h⟩
        · exact ⟨e, by simp, hb, .inr h⟩
        · exact ⟨e', by simp [he'], h⟩
      · rintro ⟨e', he', hb', h⟩
        rcases List.mem_cons.1 he' with rfl | he'
        · exact .inl h
        · exact .inr ⟨e', he', hb', h⟩
    | false =>
      simp only [cond_false, ih]
      constructor
      · rintro ⟨e', he', h⟩
        exact ⟨e', by simp [he'], h⟩
      · rintro ⟨e', he', hb', h⟩
        rcases List.mem_cons.1 he' with rfl | he'
        · rw [hb] at hb'; cases hb'
        · exact ⟨e', he', hb', h⟩
theorem ancs_get : ∀ (l : List Oper) (acc : List Nat), ∃ ms, ancs l acc = acc ++ ms ∧ ms.length = l.length ∧ ∀ k o, l[k]? = some o → ms.getD k 0 = edgeMask (acc ++ ms.take k) o.after.toList
  | [], acc => ⟨[], by simp [ancs], rfl, fun k o h => by simp at h⟩
  | o :: l, acc => by
    obtain ⟨ms, h1, h2, h3⟩ := ancs_get l (acc ++ [edgeMask acc o.after.toList])
    refine ⟨edgeMask acc o.after.toList :: ms, by rw [ancs, h1]; simp, by simp [h2], fun k q hq => ?_⟩
    cases k with
    | zero => simp at hq; subst hq; simp
    | succ k =>
      have := h3 k q (by simpa using hq)
      simp only [List.getD_cons_succ, List.take_succ_cons]
      rw [this]
      simp
/-- Does i come ahead of j in every order? -/
def Anc (m : List Nat) (j i : Nat) : Prop := (m.getD j 0).testBit i = true
structure Plan (cfg : Cfg) (ops : List Oper) (m : List Nat) : Prop where
  lt : ∀ j o, ops[j]? = some o → ∀ e ∈ o.after.toList, Region.binds .any e = true → e.on < j
  anc : ∀ j o, ops[j]? = some o → ∀ i, Anc m j i ↔ ∃ e ∈ o.after.toList, Region.binds .any e = true ∧ (e.on = i ∨ Anc m e.on i)
  guard : ∀ j o i b, ops[j]? = some o → o.guard = some (i, b) → Anc m j i
  names : ∀ i j o q d, ops[j]? = some o → ops[i]? = some q → i ≠ j → q.dst = some d → d ∈ namesOf ops o → Anc m (max i j) (min i j)
  acts : ∀ i j o q, ops[j]? = some o → ops[i]? = some q → isA (insOf cfg o.op) = true → isA (insOf cfg q.op) = true → i < j → Anc m j i
  len : m.length = ops.length
theorem all_zip {l : List Oper} {f : Oper × Nat → Bool} (h : l.zipIdx.all f = true) {i : Nat} {o : Oper} (hi : l[i]? = some o) : f (o, i) = true :=
  List.all_eq_true.1 h (o, i) (List.mk_mem_zipIdx_iff_getElem?.2 hi)
theorem planOk_plan {cfg : Cfg} {ops : List Oper} (h : planOk cfg ops = true) : Plan cfg ops (ancs ops []) := by
  unfold planOk at h
  simp only [Bool.and_eq_true] at h
  obtain ⟨⟨h1, h2⟩, h3⟩ := h
  obtain ⟨ms, e1, e2, e3⟩ := ancs_get ops []
  rw [List.nil_append] at e1
  rw [e1] at h1 h2 h3 ⊢
  have hlt : ∀ j o, ops[j]? = some o → ∀ e ∈ o.after.toList, Region.binds .any e = true → e.on < j := by
    intro j o ho e he hb
    have := all_zip h1 ho
    simp only [Bool.and_eq_true] at this
    have := List.all_eq_true.1 this.1 e he
    rw [hb] at this
    simpa using this
  refine ⟨hlt, ?_, ?_, ?_, ?_, e2⟩
  · intro j o ho i
    unfold Anc
    rw [e3 j o ho, edgeMask_bit]
    constructor
    · rintro ⟨e, he, hb, hh⟩
      refine ⟨e, he, hb, ?_⟩
      rcases hh with hh | hh
      · exact .inl hh
      · right
        rw [List.nil_append, List.getD_eq_getElem?_getD, List.getElem?_take, if_pos (hlt j o ho e he hb), ← List.getD_eq_getElem?_getD] at hh
        exact hh
    · rintro ⟨e, he, hb, hh⟩
      refine ⟨e, he, hb, ?_⟩
      rcases hh with hh | hh
      · exact .inl hh
      · right
        rw [List.nil_append, List.getD_eq_getElem?_getD, List.getElem?_take, if_pos (hlt j o ho e he hb), ← List.getD_eq_getElem?_getD]
        exact hh
  · intro j o i b ho hg
    have := all_zip h1 ho
    simp only [Bool.and_eq_true] at this
    have := this.2
    rw [hg] at this
    simp only [Bool.and_eq_true] at this
    exact this.1
  · intro i j o q d ho hq hne hd hn
    have h4 := all_zip h2 ho
    have h5 := all_zip h4 hq
    simp only [hd] at h5
    simp only [Bool.or_eq_true, beq_true] at h5
    rcases h5 with h5 | h5 | h5
    · exact absurd h5 hne
    · have : (namesOf ops o).contains d = true := by simpa using hn
      rw [this] at h5
      cases h5
    · exact h5
  · intro i j o q ho hq ha hb hlt'
    have h4 := all_zip h3 ho
    simp only [ha, Bool.not_true, Bool.false_or] at h4
    have h5 := all_zip h4 hq
    simp only [hb, Bool.not_true, Bool.false_or, Bool.or_eq_true] at h5
    rcases h5 with h5 | h5
    · have := ble_true.1 h5; omega
    · exact h5
section
variable {cfg : Cfg} {ops : List Oper} {m : List Nat} (hp : Plan cfg ops m)
theorem Plan.anc_lt (hp : Plan cfg ops m) : ∀ (n j i : Nat), j < n → (∃ o, ops[j]? = some o) → Anc m j i → i < j
  | 0, j, i, hn, _, _ => by omega
  | n + 1, j, i, hn, ⟨o, ho⟩, ha => by
    obtain ⟨e, he, hb, hh⟩ := (hp.anc j o ho i).1 ha
    have hlt := hp.lt j o ho e he hb
    rcases hh with rfl | hh
    · exact hlt
    · have : ∃ q, ops[e.on]? = some q := by
        have hj : j < ops.length := (List.getElem?_eq_some_iff.1 ho).1
        exact ⟨ops[e.on]'(by omega), List.getElem?_eq_getElem (by omega)⟩
      have := Plan.anc_lt hp n e.on i (by omega) this hh
      omega
theorem Plan.anc_trans (hp : Plan cfg ops m) : ∀ (n j i k : Nat), j < n → (∃ o, ops[j]? = some o) → Anc m j i → Anc m i k → Anc m j k
  | 0, j, i, k, hn, _, _, _ => by omega
  | n + 1, j, i, k, hn, ⟨o, ho⟩, ha, hk => by
    obtain ⟨e, he, hb, hh⟩ := (hp.anc j o ho i).1 ha
    have hlt := hp.lt j o ho e he hb
    refine (hp.anc j o ho k).2 ⟨e, he, hb, .inr ?_⟩
    rcases hh with rfl | hh
    · exact hk
    · have : ∃ q, ops[e.on]? = some q := by
        have hj : j < ops.length := (List.getElem?_eq_some_iff.1 ho).1
        exact ⟨ops[e.on]'(by omega), List.getElem?_eq_getElem (by omega)⟩
      exact Plan.anc_trans hp n e.on i k (by omega) this hh hk
/-- Closed under what comes ahead. -/
def Closed (ops : List Oper) (L : Nat → Prop) : Prop := ∀ j o, L j → ops[j]? = some o → ∀ e ∈ o.after.toList, Region.binds .any e = true → L e.on
/-- What comes ahead of j is in L. -/
def Ready (ops : List Oper) (L : Nat → Prop) (j : Nat) : Prop := ∀ o, ops[j]? = some o → ∀ e ∈ o.after.toList, Region.binds .any e = true → L e.on
theorem Plan.ready_anc (hp : Plan cfg ops m) {L : Nat → Prop} (hc : Closed ops L) : ∀ (n j i : Nat), j < n → (∃ o, ops[j]? = some o) → Ready ops L j → Anc m j i → L i
  | 0, j, i, hn, _, _, _ => by omega
  | n + 1, j, i, hn, ⟨o, ho⟩, hr, ha => by
    obtain ⟨e, he, hb, hh⟩ := (hp.anc j o ho i).1 ha
    have hlt := hp.lt j o ho e he hb
    have hL := hr o ho e he hb
    rcases hh with rfl | hh
    · exact hL
    · have : ∃ q, ops[e.on]? = some q := by
        have hj : j < ops.length := (List.getElem?_eq_some_iff.1 ho).1
        exact ⟨ops[e.on]'(by omega), List.getElem?_eq_getElem (by omega)⟩
      exact Plan.ready_anc hp hc n e.on i (by omega) this (fun q hq e' he' hb' => hc e.on q hL hq e' he' hb') hh
theorem Closed.anc (hp : Plan cfg ops m) {L : Nat → Prop} (hc : Closed ops L) {j i : Nat} (hj : L j) (ho : ∃ o, ops[j]? = some o) (ha : Anc m j i) : L i :=
  hp.ready_anc hc (j + 1) j i (Nat.lt_succ_self j) ho (fun o ho e he hb => hc j o hj ho e he hb) ha
theorem Ready.anc (hp : Plan cfg ops m) {L : Nat → Prop} (hc : Closed ops L) {j i : Nat} (hr : Ready ops L j) (ho : ∃ o, ops[j]? = some o) (ha : Anc m j i) : L i :=
  hp.ready_anc hc (j + 1) j i (Nat.lt_succ_self j) ho hr ha
/-- L with j. -/
def With (L : Nat → Prop) (j : Nat) : Nat → Prop := fun i => L i ∨ i = j
theorem Closed.with {L : Nat → Prop} (hc : Closed ops L) {j : Nat} (hr : Ready ops L j) : Closed ops (With L j) := fun i o hi ho e he hb => by
  rcases hi with hi | rfl
  · exact .inl (hc i o hi ho e he hb)
  · exact .inl (hr o ho e he hb)
/-- Where an operation names a temporary, those that lay it are in L just if they stand ahead in the text. -/
theorem Plan.named (hp : Plan cfg ops m) {L : Nat → Prop} (hc : Closed ops L) {j : Nat} {o : Oper} (ho : ops[j]? = some o) (hr : Ready ops L j) (hn : ¬ L j) {t : Nat} (ht : t ∈ namesOf ops o) {i : Nat} {q : Oper} (hq : ops[i]? = some q) (hd : q.dst = some t) : L i ↔ i < j := by
  by_cases hij : i = j
  · subst hij
    exact ⟨fun h => absurd h hn, fun h => by omega⟩
  · have ha := hp.names i j o q t ho hq hij hd ht
    by_cases hlt : i < j
    · rw [Nat.max_eq_right (by omega), Nat.min_eq_left (by omega)] at ha
      exact ⟨fun _ => hlt, fun _ => Ready.anc hp hc hr ⟨o, ho⟩ ha⟩
    · rw [Nat.max_eq_left (by omega), Nat.min_eq_right (by omega)] at ha
      exact ⟨fun h => absurd (Closed.anc hp hc h ⟨q, hq⟩ ha) hn, fun h => by omega⟩
theorem Plan.actors (hp : Plan cfg ops m) {L : Nat → Prop} (hc : Closed ops L) {j : Nat} {o : Oper} (ho : ops[j]? = some o) (hr : Ready ops L j) (hn : ¬ L j) (ha : isA (insOf cfg o.op) = true) {i : Nat} {q : Oper} (hq : ops[i]? = some q) (hqa : isA (insOf cfg q.op) = true) : L i ↔ i < j := by
  by_cases hij : i = j
  · subst hij
    exact ⟨fun h => absurd h hn, fun h => by omega⟩
  · by_cases hlt : i < j
    · exact ⟨fun _ => hlt, fun _ => Ready.anc hp hc hr ⟨o, ho⟩ (hp.acts i j o q ho hq ha hqa hlt)⟩
    · exact ⟨fun h => absurd (Closed.anc hp hc h ⟨q, hq⟩ (hp.acts j i q o hq ho hqa ha (by omega))) hn, fun h => by omega⟩
end
end Go.Am
