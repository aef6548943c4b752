/- Calls: the machine's answer is the model's, for every depth. -/
import Derived.Test.YteplpnnbcjjjjaaGreatDoorAmCode
namespace Go.Am
section
variable {cfg : Cfg} {G : (Nat → Nat → Option Value) → Prop} {N0 : Nat}
/-! ### 38. A value laid to rest -/
theorem frzL_rel {s1 s2 : St} {f : AV → Option AV} (hf : ∀ a V r, f a = some r → VRel s1 a V → VRel s2 r V ∧ r.hf = true) : ∀ (l m : List AV) (L : List Value), frzL f l = some m → LRel s1 l L → LRel s2 m L ∧ hfL m = true ∧ m.length = l.length
  | [], m, L, h, hl => by
    cases h
    simp only [LRel] at hl
    subst hl
    exact ⟨.nil, rfl, rfl⟩
  | a :: l, m, L, h, hl => by
    obtain ⟨V, Vs, rfl, hv, hl⟩ := hl.uncons
    unfold frzL at h
    split at h
    · rename_i b mm hb hm
      cases h
      obtain ⟨h1, h2⟩ := hf a V b hb hv
      obtain ⟨h3, h4, h5⟩ := frzL_rel hf l mm Vs hm hl
      exact ⟨.cons h1 h3, by simp [hfL, h2, h4], by simp [h5]⟩
    · cases h
theorem LRel.irel {s : St} {b : Nat} : ∀ {off : Nat} {cs : List AV} {vs : List Value}, LRel s cs vs → (∀ j v, vs[j]? = some v → s.imm b (off + j) = some v) → IRel s b off cs
  | _, [], _, _, _ => by simp only [IRel]
  | off, c :: cs, _, hl, h => by
    obtain ⟨V, Vs, rfl, hv, hl⟩ := hl.uncons
    simp only [IRel]
    exact ⟨⟨V, by simpa using h 0 V rfl, hv⟩, hl.irel fun j v hj => by rw [show off + 1 + j = off + (j + 1) by omega]; exact h (j + 1) v (by simpa using hj)⟩
theorem frz_sound {s1 s2 : St} {h : AHeap} {w : World} (hi : Inv cfg G N0 s1 h w) (himm : ∀ b o v, s1.imm b o = some v → s2.imm b o = some v) (hown : ∀ b o v, Own s1 h b → w.cell? ⟨b, o, none⟩ = some v → s2.imm b o = some v) :
    ∀ (d : Nat) (v : AV) (V : Value) (r : AV), frz cfg h d v = some r → VRel s1 v V → VRel s2 r V ∧ r.hf = true
  | 0, v, V, r, hr, _ => by cases hr
  | d + 1, v, V, r, hr, hv => by
    have ih := fun a V r h1 h2 => frz_sound hi himm hown d a V r h1 h2
    unfold frz at hr
    split at hr
    · cases hr
    · cases hr
    · cases hr
    · cases hr
    · rename_i id off len cap
      cases hlen0 : Nat.beq len 0 with
      | true =>
        rw [hlen0] at hr
        cases hr
        have := beq_true.1 hlen0
        subst this
        simp only [VRel] at hv
        obtain ⟨b, c, hm, rfl, hlc, _⟩ := hv
        exact ⟨by simp only [VRel]; exact ⟨_, c, rfl⟩, rfl⟩
      | false =>
      rw [hlen0] at hr
      simp only [cond_false] at hr
      split at hr
      · rename_i cs e hg
        split at hr
        · rename_i j hj
          try simp only at hr
          cases hb : Nat.beq ((cs.drop off).take (len * j.size)).length (len * j.size) with
          | false => rw [hb] at hr; cases hr
          | true =>
            rw [hb] at hr
            simp only [cond_true] at hr
            split at hr
            · rename_i l hl
              cases hr
              simp only [VRel] at hv
              obtain ⟨b, c, hm, rfl, hlc, _⟩ := hv
              obtain ⟨vs, hlr, hat⟩ := hi.cells hg hm
              have hseg := (hlr.drop off).take (len * j.size)
              obtain ⟨h1, h2, h3⟩ := frzL_rel ih _ l _ hl hseg
              refine ⟨?_, rfl⟩
              simp only [VRel]
              refine ⟨_, c, rfl, hlc, h2, .inr ⟨b, off, rfl, h1.irel fun k u hk => ?_⟩⟩
              have hc := ((hat.drop off).take (len * j.size)) k u hk
              rw [Nat.zero_add] at hc
              exact hown b _ u ⟨id, by rw [hg]; simp, hm⟩ hc
            · cases hr
        · cases hr
      · cases hr
    · split at hr
      · rename_i cs l hl
        cases hr
        simp only [VRel] at hv
        obtain ⟨L, rfl, hlr⟩ := hv
        obtain ⟨h1, h2, _⟩ := frzL_rel ih _ l _ hl hlr
        exact ⟨by simp only [VRel]; exact ⟨L, rfl, h1⟩, h2⟩
      · cases hr
    · split at hr
      · rename_i cs l hl
        cases hr
        simp only [VRel] at hv
        obtain ⟨L, rfl, hlr⟩ := hv
        obtain ⟨h1, h2, _⟩ := frzL_rel ih _ l _ hl hlr
        exact ⟨by simp only [VRel]; exact ⟨L, rfl, h1⟩, h2⟩
      · cases hr
    · rename_i n1 n2 n3 n4 n5 n6 n7
      cases hr
      have hh : v.hf = true := by
        cases v <;> first | rfl | (exact absurd rfl (n1 _ _)) | (exact absurd rfl (n2 _)) | (exact absurd rfl (n3 _ _ _)) | (exact absurd rfl (n4 _ _)) | (exact absurd rfl (n5 _ _ _ _)) | (exact absurd rfl (n6 _)) | (exact absurd rfl (n7 _))
      exact ⟨VRel.free himm v V hh hv, hh⟩
/-! ### 39. Calls -/
/-- What is asked of the machine's tables. -/
structure CfgOk (cfg : Cfg) (G : (Nat → Nat → Option Value) → Prop) (N0 : Nat) : Prop where
  ty : CfgTy cfg
  mixed : cfg.P.follows .mixedOrders = true
  fn : ∀ f a, cfg.fn f = some a → FnOk cfg.P f a ∧ codeOk cfg a.ntmps a.body = true
  intr : ∀ f g, cfg.intr f = some g → ∀ args h v h', g args h = some (v, h') → ∀ s w Args, LRel s args Args → Inv cfg G N0 s h w → CallRun cfg.P f Args w fun V w' => Post cfg G N0 s h w v h' V w'
  mono : ∀ i j : Nat → Nat → Option Value, (∀ b o v, i b o = some v → j b o = some v) → G i → G j
theorem pure_sound (hc : CfgOk cfg G N0) {callf : CallF} (hcall : CallsOk cfg G N0 callf) {f : FuncId} {fn : AFn} (hfn : cfg.fn f = some fn) {n : Nat} {args : List AV} (hh : hfL args = true) {h : AHeap} {v : AV} {h' : AHeap} (hb : callPure cfg callf n fn args h = some (v, h'))
    {s : St} {w : World} {Args : List Value} (hl : LRel s args Args) (hi : Inv cfg G N0 s h w) : Calls cfg.P f Args.toArray w fun e w' => ∃ V, e = .returned V ∧ Post cfg G N0 s h w v h' V w' := by
  unfold callPure at hb
  split at hb
  rotate_left
  · cases hb
  rename_i u h1 hbody
  split at hb
  rotate_left
  · cases hb
  rename_i r hr
  cases hb
  have hi0 : Inv cfg G N0 ⟨fun _ => none, fun _ => none, s.imm⟩ .empty w :=
    ⟨fun i o hg => (by cases hg), fun i j b hg => absurd rfl hg, fun _ _ => rfl, fun i b hm => (by cases hm), fun b g hg => (by cases hg), hi.imm, fun i b o hg => absurd rfl hg, hi.glob, hi.old⟩
  obtain ⟨hfo, hok⟩ := hc.fn f fn hfn
  refine (bodyA_sound hc.ty hcall hc.mixed hfo hok hbody (LRel.free (s := s) (s' := ⟨fun _ => none, fun _ => none, s.imm⟩) (fun _ _ _ h => h) args Args hh hl) hi0).mono fun e w' he => ?_
  obtain ⟨V, rfl, s1, hI1, hK, hV⟩ := he
  refine ⟨V, rfl, ⟨s.mem, s.geo, fun b o => match s1.imm b o with | some v => some v | none => if w.heap.size ≤ b then w'.cell? ⟨b, o, none⟩ else none⟩, ?_⟩
  generalize hj : (fun b o => match s1.imm b o with | some v => some v | none => if w.heap.size ≤ b then w'.cell? ⟨b, o, none⟩ else none : Nat → Nat → Option Value) = J
  have hJ : ∀ b o, J b o = match s1.imm b o with | some v => some v | none => if w.heap.size ≤ b then w'.cell? ⟨b, o, none⟩ else none := fun b o => by rw [← hj]
  have hJ1 : ∀ b o v, s1.imm b o = some v → J b o = some v := fun b o v h => by rw [hJ, h]
  have hJ2 : ∀ b o v, J b o = some v → w'.cell? ⟨b, o, none⟩ = some v := fun b o v h => by
    rw [hJ] at h
    split at h
    · rename_i u hu
      cases h
      exact hI1.imm _ _ _ hu
    · split at h
      · exact h
      · cases h
  have hJ3 : ∀ b o, b < w.heap.size → J b o ≠ none → s.imm b o ≠ none := fun b o hb hne => by
    rw [hJ] at hne
    cases e : s1.imm b o with
    | some v => exact hK.imm b o hb (by rw [e]; simp)
    | none => rw [e] at hne; simp only at hne; rw [if_neg (by omega)] at hne; exact absurd rfl hne
  have hnoown : ∀ b, ¬ Own ⟨fun _ => none, fun _ => none, s.imm⟩ AHeap.empty b := fun b ⟨i, h1, _⟩ => h1 rfl
  have hblock : ∀ b, b < w.heap.size → w'.heap[b]? = w.heap[b]? := fun b hb => hK.block b hb (hnoown b)
  have hext : Ext s ⟨s.mem, s.geo, J⟩ := ⟨fun _ _ h => h, fun _ _ h => h, fun b o v h => hJ1 b o v (hK.ext.imm b o v h)⟩
  refine ⟨⟨fun i o hg => ?_, hi.inj, hi.fresh, fun i b hm => Nat.lt_of_lt_of_le (hi.memlt i b hm) hK.size, fun b g hg => Nat.lt_of_lt_of_le (hi.geolt b g hg) hK.size, hJ2, fun i b o hg hm => ?_, ⟨hc.mono _ _ hJ1 hI1.glob.1, hI1.glob.2.mono hJ1⟩, Nat.le_trans hi.old hK.size⟩, ⟨⟨hK.os, hK.tape, hK.output, hK.size, fun b hb _ => hblock b hb, hJ3, fun _ _ => rfl, fun b hb => .inl hb, hext⟩, fun _ _ => rfl, Nat.le_refl _⟩, ?_⟩
  · obtain ⟨b, hm, hN, ho⟩ := hi.obj i o hg
    exact ⟨b, hm, hN, (ho.ext hext).of_heap (hblock b (hi.memlt _ _ hm))⟩
  · cases e : J b o with
    | none => exact e
    | some v => exact absurd (hi.apart i b o hg hm) (hJ3 b o (hi.memlt _ _ hm) (by rw [e]; simp))
  · refine (frz_sound hI1 (s2 := ⟨s.mem, s.geo, J⟩) hJ1 (fun b o v hown hcell => ?_) 8 u V v hr hV).1
    rcases hK.own b hown with h | hle
    · exact absurd h (hnoown b)
    · show J b o = some v
      rw [hJ]
      cases e : s1.imm b o with
      | none => simp only; rw [if_pos hle]; exact hcell
      | some v' =>
        have := hI1.imm _ _ _ e
        rw [hcell] at this
        exact this.symm
/-- All calls, at every depth. -/
theorem callA_sound (hc : CfgOk cfg G N0) : ∀ k, CallsOk cfg G N0 (callA cfg k)
  | 0 => fun f args h v h' hr => by cases hr
  | k + 1 => by
    have ih := callA_sound hc k
    intro f args h v h' hr s w Args hl hi
    have hr : callOne cfg (callA cfg k) k f args h = some (v, h') := hr
    unfold callOne at hr
    split at hr
    · rename_i g hg
      exact hc.intr f g hg args h v h' hr s w Args hl hi
    · split at hr
      · rename_i fn hfn
        obtain ⟨hfo, hok⟩ := hc.fn f fn hfn
        refine .inl ⟨?_, ?_⟩
        · obtain ⟨F, h1, h2, _, _, h3⟩ := hfo
          exact ⟨F, h1, by rw [h2]; rfl, h3⟩
        · cases hp : (fn.pure && hfL args) with
          | true =>
            rw [hp] at hr
            simp only [Bool.and_eq_true] at hp
            exact pure_sound hc ih hfn hp.2 hr hl hi
          | false =>
            rw [hp] at hr
            exact bodyA_sound hc.ty ih hc.mixed hfo hok hr hl hi
      · cases hr
end
end Go.Am
