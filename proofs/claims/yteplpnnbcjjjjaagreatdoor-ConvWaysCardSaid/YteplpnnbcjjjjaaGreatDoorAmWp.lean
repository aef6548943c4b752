/- Big steps of the abstract machine: with enough fuel, as weakest preconditions; sound for the machine's calls. -/
import Derived.Test.YteplpnnbcjjjjaaGreatDoorAmMach
noncomputable section
namespace Go.Am
section
variable (cfg : Cfg)
/-! ### W1. What is asked -/
/-- With enough fuel, f answers v. -/
def Did (f : FuncId) (args : List AV) (h : AHeap) (v : AV) (h' : AHeap) : Prop := ∃ m, ∀ k, m ≤ k → callA cfg k f args h = some (v, h')
def wpCall (f : FuncId) (args : List AV) (h : AHeap) (K : AV → AHeap → Prop) : Prop := ∃ v h', Did cfg f args h v h' ∧ K v h'
def wpO {α : Type} (x : Option α) (K : α → Prop) : Prop := ∃ v, x = some v ∧ K v
def wpA (f : CallF → Fr → AHeap → Option (AV × AHeap)) (fr : Fr) (h : AHeap) (K : AV → AHeap → Prop) : Prop := ∃ v h', (∃ m, ∀ k, m ≤ k → f (callA cfg k) fr h = some (v, h')) ∧ K v h'
def wpI (s : Ins) (fr : Fr) (h : AHeap) (K : AV → AHeap → Prop) : Prop := match s with
  | .P f => wpO (f fr) fun v => K v h
  | .R f => wpO (f fr h) fun v => K v h
  | .C f => wpO (f fr) fun p => K (p.2 h.next) (h.new p.1)
  | .A f => wpA cfg f fr h K
  | .X => False
def wpL (ops : List Oper) : List Oper → Fr → AHeap → (Fr → AHeap → Prop) → Prop
  | [], fr, h, Q => Q fr h
  | o :: l, fr, h, Q => cond (wantedA ops o fr) (wpI cfg (insOf cfg o.op) fr h fun v h1 => wpL ops l (Fr.put fr o.dst v) h1 Q) (wpL ops l (Fr.put fr o.dst .undef) h Q)
def wpS (ins : Ins) (d : Option Nat) (m i : Nat) (s : DSt) (K : DSt → Prop) : Prop := match ins with
  | .P f => wpO (f s.fr) fun v => K (dP s d v)
  | .R f => wpO (f s.fr s.h) fun v => K (dP s d v)
  | .C f => wpO (f s.fr) fun p => K (dC s d i p)
  | .A f => wpA cfg f s.fr (putAll s.h (s.pend.filter fun p => m.testBit p.1)) fun v h2 => K (dA s d m v h2)
  | .X => False
def wpD (ops : List Oper) : List Oper → List Nat → Nat → DSt → (DSt → Prop) → Prop
  | [], _, _, s, K => K s
  | _ :: _, [], _, _, _ => False
  | o :: l, m :: ms, i, s, K => cond (wantedA ops o s.fr) (wpS cfg (insOf cfg o.op) o.dst m i s fun s1 => wpD ops l ms (i + 1) s1 K) (wpD ops l ms (i + 1) (dN s o.dst (isC (insOf cfg o.op)) (isA (insOf cfg o.op))) K)
def wpR (ops : List Oper) (draw : Bool) (fr : Fr) (h : AHeap) (K : Fr → AHeap → Prop) : Prop :=
  cond draw (wpD cfg ops ops (ancs ops []) 0 ⟨fr, ⟨h.objs, h.next + countC cfg ops⟩, h.next, [], [], [⟨h.objs, h.next + countC cfg ops⟩]⟩ fun s =>
    readsOk cfg ops (ancs ops []) s.hts.reverse ops 0 fr s.vals.reverse = true ∧ K s.fr (putAll s.h s.pend)) (wpL cfg ops ops fr h K)
abbrev CK := AExit → Fr → AHeap → Prop
def seqK (g : Fr → AHeap → CK → Prop) (Q : CK) : CK
  | .normal, fr, h => g fr h Q
  | .exit j, fr, h => Q (.exit j) fr h
  | .ret, fr, h => Q .ret fr h
def blockK (id : Nat) (Q : CK) : CK
  | .normal, fr, h => Q .normal fr h
  | .exit j, fr, h => cond (Nat.beq j id) (Q .normal fr h) (Q (.exit j) fr h)
  | .ret, fr, h => Q .ret fr h
def loopK (R : Fr → AHeap → Prop) (Q : CK) : CK
  | .normal, fr, h => R fr h
  | .exit j, fr, h => Q (.exit j) fr h
  | .ret, fr, h => Q .ret fr h
def wpB (v : AV) (A B : Prop) : Prop := match v with
  | .bool b => cond b A B
  | _ => False
def wpLoop (f : Fr → AHeap → CK → Prop) (fr : Fr) (h : AHeap) (Q : CK) : Prop := ∀ R : Fr → AHeap → Prop, (∀ fr h, f fr h (loopK R Q) → R fr h) → R fr h
def wpC (c : Code) : Fr → AHeap → CK → Prop :=
  Code.rec (motive := fun _ => Fr → AHeap → CK → Prop)
    (fun fr h Q => Q .normal fr h)                                       -- skip
    (fun _ ops draw fr h Q => wpR cfg ops.toList draw fr h fun fr h => Q .normal fr h)
    (fun _ _ f g fr h Q => f fr h (seqK g Q))                            -- seq
    (fun c _ _ f g fr h Q => wpO (evalA fr c) fun v => wpB v (f fr h Q) (g fr h Q))
    (fun id _ f fr h Q => f fr h (blockK id Q))                          -- block
    (fun _ f fr h Q => wpLoop f fr h Q)                                  -- loop
    (fun _ _ _ _ _ _ _ _ _ => False)                                    -- rangeFunc
    (fun id fr h Q => Q (.exit id) fr h)                                 -- exit
    (fun _ _ _ _ _ => False)                                             -- scope
    (fun _ fr h Q => Q .normal fr h)                                     -- label
    (fun _ _ _ _ => False)                                               -- goto
    (fun fr h Q => Q .ret fr h)                                          -- ret
    (fun _ _ _ _ => False) c                                             -- refuse
end
/-! ### W2. Sound -/
section
variable {cfg : Cfg}
theorem force_eqz {α : Type} (v : AV) (k : AV → α) : force v k = k v := by
  unfold force
  split
  · split
    · split <;> rfl
    · split <;> rfl
  · split <;> rfl
  · rfl
theorem wpO_some {α : Type} (v : α) (K : α → Prop) : wpO (some v) K = K v := propext (Iff.intro (fun ⟨_, e, h⟩ => by cases e; exact h) (fun h => ⟨v, rfl, h⟩))
theorem wpO_none {α : Type} (K : α → Prop) : wpO (none : Option α) K = False := propext (Iff.intro (fun ⟨_, e, _⟩ => by cases e) (fun h => False.elim h))
theorem wpI_sound {s : Ins} {fr : Fr} {h : AHeap} {K : AV → AHeap → Prop} (hw : wpI cfg s fr h K) : ∃ v h', (∃ m, ∀ k, m ≤ k → stepA (callA cfg k) s fr h = some (v, h')) ∧ K v h' := by
  unfold wpI at hw
  split at hw
  · rename_i f
    obtain ⟨v, e, hK⟩ := hw
    exact ⟨v, h, ⟨0, fun k _ => by show (match f fr with | some v => some (v, h) | none => none) = _; rw [e]⟩, hK⟩
  · rename_i f
    obtain ⟨v, e, hK⟩ := hw
    exact ⟨v, h, ⟨0, fun k _ => by show (match f fr h with | some v => some (v, h) | none => none) = _; rw [e]⟩, hK⟩
  · rename_i f
    obtain ⟨v, e, hK⟩ := hw
    exact ⟨_, _, ⟨0, fun k _ => by show (match f fr with | some p => some (p.2 h.next, h.new p.1) | none => none) = _; rw [e]⟩, hK⟩
  · exact hw
  · exact hw.elim
theorem runL_conz (callf : CallF) (ops : List Oper) (o : Oper) (l : List Oper) (fr : Fr) (h : AHeap) : runL cfg callf ops (o :: l) fr h = cond (wantedA ops o fr) (match stepA callf (insOf cfg o.op) fr h with
      | some (v, h1) => force v fun v => runL cfg callf ops l (Fr.put fr o.dst v) h1
      | none => none) (runL cfg callf ops l (Fr.put fr o.dst .undef) h) := rfl
theorem wpL_sound (ops : List Oper) : ∀ (l : List Oper) (fr : Fr) (h : AHeap) (Q : Fr → AHeap → Prop), wpL cfg ops l fr h Q → ∃ fr' h', (∃ m, ∀ k, m ≤ k → runL cfg (callA cfg k) ops l fr h = some (fr', h')) ∧ Q fr' h'
  | [], fr, h, Q, hw => ⟨fr, h, ⟨0, fun _ _ => rfl⟩, hw⟩
  | o :: l, fr, h, Q, hw => by
    simp only [wpL] at hw
    cases e : wantedA ops o fr with
    | true =>
      rw [e] at hw; simp only [cond_true] at hw
      obtain ⟨v, h1, ⟨m1, hm1⟩, hw⟩ := wpI_sound hw
      obtain ⟨fr', h', ⟨m2, hm2⟩, hq⟩ := wpL_sound ops l _ _ Q hw
      refine ⟨fr', h', ⟨max m1 m2, fun k hk => ?_⟩, hq⟩
      rw [runL_conz, e, hm1 k (by omega)]
      simp only [force_eqz, cond_true]
      exact hm2 k (by omega)
    | false =>
      rw [e] at hw; simp only [cond_false] at hw
      obtain ⟨fr', h', ⟨m2, hm2⟩, hq⟩ := wpL_sound ops l _ _ Q hw
      refine ⟨fr', h', ⟨m2, fun k hk => ?_⟩, hq⟩
      rw [runL_conz, e]
      exact hm2 k hk
theorem wpS_sound {ins : Ins} {d : Option Nat} {m i : Nat} {s : DSt} {K : DSt → Prop} (hw : wpS cfg ins d m i s K) : ∃ s', (∃ q, ∀ k, q ≤ k → stepD (callA cfg k) ins d m i s = some s') ∧ K s' := by
  unfold wpS at hw
  split at hw
  · rename_i f
    obtain ⟨v, e, hK⟩ := hw
    exact ⟨_, ⟨0, fun k _ => by show (match f s.fr with | some v => force v fun v => some (dP s d v) | none => none) = _; rw [e]; simp only [force_eqz]⟩, hK⟩
  · rename_i f
    obtain ⟨v, e, hK⟩ := hw
    exact ⟨_, ⟨0, fun k _ => by show (match f s.fr s.h with | some v => force v fun v => some (dP s d v) | none => none) = _; rw [e]; simp only [force_eqz]⟩, hK⟩
  · rename_i f
    obtain ⟨v, e, hK⟩ := hw
    exact ⟨_, ⟨0, fun k _ => by show (match f s.fr with | some p => some (dC s d i p) | none => none) = _; rw [e]⟩, hK⟩
  · rename_i f
    obtain ⟨v, h', ⟨q, hq⟩, hK⟩ := hw
    exact ⟨_, ⟨q, fun k hk => by
      show (match f (callA cfg k) s.fr (putAll s.h (s.pend.filter fun p => m.testBit p.1)) with | some (v, h2) => force v fun v => some (dA s d m v h2) | none => none) = _
      rw [hq k hk]; simp only [force_eqz]⟩, hK⟩
  · exact hw.elim
theorem wpD_sound (ops : List Oper) : ∀ (l : List Oper) (ms : List Nat) (i : Nat) (s : DSt) (K : DSt → Prop), wpD cfg ops l ms i s K → ∃ s', (∃ q, ∀ k, q ≤ k → runD cfg (callA cfg k) ops l ms i s = some s') ∧ K s'
  | [], _, _, s, K, hw => ⟨s, ⟨0, fun _ _ => by unfold runD; rfl⟩, hw⟩
  | _ :: _, [], _, _, _, hw => hw.elim
  | o :: l, m :: ms, i, s, K, hw => by
    simp only [wpD] at hw
    cases e : wantedA ops o s.fr with
    | true =>
      rw [e] at hw; simp only [cond_true] at hw
      obtain ⟨s1, ⟨m1, hm1⟩, hw⟩ := wpS_sound hw
      obtain ⟨s', ⟨m2, hm2⟩, hq⟩ := wpD_sound ops l ms (i + 1) s1 K hw
      refine ⟨s', ⟨max m1 m2, fun k hk => ?_⟩, hq⟩
      unfold runD
      rw [e, hm1 k (by omega)]
      exact hm2 k (by omega)
    | false =>
      rw [e] at hw; simp only [cond_false] at hw
      obtain ⟨s', ⟨m2, hm2⟩, hq⟩ := wpD_sound ops l ms (i + 1) _ K hw
      refine ⟨s', ⟨m2, fun k hk => ?_⟩, hq⟩
      unfold runD
      rw [e]
      exact hm2 k hk
theorem wpR_sound {ops : List Oper} {draw : Bool} {fr : Fr} {h : AHeap} {K : Fr → AHeap → Prop} (hw : wpR cfg ops draw fr h K) : ∃ fr' h', (∃ m, ∀ k, m ≤ k → stepRegion cfg (callA cfg k) ops draw fr h = some (.normal, fr', h')) ∧ K fr' h' := by
  unfold wpR at hw
  cases draw with
  | true =>
    simp only [cond_true] at hw
    obtain ⟨s', ⟨q, hq⟩, hr, hK⟩ := wpD_sound ops _ _ _ _ _ hw
    refine ⟨_, _, ⟨q, fun k hk => ?_⟩, hK⟩
    unfold stepRegion drawA
    simp only [cond_true, hq k hk, hr]
  | false =>
    simp only [cond_false] at hw
    obtain ⟨fr', h', ⟨q, hq⟩, hK⟩ := wpL_sound ops _ _ _ _ hw
    refine ⟨_, _, ⟨q, fun k hk => ?_⟩, hK⟩
    unfold stepRegion
    simp only [cond_false, hq k hk]
theorem codeA_seq (cf : CallF) (n : Nat) (p q : Code) (fr : Fr) (h : AHeap) : codeA cfg cf n (.seq p q) fr h = stepSeq (codeA cfg cf n p) (codeA cfg cf n q) fr h := rfl
theorem codeA_cond (cf : CallF) (n : Nat) (c : Operand) (p q : Code) (fr : Fr) (h : AHeap) : codeA cfg cf n (.cond c p q) fr h = stepCond c (codeA cfg cf n p) (codeA cfg cf n q) fr h := rfl
theorem codeA_block (cf : CallF) (n : Nat) (id : Nat) (p : Code) (fr : Fr) (h : AHeap) : codeA cfg cf n (.block id p) fr h = stepBlock id (codeA cfg cf n p) fr h := rfl
/-- With enough fuel, code comes to r. -/
def Ran (cfg : Cfg) (c : Code) (fr : Fr) (h : AHeap) (r : AExit × Fr × AHeap) : Prop := ∃ m, ∀ k n, m ≤ k → m ≤ n → codeA cfg (callA cfg k) n c fr h = some r
theorem wpC_sound : ∀ (c : Code) (fr : Fr) (h : AHeap) (Q : CK), wpC cfg c fr h Q → ∃ x fr' h', Ran cfg c fr h (x, fr', h') ∧ Q x fr' h' := by
  intro c
  induction c with
  | skip => exact fun fr h Q hw => ⟨.normal, fr, h, ⟨0, fun _ _ _ _ => rfl⟩, hw⟩
  | region id ops draw =>
    intro fr h Q hw
    obtain ⟨fr', h', ⟨q, hq⟩, hK⟩ := wpR_sound (show wpR cfg ops.toList draw fr h fun fr h => Q .normal fr h from hw)
    exact ⟨.normal, fr', h', ⟨q, fun k n hk _ => hq k hk⟩, hK⟩
  | seq p r ih1 ih2 =>
    intro fr h Q hw
    obtain ⟨x, fr1, h1, ⟨m1, hm1⟩, hK⟩ := ih1 fr h (seqK (wpC cfg r) Q) hw
    cases x with
    | normal =>
      obtain ⟨y, fr2, h2, ⟨m2, hm2⟩, hQ⟩ := ih2 fr1 h1 Q hK
      refine ⟨y, fr2, h2, ⟨max m1 m2, fun k n hk hn => ?_⟩, hQ⟩
      rw [codeA_seq]; unfold stepSeq
      rw [hm1 k n (by omega) (by omega)]
      exact hm2 k n (by omega) (by omega)
    | exit j =>
      refine ⟨.exit j, fr1, h1, ⟨m1, fun k n hk hn => ?_⟩, hK⟩
      rw [codeA_seq]; unfold stepSeq
      rw [hm1 k n hk hn]
    | ret =>
      refine ⟨.ret, fr1, h1, ⟨m1, fun k n hk hn => ?_⟩, hK⟩
      rw [codeA_seq]; unfold stepSeq
      rw [hm1 k n hk hn]
  | cond c p r ih1 ih2 =>
    intro fr h Q hw
    obtain ⟨v, hv, hw⟩ := (show wpO (evalA fr c) fun v => wpB v (wpC cfg p fr h Q) (wpC cfg r fr h Q) from hw)
    unfold wpB at hw
    split at hw
    · rename_i b
      cases b with
      | true =>
        obtain ⟨x, fr1, h1, ⟨m1, hm1⟩, hK⟩ := ih1 fr h Q hw
        refine ⟨x, fr1, h1, ⟨m1, fun k n hk hn => ?_⟩, hK⟩
        rw [codeA_cond]; unfold stepCond
        rw [hv]
        exact hm1 k n hk hn
      | false =>
        obtain ⟨x, fr1, h1, ⟨m1, hm1⟩, hK⟩ := ih2 fr h Q hw
        refine ⟨x, fr1, h1, ⟨m1, fun k n hk hn => ?_⟩, hK⟩
        rw [codeA_cond]; unfold stepCond
        rw [hv]
        exact hm1 k n hk hn
    · exact hw.elim
  | block id p ih =>
    intro fr h Q hw
    obtain ⟨x, fr1, h1, ⟨m1, hm1⟩, hK⟩ := ih fr h (blockK id Q) hw
    cases x with
    | normal =>
      refine ⟨.normal, fr1, h1, ⟨m1, fun k n hk hn => ?_⟩, hK⟩
      rw [codeA_block]; unfold stepBlock
      rw [hm1 k n hk hn]
    | exit j =>
      cases e : Nat.beq j id with
      | true =>
        simp only [blockK, e, cond_true] at hK
        refine ⟨.normal, fr1, h1, ⟨m1, fun k n hk hn => ?_⟩, hK⟩
        rw [codeA_block]; unfold stepBlock
        rw [hm1 k n hk hn]
        simp only [e, cond_true]
      | false =>
        simp only [blockK, e, cond_false] at hK
        refine ⟨.exit j, fr1, h1, ⟨m1, fun k n hk hn => ?_⟩, hK⟩
        rw [codeA_block]; unfold stepBlock
        rw [hm1 k n hk hn]
        simp only [e, cond_false]
    | ret =>
      refine ⟨.ret, fr1, h1, ⟨m1, fun k n hk hn => ?_⟩, hK⟩
      rw [codeA_block]; unfold stepBlock
      rw [hm1 k n hk hn]
  | loop p ih =>
    intro fr h Q hw
    have hw : wpLoop (wpC cfg p) fr h Q := hw
    obtain ⟨x, fr', h', ⟨m, hm⟩, hQ⟩ := hw (fun fr h => ∃ x fr' h', (∃ m, ∀ k n j, m ≤ k → m ≤ n → m ≤ j → roundsA (codeA cfg (callA cfg k) n p) j fr h = some (x, fr', h')) ∧ Q x fr' h') (fun fr h hf => by
      obtain ⟨x, fr1, h1, ⟨m1, hm1⟩, hK⟩ := ih fr h _ hf
      have hs : ∀ (k n j : Nat), roundsA (codeA cfg (callA cfg k) n p) (j + 1) fr h = match codeA cfg (callA cfg k) n p fr h with
          | some (.normal, fr1, h1) => roundsA (codeA cfg (callA cfg k) n p) j fr1 h1
          | r => r := fun _ _ _ => rfl
      cases x with
      | normal =>
        obtain ⟨y, fr2, h2, ⟨m2, hm2⟩, hQ⟩ := hK
        refine ⟨y, fr2, h2, ⟨max m1 m2 + 1, fun k n j hk hn hj => ?_⟩, hQ⟩
        obtain ⟨i, rfl⟩ : ∃ i, j = i + 1 := ⟨j - 1, by omega⟩
        rw [hs, hm1 k n (by omega) (by omega)]
        exact hm2 k n i (by omega) (by omega) (by omega)
      | exit q =>
        refine ⟨.exit q, fr1, h1, ⟨m1 + 1, fun k n j hk hn hj => ?_⟩, hK⟩
        obtain ⟨i, rfl⟩ : ∃ i, j = i + 1 := ⟨j - 1, by omega⟩
        rw [hs, hm1 k n (by omega) (by omega)]
      | ret =>
        refine ⟨.ret, fr1, h1, ⟨m1 + 1, fun k n j hk hn hj => ?_⟩, hK⟩
        obtain ⟨i, rfl⟩ : ∃ i, j = i + 1 := ⟨j - 1, by omega⟩
        rw [hs, hm1 k n (by omega) (by omega)])
    exact ⟨x, fr', h', ⟨m, fun k n hk hn => hm k n n hk hn hn⟩, hQ⟩
  | rangeFunc f ps p q ih1 ih2 => exact fun fr h Q hw => hw.elim
  | exit id => exact fun fr h Q hw => ⟨.exit id, fr, h, ⟨0, fun _ _ _ _ => rfl⟩, hw⟩
  | scope p ih => exact fun fr h Q hw => hw.elim
  | label l => exact fun fr h Q hw => ⟨.normal, fr, h, ⟨0, fun _ _ _ _ => rfl⟩, hw⟩
  | goto l => exact fun fr h Q hw => hw.elim
  | ret => exact fun fr h Q hw => ⟨.ret, fr, h, ⟨0, fun _ _ _ _ => rfl⟩, hw⟩
  | refuse m => exact fun fr h Q hw => hw.elim
/-! ### W3. Less is asked -/
theorem wpO_mono {α : Type} {x : Option α} {K K' : α → Prop} (hk : ∀ v, K v → K' v) : wpO x K → wpO x K' := fun ⟨v, e, h⟩ => ⟨v, e, hk v h⟩
theorem wpI_mono {s : Ins} {fr : Fr} {h : AHeap} {K K' : AV → AHeap → Prop} (hk : ∀ v h, K v h → K' v h) (hw : wpI cfg s fr h K) : wpI cfg s fr h K' := by
  cases s with
  | P f => exact wpO_mono (fun v => hk v h) hw
  | R f => exact wpO_mono (fun v => hk v h) hw
  | C f => exact wpO_mono (fun p => hk _ _) hw
  | A f => obtain ⟨v, h', e, hK⟩ := hw; exact ⟨v, h', e, hk _ _ hK⟩
  | X => exact hw
theorem wpL_mono {ops : List Oper} : ∀ {l : List Oper} {fr : Fr} {h : AHeap} {Q Q' : Fr → AHeap → Prop}, (∀ fr h, Q fr h → Q' fr h) → wpL cfg ops l fr h Q → wpL cfg ops l fr h Q'
  | [], _, _, _, _, hq, hw => hq _ _ hw
  | o :: l, fr, h, Q, Q', hq, hw => by
    simp only [wpL] at hw ⊢
    cases e : wantedA ops o fr <;> simp only [e, cond_true, cond_false] at hw ⊢
    rotate_left
    · exact wpI_mono (fun v h1 => wpL_mono hq) hw
    · exact wpL_mono hq hw
theorem wpS_mono {ins : Ins} {d : Option Nat} {m i : Nat} {s : DSt} {K K' : DSt → Prop} (hk : ∀ s, K s → K' s) (hw : wpS cfg ins d m i s K) : wpS cfg ins d m i s K' := by
  cases ins with
  | P f => exact wpO_mono (fun v => hk _) hw
  | R f => exact wpO_mono (fun v => hk _) hw
  | C f => exact wpO_mono (fun p => hk _) hw
  | A f => obtain ⟨v, h', e, hK⟩ := hw; exact ⟨v, h', e, hk _ hK⟩
  | X => exact hw
theorem wpD_mono {ops : List Oper} : ∀ {l : List Oper} {ms : List Nat} {i : Nat} {s : DSt} {K K' : DSt → Prop}, (∀ s, K s → K' s) → wpD cfg ops l ms i s K → wpD cfg ops l ms i s K'
  | [], _, _, _, _, _, hq, hw => hq _ hw
  | _ :: _, [], _, _, _, _, _, hw => hw
  | o :: l, m :: ms, i, s, K, K', hq, hw => by
    simp only [wpD] at hw ⊢
    cases e : wantedA ops o s.fr <;> simp only [e, cond_true, cond_false] at hw ⊢
    rotate_left
    · exact wpS_mono (fun s1 => wpD_mono hq) hw
    · exact wpD_mono hq hw
theorem wpR_mono {ops : List Oper} {draw : Bool} {fr : Fr} {h : AHeap} {K K' : Fr → AHeap → Prop} (hk : ∀ fr h, K fr h → K' fr h) (hw : wpR cfg ops draw fr h K) : wpR cfg ops draw fr h K' := by
  cases draw with
  | true => exact wpD_mono (fun s ⟨h1, h2⟩ => ⟨h1, hk _ _ h2⟩) hw
  | false => exact wpL_mono hk hw
theorem wpC_mono : ∀ (c : Code) {fr : Fr} {h : AHeap} {Q Q' : CK}, (∀ x fr h, Q x fr h → Q' x fr h) → wpC cfg c fr h Q → wpC cfg c fr h Q' := by
  intro c
  induction c with
  | skip => exact fun hq hw => hq _ _ _ hw
  | region id ops draw => exact fun hq hw => wpR_mono (fun fr h => hq .normal fr h) hw
  | seq p r ih1 ih2 =>
    intro fr h Q Q' hq hw
    refine ih1 (Q := seqK (wpC cfg r) Q) (Q' := seqK (wpC cfg r) Q') (fun x fr h hx => ?_) hw
    cases x with
    | normal => exact ih2 hq hx
    | exit j => exact hq _ _ _ hx
    | ret => exact hq _ _ _ hx
  | cond c p r ih1 ih2 =>
    intro fr h Q Q' hq hw
    refine wpO_mono (fun v hv => ?_) (show wpO (evalA fr c) fun v => wpB v (wpC cfg p fr h Q) (wpC cfg r fr h Q) from hw)
    unfold wpB at hv ⊢
    split at hv
    · rename_i b
      cases b with
      | true => exact ih1 hq hv
      | false => exact ih2 hq hv
    · exact hv.elim
  | block id p ih =>
    intro fr h Q Q' hq hw
    refine ih (Q := blockK id Q) (Q' := blockK id Q') (fun x fr h hx => ?_) hw
    cases x with
    | normal => exact hq _ _ _ hx
    | exit j =>
      simp only [blockK] at hx ⊢
      cases e : Nat.beq j id with
      | true => rw [e] at hx; exact hq _ _ _ hx
      | false => rw [e] at hx; exact hq _ _ _ hx
    | ret => exact hq _ _ _ hx
  | loop p ih =>
    intro fr h Q Q' hq hw R hR
    have hw : wpLoop (wpC cfg p) fr h Q := hw
    refine hw R (fun fr h hf => hR fr h (ih (fun x fr h hx => ?_) hf))
    cases x with
    | normal => exact hx
    | exit j => exact hq _ _ _ hx
    | ret => exact hq _ _ _ hx
  | rangeFunc f ps p q ih1 ih2 => exact fun _ hw => hw
  | exit id => exact fun hq hw => hq _ _ _ hw
  | scope p ih => exact fun _ hw => hw
  | label l => exact fun hq hw => hq _ _ _ hw
  | goto l => exact fun _ hw => hw
  | ret => exact fun hq hw => hq _ _ _ hw
  | refuse m => exact fun _ hw => hw
/-- A loop by what holds at its head, and what grows less. -/
theorem wpC_loop {p : Code} {Q : CK} (I : Nat → Fr → AHeap → Prop) (hstep : ∀ m fr h, I m fr h → wpC cfg p fr h (loopK (fun fr h => ∃ m', m' < m ∧ I m' fr h) Q)) : ∀ (m : Nat) {fr : Fr} {h : AHeap}, I m fr h → wpC cfg (.loop p) fr h Q := by
  intro m
  induction m using Nat.strongRecOn with
  | _ m ih =>
    intro fr h hI R hR
    refine hR fr h (wpC_mono p (fun x fr h hx => ?_) (hstep m fr h hI))
    cases x with
    | normal => obtain ⟨m', hlt, hI'⟩ := hx; exact ih m' hlt hI' R hR
    | exit j => exact hx
    | ret => exact hx
/-! ### W4. Calls -/
theorem callA_succ (k : Nat) (f : FuncId) (args : List AV) (h : AHeap) : callA cfg (k + 1) f args h = callOne cfg (callA cfg k) k f args h := rfl
theorem wpCall_mono {f : FuncId} {args : List AV} {h : AHeap} {K K' : AV → AHeap → Prop} (hw : wpCall cfg f args h K) (hk : ∀ v h', K v h' → K' v h') : wpCall cfg f args h K' := by
  obtain ⟨v, h', hd, hK⟩ := hw; exact ⟨v, h', hd, hk _ _ hK⟩
theorem wpCall_intr {f : FuncId} {g : Intr} (hi : cfg.intr f = some g) {args : List AV} {h : AHeap} {v : AV} {h' : AHeap} (hg : g args h = some (v, h')) {K : AV → AHeap → Prop} (hK : K v h') : wpCall cfg f args h K := by
  refine ⟨v, h', ⟨1, fun k hk => ?_⟩, hK⟩
  obtain ⟨j, rfl⟩ : ∃ j, k = j + 1 := ⟨k - 1, by omega⟩
  rw [callA_succ]; unfold callOne; rw [hi]; exact hg
/-- What stands at a function's end. -/
def endK (cfg : Cfg) (fn : AFn) (K : AV → AHeap → Prop) : CK
  | .exit _, _, _ => False
  | .normal, fr, h => wpO (resultsA cfg fr h fn.results) fun l => K (resultA l) h
  | .ret, fr, h => wpO (resultsA cfg fr h fn.results) fun l => K (resultA l) h
theorem body_sound {fn : AFn} {args : List AV} {h : AHeap} (hn : Nat.ble args.length fn.ntmps = true) {K : AV → AHeap → Prop} (hw : wpC cfg fn.body (frOf args 0 .nil) h (endK cfg fn K)) :
    ∃ v h', (∃ m, ∀ k n, m ≤ k → m ≤ n → bodyA cfg (callA cfg k) n fn args h = some (v, h')) ∧ K v h' := by
  obtain ⟨x, fr', h', ⟨m, hm⟩, hK⟩ := wpC_sound _ _ _ _ hw
  cases x with
  | exit j => exact hK.elim
  | normal =>
    obtain ⟨l, hl, hK⟩ := hK
    refine ⟨resultA l, h', ⟨m, fun k n hk hn' => ?_⟩, hK⟩
    unfold bodyA
    rw [hn, hm k n hk hn']
    simp only [cond_true, hl]
  | ret =>
    obtain ⟨l, hl, hK⟩ := hK
    refine ⟨resultA l, h', ⟨m, fun k n hk hn' => ?_⟩, hK⟩
    unfold bodyA
    rw [hn, hm k n hk hn']
    simp only [cond_true, hl]
theorem wpCall_pure {f : FuncId} {fn : AFn} (hi : cfg.intr f = none) (hf : cfg.fn f = some fn) (hp : fn.pure = true) {args : List AV} (hh : hfL args = true) (hn : Nat.ble args.length fn.ntmps = true) {h : AHeap} {K : AV → AHeap → Prop}
    (hw : wpC cfg fn.body (frOf args 0 .nil) .empty (endK cfg fn fun v h1 => wpO (frz cfg h1 8 v) fun r => K r h)) : wpCall cfg f args h K := by
  obtain ⟨v, h', ⟨m, hm⟩, r, hr, hK⟩ := body_sound hn hw
  refine ⟨r, h, ⟨m + 1, fun k hk => ?_⟩, hK⟩
  obtain ⟨j, rfl⟩ : ∃ j, k = j + 1 := ⟨k - 1, by omega⟩
  rw [callA_succ]; unfold callOne; rw [hi]; simp only [hf, hp, hh, Bool.and_self, cond_true]
  unfold callPure
  rw [hm j j (by omega) (by omega)]
  simp only [hr]
theorem wpCall_body {f : FuncId} {fn : AFn} (hi : cfg.intr f = none) (hf : cfg.fn f = some fn) {args : List AV} (hp : (fn.pure && hfL args) = false) (hn : Nat.ble args.length fn.ntmps = true) {h : AHeap} {K : AV → AHeap → Prop}
    (hw : wpC cfg fn.body (frOf args 0 .nil) h (endK cfg fn K)) : wpCall cfg f args h K := by
  obtain ⟨v, h', ⟨m, hm⟩, hK⟩ := body_sound hn hw
  refine ⟨v, h', ⟨m + 1, fun k hk => ?_⟩, hK⟩
  obtain ⟨j, rfl⟩ : ∃ j, k = j + 1 := ⟨k - 1, by omega⟩
  rw [callA_succ]; unfold callOne; rw [hi]; simp only [hf, hp, cond_false]
  exact hm j j (by omega) (by omega)
/-! ### W5. Acting operations, each by what it is -/
theorem wpA_const {f : CallF → Fr → AHeap → Option (AV × AHeap)} {fr : Fr} {h : AHeap} {r : Option (AV × AHeap)} (hf : ∀ c, f c fr h = r) (K : AV → AHeap → Prop) : wpA cfg f fr h K = wpO r fun p => K p.1 p.2 := by
  apply propext
  constructor
  · rintro ⟨v, h', ⟨m, hm⟩, hK⟩
    exact ⟨(v, h'), by rw [← hf (callA cfg m)]; exact hm m (Nat.le_refl _), hK⟩
  · rintro ⟨⟨v, h'⟩, e, hK⟩
    exact ⟨v, h', ⟨0, fun k _ => by rw [hf]; exact e⟩, hK⟩
theorem wpA_call (f : Operand) (xs : List Operand) (fr : Fr) (h : AHeap) (K : AV → AHeap → Prop) : wpA cfg (oCall f xs) fr h K = wpO (evalAs fr xs) fun l => wpO (evalA fr f) fun u => match u with
    | .func g a b => wpCall cfg g (a ++ l ++ b) h K
    | _ => False := by
  apply propext
  constructor
  · rintro ⟨v, h', ⟨m, hm⟩, hK⟩
    have hx := hm m (Nat.le_refl _)
    unfold oCall at hx hm
    cases e1 : evalAs fr xs with
    | none => rw [e1] at hx; cases hx
    | some l =>
      rw [wpO_some]
      simp only [e1] at hx hm
      cases e2 : evalA fr f with
      | none => rw [e2] at hx; cases hx
      | some u =>
        rw [wpO_some]
        simp only [e2] at hx hm
        cases u with
        | func g a b => exact ⟨v, h', ⟨m, hm⟩, hK⟩
        | _ => cases hx
  · rintro ⟨l, e1, u, e2, hw⟩
    cases u with
    | func g a b =>
      obtain ⟨v, h', ⟨m, hm⟩, hK⟩ := hw
      refine ⟨v, h', ⟨m, fun k hk => ?_⟩, hK⟩
      unfold oCall
      rw [e1]
      simp only [e2]
      exact hm k hk
    | _ => exact hw.elim
theorem wpA_store (t : TypeId) (a x : Operand) (fr : Fr) (h : AHeap) (K : AV → AHeap → Prop) : wpA cfg (oStore cfg t a x) fr h K = wpO (evalA fr a) fun a => wpO (evalA fr x) fun x => wpO (astore cfg t a x h) fun h1 => K .undef h1 := by
  rw [wpA_const (f := oStore cfg t a x) (r := oStore cfg t a x (fun _ _ _ => none) fr h) (fun _ => rfl)]
  unfold oStore
  cases evalA fr a with
  | none => simp only [wpO_none]
  | some a =>
    simp only [wpO_some]
    cases evalA fr x with
    | none => simp only [wpO_none]
    | some x =>
      simp only [wpO_some]
      cases astore cfg t a x h with
      | none => simp only [wpO_none]
      | some h1 => simp only [wpO_some]
theorem wpA_append (t u : TypeId) (s x : Operand) (fr : Fr) (h : AHeap) (K : AV → AHeap → Prop) : wpA cfg (oAppend cfg t u s x) fr h K = wpO (evalA fr s) fun s => wpO (evalA fr x) fun x => wpO (aappend cfg t u s x h) fun p => K p.1 p.2 := by
  rw [wpA_const (f := oAppend cfg t u s x) (r := oAppend cfg t u s x (fun _ _ _ => none) fr h) (fun _ => rfl)]
  unfold oAppend
  cases evalA fr s with
  | none => simp only [wpO_none]
  | some a =>
    simp only [wpO_some]
    cases evalA fr x with
    | none => simp only [wpO_none]
    | some x => simp only [wpO_some]
theorem wpA_mapPut (t : TypeId) (m k x : Operand) (fr : Fr) (h : AHeap) (K : AV → AHeap → Prop) : wpA cfg (oMapPut cfg t m k x) fr h K = wpO (evalA fr m) fun m => wpO (evalA fr k) fun k => wpO (evalA fr x) fun x => wpO (bif k.hf then amapUpdate cfg t m k x h else none) fun h1 => K .undef h1 := by
  rw [wpA_const (f := oMapPut cfg t m k x) (r := oMapPut cfg t m k x (fun _ _ _ => none) fr h) (fun _ => rfl)]
  unfold oMapPut
  cases evalA fr m with
  | none => simp only [wpO_none]
  | some a =>
    simp only [wpO_some]
    cases evalA fr k with
    | none => simp only [wpO_none]
    | some k =>
      simp only [wpO_some]
      cases evalA fr x with
      | none => simp only [wpO_none]
      | some x =>
        simp only [wpO_some]
        cases k.hf with
        | false => simp only [cond_false, wpO_none]
        | true =>
          simp only [cond_true]
          cases amapUpdate cfg t a k x h with
          | none => simp only [wpO_none]
          | some h1 => simp only [wpO_some]
end
end Go.Am
