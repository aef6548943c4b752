/- Calls with a table of answers that are known: what such a run answers, the machine answers. -/
import Derived.Test.YtphmddmboankhaaGreatDoorAmWp
import Derived.Test.YtphmddmboankhaaGreatDoorAmTrace
noncomputable section
namespace Go.Am
abbrev Memo := FuncId → List AV → AHeap → Option (AV × AHeap)
def callM (cfg : Cfg) (M : Memo) (k : Nat) : CallF :=
  Nat.rec (fun _ _ _ => none) (fun n ih f args h => match M f args h with
    | some r => some r
    | none => callOne cfg ih n f args h) k
def Subs (cfg : Cfg) (callf : CallF) : Prop := ∀ f args h v h', callf f args h = some (v, h') → Did cfg f args h v h'
section
variable {cfg : Cfg} {callf : CallF}
theorem wpA_same {f : CallF → Fr → AHeap → Option (AV × AHeap)} {fr : Fr} {h : AHeap} {v : AV} {h' : AHeap} (hr : f callf fr h = some (v, h')) (hc : ∀ c, f c fr h = f callf fr h) : wpA cfg f fr h fun u h1 => u = v ∧ h1 = h' :=
  ⟨v, h', ⟨0, fun k _ => by rw [hc, hr]⟩, rfl, rfl⟩
theorem wpA_ins (hs : Subs cfg callf) {op : Op} {f : CallF → Fr → AHeap → Option (AV × AHeap)} (hi : insOf cfg op = .A f) {fr : Fr} {h : AHeap} {v : AV} {h' : AHeap} (hr : f callf fr h = some (v, h')) : wpA cfg f fr h fun u h1 => u = v ∧ h1 = h' := by
  unfold insOf at hi
  split at hi <;> try (first | (cases hi; done) | (split at hi <;> cases hi; done))
  · unfold insConv at hi; split at hi
    · split at hi
      · split at hi
        · cases hi
        · split at hi <;> cases hi
        · cases hi
      · cases hi
    · cases hi
  · unfold insFunc at hi
    split at hi <;> cases hi
  · cases hi; exact wpA_same hr fun _ => rfl
  · cases hi; exact wpA_same hr fun _ => rfl
  · cases hi; exact wpA_same hr fun _ => rfl
  · cases hi; exact wpA_same hr fun _ => rfl
  · rename_i c
    unfold insCall at hi
    split at hi
    · cases hi
      unfold oCall at hr
      split at hr
      · rename_i l hl
        split at hr
        · rename_i g a b hg
          obtain ⟨m, hm⟩ := hs _ _ _ _ _ hr
          refine ⟨v, h', ⟨m, fun k hk => ?_⟩, rfl, rfl⟩
          unfold oCall
          rw [hl]
          simp only [hg]
          exact hm k hk
        · cases hr
      · cases hr
    · unfold insBuiltin at hi
      split at hi
      · split at hi
        · unfold insLen at hi
          split at hi
          · split at hi <;> cases hi
          · cases hi
        · cases hi
      · split at hi <;> cases hi
      · cases hi
      · cases hi
      · split at hi
        · cases hi; exact wpA_same hr fun _ => rfl
        · cases hi
      · cases hi
    · cases hi
theorem wpI_of (hs : Subs cfg callf) {op : Op} {fr : Fr} {h : AHeap} {v : AV} {h' : AHeap} (hr : stepA callf (insOf cfg op) fr h = some (v, h')) : wpI cfg (insOf cfg op) fr h fun u h1 => u = v ∧ h1 = h' := by
  cases hi : insOf cfg op with
  | P f =>
    rw [hi] at hr
    have hr : (match f fr with | some v => some (v, h) | none => none) = some (v, h') := hr
    cases e : f fr with
    | none => rw [e] at hr; cases hr
    | some u => rw [e] at hr; cases hr; exact ⟨v, e, rfl, rfl⟩
  | R f =>
    rw [hi] at hr
    have hr : (match f fr h with | some v => some (v, h) | none => none) = some (v, h') := hr
    cases e : f fr h with
    | none => rw [e] at hr; cases hr
    | some u => rw [e] at hr; cases hr; exact ⟨v, e, rfl, rfl⟩
  | C f =>
    rw [hi] at hr
    have hr : (match f fr with | some p => some (p.2 h.next, h.new p.1) | none => none) = some (v, h') := hr
    cases e : f fr with
    | none => rw [e] at hr; cases hr
    | some u => rw [e] at hr; cases hr; exact ⟨u, e, rfl, rfl⟩
  | A f =>
    rw [hi] at hr
    exact wpA_ins hs hi hr
  | X => rw [hi] at hr; cases hr
theorem wpL_of (hs : Subs cfg callf) (ops : List Oper) : ∀ (l : List Oper) (fr : Fr) (h : AHeap) (fr' : Fr) (h' : AHeap), runL cfg callf ops l fr h = some (fr', h') → wpL cfg ops l fr h fun a b => a = fr' ∧ b = h'
  | [], fr, h, fr', h', hr => by cases hr; exact ⟨rfl, rfl⟩
  | o :: l, fr, h, fr', h', hr => by
    rw [runL_conz] at hr
    simp only [wpL]
    cases e : wantedA ops o fr with
    | false => rw [e] at hr; exact wpL_of hs ops l _ _ _ _ hr
    | true =>
      rw [e] at hr
      simp only [cond_true] at hr ⊢
      cases e2 : stepA callf (insOf cfg o.op) fr h with
      | none => rw [e2] at hr; cases hr
      | some p =>
        rw [e2] at hr
        simp only [force_eqz] at hr
        refine wpI_mono (fun u h1 ⟨a, b⟩ => ?_) (wpI_of hs (v := p.1) (h' := p.2) e2)
        subst a; subst b
        exact wpL_of hs ops l _ _ _ _ hr
theorem wpS_of (hs : Subs cfg callf) {op : Op} {d : Option Nat} {m i : Nat} {s s' : DSt} (hr : stepD callf (insOf cfg op) d m i s = some s') : wpS cfg (insOf cfg op) d m i s fun x => x = s' := by
  cases hi : insOf cfg op with
  | P f =>
    rw [hi] at hr
    have hr : (match f s.fr with | some v => force v fun v => some (dP s d v) | none => none) = some s' := hr
    cases e : f s.fr with
    | none => rw [e] at hr; cases hr
    | some u => rw [e] at hr; simp only [force_eqz] at hr; cases hr; exact ⟨u, e, rfl⟩
  | R f =>
    rw [hi] at hr
    have hr : (match f s.fr s.h with | some v => force v fun v => some (dP s d v) | none => none) = some s' := hr
    cases e : f s.fr s.h with
    | none => rw [e] at hr; cases hr
    | some u => rw [e] at hr; simp only [force_eqz] at hr; cases hr; exact ⟨u, e, rfl⟩
  | C f =>
    rw [hi] at hr
    have hr : (match f s.fr with | some p => some (dC s d i p) | none => none) = some s' := hr
    cases e : f s.fr with
    | none => rw [e] at hr; cases hr
    | some u => rw [e] at hr; cases hr; exact ⟨u, e, rfl⟩
  | A f =>
    rw [hi] at hr
    have hr : (match f callf s.fr (putAll s.h (s.pend.filter fun p => m.testBit p.1)) with | some (v, h2) => force v fun v => some (dA s d m v h2) | none => none) = some s' := hr
    cases e : f callf s.fr (putAll s.h (s.pend.filter fun p => m.testBit p.1)) with
    | none => rw [e] at hr; cases hr
    | some u =>
      rw [e] at hr
      simp only [force_eqz] at hr
      cases hr
      obtain ⟨v, h1, hm, ha, hb⟩ := wpA_ins hs hi (v := u.1) (h' := u.2) e
      exact ⟨v, h1, hm, by rw [ha, hb]⟩
  | X => rw [hi] at hr; cases hr
theorem wpD_of (hs : Subs cfg callf) (ops : List Oper) : ∀ (l : List Oper) (ms : List Nat) (i : Nat) (s s' : DSt), runD cfg callf ops l ms i s = some s' → wpD cfg ops l ms i s fun x => x = s'
  | [], _, _, s, s', hr => by unfold runD at hr; cases hr; rfl
  | _ :: _, [], _, _, _, hr => by unfold runD at hr; cases hr
  | o :: l, m :: ms, i, s, s', hr => by
    unfold runD at hr
    simp only [wpD]
    cases e : wantedA ops o s.fr with
    | false => rw [e] at hr; exact wpD_of hs ops l ms _ _ _ hr
    | true =>
      rw [e] at hr
      simp only [cond_true] at hr ⊢
      cases e2 : stepD callf (insOf cfg o.op) o.dst m i s with
      | none => rw [e2] at hr; cases hr
      | some s1 =>
        rw [e2] at hr
        refine wpS_mono (fun x hx => ?_) (wpS_of hs e2)
        subst hx
        exact wpD_of hs ops l ms _ _ _ hr
theorem wpR_of (hs : Subs cfg callf) {ops : List Oper} {draw : Bool} {fr : Fr} {h : AHeap} {r : AExit × Fr × AHeap} (hr : stepRegion cfg callf ops draw fr h = some r) : wpR cfg ops draw fr h fun a b => r = (.normal, a, b) := by
  unfold stepRegion at hr
  unfold wpR
  cases draw with
  | true =>
    simp only [cond_true] at hr ⊢
    split at hr
    · rename_i fr1 h1 hd
      cases hr
      unfold drawA at hd
      simp only at hd
      split at hd
      · rename_i s hrun
        refine wpD_mono (fun x hx => ?_) (wpD_of hs ops _ _ _ _ _ hrun)
        subst hx
        cases e : readsOk cfg ops (ancs ops []) x.hts.reverse ops 0 fr x.vals.reverse with
        | false => rw [e] at hd; cases hd
        | true => rw [e] at hd; cases hd; exact ⟨rfl, rfl⟩
      · cases hd
    · cases hr
  | false =>
    simp only [cond_false] at hr ⊢
    split at hr
    · rename_i fr1 h1 hd
      cases hr
      exact wpL_mono (fun a b ⟨ha, hb⟩ => by rw [ha, hb]) (wpL_of hs ops _ _ _ _ _ hd)
    · cases hr
theorem wpC_of (hs : Subs cfg callf) (n : Nat) : ∀ (c : Code) (fr : Fr) (h : AHeap) (r : AExit × Fr × AHeap), codeA cfg callf n c fr h = some r → wpC cfg c fr h fun x a b => r = (x, a, b) := by
  intro c
  induction c with
  | skip => intro fr h r hr; cases hr; exact rfl
  | region id ops draw => intro fr h r hr; exact wpR_of hs (show stepRegion cfg callf ops.toList draw fr h = some r from hr)
  | seq p q ih1 ih2 =>
    intro fr h r hr
    rw [codeA_seq] at hr
    unfold stepSeq at hr
    cases e : codeA cfg callf n p fr h with
    | none => rw [e] at hr; cases hr
    | some u =>
      rw [e] at hr
      refine wpC_mono p (fun x a b hx => ?_) (ih1 fr h u e)
      subst hx
      cases x with
      | normal => exact ih2 a b r hr
      | exit j => cases hr; exact rfl
      | ret => cases hr; exact rfl
  | cond c p q ih1 ih2 =>
    intro fr h r hr
    rw [codeA_cond] at hr
    unfold stepCond at hr
    split at hr
    · rename_i b hb
      refine ⟨_, hb, ?_⟩
      cases b with
      | true => exact ih1 fr h r hr
      | false => exact ih2 fr h r hr
    · cases hr
  | block id p ih =>
    intro fr h r hr
    rw [codeA_block] at hr
    unfold stepBlock at hr
    cases e : codeA cfg callf n p fr h with
    | none => rw [e] at hr; cases hr
    | some u =>
      rw [e] at hr
      refine wpC_mono p (fun x a b hx => ?_) (ih fr h u e)
      subst hx
      cases x with
      | normal => cases hr; exact rfl
      | exit j =>
        simp only at hr
        simp only [blockK]
        cases e2 : Nat.beq j id with
        | true => rw [e2] at hr; cases hr; exact rfl
        | false => rw [e2] at hr; cases hr; exact rfl
      | ret => cases hr; exact rfl
  | loop p ih =>
    intro fr h r hr
    have hr : roundsA (codeA cfg callf n p) n fr h = some r := hr
    have key : ∀ j fr h, roundsA (codeA cfg callf n p) j fr h = some r → wpC cfg (.loop p) fr h fun x a b => r = (x, a, b) := by
      intro j
      induction j with
      | zero => intro fr h hr; cases hr
      | succ j ihj =>
        intro fr h hr
        have hr : (match codeA cfg callf n p fr h with
          | some (.normal, fr1, h1) => roundsA (codeA cfg callf n p) j fr1 h1
          | r => r) = some r := hr
        intro R hR
        cases e : codeA cfg callf n p fr h with
        | none => rw [e] at hr; cases hr
        | some u =>
          rw [e] at hr
          refine hR fr h (wpC_mono p (fun x a b hx => ?_) (ih fr h u e))
          subst hx
          cases x with
          | normal => exact ihj a b hr R hR
          | exit q => cases hr; exact rfl
          | ret => cases hr; exact rfl
    exact key n fr h hr
  | rangeFunc f ps p q ih1 ih2 => intro fr h r hr; cases hr
  | exit id => intro fr h r hr; cases hr; exact rfl
  | scope p ih => intro fr h r hr; cases hr
  | label l => intro fr h r hr; cases hr; exact rfl
  | goto l => intro fr h r hr; cases hr
  | ret => intro fr h r hr; cases hr; exact rfl
  | refuse m => intro fr h r hr; cases hr
theorem body_of (hs : Subs cfg callf) {n : Nat} {fn : AFn} {args : List AV} {h : AHeap} {v : AV} {h' : AHeap} (hr : bodyA cfg callf n fn args h = some (v, h')) : Nat.ble args.length fn.ntmps = true ∧ wpC cfg fn.body (frOf args 0 .nil) h (endK cfg fn fun a b => a = v ∧ b = h') := by
  unfold bodyA at hr
  cases hn : Nat.ble args.length fn.ntmps with
  | false => rw [hn] at hr; cases hr
  | true =>
    rw [hn] at hr
    simp only [cond_true] at hr
    refine ⟨rfl, ?_⟩
    cases e : codeA cfg callf n fn.body (frOf args 0 .nil) h with
    | none => rw [e] at hr; cases hr
    | some u =>
      rw [e] at hr
      refine wpC_mono _ (fun x a b hx => ?_) (wpC_of hs n fn.body _ _ u e)
      subst hx
      have hres : (match resultsA cfg a b fn.results with | some l => some (resultA l, b) | none => none) = some (v, h') → wpO (resultsA cfg a b fn.results) fun l => resultA l = v ∧ b = h' := fun h => by
        cases e2 : resultsA cfg a b fn.results with
        | none => rw [e2] at h; cases h
        | some l => rw [e2] at h; cases h; exact ⟨l, rfl, rfl, rfl⟩
      cases x with
      | exit j => cases hr
      | normal => exact hres hr
      | ret => exact hres hr
theorem callOne_of (hs : Subs cfg callf) {n : Nat} {f : FuncId} {args : List AV} {h : AHeap} {v : AV} {h' : AHeap} (hr : callOne cfg callf n f args h = some (v, h')) : Did cfg f args h v h' := by
  have fin : (wpCall cfg f args h fun a b => a = v ∧ b = h') → Did cfg f args h v h' := fun ⟨a, b, hd, h1, h2⟩ => by rw [← h1, ← h2]; exact hd
  unfold callOne at hr
  split at hr
  · rename_i g hg
    exact fin (wpCall_intr hg hr ⟨rfl, rfl⟩)
  · rename_i hi
    split at hr
    · rename_i fn hf
      cases hp : (fn.pure && hfL args) with
      | true =>
        rw [hp] at hr
        simp only [cond_true] at hr
        simp only [Bool.and_eq_true] at hp
        unfold callPure at hr
        split at hr
        · rename_i u h1 hb
          split at hr
          · rename_i r hz
            cases hr
            obtain ⟨hn, hw⟩ := body_of hs hb
            refine fin (wpCall_pure hi hf hp.1 hp.2 hn (wpC_mono _ (fun x a b hx => ?_) hw))
            cases x with
            | exit j => exact hx
            | normal => obtain ⟨l, hl, ha, hb⟩ := hx; exact ⟨l, hl, v, by rw [ha, hb]; exact hz, rfl, rfl⟩
            | ret => obtain ⟨l, hl, ha, hb⟩ := hx; exact ⟨l, hl, v, by rw [ha, hb]; exact hz, rfl, rfl⟩
          · cases hr
        · cases hr
      | false =>
        rw [hp] at hr
        simp only [cond_false] at hr
        obtain ⟨hn, hw⟩ := body_of hs hr
        exact fin (wpCall_body hi hf hp hn hw)
    · cases hr
theorem callM_subs {M : Memo} (hM : ∀ f args h v h', M f args h = some (v, h') → Did cfg f args h v h') : ∀ k, Subs cfg (callM cfg M k)
  | 0 => fun f args h v h' hr => by cases hr
  | k + 1 => fun f args h v h' hr => by
    have hr : (match M f args h with
      | some r => some r
      | none => callOne cfg (callM cfg M k) k f args h) = some (v, h') := hr
    cases e : M f args h with
    | some r => rw [e] at hr; cases hr; exact hM f args h v h' e
    | none => rw [e] at hr; exact callOne_of (callM_subs hM k) hr
/-- A call that runs on its own memory answers the same beside any other. -/
theorem Did.any {f : FuncId} {fn : AFn} (hi : cfg.intr f = none) (hf : cfg.fn f = some fn) (hp : fn.pure = true) {args : List AV} (hh : hfL args = true) {h0 h1 : AHeap} {v : AV} (hd : Did cfg f args h0 v h1) (h : AHeap) : Did cfg f args h v h := by
  obtain ⟨m, hm⟩ := hd
  refine ⟨m + 1, fun k hk => ?_⟩
  obtain ⟨j, rfl⟩ : ∃ j, k = j + 1 := ⟨k - 1, by omega⟩
  have := hm (j + 1) (by omega)
  rw [callA_succ] at this ⊢
  unfold callOne at this ⊢
  rw [hi] at this ⊢
  simp only [hf, hp, hh, Bool.and_self, cond_true] at this ⊢
  unfold callPure at this ⊢
  split at this
  · rename_i u h2 hb
    split at this
    · rename_i r hz
      cases this
      first | rfl | (rw [hb]; simp only [hz]) | simp only [hz]
    · cases this
  · cases this
end
/-! ### Tables of answers -/
def rowM : List (List AV × AV) → List AV → Option AV
  | [], _ => none
  | p :: l, args => bif sameL args p.1 then some p.2 else rowM l args
def tabM (t : Tr (List (List AV × AV))) : Memo := fun f args h => match t.find f with
  | some l => match rowM l args with
    | some r => some (r, h)
    | none => none
  | none => none
/-- Two tables, one behind the other. -/
def orM (a b : Memo) : Memo := fun f args h => match a f args h with
  | some r => some r
  | none => b f args h
def noM : Memo := fun _ _ _ => none
def MemoOk (cfg : Cfg) (M : Memo) : Prop := ∀ f args h v h', M f args h = some (v, h') → Did cfg f args h v h'
theorem noM_ok (cfg : Cfg) : MemoOk cfg noM := fun _ _ _ _ _ h => by cases h
theorem orM_ok {cfg : Cfg} {a b : Memo} (ha : MemoOk cfg a) (hb : MemoOk cfg b) : MemoOk cfg (orM a b) := fun f args h v h' hr => by
  unfold orM at hr
  split at hr
  · rename_i e; cases hr; exact ha f args h _ _ e
  · exact hb f args h v h' hr
/-- Does a run, over a table, answer so? -/
def ansIs (x : Option (AV × AHeap)) (r : AV) : Bool := match x with
  | some (v, _) => AV.same v r
  | none => false
def isPure (cfg : Cfg) (f : FuncId) : Bool := match cfg.intr f, cfg.fn f with
  | none, some fn => fn.pure
  | _, _ => false
/-- One row of a table, run over what is known ahead of it. -/
def rowOk (cfg : Cfg) (M : Memo) (k : Nat) (f : FuncId) (p : List AV × AV) : Bool := isPure cfg f && hfL p.1 && ansIs (callM cfg M k f p.1 .empty) p.2
theorem rowOk_did {cfg : Cfg} {M : Memo} (hM : MemoOk cfg M) {k : Nat} {f : FuncId} {p : List AV × AV} (h : rowOk cfg M k f p = true) : ∀ g, Did cfg f p.1 g p.2 g := by
  unfold rowOk at h
  simp only [Bool.and_eq_true] at h
  obtain ⟨⟨h1, h2⟩, h3⟩ := h
  unfold isPure at h1
  split at h1
  · rename_i fn hi hf
    unfold ansIs at h3
    split at h3
    · rename_i v h' hr
      have := same_eq _ _ h3
      subst this
      exact fun g => Did.any hi hf h1 h2 (callM_subs hM k _ _ _ _ _ hr) g
    · cases h3
  · cases h1
theorem tabM_ok {cfg : Cfg} {t : Tr (List (List AV × AV))} (h : t.All fun f l => ∀ p ∈ l, ∀ g, Did cfg f p.1 g p.2 g) : MemoOk cfg (tabM t) := fun f args g v g' hr => by
  unfold tabM at hr
  split at hr
  · rename_i l hl
    have hall := Tr.find_all h hl
    clear hl
    induction l with
    | nil => cases hr
    | cons p l ih =>
      unfold rowM at hr
      cases e : sameL args p.1 with
      | true =>
        rw [e] at hr
        cases hr
        rw [sameL_eq _ _ e]
        exact hall p (by simp) _
      | false => rw [e] at hr; exact ih hr fun q hq => hall q (by simp [hq])
  · cases hr
/-! ### Rows that tell a memory -/
def pairSame : List (AV × AV) → List (AV × AV) → Bool
  | [], [] => true
  | a :: l, b :: m => AV.same a.1 b.1 && AV.same a.2 b.2 && pairSame l m
  | _, _ => false
def AObj.same : AObj → AObj → Bool
  | .cells a e, .cells b f => Nat.beq e f && sameL a b
  | .map a, .map b => pairSame a b
  | .iter s p, .iter u q => Nat.beq p q && eqBytes s u
  | _, _ => false
def oSame : Option AObj → Option AObj → Bool
  | none, none => true
  | some a, some b => AObj.same a b
  | _, _ => false
def HT.same : HT AObj → HT AObj → Bool
  | .nil, .nil => true
  | .node v l r, .node u m q => oSame v u && HT.same l m && HT.same r q
  | _, _ => false
def AHeap.same (a b : AHeap) : Bool := Nat.beq a.next b.next && HT.same a.objs b.objs
theorem pairSame_eq : ∀ {a b : List (AV × AV)}, pairSame a b = true → a = b
  | [], [], _ => rfl
  | [], _ :: _, h => by cases h
  | _ :: _, [], h => by cases h
  | (a, b) :: l, (c, d) :: m, h => by
    simp only [pairSame, Bool.and_eq_true] at h
    rw [same_eq _ _ h.1.1, same_eq _ _ h.1.2, pairSame_eq h.2]
theorem eqBytes_eq : ∀ {a b : List UInt8}, eqBytes a b = true → a = b
  | [], [], _ => rfl
  | [], _ :: _, h => by cases h
  | _ :: _, [], h => by cases h
  | a :: l, b :: m, h => by
    unfold eqBytes at h
    cases e : Nat.beq a.toNat b.toNat with
    | false => rw [e] at h; cases h
    | true => rw [e] at h; rw [UInt8.toNat_inj.1 (beq_true.1 e), eqBytes_eq h]
theorem AObj.same_eq {a b : AObj} (h : AObj.same a b = true) : a = b := by
  cases a <;> cases b <;> simp only [AObj.same, Bool.and_eq_true, beq_true, Bool.false_eq_true] at h
  · rw [h.1, sameL_eq _ _ h.2]
  · rw [pairSame_eq h]
  · rw [h.1, eqBytes_eq h.2]
theorem HT.same_eq : ∀ {a b : HT AObj}, HT.same a b = true → a = b
  | .nil, .nil, _ => rfl
  | .nil, .node _ _ _, h => by cases h
  | .node _ _ _, .nil, h => by cases h
  | .node v l r, .node u m q, h => by
    simp only [HT.same, Bool.and_eq_true] at h
    rw [HT.same_eq h.1.2, HT.same_eq h.2]
    congr 1
    cases v <;> cases u <;> simp only [oSame, Bool.false_eq_true] at h
    · rfl
    · exact absurd h.1.1 (by simp)
    · exact absurd h.1.1 (by simp)
    · rw [AObj.same_eq h.1.1]
theorem AHeap.same_eq {a b : AHeap} (h : AHeap.same a b = true) : a = b := by
  obtain ⟨x, n⟩ := a
  obtain ⟨y, m⟩ := b
  simp only [AHeap.same, Bool.and_eq_true, beq_true] at h
  rw [HT.same_eq h.2, h.1]
/-- A call with its memory, ahead and behind. -/
structure HRow where
  args : List AV
  h0 : AHeap
  v : AV
  h1 : AHeap
def rowH : List HRow → List AV → AHeap → Option (AV × AHeap)
  | [], _, _ => none
  | p :: l, args, h => bif sameL args p.args && AHeap.same h p.h0 then some (p.v, p.h1) else rowH l args h
def tabH (t : Tr (List HRow)) : Memo := fun f args h => match t.find f with
  | some l => rowH l args h
  | none => none
def hrowOk (cfg : Cfg) (M : Memo) (k : Nat) (f : FuncId) (p : HRow) : Bool := match callM cfg M k f p.args p.h0 with
  | some (v, h) => AV.same v p.v && AHeap.same h p.h1
  | none => false
theorem hrowOk_did {cfg : Cfg} {M : Memo} (hM : MemoOk cfg M) {k : Nat} {f : FuncId} {p : HRow} (h : hrowOk cfg M k f p = true) : Did cfg f p.args p.h0 p.v p.h1 := by
  unfold hrowOk at h
  split at h
  · rename_i v h' hr
    simp only [Bool.and_eq_true] at h
    have := callM_subs hM k _ _ _ _ _ hr
    rwa [Go.Am.same_eq _ _ h.1, AHeap.same_eq h.2] at this
  · cases h
theorem tabH_ok {cfg : Cfg} {t : Tr (List HRow)} (h : t.All fun f l => ∀ p ∈ l, Did cfg f p.args p.h0 p.v p.h1) : MemoOk cfg (tabH t) := fun f args g v g' hr => by
  unfold tabH at hr
  split at hr
  · rename_i l hl
    have hall := Tr.find_all h hl
    clear hl
    induction l with
    | nil => cases hr
    | cons p l ih =>
      unfold rowH at hr
      cases e : (sameL args p.args && AHeap.same g p.h0) with
      | true =>
        rw [e] at hr
        cases hr
        simp only [Bool.and_eq_true] at e
        rw [sameL_eq _ _ e.1, AHeap.same_eq e.2]
        exact hall p (by simp)
      | false => rw [e] at hr; exact ih hr fun q hq => hall q (by simp [hq])
  · cases hr
end Go.Am
