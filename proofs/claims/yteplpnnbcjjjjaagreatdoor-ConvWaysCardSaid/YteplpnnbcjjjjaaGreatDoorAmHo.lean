/- The machine's big steps over what is known of a frame: rules, one for each make of operation. -/
import Derived.Test.YteplpnnbcjjjjaaGreatDoorAmWp
import Derived.Test.YteplpnnbcjjjjaaGreatDoorAmInv
noncomputable section
namespace Go.Am
/-! ### H1. What is known of a frame -/
abbrev Env := List (Nat × AV)
def Env.get : Env → Nat → Option AV
  | [], _ => none
  | p :: l, t => bif Nat.beq t p.1 then some p.2 else Env.get l t
def Env.Ok (L : Env) (fr : Fr) : Prop := ∀ t v, L.get t = some v → Fr.at fr t = v
def Env.op (L : Env) : Operand → Option AV
  | .tmp t => L.get t
  | .const v => absV v
  | .func f => some (.func f [] [])
  | .global g => some (.gl g 0)
def Env.put (L : Env) (d : Option Nat) (v : AV) : Env := match d with
  | some t => (t, v) :: L
  | none => L
def Env.ops (L : Env) : List Operand → Option (List AV)
  | [] => some []
  | x :: l => match L.op x with
    | some a => match Env.ops L l with
      | some m => some (a :: m)
      | none => none
    | none => none
theorem Env.Ok.op {L : Env} {fr : Fr} (h : L.Ok fr) {x : Operand} {v : AV} (hx : L.op x = some v) : evalA fr x = some v := by
  cases x with
  | tmp t => exact congrArg some (h t v hx)
  | const c => exact hx
  | global g => exact hx
  | func f => exact hx
theorem Env.Ok.ops {L : Env} {fr : Fr} (h : L.Ok fr) : ∀ {xs : List Operand} {vs : List AV}, L.ops xs = some vs → evalAs fr xs = some vs
  | [], vs, hx => hx
  | x :: xs, vs, hx => by
    unfold Env.ops at hx
    rw [evalAs_cons]
    cases e : L.op x with
    | none => rw [e] at hx; cases hx
    | some a =>
      rw [e] at hx
      rw [h.op e]
      cases e2 : L.ops xs with
      | none => rw [e2] at hx; cases hx
      | some m =>
        rw [e2] at hx
        rw [h.ops e2]
        exact hx
theorem Env.Ok.put {L : Env} {fr : Fr} (h : L.Ok fr) (d : Option Nat) (v : AV) : (L.put d v).Ok (Fr.put fr d v) := by
  cases d with
  | none => exact h
  | some d =>
    intro t u hu
    rw [Fr.at_put]
    have hu : (bif Nat.beq t d then some v else L.get t) = some u := hu
    cases e : Nat.beq t d with
    | true => rw [e] at hu; cases hu; rw [if_pos (beq_true.1 e)]
    | false => rw [e] at hu; rw [if_neg (beq_false.1 e)]; exact h t u hu
/-- A frame in which d is of no known value. -/
theorem Env.Ok.forget {L : Env} {fr : Fr} (h : L.Ok fr) (d : Option Nat) : (L.put d .undef).Ok (Fr.put fr d .undef) := h.put d _
def Env.Sub : Env → Env → Prop
  | [], _ => True
  | p :: l, L => L.get p.1 = some p.2 ∧ Env.Sub l L
theorem Env.Sub.get {L : Env} : ∀ {l : Env}, l.Sub L → ∀ t v, l.get t = some v → L.get t = some v
  | [], _, t, v, h => by cases h
  | p :: l, ⟨h1, h2⟩, t, v, h => by
    have h : (bif Nat.beq t p.1 then some p.2 else Env.get l t) = some v := h
    cases e : Nat.beq t p.1 with
    | true => rw [e] at h; cases h; rw [beq_true.1 e]; exact h1
    | false => rw [e] at h; exact Env.Sub.get h2 t v h
theorem Env.Ok.sub {L l : Env} {fr : Fr} (h : L.Ok fr) (hs : l.Sub L) : l.Ok fr := fun t v hv => h t v (hs.get t v hv)

/-! ### H2. Rows of operations -/
section
variable (cfg : Cfg)
/-- Operations in the text's order; 'strict': all but the last leave the memory as it is. -/
def wpM (ops : List Oper) (strict : Bool) : List Oper → Fr → AHeap → (Fr → AHeap → Prop) → Prop
  | [], fr, h, Q => Q fr h
  | o :: l, fr, h, Q => cond (wantedA ops o fr) (wpI cfg (insOf cfg o.op) fr h fun v h1 => (strict = true → l ≠ [] → h1 = h) ∧ wpM ops strict l (Fr.put fr o.dst v) h1 Q) (wpM ops strict l (Fr.put fr o.dst .undef) h Q)
def lastIsA : List Oper → Bool
  | [] => false
  | [o] => isA (insOf cfg o.op)
  | _ :: l => lastIsA l
/-- The region may be told in the text's order: it makes no object, its reads are ahead of what its last operation does. -/
def plainDraw (ops : List Oper) : Bool :=
  Nat.beq (countC cfg ops) 0 && (!lastIsA cfg ops || ops.zipIdx.all fun (o, i) => !isR (insOf cfg o.op) || Nat.blt (countA cfg (fun j => !((ancs ops []).getD j 0).testBit i) ops 0) (countA cfg (fun _ => true) ops 0))
def hoM (ops : List Oper) (strict : Bool) (l : List Oper) (L : Env) (h : AHeap) (Q : Env → AHeap → Prop) : Prop :=
  ∀ fr, L.Ok fr → wpM cfg ops strict l fr h fun fr1 h1 => ∃ L1 : Env, L1.Ok fr1 ∧ Q L1 h1
abbrev EK := AExit → Env → AHeap → Prop
def ho (c : Code) (L : Env) (h : AHeap) (Q : EK) : Prop := ∀ fr, L.Ok fr → wpC cfg c fr h fun x fr1 h1 => ∃ L1 : Env, L1.Ok fr1 ∧ Q x L1 h1
def eSeq (g : Env → AHeap → EK → Prop) (Q : EK) : EK
  | .normal, L, h => g L h Q
  | .exit j, L, h => Q (.exit j) L h
  | .ret, L, h => Q .ret L h
def eBlock (id : Nat) (Q : EK) : EK
  | .normal, L, h => Q .normal L h
  | .exit j, L, h => cond (Nat.beq j id) (Q .normal L h) (Q (.exit j) L h)
  | .ret, L, h => Q .ret L h
def eLoop (R : Env → AHeap → Prop) (Q : EK) : EK
  | .normal, L, h => R L h
  | .exit j, L, h => Q (.exit j) L h
  | .ret, L, h => Q .ret L h
end
section
variable {cfg : Cfg}
theorem wpM_text {ops : List Oper} : ∀ {l : List Oper} {fr : Fr} {h : AHeap} {Q : Fr → AHeap → Prop}, wpM cfg ops false l fr h Q → wpL cfg ops l fr h Q
  | [], _, _, _, hw => hw
  | o :: l, fr, h, Q, hw => by
    simp only [wpM] at hw
    simp only [wpL]
    cases e : wantedA ops o fr <;> simp only [e, cond_true, cond_false] at hw ⊢
    · exact wpM_text hw
    · exact wpI_mono (fun v h1 hK => wpM_text hK.2) hw
/-- What the reads gave, at one memory. -/
def ReadsAt (cfg : Cfg) (ops : List Oper) (h : AHeap) : List Oper → Fr → List AV → Prop
  | [], _, _ => True
  | _ :: _, _, [] => False
  | o :: l, fr, v :: vs => (wantedA ops o fr = true → ∀ f, insOf cfg o.op = .R f → f fr h = some v) ∧ ReadsAt cfg ops h l (Fr.put fr o.dst v) vs
mutual
theorem AV.same_refl : ∀ v : AV, AV.same v v = true
  | .int k n => by simp [AV.same, kEq_self]
  | .bool b => by simp [AV.same]
  | .str s => by simp [AV.same, eqBytes_self]
  | .ptr a b => by simp [AV.same]
  | .rptr a => by simp only [AV.same]; exact sameL_refl a
  | .gl a b => by simp [AV.same]
  | .nilptr => by simp [AV.same]
  | .sl a b c d => by cases d <;> simp [AV.same]
  | .nilsl => by simp [AV.same]
  | .cap0 => by simp [AV.same]
  | .e0 => by simp [AV.same]
  | .ro a n => by simp only [AV.same, Bool.and_eq_true]; exact ⟨by simp, sameL_refl a⟩
  | .map a => by simp [AV.same]
  | .nilmap => by simp [AV.same]
  | .func f a b => by simp only [AV.same, Bool.and_eq_true]; exact ⟨⟨by simp, sameL_refl a⟩, sameL_refl b⟩
  | .nilfunc => by simp [AV.same]
  | .iface t v => by simp only [AV.same, Bool.and_eq_true]; exact ⟨by simp, AV.same_refl v⟩
  | .niliface => by simp [AV.same]
  | .agg a => by simp only [AV.same]; exact sameL_refl a
  | .tuple a => by simp only [AV.same]; exact sameL_refl a
theorem sameL_refl : ∀ l : List AV, sameL l l = true
  | [] => by simp [sameL]
  | a :: l => by simp only [sameL, Bool.and_eq_true]; exact ⟨AV.same_refl a, sameL_refl l⟩
theorem kEq_self (k : IntKind) : kEq k k = true := by unfold kEq; simp
theorem eqBytes_self : ∀ l : List UInt8, eqBytes l l = true
  | [] => rfl
  | a :: l => by unfold eqBytes; simp [eqBytes_self l]
end
theorem readsSame_all {f : Fr → AHeap → Option AV} {fr : Fr} {v : AV} {h : AHeap} (hf : f fr h = some v) : ∀ (l : List AHeap), (∀ y ∈ l, y = h) → readsSame f fr v l = true
  | [], _ => rfl
  | y :: l, hl => by
    unfold readsSame
    rw [hl y (by simp), hf]
    simp only [AV.same_refl, Bool.true_and]
    exact readsSame_all hf l fun z hz => hl z (by simp [hz])
theorem readsOk_of {ops : List Oper} {m : List Nat} {hts : List AHeap} {h : AHeap} : ∀ (l : List Oper) (i : Nat) (fr : Fr) (vs : List AV), ReadsAt cfg ops h l fr vs →
    (∀ (k : Nat) o, l[k]? = some o → isR (insOf cfg o.op) = true → ∀ y ∈ (hts.drop (countA cfg (fun j => (m.getD (i + k) 0).testBit j) ops 0)).take (countA cfg (fun j => !(m.getD j 0).testBit (i + k)) ops 0 + 1 - countA cfg (fun j => (m.getD (i + k) 0).testBit j) ops 0), y = h) →
    readsOk cfg ops m hts l i fr vs = true
  | [], _, _, _, _, _ => by unfold readsOk; rfl
  | _ :: _, _, _, [], hr, _ => hr.elim
  | o :: l, i, fr, v :: vs, hr, hw => by
    unfold readsOk
    obtain ⟨h1, h2⟩ := hr
    rw [readsOk_of l (i + 1) (Fr.put fr o.dst v) vs h2 (fun k o' ho hR => by
      have := hw (k + 1) o' (by simpa using ho) hR
      rwa [show i + (k + 1) = i + 1 + k by omega] at this), Bool.and_true]
    cases e : wantedA ops o fr with
    | false => rfl
    | true =>
      simp only [cond_true]
      cases hi : insOf cfg o.op with
      | R f =>
        simp only
        refine readsSame_all (h1 e f hi) _ ?_
        have := hw 0 o rfl (by rw [hi]; rfl)
        rwa [Nat.add_zero] at this
      | _ => rfl
end
end Go.Am
noncomputable section
namespace Go.Am
section
variable {cfg : Cfg}
theorem countA_true_append (cfg : Cfg) (p : Nat → Bool) : ∀ (l m : List Oper) (i : Nat), countA cfg p (l ++ m) i = countA cfg p l i + countA cfg p m (i + l.length)
  | [], m, i => by simp [countA]
  | o :: l, m, i => by
    simp only [List.cons_append, countA, countA_true_append cfg p l m (i + 1), List.length_cons]
    rw [show i + 1 + l.length = i + (l.length + 1) by omega]; omega
theorem lastIsA_cons {o : Oper} {l : List Oper} (h : l ≠ []) : lastIsA cfg (o :: l) = lastIsA cfg l := by
  cases l with
  | nil => exact absurd rfl h
  | cons p l => rfl
/-- The region's run, as its draw tells it. -/
theorem wpM_run {ops : List Oper} {h0 : AHeap} : ∀ (l : List Oper) (ms : List Nat) (i : Nat) (s : DSt) (K : Fr → AHeap → Prop), l.length ≤ ms.length → countC cfg l = 0 → s.h = h0 → s.pend = [] → wpM cfg ops true l s.fr h0 K →
    wpD cfg ops l ms i s fun s' => s'.pend = [] ∧ K s'.fr s'.h ∧ (∃ vs, s'.vals = vs.reverse ++ s.vals ∧ ReadsAt cfg ops h0 l s.fr vs) ∧ ∃ hs, s'.hts = hs ++ s.hts ∧ hs.length = countA cfg (fun _ => true) l i ∧ (∀ y ∈ hs.drop (bif lastIsA cfg l then 1 else 0), y = h0)
  | [], _, _, s, K, _, _, hh, hp, hw => ⟨hp, hh ▸ hw, ⟨[], rfl, trivial⟩, [], rfl, rfl, fun y hy => by simp at hy⟩
  | o :: l, [], _, _, _, hl, _, _, _, _ => by simp at hl
  | o :: l, m :: ms, i, s, K, hl, hc, hh, hp, hw => by
    have hcc : isC (insOf cfg o.op) = false ∧ countC cfg l = 0 := by
      simp only [countC] at hc
      cases e : isC (insOf cfg o.op) with
      | true => rw [e] at hc; simp only [cond_true] at hc; omega
      | false => rw [e] at hc; simp only [cond_false] at hc; exact ⟨rfl, by omega⟩
    have hl' : l.length ≤ ms.length := by simpa using hl
    simp only [wpM] at hw
    simp only [wpD]
    -- what is left of the row, from a next state
    have go : ∀ (s1 : DSt) (v : AV) (hx : List AHeap), s1.pend = [] → s1.vals = v :: s.vals → s1.fr = Fr.put s.fr o.dst v → s1.hts = hx ++ s.hts → hx.length = (bif isA (insOf cfg o.op) then 1 else 0) → (l ≠ [] → s1.h = h0 ∧ ∀ y ∈ hx, y = h0) →
        (wantedA ops o s.fr = true → ∀ f, insOf cfg o.op = .R f → f s.fr h0 = some v) → wpM cfg ops true l s1.fr s1.h K →
        wpD cfg ops l ms (i + 1) s1 fun s' => s'.pend = [] ∧ K s'.fr s'.h ∧ (∃ vs, s'.vals = vs.reverse ++ s.vals ∧ ReadsAt cfg ops h0 (o :: l) s.fr vs) ∧ ∃ hs, s'.hts = hs ++ s.hts ∧ hs.length = countA cfg (fun _ => true) (o :: l) i ∧ (∀ y ∈ hs.drop (bif lastIsA cfg (o :: l) then 1 else 0), y = h0) := by
      intro s1 v hx h1 h2 h3 h4 h5 h6 h7 h8
      cases l with
      | nil =>
        refine ⟨h1, h8, ⟨[v], by simp [h2], h7, trivial⟩, hx, h4, ?_, ?_⟩
        · rw [h5]; simp [countA]
        · intro y hy
          have : hx.drop (bif lastIsA cfg [o] then 1 else 0) = [] := by
            apply List.drop_eq_nil_of_le
            rw [h5]; exact Nat.le_refl _
          rw [this] at hy
          cases hy
      | cons o2 l2 =>
        obtain ⟨h61, h62⟩ := h6 (by simp)
        rw [h61] at h8
        refine wpD_mono (fun s' hs' => ?_) (wpM_run (o2 :: l2) ms (i + 1) s1 K hl' hcc.2 h61 h1 h8)
        obtain ⟨q1, q2, ⟨vs, q3, q4⟩, hs, q5, q6, q7⟩ := hs'
        refine ⟨q1, q2, ⟨v :: vs, by rw [q3, h2]; simp, h7, h3 ▸ q4⟩, hs ++ hx, by rw [q5, h4, List.append_assoc], ?_, ?_⟩
        · rw [List.length_append, q6, h5]
          show _ = (bif isA (insOf cfg o.op) && true then 1 else 0) + _
          rw [Bool.and_true]; omega
        · rw [lastIsA_cons (by simp)]
          intro y hy
          rw [List.drop_append] at hy
          rcases List.mem_append.1 hy with hy | hy
          · exact q7 y hy
          · exact h62 y (List.mem_of_mem_drop hy)
    cases e : wantedA ops o s.fr with
    | false =>
      simp only [e, cond_false] at hw ⊢
      refine go _ .undef (bif isA (insOf cfg o.op) then [s.h] else []) hp rfl rfl ?_ ?_ (fun _ => ⟨hh, fun y hy => ?_⟩) (fun h => by rw [e] at h; cases h) ?_
      · unfold dN; cases isA (insOf cfg o.op) <;> rfl
      · cases isA (insOf cfg o.op) <;> rfl
      · cases h : isA (insOf cfg o.op) <;> rw [h] at hy <;> simp at hy
        rw [hy, hh]
      · unfold dN
        simp only [hh]
        exact hw
    | true =>
      simp only [e, cond_true] at hw ⊢
      cases hi : insOf cfg o.op with
      | P f =>
        rw [hi] at hw
        obtain ⟨v, hv, hs1, hw⟩ := hw
        refine ⟨v, hv, go _ v [] hp rfl rfl rfl (by rw [hi]; rfl) (fun _ => ⟨hh, fun y hy => by cases hy⟩) (fun _ g hg => by rw [hi] at hg; cases hg) ?_⟩
        unfold dP; simp only [hh]; exact hw
      | R f =>
        rw [hi] at hw
        obtain ⟨v, hv, hs1, hw⟩ := hw
        refine ⟨v, by rw [hh]; exact hv, go _ v [] hp rfl rfl rfl (by rw [hi]; rfl) (fun _ => ⟨hh, fun y hy => by cases hy⟩) (fun _ g hg => by rw [hi] at hg; cases hg; exact hv) ?_⟩
        unfold dP; simp only [hh]; exact hw
      | C f => rw [hi] at hcc; cases hcc.1
      | X => rw [hi] at hw; exact hw.elim
      | A f =>
        rw [hi] at hw
        obtain ⟨v, h1, hv, hs1, hw⟩ := hw
        have hpa : putAll s.h (s.pend.filter fun p => m.testBit p.1) = h0 := by rw [hp, hh]; rfl
        refine ⟨v, h1, by rw [hpa]; exact hv, go _ v [h1] ?_ rfl rfl rfl (by rw [hi]; rfl) (fun hne => ⟨hs1 trivial hne, fun y hy => by simp at hy; rw [hy]; exact hs1 trivial hne⟩) (fun _ g hg => by rw [hi] at hg; cases hg) ?_⟩
        · unfold dA; rw [hp]; rfl
        · unfold dA; exact hw
theorem wpM_draw {ops : List Oper} (hp : plainDraw cfg ops = true) {fr : Fr} {h : AHeap} {K : Fr → AHeap → Prop} (hw : wpM cfg ops true ops fr h K) : wpR cfg ops true fr h K := by
  unfold plainDraw at hp
  simp only [Bool.and_eq_true, beq_true] at hp
  have hm : ∀ (l : List Oper) (acc : List Nat), (ancs l acc).length = acc.length + l.length := by
    intro l
    induction l with
    | nil => intro acc; rfl
    | cons o l ih => intro acc; unfold ancs; rw [ih]; simp; omega
  have he : (⟨h.objs, h.next + countC cfg ops⟩ : AHeap) = h := by rw [hp.1]; rfl
  unfold wpR
  simp only [cond_true, he]
  refine wpD_mono (fun s' hs' => ?_) (wpM_run ops (ancs ops []) 0 ⟨fr, h, h.next, [], [], [h]⟩ K (by rw [hm]; simp) hp.1 rfl rfl hw)
  obtain ⟨h1, h2, ⟨vs, h3, h4⟩, hs, h5, h6, h7⟩ := hs'
  refine ⟨?_, by rw [h1]; exact h2⟩
  rw [h3, h5]
  simp only [List.append_nil, List.reverse_reverse]
  refine readsOk_of ops 0 fr vs h4 fun k o ho hR y hy => ?_
  rw [Nat.zero_add] at hy
  obtain ⟨q, hq⟩ := List.mem_iff_getElem?.1 hy
  rw [List.getElem?_take] at hq
  split at hq
  rotate_left
  · cases hq
  rename_i hlt
  rw [List.getElem?_drop] at hq
  generalize hlo : countA cfg (fun j => ((ancs ops []).getD k 0).testBit j) ops 0 = lo at hq hlt
  generalize hup : countA cfg (fun j => !((ancs ops []).getD j 0).testBit k) ops 0 = up at hlt
  rw [List.reverse_append, List.reverse_singleton] at hq
  have hn : hs.length = countA cfg (fun _ => true) ops 0 := h6
  cases hpos : lo + q with
  | zero => rw [hpos] at hq; simpa using hq.symm
  | succ p =>
    rw [hpos] at hq
    have hq : hs.reverse[p]? = some y := by simpa using hq
    have hpl : p < hs.length := by
      have := (List.getElem?_eq_some_iff.1 hq).1
      simpa using this
    rw [List.getElem?_reverse hpl] at hq
    cases hla : lastIsA cfg ops with
    | false => exact h7 y (by rw [hla]; simp only [cond_false, List.drop_zero]; exact List.mem_of_getElem? hq)
    | true =>
      have hb := hp.2
      rw [hla] at hb
      simp only [Bool.not_true, Bool.false_or, List.all_eq_true] at hb
      have hk := hb (o, k) (by rw [List.mem_zipIdx_iff_getElem?]; exact ho)
      simp only [hR, Bool.not_true, Bool.false_or, Nat.blt_eq, hup] at hk
      refine h7 y (by
        rw [hla]
        simp only [cond_true]
        refine List.mem_of_getElem? (i := hs.length - 1 - p - 1) ?_
        rw [List.getElem?_drop, ← hq]
        congr 1
        omega)
end
end Go.Am
