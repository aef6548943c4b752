/- Rules for a region that draws its order and makes objects. -/
import Derived.Test.YteplpnnbcjjjjaaGreatDoorAmHo2
noncomputable section
namespace Go.Am
section
variable (cfg : Cfg)
def hoD (ops l : List Oper) (ms : List Nat) (i : Nat) (L : Env) (h : AHeap) (nid : Nat) (pend : List (Nat × Nat × AObj)) (vals : List AV) (hts : List AHeap) (K : Env → AHeap → List (Nat × Nat × AObj) → List AV → List AHeap → Prop) : Prop :=
  ∀ fr, L.Ok fr → wpD cfg ops l ms i ⟨fr, h, nid, pend, vals, hts⟩ fun s => ∃ L1 : Env, L1.Ok s.fr ∧ K L1 s.h s.pend s.vals s.hts
/-- The reads, at whatever time. -/
def rk (ops : List Oper) (m : List Nat) (hts : List AHeap) (l : List Oper) (i : Nat) (L : Env) (vs : List AV) : Prop := ∀ fr, L.Ok fr → readsOk cfg ops m hts l i fr vs = true
end
section
variable {cfg : Cfg} {ops l : List Oper} {ms m : List Nat} {mk i d : Nat} {o : Oper} {L : Env} {h : AHeap} {nid : Nat} {pend : List (Nat × Nat × AObj)} {vals vs : List AV} {v : AV} {hts : List AHeap} {K : Env → AHeap → List (Nat × Nat × AObj) → List AV → List AHeap → Prop}
theorem dNil {ms : List Nat} (k : K L h pend vals hts) : hoD cfg ops [] ms i L h nid pend vals hts K := fun fr hL => by
  show wpD cfg ops [] ms i _ _
  unfold wpD
  exact ⟨L, hL, k⟩
theorem dPu {f : Fr → Option AV} (hg : o.guard = none) (hd : o.dst = some d) (hi : insOf cfg o.op = .P f) (hv : ∀ fr, L.Ok fr → f fr = some v) (k : hoD cfg ops l ms (i + 1) ((d, v) :: L) h nid pend (v :: vals) hts K) : hoD cfg ops (o :: l) (mk :: ms) i L h nid pend vals hts K := fun fr hL => by
  simp only [wpD, wN hg, cond_true, hi]
  refine ⟨v, hv fr hL, ?_⟩
  unfold dP
  rw [hd]
  exact k _ (hL.put (some d) v)
theorem dRe {f : Fr → AHeap → Option AV} (hg : o.guard = none) (hd : o.dst = some d) (hi : insOf cfg o.op = .R f) (hv : ∀ fr, L.Ok fr → f fr h = some v) (k : hoD cfg ops l ms (i + 1) ((d, v) :: L) h nid pend (v :: vals) hts K) : hoD cfg ops (o :: l) (mk :: ms) i L h nid pend vals hts K := fun fr hL => by
  simp only [wpD, wN hg, cond_true, hi]
  refine ⟨v, hv fr hL, ?_⟩
  unfold dP
  rw [hd]
  exact k _ (hL.put (some d) v)
theorem dCr {f : Fr → Option (AObj × (Nat → AV))} {ob : AObj} {q : Nat → AV} (hg : o.guard = none) (hd : o.dst = some d) (hi : insOf cfg o.op = .C f) (hv : ∀ fr, L.Ok fr → f fr = some (ob, q)) (k : hoD cfg ops l ms (i + 1) ((d, q nid) :: L) h (nid + 1) (pend ++ [(i, nid, ob)]) (q nid :: vals) hts K) : hoD cfg ops (o :: l) (mk :: ms) i L h nid pend vals hts K := fun fr hL => by
  simp only [wpD, wN hg, cond_true, hi]
  refine ⟨(ob, q), hv fr hL, ?_⟩
  unfold dC
  rw [hd]
  exact k _ (hL.put (some d) _)
theorem dAc {f : CallF → Fr → AHeap → Option (AV × AHeap)} {p1 p2 : List (Nat × Nat × AObj)} (hg : o.guard = none) (hi : insOf cfg o.op = .A f) (h1 : (pend.filter fun p => mk.testBit p.1) = p1) (h2 : (pend.filter fun p => !mk.testBit p.1) = p2)
    (hv : ∀ fr, L.Ok fr → wpA cfg f fr (putAll h p1) fun v g => hoD cfg ops l ms (i + 1) (L.put o.dst v) g nid p2 (v :: vals) (g :: hts) K) : hoD cfg ops (o :: l) (mk :: ms) i L h nid pend vals hts K := fun fr hL => by
  simp only [wpD, wN hg, cond_true, hi]
  obtain ⟨v, g, hm, hk⟩ := hv fr hL
  rw [← h1] at hm
  refine ⟨v, g, hm, ?_⟩
  unfold dA
  have := hk _ (hL.put o.dst v)
  rw [← h2] at this
  exact this
theorem d1 {g : AV → Option AV} {x : Operand} {a : AV} (hg : o.guard = none) (hd : o.dst = some d) (hi : insOf cfg o.op = .P (o1 g x)) (hx : L.op x = some a) (hv : g a = some v) (k : hoD cfg ops l ms (i + 1) ((d, v) :: L) h nid pend (v :: vals) hts K) : hoD cfg ops (o :: l) (mk :: ms) i L h nid pend vals hts K :=
  dPu hg hd hi (fun fr hL => by unfold o1; rw [hL.op hx]; exact hv) k
theorem d2 {g : AV → AV → Option AV} {x y : Operand} {a b : AV} (hg : o.guard = none) (hd : o.dst = some d) (hi : insOf cfg o.op = .P (o2 g x y)) (hx : L.op x = some a) (hy : L.op y = some b) (hv : g a b = some v) (k : hoD cfg ops l ms (i + 1) ((d, v) :: L) h nid pend (v :: vals) hts K) : hoD cfg ops (o :: l) (mk :: ms) i L h nid pend vals hts K :=
  dPu hg hd hi (fun fr hL => by unfold o2; rw [hL.op hx]; simp only [hL.op hy]; exact hv) k
theorem dB {g : List (Nat × AV) → Option AV} {ps : List (Nat × Operand)} {as : List (Nat × AV)} (hg : o.guard = none) (hd : o.dst = some d) (hi : insOf cfg o.op = .P (oParts g ps)) (hx : L.parts ps = some as) (hv : g as = some v) (k : hoD cfg ops l ms (i + 1) ((d, v) :: L) h nid pend (v :: vals) hts K) : hoD cfg ops (o :: l) (mk :: ms) i L h nid pend vals hts K :=
  dPu hg hd hi (fun fr hL => by unfold oParts; rw [hL.parts hx]; exact hv) k
theorem dL {t : TypeId} {x : Operand} {a : AV} (hg : o.guard = none) (hd : o.dst = some d) (hi : insOf cfg o.op = .R (oLoad cfg t x)) (hx : L.op x = some a) (hv : aload cfg t a h = some v) (k : hoD cfg ops l ms (i + 1) ((d, v) :: L) h nid pend (v :: vals) hts K) : hoD cfg ops (o :: l) (mk :: ms) i L h nid pend vals hts K :=
  dRe hg hd hi (fun fr hL => by unfold oLoad; rw [hL.op hx]; exact hv) k
theorem dAl {e : TypeId} {ti : TI} {ob : AObj} {q : Nat → AV} (hg : o.guard = none) (hd : o.dst = some d) (hi : insOf cfg o.op = .C (oAlloc cfg e)) (ht : cfg.ty e = some ti) (hv : aboxed cfg e ti.zero = some (ob, q)) (k : hoD cfg ops l ms (i + 1) ((d, q nid) :: L) h (nid + 1) (pend ++ [(i, nid, ob)]) (q nid :: vals) hts K) : hoD cfg ops (o :: l) (mk :: ms) i L h nid pend vals hts K :=
  dCr hg hd hi (fun fr _ => by unfold oAlloc; rw [ht]; exact hv) k
theorem dS {t : TypeId} {p x : Operand} {a b : AV} {g : AHeap} {p1 p2 : List (Nat × Nat × AObj)} (hg : o.guard = none) (hi : insOf cfg o.op = .A (oStore cfg t p x)) (h1 : (pend.filter fun p => mk.testBit p.1) = p1) (h2 : (pend.filter fun p => !mk.testBit p.1) = p2) (ha : L.op p = some a) (hx : L.op x = some b) (hv : astore cfg t a b (putAll h p1) = some g)
    (k : hoD cfg ops l ms (i + 1) (L.put o.dst .undef) g nid p2 (.undef :: vals) (g :: hts) K) : hoD cfg ops (o :: l) (mk :: ms) i L h nid pend vals hts K :=
  dAc hg hi h1 h2 (fun fr hL => by rw [wpA_store, hL.op ha, wpO_some, hL.op hx, wpO_some, hv, wpO_some]; exact k)
theorem dF {f : FuncId} {xs : List Operand} {as : List AV} {p1 p2 : List (Nat × Nat × AObj)} (hg : o.guard = none) (hi : insOf cfg o.op = .A (oCall (.func f) xs)) (h1 : (pend.filter fun p => mk.testBit p.1) = p1) (h2 : (pend.filter fun p => !mk.testBit p.1) = p2) (hx : L.ops xs = some as)
    (k : wpCall cfg f as (putAll h p1) fun v g => hoD cfg ops l ms (i + 1) (L.put o.dst v) g nid p2 (v :: vals) (g :: hts) K) : hoD cfg ops (o :: l) (mk :: ms) i L h nid pend vals hts K :=
  dAc hg hi h1 h2 (fun fr hL => by rw [wpA_call, hL.ops hx, wpO_some]; show wpO (some (AV.func f [] [])) _; rw [wpO_some]; simpa using k)
/-! ### The reads -/
theorem kNil : rk cfg ops m hts [] i L vs := fun _ _ => by unfold readsOk; rfl
theorem kN (hd : o.dst = some d) (hi : isR (insOf cfg o.op) = false) (k : rk cfg ops m hts l (i + 1) ((d, v) :: L) vs) : rk cfg ops m hts (o :: l) i L (v :: vs) := fun fr hL => by
  unfold readsOk
  rw [hd, k _ (hL.put (some d) v), Bool.and_true]
  cases wantedA ops o fr with
  | false => rfl
  | true =>
    simp only [cond_true]
    cases hI : insOf cfg o.op with
    | R f => rw [hI] at hi; cases hi
    | _ => rfl
theorem kU (hd : o.dst = none) (hi : isR (insOf cfg o.op) = false) (k : rk cfg ops m hts l (i + 1) L vs) : rk cfg ops m hts (o :: l) i L (v :: vs) := fun fr hL => by
  unfold readsOk
  rw [hd, show Fr.put fr none v = fr from rfl, k _ hL, Bool.and_true]
  cases wantedA ops o fr with
  | false => rfl
  | true =>
    simp only [cond_true]
    cases hI : insOf cfg o.op with
    | R f => rw [hI] at hi; cases hi
    | _ => rfl
theorem readsSame_each {f : Fr → AHeap → Option AV} {fr : Fr} {v : AV} : ∀ (l : List AHeap), (∀ y ∈ l, f fr y = some v) → readsSame f fr v l = true
  | [], _ => rfl
  | y :: l, hl => by
    unfold readsSame
    rw [hl y (by simp)]
    simp only [AV.same_refl, Bool.true_and]
    exact readsSame_each l fun z hz => hl z (by simp [hz])
theorem kL {t : TypeId} {x : Operand} {a : AV} (hd : o.dst = some d) (hi : insOf cfg o.op = .R (oLoad cfg t x)) (hx : L.op x = some a) (hw : ∀ y ∈ hts, aload cfg t a y = some v) (k : rk cfg ops m hts l (i + 1) ((d, v) :: L) vs) : rk cfg ops m hts (o :: l) i L (v :: vs) := fun fr hL => by
  unfold readsOk
  rw [hd, k _ (hL.put (some d) v), Bool.and_true]
  cases wantedA ops o fr with
  | false => rfl
  | true =>
    simp only [cond_true, hi]
    refine readsSame_each _ fun y hy => ?_
    unfold oLoad
    rw [hL.op hx]
    exact hw y (List.mem_of_mem_drop (List.mem_of_mem_take hy))
end
section
variable {cfg : Cfg} {L : Env} {Q : EK} {b : Code}
theorem hs_drawD {n : Nat} {ops : Array Oper} {l : List Oper} {ms : List Nat} {c nn : Nat} {t : HT AObj} (hl : ops.toList = l) (hm : ancs l [] = ms) (hc : countC cfg l = c)
    (k : hoD cfg l l ms 0 L ⟨t, nn + c⟩ nn [] [] [⟨t, nn + c⟩] fun L1 h pend vals hts => rk cfg l ms hts.reverse l 0 L vals.reverse ∧ ho cfg b L1 (putAll h pend) Q) : ho cfg (.seq (.region n ops true) b) L ⟨t, nn⟩ Q := by
  refine ho_seq fun fr hL => ?_
  subst hl hm hc
  show wpR cfg ops.toList true fr ⟨t, nn⟩ fun fr1 h1 => ∃ L1 : Env, L1.Ok fr1 ∧ ho cfg b L1 h1 Q
  unfold wpR
  simp only [cond_true]
  refine wpD_mono (fun s ⟨L1, h1, h2, h3⟩ => ⟨h2 fr hL, L1, h1, h3⟩) (k fr hL)
end
end Go.Am
