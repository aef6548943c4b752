/- Rules over what is known of a frame, one for each make of operation and of code. -/
import Derived.Test.YteplpnnbcjjjjaaGreatDoorAmHo
noncomputable section
namespace Go.Am
def Env.opO (L : Env) : Option Operand → Option (Option AV)
  | none => some none
  | some x => (L.op x).map some
def Env.parts (L : Env) : List (Nat × Operand) → Option (List (Nat × AV))
  | [] => some []
  | (i, x) :: l => match L.op x with
    | some a => match Env.parts L l with
      | some m => some ((i, a) :: m)
      | none => none
    | none => none
theorem Env.Ok.opO {L : Env} {fr : Fr} (h : L.Ok fr) {x : Option Operand} {v : Option AV} (hx : L.opO x = some v) : evalO fr x = some v := by
  cases x with
  | none => exact hx
  | some x =>
    have hx : (L.op x).map some = some v := hx
    show (evalA fr x).map some = some v
    cases e : L.op x with
    | none => rw [e] at hx; cases hx
    | some a => rw [e] at hx; rw [h.op e]; exact hx
theorem Env.Ok.parts {L : Env} {fr : Fr} (h : L.Ok fr) : ∀ {xs : List (Nat × Operand)} {vs : List (Nat × AV)}, L.parts xs = some vs → evalParts fr xs = some vs
  | [], vs, hx => hx
  | (i, x) :: xs, vs, hx => by
    unfold Env.parts at hx
    unfold evalParts
    cases e : L.op x with
    | none => rw [e] at hx; cases hx
    | some a =>
      rw [e] at hx
      rw [h.op e]
      cases e2 : L.parts xs with
      | none => rw [e2] at hx; cases hx
      | some m => rw [e2] at hx; rw [h.parts e2]; exact hx
/-- The arguments' environment. -/
def argEnv : List AV → Nat → Env
  | [], _ => []
  | a :: l, i => (i, a) :: argEnv l (i + 1)
theorem argEnv_lt : ∀ (l : List AV) (i t : Nat) (v : AV), (argEnv l i).get t = some v → i ≤ t
  | [], _, _, _, h => by cases h
  | a :: l, i, t, v, h => by
    have h : (bif Nat.beq t i then some a else (argEnv l (i + 1)).get t) = some v := h
    cases e : Nat.beq t i with
    | true => rw [beq_true.1 e]; exact Nat.le_refl _
    | false => rw [e] at h; exact Nat.le_of_succ_le (argEnv_lt l (i + 1) t v h)
theorem frOf_at : ∀ (l : List AV) (i : Nat) (fr : Fr) (t : Nat), t < i → Fr.at (frOf l i fr) t = Fr.at fr t
  | [], _, _, _, _ => rfl
  | a :: l, i, fr, t, h => by
    unfold frOf
    rw [frOf_at l (i + 1) _ t (by omega), Fr.at_put, if_neg (by omega)]
theorem argEnv_ok : ∀ (l : List AV) (i : Nat) (fr : Fr), (argEnv l i).Ok (frOf l i fr)
  | [], _, _ => fun t v h => by cases h
  | a :: l, i, fr => fun t v h => by
    have h : (bif Nat.beq t i then some a else (argEnv l (i + 1)).get t) = some v := h
    unfold frOf
    cases e : Nat.beq t i with
    | true =>
      rw [e] at h; cases h
      rw [frOf_at l (i + 1) _ t (by rw [beq_true.1 e]; omega), Fr.at_put, if_pos (beq_true.1 e)]
    | false => rw [e] at h; exact argEnv_ok l (i + 1) _ t v h
section
variable {cfg : Cfg} {ops l : List Oper} {o : Oper} {strict : Bool} {L : Env} {h : AHeap} {Q : Env → AHeap → Prop} {d : Nat} {v : AV}
/-! ### H3. Operations -/
theorem hoM_nil (k : Q L h) : hoM cfg ops strict [] L h Q := fun _ hL => ⟨L, hL, k⟩
theorem wN (hg : o.guard = none) (fr : Fr) : wantedA ops o fr = true := by unfold wantedA; rw [hg]
theorem mP {f : Fr → Option AV} (hg : o.guard = none) (hd : o.dst = some d) (hi : insOf cfg o.op = .P f) (hv : ∀ fr, L.Ok fr → f fr = some v) (k : hoM cfg ops strict l ((d, v) :: L) h Q) : hoM cfg ops strict (o :: l) L h Q := by
  intro fr hL
  simp only [wpM, wN hg, cond_true, hi]
  refine ⟨v, hv fr hL, fun _ _ => rfl, ?_⟩
  rw [hd]
  exact k _ (hL.put (some d) v)
theorem mR {f : Fr → AHeap → Option AV} (hg : o.guard = none) (hd : o.dst = some d) (hi : insOf cfg o.op = .R f) (hv : ∀ fr, L.Ok fr → f fr h = some v) (k : hoM cfg ops strict l ((d, v) :: L) h Q) : hoM cfg ops strict (o :: l) L h Q := by
  intro fr hL
  simp only [wpM, wN hg, cond_true, hi]
  refine ⟨v, hv fr hL, fun _ _ => rfl, ?_⟩
  rw [hd]
  exact k _ (hL.put (some d) v)
theorem mC {t : HT AObj} {n : Nat} {f : Fr → Option (AObj × (Nat → AV))} {ob : AObj} {q : Nat → AV} (hg : o.guard = none) (hd : o.dst = some d) (hi : insOf cfg o.op = .C f) (hv : ∀ fr, L.Ok fr → f fr = some (ob, q)) (k : hoM cfg ops false l ((d, q n) :: L) ⟨HT.set (n + 1) t n (some ob), n + 1⟩ Q) : hoM cfg ops false (o :: l) L ⟨t, n⟩ Q := by
  intro fr hL
  simp only [wpM, wN hg, cond_true, hi]
  refine ⟨(ob, q), hv fr hL, (fun e => by cases e), ?_⟩
  rw [hd]
  exact k _ (hL.put (some d) _)
/-- An operation that acts. -/
theorem mA {f : CallF → Fr → AHeap → Option (AV × AHeap)} (hg : o.guard = none) (hi : insOf cfg o.op = .A f) (hv : ∀ fr, L.Ok fr → wpA cfg f fr h fun v h1 => (strict = true → l ≠ [] → h1 = h) ∧ hoM cfg ops strict l (L.put o.dst v) h1 Q) : hoM cfg ops strict (o :: l) L h Q := by
  intro fr hL
  simp only [wpM, wN hg, cond_true, hi]
  obtain ⟨v, h1, hm, hs, hk⟩ := hv fr hL
  exact ⟨v, h1, hm, hs, hk _ (hL.put o.dst v)⟩
theorem m1 {g : AV → Option AV} {x : Operand} {a : AV} (hg : o.guard = none) (hd : o.dst = some d) (hi : insOf cfg o.op = .P (o1 g x)) (hx : L.op x = some a) (hv : g a = some v) (k : hoM cfg ops strict l ((d, v) :: L) h Q) : hoM cfg ops strict (o :: l) L h Q :=
  mP hg hd hi (fun fr hL => by unfold o1; rw [hL.op hx]; exact hv) k
theorem m2 {g : AV → AV → Option AV} {x y : Operand} {a b : AV} (hg : o.guard = none) (hd : o.dst = some d) (hi : insOf cfg o.op = .P (o2 g x y)) (hx : L.op x = some a) (hy : L.op y = some b) (hv : g a b = some v) (k : hoM cfg ops strict l ((d, v) :: L) h Q) : hoM cfg ops strict (o :: l) L h Q :=
  mP hg hd hi (fun fr hL => by unfold o2; rw [hL.op hx]; simp only [hL.op hy]; exact hv) k
theorem m3 {g : AV → AV → AV → Option AV} {x y z : Operand} {a b c : AV} (hg : o.guard = none) (hd : o.dst = some d) (hi : insOf cfg o.op = .P (o3 g x y z)) (hx : L.op x = some a) (hy : L.op y = some b) (hz : L.op z = some c) (hv : g a b c = some v) (k : hoM cfg ops strict l ((d, v) :: L) h Q) : hoM cfg ops strict (o :: l) L h Q :=
  mP hg hd hi (fun fr hL => by unfold o3; rw [hL.op hx]; simp only [hL.op hy, hL.op hz]; exact hv) k
theorem mB {g : List (Nat × AV) → Option AV} {ps : List (Nat × Operand)} {as : List (Nat × AV)} (hg : o.guard = none) (hd : o.dst = some d) (hi : insOf cfg o.op = .P (oParts g ps)) (hx : L.parts ps = some as) (hv : g as = some v) (k : hoM cfg ops strict l ((d, v) :: L) h Q) : hoM cfg ops strict (o :: l) L h Q :=
  mP hg hd hi (fun fr hL => by unfold oParts; rw [hL.parts hx]; exact hv) k
theorem mL {g : List AV → Option AV} {xs : List Operand} {as : List AV} (hg : o.guard = none) (hd : o.dst = some d) (hi : insOf cfg o.op = .P (oList g xs)) (hx : L.ops xs = some as) (hv : g as = some v) (k : hoM cfg ops strict l ((d, v) :: L) h Q) : hoM cfg ops strict (o :: l) L h Q :=
  mP hg hd hi (fun fr hL => by unfold oList; rw [hL.ops hx]; exact hv) k
theorem mS {t : TypeId} {x : Operand} {lo hi mx : Option Operand} {a : AV} {lo' hi' mx' : Option AV} (hg : o.guard = none) (hd : o.dst = some d) (hI : insOf cfg o.op = .P (oSlice cfg t x lo hi mx)) (hx : L.op x = some a) (h1 : L.opO lo = some lo') (h2 : L.opO hi = some hi') (h3 : L.opO mx = some mx') (hv : aslice cfg t a lo' hi' mx' = some v) (k : hoM cfg ops strict l ((d, v) :: L) h Q) : hoM cfg ops strict (o :: l) L h Q :=
  mP hg hd hI (fun fr hL => by unfold oSlice; rw [hL.op hx]; simp only [hL.opO h1, hL.opO h2, hL.opO h3]; exact hv) k
theorem mF {f : FuncId} {xs ys : List Operand} {as bs : List AV} (hg : o.guard = none) (hd : o.dst = some d) (hi : insOf cfg o.op = .P (oFunc f xs ys)) (hx : L.ops xs = some as) (hy : L.ops ys = some bs) (k : hoM cfg ops strict l ((d, .func f as bs) :: L) h Q) : hoM cfg ops strict (o :: l) L h Q :=
  mP hg hd hi (fun fr hL => by unfold oFunc; rw [hL.ops hx]; simp only [hL.ops hy]) k
theorem rL {t : TypeId} {x : Operand} {a : AV} (hg : o.guard = none) (hd : o.dst = some d) (hi : insOf cfg o.op = .R (oLoad cfg t x)) (hx : L.op x = some a) (hv : aload cfg t a h = some v) (k : hoM cfg ops strict l ((d, v) :: L) h Q) : hoM cfg ops strict (o :: l) L h Q :=
  mR hg hd hi (fun fr hL => by unfold oLoad; rw [hL.op hx]; exact hv) k
theorem rM {t : TypeId} {x y : Operand} {ok : Bool} {a b : AV} (hg : o.guard = none) (hd : o.dst = some d) (hi : insOf cfg o.op = .R (oLookup cfg t x y ok)) (hx : L.op x = some a) (hy : L.op y = some b) (hv : alookup cfg t a b ok h = some v) (k : hoM cfg ops strict l ((d, v) :: L) h Q) : hoM cfg ops strict (o :: l) L h Q :=
  mR hg hd hi (fun fr hL => by unfold oLookup; rw [hL.op hx]; simp only [hL.op hy]; exact hv) k
theorem rC {s t : TypeId} {x : Operand} {a : AV} (hg : o.guard = none) (hd : o.dst = some d) (hi : insOf cfg o.op = .R (oConvR cfg s t x)) (hx : L.op x = some a) (hv : aconvR cfg s t a h = some v) (k : hoM cfg ops strict l ((d, v) :: L) h Q) : hoM cfg ops strict (o :: l) L h Q :=
  mR hg hd hi (fun fr hL => by unfold oConvR; rw [hL.op hx]; exact hv) k
theorem cA {e : TypeId} {i : TI} {tt : HT AObj} {nn : Nat} {ob : AObj} {q : Nat → AV} (hg : o.guard = none) (hd : o.dst = some d) (hi : insOf cfg o.op = .C (oAlloc cfg e)) (ht : cfg.ty e = some i) (hv : aboxed cfg e i.zero = some (ob, q)) (k : hoM cfg ops false l ((d, q nn) :: L) ⟨HT.set (nn + 1) tt nn (some ob), nn + 1⟩ Q) : hoM cfg ops false (o :: l) L ⟨tt, nn⟩ Q :=
  mC hg hd hi (fun fr _ => by unfold oAlloc; rw [ht]; exact hv) k
theorem cB {e : TypeId} {x : Operand} {a : AV} {tt : HT AObj} {nn : Nat} {ob : AObj} {q : Nat → AV} (hg : o.guard = none) (hd : o.dst = some d) (hi : insOf cfg o.op = .C (oBox cfg e x)) (hx : L.op x = some a) (hv : aboxed cfg e a = some (ob, q)) (k : hoM cfg ops false l ((d, q nn) :: L) ⟨HT.set (nn + 1) tt nn (some ob), nn + 1⟩ Q) : hoM cfg ops false (o :: l) L ⟨tt, nn⟩ Q :=
  mC hg hd hi (fun fr hL => by unfold oBox; rw [hL.op hx]; exact hv) k
theorem cM {t : TypeId} {x y : Operand} {a b : AV} {tt : HT AObj} {nn : Nat} {ob : AObj} {q : Nat → AV} (hg : o.guard = none) (hd : o.dst = some d) (hi : insOf cfg o.op = .C (oMake cfg t x y)) (hx : L.op x = some a) (hy : L.op y = some b) (hv : amakeSlice cfg t a b = some (ob, q)) (k : hoM cfg ops false l ((d, q nn) :: L) ⟨HT.set (nn + 1) tt nn (some ob), nn + 1⟩ Q) : hoM cfg ops false (o :: l) L ⟨tt, nn⟩ Q :=
  mC hg hd hi (fun fr hL => by unfold oMake; rw [hL.op hx]; simp only [hL.op hy]; exact hv) k
theorem cS {t : TypeId} {n : Nat} {ps : List (Nat × Operand)} {as : List (Nat × AV)} {tt : HT AObj} {nn : Nat} {ob : AObj} {q : Nat → AV} (hg : o.guard = none) (hd : o.dst = some d) (hi : insOf cfg o.op = .C (oParts (abuildSlice cfg t n) ps)) (hx : L.parts ps = some as) (hv : abuildSlice cfg t n as = some (ob, q)) (k : hoM cfg ops false l ((d, q nn) :: L) ⟨HT.set (nn + 1) tt nn (some ob), nn + 1⟩ Q) : hoM cfg ops false (o :: l) L ⟨tt, nn⟩ Q :=
  mC hg hd hi (fun fr hL => by unfold oParts; rw [hL.parts hx]; exact hv) k
theorem cMap {tt : HT AObj} {nn : Nat} (hg : o.guard = none) (hd : o.dst = some d) (hi : insOf cfg o.op = .C oMap) (k : hoM cfg ops false l ((d, .map nn) :: L) ⟨HT.set (nn + 1) tt nn (some (.map [])), nn + 1⟩ Q) : hoM cfg ops false (o :: l) L ⟨tt, nn⟩ Q :=
  mC hg hd hi (q := fun id => .map id) (fun _ _ => rfl) k
theorem cC {s t : TypeId} {x : Operand} {a : AV} {tt : HT AObj} {nn : Nat} {ob : AObj} {q : Nat → AV} (hg : o.guard = none) (hd : o.dst = some d) (hi : insOf cfg o.op = .C (oConvC cfg s t x)) (hx : L.op x = some a) (hv : aconvC cfg s t a = some (ob, q)) (k : hoM cfg ops false l ((d, q nn) :: L) ⟨HT.set (nn + 1) tt nn (some ob), nn + 1⟩ Q) : hoM cfg ops false (o :: l) L ⟨tt, nn⟩ Q :=
  mC hg hd hi (fun fr hL => by unfold oConvC; rw [hL.op hx]; exact hv) k
theorem cR {t : TypeId} {x : Operand} {a : AV} {tt : HT AObj} {nn : Nat} {ob : AObj} {q : Nat → AV} (hg : o.guard = none) (hd : o.dst = some d) (hi : insOf cfg o.op = .C (oRange cfg t x)) (hx : L.op x = some a) (hv : arange cfg t a = some (ob, q)) (k : hoM cfg ops false l ((d, q nn) :: L) ⟨HT.set (nn + 1) tt nn (some ob), nn + 1⟩ Q) : hoM cfg ops false (o :: l) L ⟨tt, nn⟩ Q :=
  mC hg hd hi (fun fr hL => by unfold oRange; rw [hL.op hx]; exact hv) k
theorem aC {f : Operand} {xs : List Operand} {g : FuncId} {as bs vs : List AV} (hg : o.guard = none) (hi : insOf cfg o.op = .A (oCall f xs)) (hx : L.ops xs = some vs) (hf : L.op f = some (.func g as bs)) (k : wpCall cfg g (as ++ vs ++ bs) h fun v h1 => (strict = true → l ≠ [] → h1 = h) ∧ hoM cfg ops strict l (L.put o.dst v) h1 Q) : hoM cfg ops strict (o :: l) L h Q :=
  mA hg hi (fun fr hL => by rw [wpA_call, hL.ops hx, wpO_some, hL.op hf, wpO_some]; exact k)
/-- A call of a function that is named. -/
theorem aF {g : FuncId} {xs : List Operand} {vs : List AV} (hg : o.guard = none) (hi : insOf cfg o.op = .A (oCall (.func g) xs)) (hx : L.ops xs = some vs) (k : wpCall cfg g vs h fun v h1 => (strict = true → l ≠ [] → h1 = h) ∧ hoM cfg ops strict l (L.put o.dst v) h1 Q) : hoM cfg ops strict (o :: l) L h Q :=
  aC (as := []) (bs := []) hg hi hx rfl (by simpa using k)
theorem aS {t : TypeId} {p x : Operand} {a b : AV} {h1 : AHeap} (hg : o.guard = none) (hi : insOf cfg o.op = .A (oStore cfg t p x)) (ha : L.op p = some a) (hx : L.op x = some b) (hv : astore cfg t a b h = some h1) (hs : strict = true → l ≠ [] → h1 = h) (k : hoM cfg ops strict l (L.put o.dst .undef) h1 Q) : hoM cfg ops strict (o :: l) L h Q :=
  mA hg hi (fun fr hL => by rw [wpA_store, hL.op ha, wpO_some, hL.op hx, wpO_some, hv, wpO_some]; exact ⟨hs, k⟩)
theorem aA {t u : TypeId} {p x : Operand} {a b : AV} {r : AV × AHeap} (hg : o.guard = none) (hi : insOf cfg o.op = .A (oAppend cfg t u p x)) (ha : L.op p = some a) (hx : L.op x = some b) (hv : aappend cfg t u a b h = some r) (hs : strict = true → l ≠ [] → r.2 = h) (k : hoM cfg ops strict l (L.put o.dst r.1) r.2 Q) : hoM cfg ops strict (o :: l) L h Q :=
  mA hg hi (fun fr hL => by rw [wpA_append, hL.op ha, wpO_some, hL.op hx, wpO_some, hv, wpO_some]; exact ⟨hs, k⟩)
theorem aM {t : TypeId} {m k' x : Operand} {a b c : AV} {h1 : AHeap} (hg : o.guard = none) (hi : insOf cfg o.op = .A (oMapPut cfg t m k' x)) (ha : L.op m = some a) (hb : L.op k' = some b) (hx : L.op x = some c) (hf : b.hf = true) (hv : amapUpdate cfg t a b c h = some h1) (hs : strict = true → l ≠ [] → h1 = h) (k : hoM cfg ops strict l (L.put o.dst .undef) h1 Q) : hoM cfg ops strict (o :: l) L h Q :=
  mA hg hi (fun fr hL => by rw [wpA_mapPut, hL.op ha, wpO_some, hL.op hb, wpO_some, hL.op hx, wpO_some, hf, cond_true, hv, wpO_some]; exact ⟨hs, k⟩)
theorem aN {x : Operand} {b : Bool} {a : AV} {r : AV × AHeap} (hg : o.guard = none) (hi : insOf cfg o.op = .A (oNext x b)) (ha : L.op x = some a) (hv : anext a b h = some r) (hs : strict = true → l ≠ [] → r.2 = h) (k : hoM cfg ops strict l (L.put o.dst r.1) r.2 Q) : hoM cfg ops strict (o :: l) L h Q :=
  mA hg hi (fun fr hL => by rw [wpA_const (f := oNext x b) (r := oNext x b (fun _ _ _ => none) fr h) (fun _ => rfl)]; unfold oNext; rw [hL.op ha]; simp only [hv, wpO_some]; exact ⟨hs, k⟩)
/-- A guard that is met. -/
theorem gT {j t : Nat} {b : Bool} (hg : o.guard = some (j, b)) (ht : (ops[j]?).bind (·.dst) = some t) (hb : L.get t = some (.bool b)) (k : hoM cfg ops strict ({ o with guard := none } :: l) L h Q) : hoM cfg ops strict (o :: l) L h Q := by
  intro fr hL
  have hk := k fr hL
  have hw : wantedA ops o fr = true := by
    unfold wantedA
    rw [hg]
    simp only [ht, hL t _ hb, beq_self_eq_true]
  simp only [wpM, hw, wN (o := { o with guard := none }) rfl, cond_true] at hk ⊢
  exact hk
/-- A guard that is not met. -/
theorem gF {j t : Nat} {b c : Bool} (hg : o.guard = some (j, b)) (ht : (ops[j]?).bind (·.dst) = some t) (hb : L.get t = some (.bool c)) (hn : (c == b) = false) (k : hoM cfg ops strict l (L.put o.dst .undef) h Q) : hoM cfg ops strict (o :: l) L h Q := by
  intro fr hL
  have hw : wantedA ops o fr = false := by
    unfold wantedA
    rw [hg]
    simp only [ht, hL t _ hb, hn]
  simp only [wpM, hw, cond_false]
  exact k _ (hL.put o.dst .undef)
/-- A guard on what was passed over. -/
theorem gU {j t : Nat} {b : Bool} (hg : o.guard = some (j, b)) (ht : (ops[j]?).bind (·.dst) = some t) (hb : L.get t = some .undef) (k : hoM cfg ops strict l (L.put o.dst .undef) h Q) : hoM cfg ops strict (o :: l) L h Q := by
  intro fr hL
  have hw : wantedA ops o fr = false := by
    unfold wantedA
    rw [hg]
    simp only [ht, hL t _ hb, AV.undef]
  simp only [wpM, hw, cond_false]
  exact k _ (hL.put o.dst .undef)
/-- A guard, either way. -/
theorem gB {j t : Nat} {b c : Bool} (hg : o.guard = some (j, b)) (ht : (ops[j]?).bind (·.dst) = some t) (hb : L.get t = some (.bool c)) (k1 : c = b → hoM cfg ops strict ({ o with guard := none } :: l) L h Q) (k2 : c ≠ b → hoM cfg ops strict l (L.put o.dst .undef) h Q) : hoM cfg ops strict (o :: l) L h Q := by
  by_cases e : c = b
  · subst e; exact gT hg ht hb (k1 rfl)
  · exact gF hg ht hb (by cases c <;> cases b <;> simp_all) (k2 e)
theorem hoM_mono {Q' : Env → AHeap → Prop} (hq : ∀ L h, Q L h → Q' L h) (hw : hoM cfg ops strict l L h Q) : hoM cfg ops strict l L h Q' := by
  have key : ∀ (l : List Oper) (fr : Fr) (h : AHeap) {K K' : Fr → AHeap → Prop}, (∀ fr h, K fr h → K' fr h) → wpM cfg ops strict l fr h K → wpM cfg ops strict l fr h K' := by
    intro l
    induction l with
    | nil => exact fun fr h K K' hk hw => hk _ _ hw
    | cons o l ih =>
      intro fr h K K' hk hw
      simp only [wpM] at hw ⊢
      cases e : wantedA ops o fr <;> simp only [e, cond_true, cond_false] at hw ⊢
      · exact ih _ _ hk hw
      · exact wpI_mono (fun v h1 ⟨a, b⟩ => ⟨a, ih _ _ hk b⟩) hw
  exact fun fr hL => key _ _ _ (fun fr h ⟨L1, a, b⟩ => ⟨L1, a, hq _ _ b⟩) (hw fr hL)
/-- Less is known. -/
theorem hoM_sub {l' : Env} (hs : l'.Sub L) (k : hoM cfg ops strict l l' h Q) : hoM cfg ops strict l L h Q := fun fr hL => k fr (hL.sub hs)
end
section
variable {cfg : Cfg} {L : Env} {h : AHeap} {Q : EK} {a b : Code}
/-! ### H4. Code -/
theorem ho_skip (k : Q .normal L h) : ho cfg .skip L h Q := fun _ hL => ⟨L, hL, k⟩
theorem ho_label {n : Nat} (k : Q .normal L h) : ho cfg (.label n) L h Q := fun _ hL => ⟨L, hL, k⟩
theorem ho_exit {n : Nat} (k : Q (.exit n) L h) : ho cfg (.exit n) L h Q := fun _ hL => ⟨L, hL, k⟩
theorem ho_ret (k : Q .ret L h) : ho cfg .ret L h Q := fun _ hL => ⟨L, hL, k⟩
theorem ho_seq (k : ho cfg a L h (eSeq (ho cfg b) Q)) : ho cfg (.seq a b) L h Q := fun fr hL => wpC_mono a (fun x fr1 h1 ⟨L1, hL1, hq⟩ => by
  cases x with
  | normal => exact hq fr1 hL1
  | exit j => exact ⟨L1, hL1, hq⟩
  | ret => exact ⟨L1, hL1, hq⟩) (k fr hL)
theorem ho_text {n : Nat} {ops : Array Oper} {l : List Oper} (hl : ops.toList = l) (k : hoM cfg l false l L h fun L h => Q .normal L h) : ho cfg (.region n ops false) L h Q := fun fr hL => by
  subst hl
  exact wpM_text (k fr hL)
theorem ho_draw {n : Nat} {ops : Array Oper} {l : List Oper} (hl : ops.toList = l) (hp : plainDraw cfg l = true) (k : hoM cfg l true l L h fun L h => Q .normal L h) : ho cfg (.region n ops true) L h Q := fun fr hL => by
  subst hl
  exact wpM_draw hp (k fr hL)
theorem ho_if {c : Operand} {v : Bool} (hc : L.op c = some (.bool v)) (k1 : v = true → ho cfg a L h Q) (k2 : v = false → ho cfg b L h Q) : ho cfg (.cond c a b) L h Q := fun fr hL => by
  refine ⟨.bool v, hL.op hc, ?_⟩
  cases v with
  | true => exact k1 rfl fr hL
  | false => exact k2 rfl fr hL
theorem ho_block {n : Nat} (k : ho cfg a L h (eBlock n Q)) : ho cfg (.block n a) L h Q := fun fr hL => wpC_mono a (fun x fr1 h1 ⟨L1, hL1, hq⟩ => by
  cases x with
  | normal => exact ⟨L1, hL1, hq⟩
  | exit j =>
    simp only [eBlock] at hq
    simp only [blockK]
    cases e : Nat.beq j n <;> simp only [e, cond_true, cond_false] at hq ⊢ <;> exact ⟨L1, hL1, hq⟩
  | ret => exact ⟨L1, hL1, hq⟩) (k fr hL)
theorem ho_mono {c : Code} {Q' : EK} (hq : ∀ x L h, Q x L h → Q' x L h) (k : ho cfg c L h Q) : ho cfg c L h Q' := fun fr hL => wpC_mono c (fun _ _ _ ⟨L1, hL1, hx⟩ => ⟨L1, hL1, hq _ _ _ hx⟩) (k fr hL)
theorem ho_sub {c : Code} {l' : Env} (hs : l'.Sub L) (k : ho cfg c l' h Q) : ho cfg c L h Q := fun fr hL => k fr (hL.sub hs)
theorem hs_text {n : Nat} {ops : Array Oper} {l : List Oper} (hl : ops.toList = l) (k : hoM cfg l false l L h fun L h => ho cfg b L h Q) : ho cfg (.seq (.region n ops false) b) L h Q := ho_seq (ho_text hl k)
theorem hs_draw {n : Nat} {ops : Array Oper} {l : List Oper} (hl : ops.toList = l) (hp : plainDraw cfg l = true) (k : hoM cfg l true l L h fun L h => ho cfg b L h Q) : ho cfg (.seq (.region n ops true) b) L h Q := ho_seq (ho_draw hl hp k)
theorem hs_if {c : Operand} {v : Bool} {r : Code} (hc : L.op c = some (.bool v)) (k1 : v = true → ho cfg a L h (eSeq (ho cfg r) Q)) (k2 : v = false → ho cfg b L h (eSeq (ho cfg r) Q)) : ho cfg (.seq (.cond c a b) r) L h Q := ho_seq (ho_if hc k1 k2)
theorem hs_skip {r : Code} (k : ho cfg r L h Q) : ho cfg .skip L h (eSeq (ho cfg r) Q) := ho_skip k
theorem hs_exit {n : Nat} {r : Code} (k : Q (.exit n) L h) : ho cfg (.exit n) L h (eSeq (ho cfg r) Q) := ho_exit k
theorem hs_ret {r : Code} (k : Q .ret L h) : ho cfg .ret L h (eSeq (ho cfg r) Q) := ho_ret k
/-- A loop by what holds at its head, and what grows less. -/
theorem ho_loop {p : Code} (I : Nat → Env → AHeap → Prop) (m : Nat) (hI : I m L h) (hstep : ∀ m L h, I m L h → ho cfg p L h (eLoop (fun L h => ∃ m', m' < m ∧ I m' L h) Q)) : ho cfg (.loop p) L h Q := fun fr hL => by
  refine wpC_loop (fun m fr h => ∃ L : Env, L.Ok fr ∧ I m L h) (fun m fr h ⟨L, hL, hI⟩ => ?_) m ⟨L, hL, hI⟩
  refine wpC_mono p (fun x fr1 h1 ⟨L1, hL1, hx⟩ => ?_) (hstep m L h hI fr hL)
  cases x with
  | normal => obtain ⟨m', hlt, hI'⟩ := hx; exact ⟨m', hlt, L1, hL1, hI'⟩
  | exit j => exact ⟨L1, hL1, hx⟩
  | ret => exact ⟨L1, hL1, hx⟩
/-! ### What stands behind -/
theorem es_n {g : Env → AHeap → EK → Prop} (k : g L h Q) : eSeq g Q .normal L h := k
theorem es_x {g : Env → AHeap → EK → Prop} {n : Nat} (k : Q (.exit n) L h) : eSeq g Q (.exit n) L h := k
theorem es_r {g : Env → AHeap → EK → Prop} (k : Q .ret L h) : eSeq g Q .ret L h := k
theorem eb_n {n : Nat} (k : Q .normal L h) : eBlock n Q .normal L h := k
theorem eb_r {n : Nat} (k : Q .ret L h) : eBlock n Q .ret L h := k
theorem eb_s {n : Nat} (k : Q .normal L h) : eBlock n Q (.exit n) L h := by
  show cond (Nat.beq n n) _ _
  rw [Nat.beq_refl]; exact k
theorem eb_x {n m : Nat} (hn : Nat.beq m n = false) (k : Q (.exit m) L h) : eBlock n Q (.exit m) L h := by
  show cond (Nat.beq m n) _ _
  rw [hn]; exact k
theorem el_x {R : Env → AHeap → Prop} {n : Nat} (k : Q (.exit n) L h) : eLoop R Q (.exit n) L h := k
theorem el_r {R : Env → AHeap → Prop} (k : Q .ret L h) : eLoop R Q .ret L h := k
theorem el_n {R : Env → AHeap → Prop} (k : R L h) : eLoop R Q .normal L h := k
/-- What a loop in a block comes to: it leaves the block in R, or returns. -/
def cutQ (n : Nat) (R : Env → AHeap → Prop) (Q : EK) : EK
  | .exit m, L, h => m = n ∧ R L h
  | .ret, L, h => Q .ret L h
  | .normal, _, _ => False
theorem ho_cut {c : Code} {n : Nat} (R : Env → AHeap → Prop) (k1 : ho cfg c L h (cutQ n R Q)) (k2 : ∀ L h, R L h → Q .normal L h) : ho cfg c L h (eBlock n Q) := ho_mono (fun x L h hx => by
  cases x with
  | normal => exact hx.elim
  | exit m => obtain ⟨rfl, hr⟩ := hx; exact eb_s (k2 _ _ hr)
  | ret => exact eb_r hx) k1
/-! ### H5. Functions -/
def resE (cfg : Cfg) (L : Env) (h : AHeap) : List ResultVar → Option (List AV)
  | [] => some []
  | .tmp t :: l => match L.get t with
    | some a => match resE cfg L h l with
      | some m => some (a :: m)
      | none => none
    | none => none
  | .cell a t :: l => match L.get a with
    | some p => match aload cfg t p h with
      | some v => match resE cfg L h l with
        | some m => some (v :: m)
        | none => none
      | none => none
    | none => none
theorem resE_ok {fr : Fr} (hL : L.Ok fr) : ∀ {rs : List ResultVar} {vs : List AV}, resE cfg L h rs = some vs → resultsA cfg fr h rs = some vs
  | [], vs, e => e
  | .tmp t :: l, vs, e => by
    unfold resE at e
    unfold resultsA
    cases e1 : L.get t with
    | none => rw [e1] at e; cases e
    | some a =>
      rw [e1] at e
      cases e2 : resE cfg L h l with
      | none => rw [e2] at e; cases e
      | some m => rw [e2] at e; rw [resE_ok hL e2, hL t a e1]; exact e
  | .cell a t :: l, vs, e => by
    unfold resE at e
    unfold resultsA
    cases e1 : L.get a with
    | none => rw [e1] at e; cases e
    | some p =>
      rw [e1] at e
      simp only at e
      rw [hL a p e1]
      cases e2 : aload cfg t p h with
      | none => rw [e2] at e; cases e
      | some v =>
        rw [e2] at e
        cases e3 : resE cfg L h l with
        | none => rw [e3] at e; cases e
        | some m => rw [e3] at e; rw [resE_ok hL e3]; exact e
def eEnd (cfg : Cfg) (fn : AFn) (K : AV → AHeap → Prop) : EK
  | .exit _, _, _ => False
  | .normal, L, h => wpO (resE cfg L h fn.results) fun l => K (resultA l) h
  | .ret, L, h => wpO (resE cfg L h fn.results) fun l => K (resultA l) h
theorem eEnd_ok {fn : AFn} {K : AV → AHeap → Prop} {x : AExit} {fr : Fr} (hL : L.Ok fr) (hq : eEnd cfg fn K x L h) : endK cfg fn K x fr h := by
  cases x with
  | exit j => exact hq
  | normal => obtain ⟨l, hl, hk⟩ := hq; exact ⟨l, resE_ok hL hl, hk⟩
  | ret => obtain ⟨l, hl, hk⟩ := hq; exact ⟨l, resE_ok hL hl, hk⟩
theorem call_pure {f : FuncId} {fn : AFn} (hi : cfg.intr f = none) (hf : cfg.fn f = some fn) (hp : fn.pure = true) {args : List AV} (hh : hfL args = true) (hn : Nat.ble args.length fn.ntmps = true) {h : AHeap} {K : AV → AHeap → Prop}
    (hw : ho cfg fn.body (argEnv args 0) .empty (eEnd cfg fn fun v h1 => wpO (frz cfg h1 8 v) fun r => K r h)) : wpCall cfg f args h K :=
  wpCall_pure hi hf hp hh hn (wpC_mono _ (fun _ _ _ ⟨_, hL1, hq⟩ => eEnd_ok hL1 hq) (hw _ (argEnv_ok args 0 .nil)))
theorem call_body {f : FuncId} {fn : AFn} (hi : cfg.intr f = none) (hf : cfg.fn f = some fn) {args : List AV} (hp : (fn.pure && hfL args) = false) (hn : Nat.ble args.length fn.ntmps = true) {h : AHeap} {K : AV → AHeap → Prop}
    (hw : ho cfg fn.body (argEnv args 0) h (eEnd cfg fn K)) : wpCall cfg f args h K :=
  wpCall_body hi hf hp hn (wpC_mono _ (fun _ _ _ ⟨_, hL1, hq⟩ => eEnd_ok hL1 hq) (hw _ (argEnv_ok args 0 .nil)))
end
end Go.Am
