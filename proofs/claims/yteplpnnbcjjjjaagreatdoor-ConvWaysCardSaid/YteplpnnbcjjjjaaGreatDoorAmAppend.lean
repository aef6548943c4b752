/- append. -/
import Derived.Test.YteplpnnbcjjjjaaGreatDoorAmAct
namespace Go.Am
section
variable {cfg : Cfg} {G : (Nat → Nat → Option Value) → Prop} {N0 : Nat} {s : St} {h : AHeap} {w : World}
/-! ### 22. What is appended -/
/-- The model's reading of what is appended. -/
def appSem (zeros : Bool) (size n : Nat) (e : TypeId) (X : Value) : Sem (Array Value) :=
  if !zeros then Builtin.firstCells size n X else if n * size = 0 then pure #[] else do pure (Builtin.zeroCells (← zeroValue e).cells n)
/-- The model's count of it. -/
def appN (zeros : Bool) (bytes n : Nat) (X : Value) : Prop :=
  if zeros then ∃ k, X = .int k n ∧ (n : Int) ≤ 281474976710656 ∧ (n : Int) * bytes ≤ 281474976710656 else (∃ a c, X = .slice a n c) ∨ ∃ l : List UInt8, X = .string ⟨l.toArray⟩ ∧ l.length = n
theorem zeroCells_rel {zs : List AV} {Z : Array Value} (hz : LRel s zs Z.toList) (n : Nat) : LRel s (nZero zs n) (Builtin.zeroCells Z n).toList := by
  have := nZero_rel hz n
  unfold Builtin.zeroCells
  simpa using this
theorem firstCells_rows (hi : Inv cfg G N0 s h w) {sz : Nat} {x : AV} {X : Value} (hx : VRel s x X) {cs : List AV} (hr : rowCells sz x h = some cs) :
    ∃ a n c NEW, X = .slice a n c ∧ n ≤ c ∧ (Builtin.firstCells sz n X).run cfg.P w = .ok NEW w ∧ LRel s cs NEW.toList ∧ NEW.size = n * sz := by
  obtain ⟨a, n, c, vs, rfl, hnc, hl, hlen, hload, hnone⟩ := rowCells_rel hi hx hr
  cases a with
  | none =>
    have := hnone rfl
    subst this
    exact ⟨none, n, c, #[], rfl, hnc, rfl, hl, hlen⟩
  | some a => exact ⟨some a, n, c, vs.toArray, rfl, hnc, hload a rfl, by simpa using hl, by simpa using hlen⟩
theorem appended_sound (hc : CfgTy cfg) {xt e : TypeId} {j : TI} {info : TypeInfo} {d : TypeDesc} {z : Value} (hf : TyF cfg.P e j info d z) {x : AV} {X : Value} (hx : VRel s x X) {new : List AV} {n : Nat} (ha : appended cfg xt j x h = some (new, n)) :
    ∃ zeros, (∃ dd, cfg.P.underlying xt = some dd ∧ (dd matches .int _) = zeros) ∧ appN zeros j.bytes n X ∧
      ∀ w, Inv cfg G N0 s h w → ∃ NEW, (appSem zeros j.size n e X).run cfg.P w = .ok NEW w ∧ LRel s new NEW.toList := by
  unfold appended at ha
  split at ha
  · rename_i i ht
    obtain ⟨info1, d1, z1, hf1⟩ := hc.facts ht
    split at ha
    · rename_i q k m hk
      rw [hf1.kd] at hk; cases tk_int hk
      cases hb : (decide (0 ≤ m) && decide (m * (j.bytes : Int) ≤ 281474976710656) && decide (m ≤ 281474976710656) && Nat.beq j.zero.cells.length j.size) with
      | false => rw [hb] at ha; cases ha
      | true =>
        rw [hb] at ha
        cases ha
        simp only [Bool.and_eq_true, decide_eq_true_eq] at hb
        simp only [VRel] at hx
        subst hx
        have hm : (m.toNat : Int) = m := by omega
        refine ⟨true, ⟨_, hf1.desc, rfl⟩, ?_, fun w _ => ?_⟩
        · unfold appN
          rw [if_pos rfl, hm]
          exact ⟨k, rfl, hb.1.2, hb.1.1.2⟩
        · have hz := beq_true.1 hb.2
          have hrel : LRel s j.zero.cells z.cells.toList := (absV_rel s hf.zabs).cells
          unfold appSem
          simp only [Bool.not_true, Bool.false_eq_true, if_false]
          by_cases h0 : m.toNat * j.size = 0
          · refine ⟨#[], by rw [if_pos h0]; rfl, ?_⟩
            have : nZero j.zero.cells m.toNat = [] := by
              apply List.length_eq_zero_iff.1
              rw [nZero_length, hz, h0]
            rw [this]
            exact .nil
          · exact ⟨_, by rw [if_neg h0]; simp only [Sem.run_bind, hf.run_zeroValue, Result.andThen_ok, Sem.run_pure], zeroCells_rel hrel _⟩
    · rename_i l hk
      rw [hf1.kd] at hk; cases tk_str hk
      cases hb : Nat.beq j.size 1 with
      | false => rw [hb] at ha; cases ha
      | true =>
        rw [hb] at ha
        cases ha
        simp only [VRel] at hx
        subst hx
        refine ⟨false, ⟨_, hf1.desc, rfl⟩, ?_, fun w _ => ?_⟩
        · unfold appN
          rw [if_neg (by simp)]
          exact .inr ⟨l, rfl, rfl⟩
        · unfold appSem
          refine ⟨l.toArray.map fun b => .int .u8 b.toNat, ?_, ?_⟩
          · simp only [Bool.not_false, if_true, Builtin.firstCells, Sem.run_pure]
            have : ((⟨l.toArray⟩ : ByteArray).extract 0 l.length) = ⟨l.toArray⟩ := by
              rw [bytes_slice]; simp
            rw [this]
          · have : ∀ l : List UInt8, LRel s (l.map fun b => AV.int .u8 b.toNat) (l.map fun b => Value.int .u8 b.toNat) := fun l => by
              induction l with
              | nil => exact .nil
              | cons b l ih => exact .cons (by simp only [VRel]) ih
            simpa using this l
    · rename_i e1 hk
      rw [hf1.kd] at hk; cases tk_slice hk
      split at ha
      · rename_i cs k m hr hl
        cases ha
        have hs : ∃ a n c, X = .slice a n c := by
          unfold rowCells at hr
          split at hr
          · simp only [VRel] at hx; exact ⟨_, _, _, hx⟩
          · simp only [VRel] at hx; obtain ⟨_, hx⟩ := hx; exact ⟨_, _, _, hx⟩
          · simp only [VRel] at hx; obtain ⟨_, _, hx⟩ := hx; exact ⟨_, _, _, hx⟩
          · simp only [VRel] at hx; obtain ⟨_, _, hx, _⟩ := hx; exact ⟨_, _, _, hx⟩
          · simp only [VRel] at hx; obtain ⟨_, _, _, hx, _⟩ := hx; exact ⟨_, _, _, hx⟩
          · cases hr
        obtain ⟨a, n, c, rfl⟩ := hs
        have hn := alen_len hx hl ⟨i, e1, ht, hf1.kd⟩
        subst hn
        refine ⟨false, ⟨_, hf1.desc, rfl⟩, ?_, fun w hi => ?_⟩
        · unfold appN
          rw [if_neg (by simp)]
          exact .inl ⟨a, c, rfl⟩
        · obtain ⟨a', n', c', NEW, e, _, hr1, hr2, _⟩ := firstCells_rows hi hx hr
          cases e
          exact ⟨NEW, by unfold appSem; simpa using hr1, hr2⟩
      · cases ha
    · cases ha
  · cases ha
/-! ### 23. append, as the model runs it -/
theorem run_append {P : Program} {st xt e : TypeId} (hst : P.underlying st = some (.slice e)) {j : TI} {info : TypeInfo} {d : TypeDesc} {z : Value} (hf : TyF P e j info d z) {zeros : Bool} (hx : ∃ dd, P.underlying xt = some dd ∧ (dd matches .int _) = zeros) {n : Nat} {X : Value}
    (hn : appN zeros j.bytes n X) (base : Option Addr) (sLen sCap : Nat) (ty : TypeId) (w : World) :
    (sLen + n ≤ sCap → (Builtin.append_ #[st, xt] ty #[.slice base sLen sCap, X]).run P w = ((appSem zeros j.size n e X).run P w).andThen fun new w' =>
      ((match base with | some a => storeCells (a.add (sLen * j.size)) new.toList | none => pure ()).run P w').andThen fun _ w'' => .ok (.slice base (sLen + n) sCap) w'') ∧
    (sCap < sLen + n → sLen + n ≤ 9223372036854775807 → (sLen + n) * j.bytes ≤ 140737488355328 → (Builtin.append_ #[st, xt] ty #[.slice base sLen sCap, X]).run P w = ((Builtin.firstCells j.size sLen (.slice base sLen sCap)).run P w.drew).andThen fun old w1 =>
      ((appSem zeros j.size n e X).run P w1).andThen fun new w2 => .ok (.slice (some ⟨w2.heap.size, 0, none⟩) (sLen + n) (grownCap w (sLen + n) sCap e)) { w2 with heap := w2.heap.push (.cells (old ++ new ++ Builtin.zeroCells z.cells (grownCap w (sLen + n) sCap e - (sLen + n))) e) }) := by
  obtain ⟨dd, hdd, hz⟩ := hx
  cases zeros with
  | true =>
    have hdi : ∃ q, dd = .int q := by cases dd <;> simp at hz ⊢
    obtain ⟨q, rfl⟩ := hdi
    unfold appN at hn
    rw [if_pos rfl] at hn
    obtain ⟨k, rfl, h1, h2⟩ := hn
    have hw : IntKind.i64.wrap (n : Int) = n := wrap64 (by omega) (by omega)
    have hb : info.bytes = j.bytes := hf.hbytes.symm
    have hno1 : ¬ ((n : Int) < 0) := by omega
    have hno2 : ¬ ((n : Int) * (j.bytes : Int) > 2 ^ 48) := by omega
    have hno3 : ∀ sum : Nat, sum ≤ 9223372036854775807 → ¬ ((sum : Int) > IntKind.i64.max ∧ (True ∨ j.bytes = 0)) := fun sum hs h => by
      have := h.1
      simp [IntKind.max, IntKind.bits, IntKind.signed] at this
      omega
    constructor
    · intro hle
      cases base <;> simp only [Builtin.append_, List.getElem?_toArray, List.getElem?_cons_zero, List.getElem?_cons_succ, Sem.run_bind, Go.run_underlying hst, Go.run_underlying hdd, hf.run_sizeOf, hf.run_typeInfo, Result.andThen_ok, Sem.run_pure, if_true, asInt, asIntOf, hw, if_neg hno1, hb, if_neg hno2, Int.toNat_natCast, if_pos hle, appSem]
    · intro hlt h63 h47
      have hno4 : ¬ (Builtin.nextslicecap (sLen + n) sCap * j.bytes > 2 ^ 48) := by have := growslice_fits hlt h47; omega
      simp only [Builtin.append_, List.getElem?_toArray, List.getElem?_cons_zero, List.getElem?_cons_succ, Sem.run_bind, Go.run_underlying hst, Go.run_underlying hdd, hf.run_sizeOf, hf.run_typeInfo, Result.andThen_ok, Sem.run_pure, if_true, asInt, asIntOf, hw, if_neg hno1, hb, if_neg hno2, Int.toNat_natCast, if_neg (Nat.not_le.2 hlt), if_neg (hno3 _ h63), if_neg hno4, run_choose, Question.forced, Bool.false_eq_true, if_false, run_askRoom, hf.run_zeroValue, newRow, run_newObj, appSem]
      all_goals rfl
  | false =>
    have hno3 : ∀ (sum : Nat), sum ≤ 9223372036854775807 → ¬ ((sum : Int) > IntKind.i64.max ∧ (False ∨ j.bytes = 0)) := fun sum hs h => by
      have := h.1
      simp [IntKind.max, IntKind.bits, IntKind.signed] at this
      omega
    have hb : info.bytes = j.bytes := hf.hbytes.symm
    have hlen : ∀ w, (Builtin.lenOf X).run P w = .ok n w := by
      unfold appN at hn
      rw [if_neg (by simp)] at hn
      rcases hn with ⟨a, c, rfl⟩ | ⟨l, rfl, rfl⟩
      · exact fun w => by simp [Builtin.lenOf]
      · exact fun w => by simp [Builtin.lenOf]; rfl
    constructor
    · intro hle
      cases dd <;> simp only [Bool.true_eq_false] at hz <;> cases base <;> simp only [Builtin.append_, List.getElem?_toArray, List.getElem?_cons_zero, List.getElem?_cons_succ, Sem.run_bind, Go.run_underlying hst, Go.run_underlying hdd, hf.run_sizeOf, Result.andThen_ok, Sem.run_pure, Bool.false_eq_true, if_false, hlen, if_pos hle, appSem]
    · intro hlt h63 h47
      have hno4 : ¬ (Builtin.nextslicecap (sLen + n) sCap * j.bytes > 2 ^ 48) := by have := growslice_fits hlt h47; omega
      cases dd <;> simp only [Bool.true_eq_false] at hz <;> simp only [Builtin.append_, List.getElem?_toArray, List.getElem?_cons_zero, List.getElem?_cons_succ, Sem.run_bind, Go.run_underlying hst, Go.run_underlying hdd, hf.run_sizeOf, hf.run_typeInfo, Result.andThen_ok, Sem.run_pure, Bool.false_eq_true, if_false, hlen, hb, if_neg (Nat.not_le.2 hlt), if_neg (hno3 _ h63), if_neg hno4, run_choose, Question.forced, run_askRoom, hf.run_zeroValue, newRow, run_newObj, appSem]
      all_goals rfl
end
end Go.Am
