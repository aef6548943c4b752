/- '==' cell by cell, and the operations on numbers and strings. -/
import Derived.Test.YteplpnnbcjjjjaaGreatDoorAmInv
import Derived.ChangeKeysEq
import Derived.Lib.Strings
namespace Go.Am

/-! ### 7. Numbers and bytes -/
theorem eqBytes_iff : ∀ (a b : List UInt8), eqBytes a b = (a == b)
  | [], [] => rfl
  | [], _ :: _ => rfl
  | _ :: _, [] => rfl
  | a :: l, b :: m => by
    unfold eqBytes
    rw [eqBytes_iff l m]
    cases h : Nat.beq a.toNat b.toNat with
    | true =>
      have : a = b := UInt8.toNat_inj.1 (beq_true.1 h)
      subst this
      simp
    | false =>
      have : a ≠ b := fun e => beq_false.1 h (by rw [e])
      simp [this]
theorem kEq_iff {j k : IntKind} : kEq j k = true ↔ j = k := by
  cases j <;> cases k <;> simp [kEq, kTag] <;> decide
theorem wrapF_eq (k : IntKind) (n : Int) : wrapF k n = k.wrap n := by
  unfold wrapF
  cases n with
  | ofNat m =>
    simp only
    cases h : Nat.blt m (lim k) with
    | false => rfl
    | true =>
      have hm : m < lim k := by simpa [Nat.blt_eq] using h
      simp only [cond_true]
      unfold IntKind.wrap
      cases k <;> simp only [lim] at hm <;> simp [IntKind.bits, IntKind.signed] <;> omega
  | negSucc m =>
    simp only
    cases h : (signedB k && Nat.blt m (lim k)) with
    | false => rfl
    | true =>
      simp only [Bool.and_eq_true, Nat.blt_eq] at h
      simp only [cond_true]
      unfold IntKind.wrap
      cases k <;> simp only [signedB, Bool.false_eq_true, false_and] at h <;> simp only [lim, true_and] at h <;> simp only [IntKind.bits, IntKind.signed, Int.negSucc_eq] <;> simp <;> omega
theorem beq_int (a b : Int) : (a == b) = decide (a = b) := rfl

/-! ### 8. '==' cell by cell -/
theorem eqCells_append : ∀ (k1 k2 : List Nat) (xs ys : List AV), k1.length ≤ xs.length → k1.length ≤ ys.length →
    eqCells (k1 ++ k2) xs ys = match eqCells k1 (xs.take k1.length) (ys.take k1.length) with
      | some true => eqCells k2 (xs.drop k1.length) (ys.drop k1.length)
      | r => r
  | [], _, _, _, _, _ => by simp [eqCells]
  | _ :: _, _, [], _, h, _ => by simp at h
  | _ :: _, _, _ :: _, [], _, h => by simp at h
  | k :: k1, k2, a :: l, b :: m, h1, h2 => by
    simp only [List.cons_append, List.length_cons, List.take_succ_cons, List.drop_succ_cons, eqCells]
    cases h : eqK k a b with
    | none => rfl
    | some r =>
      cases r
      · rfl
      · exact eqCells_append k1 k2 l m (by simpa using h1) (by simpa using h2)
theorem eqCells_length : ∀ {ks : List Nat} {xs ys : List AV}, eqCells ks xs ys = some true → xs.length = ks.length ∧ ys.length = ks.length
  | [], [], [], _ => ⟨rfl, rfl⟩
  | [], [], _ :: _, h => by cases h
  | [], _ :: _, _, h => by cases h
  | _ :: _, [], _, h => by cases h
  | _ :: _, _ :: _, [], h => by cases h
  | k :: ks, a :: l, b :: m, h => by
    simp only [eqCells] at h
    cases e : eqK k a b with
    | none => rw [e] at h; cases h
    | some r =>
      rw [e] at h
      cases r
      · cases h
      · have := eqCells_length h; simp [this.1, this.2]
def asV (P : Program) (t : TypeId) (X : List Value) : Value := match P.underlying t with
  | some (.struct _) | some (.array _ _) => .agg X.toArray
  | _ => X.headD Go.undef
section
variable {P : Program}
theorem run_part_asV {t : TypeId} {ks : List Nat} {d : Nat} (hk : flatKs P d t = some ks) (hc : P.cellsOf t = ks.length) (X : List Value) (off : Nat) (hlen : off + ks.length ≤ X.length) (w : World) :
    (part t X.toArray off).run P w = .ok (asV P t ((X.drop off).take ks.length)) w := by
  cases d with
  | zero => cases hk
  | succ d =>
    unfold flatKs at hk
    have hs : ∀ w, (sizeOf t).run P w = .ok ks.length w := fun w => by
      cases hu : P.underlying t with
      | none => rw [hu] at hk; cases hk
      | some d' => obtain ⟨i, hi⟩ := info_of_underlying hu; rw [run_sizeOf w hi, hc]
    have agg : ∀ dd, P.underlying t = some dd → (match dd with | .struct _ | .array _ _ => true | _ => false) = true → (part t X.toArray off).run P w = .ok (asV P t ((X.drop off).take ks.length)) w := by
      intro dd hu hd
      have he : (X.toArray.extract off (off + ks.length)) = ((X.drop off).take ks.length).toArray := by
        apply Array.toList_inj.1
        simp [List.extract]
      cases dd <;> simp at hd <;> simp [part, isAgg, Go.run_underlying hu, hs, asV, hu]
    have one : ∀ dd, P.underlying t = some dd → (match dd with | .struct _ | .array _ _ => true | _ => false) = false → ks.length = 1 → (part t X.toArray off).run P w = .ok (asV P t ((X.drop off).take ks.length)) w := by
      intro dd hu hd h1
      rw [h1] at hlen ⊢
      have hx : X[off]? = some (X[off]'(by omega)) := List.getElem?_eq_getElem (by omega)
      have ht : (X.drop off).take 1 = [X[off]'(by omega)] := by
        rw [List.drop_eq_getElem_cons (by omega)]; rfl
      rw [ht]
      cases dd <;> simp at hd <;> simp [part, isAgg, Go.run_underlying hu, hx, asV, hu]
    cases hu : P.underlying t with
    | none => rw [hu] at hk; cases hk
    | some dd =>
      rw [hu] at hk
      cases dd
      case bool => cases hk; exact one _ hu rfl rfl
      case int => cases hk; exact one _ hu rfl rfl
      case string => cases hk; exact one _ hu rfl rfl
      case array => exact agg _ hu rfl
      case struct => exact agg _ hu rfl
      all_goals cases hk
theorem eqK_bool {a b : AV} {r : Bool} (h : eqK 0 a b = some r) : ∃ x y, a = .bool x ∧ b = .bool y ∧ r = (x == y) := by
  unfold eqK at h
  split at h
  · cases h; exact ⟨_, _, rfl, rfl, rfl⟩
  · rename_i e; cases e
  · rename_i e; cases e
  · cases h
theorem eqK_int {a b : AV} {r : Bool} (h : eqK 1 a b = some r) : ∃ k x y, a = .int k x ∧ b = .int k y ∧ r = decide (x = y) := by
  unfold eqK at h
  split at h
  · rename_i e; cases e
  · rename_i j x k y _
    cases e : kEq j k with
    | true => rw [e] at h; have := kEq_iff.1 e; subst this; cases h; exact ⟨_, _, _, rfl, rfl, rfl⟩
    | false => rw [e] at h; cases h
  · rename_i e; cases e
  · cases h
theorem eqK_str {a b : AV} {r : Bool} (h : eqK 2 a b = some r) : ∃ x y, a = .str x ∧ b = .str y ∧ r = (x == y) := by
  unfold eqK at h
  split at h
  · rename_i e; cases e
  · rename_i e; cases e
  · cases h; exact ⟨_, _, rfl, rfl, eqBytes_iff _ _⟩
  · cases h
theorem eqCells_one {k : Nat} {xs ys : List AV} {r : Bool} (h : eqCells [k] xs ys = some r) (hx : xs.length = 1) (hy : ys.length = 1) : ∃ a b, xs = [a] ∧ ys = [b] ∧ eqK k a b = some r := by
  match xs, ys, hx, hy with
  | [a], [b], _, _ =>
    simp only [eqCells] at h
    cases e : eqK k a b with
    | none => rw [e] at h; cases h
    | some q =>
      rw [e] at h
      cases q <;> (cases h; exact ⟨a, b, rfl, rfl, e⟩)
theorem repK_length (ks : List Nat) (n : Nat) : (repK ks n).length = n * ks.length := by
  induction n with
  | zero => simp [repK]
  | succ n ih => rw [repK, List.length_append, ih, Nat.succ_mul]; omega
/-- What '==' needs, of a type at depth d. -/
def EqOk (P : Program) (s : St) (d : Nat) : Prop := ∀ t ks, flatKs P d t = some ks → ∀ (D : Nat) (xs ys : List AV) (X Y : List Value) (r : Bool) (w : World),
  LRel s xs X → LRel s ys Y → xs.length = ks.length → ys.length = ks.length → eqCells ks xs ys = some r → (Op.equalIn (D + d) t (asV P t X) (asV P t Y)).run P w = .ok r w
theorem eqFields_ok {s : St} {d : Nat} (ih : EqOk P s d) (D : Nat) (X Y : List Value) (w : World) : ∀ (fs : List Field) (at_ : Nat) (ks : List Nat) (xs ys : List AV) (r : Bool), flatFs P (flatKs P d) at_ fs = some ks →
    LRel s xs (X.drop at_) → LRel s ys (Y.drop at_) → xs.length = ks.length → ys.length = ks.length → eqCells ks xs ys = some r → at_ ≤ X.length → at_ ≤ Y.length →
    (Op.eqFields (D + d) X.toArray Y.toArray fs).run P w = .ok r w
  | [], at_, ks, xs, ys, r, hk, _, _, hx, hy, he, _, _ => by
    cases hk
    match xs, ys, hx, hy with
    | [], [], _, _ => cases he; rfl
  | f :: fs, at_, ks, xs, ys, r, hk, lx, ly, hx, hy, he, ax, ay => by
    unfold flatFs at hk
    split at hk
    · rename_i k1 hk1
      cases hc : (f.name != "_" && Nat.beq f.offset at_ && Nat.beq k1.length (P.cellsOf f.type)) with
      | false => rw [hc] at hk; cases hk
      | true =>
        rw [hc] at hk
        simp only [Bool.and_eq_true, bne_iff_ne, ne_eq, beq_true] at hc
        obtain ⟨⟨hn, ho⟩, hl⟩ := hc
        simp only [cond_true] at hk
        split at hk
        · rename_i k2 hk2
          cases hk
          have lenX := lx.length
          have lenY := ly.length
          rw [List.length_append] at hx hy
          rw [List.length_drop] at lenX lenY
          rw [eqCells_append _ _ _ _ (by omega) (by omega)] at he
          have pX := run_part_asV hk1 hl.symm X f.offset (by omega) w
          have pY := run_part_asV hk1 hl.symm Y f.offset (by omega) w
          unfold Op.eqFields
          rw [if_pos hn]
          simp only [Sem.run_bind, pX, pY, Result.andThen_ok]
          rw [ho]
          have t1 := ih f.type k1 hk1 D (xs.take k1.length) (ys.take k1.length) ((X.drop at_).take k1.length) ((Y.drop at_).take k1.length)
          cases h1 : eqCells k1 (xs.take k1.length) (ys.take k1.length) with
          | none => rw [h1] at he; cases he
          | some q =>
            rw [h1] at he
            rw [t1 q w (lx.take _) (ly.take _) (by rw [List.length_take]; omega) (by rw [List.length_take]; omega) h1]
            cases q
            · cases he; simp
            · simp only [Result.andThen_ok, Bool.not_true, Bool.false_eq_true, if_false]
              exact eqFields_ok ih D X Y w fs (at_ + k1.length) k2 (xs.drop k1.length) (ys.drop k1.length) r hk2
                (by rw [← List.drop_drop]; exact lx.drop _) (by rw [← List.drop_drop]; exact ly.drop _)
                (by rw [List.length_drop]; omega) (by rw [List.length_drop]; omega) he (by omega) (by omega)
        · cases hk
    · cases hk
theorem eqItems_ok {s : St} {d : Nat} (ih : EqOk P s d) {e : TypeId} {ks : List Nat} (hk : flatKs P d e = some ks) (hc : P.cellsOf e = ks.length) (D : Nat) (X Y : List Value) (w : World) :
    ∀ (n i : Nat) (xs ys : List AV) (r : Bool), LRel s xs (X.drop (i * ks.length)) → LRel s ys (Y.drop (i * ks.length)) → xs.length = n * ks.length → ys.length = n * ks.length → eqCells (repK ks n) xs ys = some r →
      i * ks.length ≤ X.length → i * ks.length ≤ Y.length → (Op.eqItems (D + d) e (P.cellsOf e) X.toArray Y.toArray (List.range' i n)).run P w = .ok r w
  | 0, _, xs, ys, r, _, _, hx, hy, he, _, _ => by
    simp at hx hy
    subst hx; subst hy
    cases he; rfl
  | n + 1, i, xs, ys, r, lx, ly, hx, hy, he, ax, ay => by
    have lenX := lx.length
    have lenY := ly.length
    rw [List.length_drop] at lenX lenY
    have hm : (n + 1) * ks.length = ks.length + n * ks.length := by rw [Nat.succ_mul]; omega
    rw [repK, eqCells_append _ _ _ _ (by omega) (by omega)] at he
    have pX := run_part_asV hk hc X (i * ks.length) (by omega) w
    have pY := run_part_asV hk hc Y (i * ks.length) (by omega) w
    rw [List.range'_succ]
    unfold Op.eqItems
    simp only [Sem.run_bind, hc, pX, pY, Result.andThen_ok]
    have t1 := ih e ks hk D (xs.take ks.length) (ys.take ks.length) ((X.drop (i * ks.length)).take ks.length) ((Y.drop (i * ks.length)).take ks.length)
    cases h1 : eqCells ks (xs.take ks.length) (ys.take ks.length) with
    | none => rw [h1] at he; cases he
    | some q =>
      rw [h1] at he
      rw [t1 q w (lx.take _) (ly.take _) (by rw [List.length_take]; omega) (by rw [List.length_take]; omega) h1]
      cases q
      · cases he; simp
      · simp only [Result.andThen_ok, Bool.not_true, Bool.false_eq_true, if_false]
        have step : (i + 1) * ks.length = i * ks.length + ks.length := Nat.succ_mul _ _
        have := eqItems_ok ih hk hc D X Y w n (i + 1) (xs.drop ks.length) (ys.drop ks.length) r
          (by rw [step, ← List.drop_drop]; exact lx.drop _) (by rw [step, ← List.drop_drop]; exact ly.drop _)
          (by rw [List.length_drop]; omega) (by rw [List.length_drop]; omega) he (by omega) (by omega)
        rw [hc] at this
        exact this
theorem eqOk (P : Program) (s : St) : ∀ d, EqOk P s d
  | 0 => fun t ks hk => by cases hk
  | d + 1 => by
    intro t ks hk D xs ys X Y r w lx ly hx hy he
    have ih := eqOk P s d
    unfold flatKs at hk
    have lenX := lx.length
    have lenY := ly.length
    cases hu : P.underlying t with
    | none => rw [hu] at hk; cases hk
    | some dd =>
      rw [hu] at hk
      rw [show D + (d + 1) = (D + d) + 1 by omega]
      cases dd
      case bool =>
        cases hk
        obtain ⟨a, b, rfl, rfl, h1⟩ := eqCells_one he hx hy
        obtain ⟨x, y, rfl, rfl, rfl⟩ := eqK_bool h1
        obtain ⟨v, _, rfl, hv, hn⟩ := lx.uncons
        obtain ⟨u, _, rfl, hu', hn'⟩ := ly.uncons
        simp only [LRel, VRel] at hv hu' hn hn'
        subst hv; subst hu'; subst hn; subst hn'
        simp only [asV, hu, List.headD_cons]
        exact run_equalIn_bool w (D + d) t x y hu
      case int q =>
        cases hk
        obtain ⟨a, b, rfl, rfl, h1⟩ := eqCells_one he hx hy
        obtain ⟨k, x, y, rfl, rfl, rfl⟩ := eqK_int h1
        obtain ⟨v, _, rfl, hv, hn⟩ := lx.uncons
        obtain ⟨u, _, rfl, hu', hn'⟩ := ly.uncons
        simp only [LRel, VRel] at hv hu' hn hn'
        subst hv; subst hu'; subst hn; subst hn'
        simp only [asV, hu, List.headD_cons]
        exact run_equalIn_int w (D + d) t k q x y hu
      case string =>
        cases hk
        obtain ⟨a, b, rfl, rfl, h1⟩ := eqCells_one he hx hy
        obtain ⟨x, y, rfl, rfl, rfl⟩ := eqK_str h1
        obtain ⟨v, _, rfl, hv, hn⟩ := lx.uncons
        obtain ⟨u, _, rfl, hu', hn'⟩ := ly.uncons
        simp only [LRel, VRel] at hv hu' hn hn'
        subst hv; subst hu'; subst hn; subst hn'
        simp only [asV, hu, List.headD_cons]
        rw [run_equalIn_string w (D + d) t _ _ hu]
        simp [Lib.toList_data]
      case array n e =>
        simp only [] at hk
        split at hk
        · rename_i k1 hk1
          cases hc : Nat.beq k1.length (P.cellsOf e) with
          | false => simp only [hc] at hk; cases hk
          | true =>
            simp only [hc, cond_true] at hk
            cases hk
            have hc' := beq_true.1 hc
            rw [repK_length] at hx hy
            have : (flatKs P d e).isSome := by rw [hk1]; rfl
            have he' : ∃ i, P.info? e = some i := by
              cases d with
              | zero => cases hk1
              | succ d =>
                unfold flatKs at hk1
                cases hue : P.underlying e with
                | none => rw [hue] at hk1; cases hk1
                | some d' => exact info_of_underlying hue
            obtain ⟨i, hi⟩ := he'
            simp only [asV, hu]
            rw [run_equalIn_array w (D + d) X.toArray Y.toArray hu hi, List.range_eq_range']
            exact eqItems_ok ih hk1 hc'.symm D X Y w n 0 xs ys r (by simpa using lx) (by simpa using ly) hx hy he (by omega) (by omega)
        · cases hk
      case struct fs =>
        cases hp : P.stoodInHeld t with
        | true => simp only [hp] at hk; cases hk
        | false =>
          simp only [hp, cond_false] at hk
          have hf : P.fieldsOf t = fs := by unfold Program.fieldsOf; rw [hu]
          simp only [asV, hu]
          rw [run_equalIn_struct w (D + d) t X.toArray Y.toArray (by rw [hf]; exact hu) hp, hf]
          exact eqFields_ok ih D X Y w fs.toList 0 ks xs ys r hk (by simpa using lx) (by simpa using ly) hx hy he (by omega) (by omega)
      all_goals cases hk
end
end Go.Am
