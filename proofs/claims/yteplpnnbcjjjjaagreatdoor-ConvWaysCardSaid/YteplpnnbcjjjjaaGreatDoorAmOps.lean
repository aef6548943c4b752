/- Operations that touch no memory: what the machine computes is what the model computes. -/
import Derived.Test.YteplpnnbcjjjjaaGreatDoorAmEq
namespace Go.Am

/-- The machine's types are the program's. -/
def CfgTy (cfg : Cfg) : Prop := ∀ t i, cfg.ty t = some i → tiOf cfg.P t = some i
theorem CfgTy.facts {cfg : Cfg} (hc : CfgTy cfg) {t : TypeId} {i : TI} (h : cfg.ty t = some i) : ∃ info d z, TyF cfg.P t i info d z := tiOf_facts (hc t i h)
theorem eqBytes_data (a b : List UInt8) : ((⟨a.toArray⟩ : ByteArray).toList == (⟨b.toArray⟩ : ByteArray).toList) = eqBytes a b := by
  rw [eqBytes_iff, Lib.toList_data, Lib.toList_data]

/-! ### 9. '==' and the other operations of two operands -/
section
variable {cfg : Cfg} {s : St}
theorem run_eqGuard_int (P : Program) (op : BinOp) (t : TypeId) (ox oy : Operand) (k k' : IntKind) (a b : Int) (w : World) : (eqGuard op t ox oy (.int k a) (.int k' b)).run P w = .ok () w := by
  unfold eqGuard; cases op <;> simp
theorem run_eqGuard_str (P : Program) (op : BinOp) (t : TypeId) (ox oy : Operand) (a b : ByteArray) (w : World) : (eqGuard op t ox oy (.string a) (.string b)).run P w = .ok () w := by
  unfold eqGuard; cases op <;> simp
theorem abinInt_sound {op : BinOp} {k : IntKind} {a b : Int} {v : AV} (h : abinInt op k a b = some v) (h1 : op ≠ .shl) (h2 : op ≠ .shr) (t : TypeId) :
    ∃ V, VRel s v V ∧ ∀ w, (binOp op t (.int k a) (.int k b)).run cfg.P w = .ok V w := by
  cases op <;> simp only [abinInt, wrapF_eq] at h <;> try (first | exact absurd rfl h1 | exact absurd rfl h2)
  case quo =>
    by_cases hb : b = 0
    · rw [if_pos hb] at h; cases h
    · rw [if_neg hb] at h; cases h; exact ⟨.int k _, (by simp only [VRel]; rfl), fun w => by simp [binOp, Op.intDiv, hb]⟩
  case rem =>
    by_cases hb : b = 0
    · rw [if_pos hb] at h; cases h
    · rw [if_neg hb] at h; cases h; exact ⟨.int k _, (by simp only [VRel]; rfl), fun w => by simp [binOp, Op.intDiv, hb]⟩
  all_goals first
    | (cases h; exact ⟨.int k _, (by simp only [VRel]; rfl), fun w => by simp [binOp, Op.intArith, Op.intBits]⟩)
    | (cases h; refine ⟨.bool _, (by simp only [VRel]; rfl), fun w => ?_⟩; simp [binOp, Op.intCmp, bne, beq_int]; done)
    | (cases h; refine ⟨.bool _, (by simp only [VRel]; rfl), fun w => ?_⟩; simp [binOp, Op.intCmp, bne, beq_int, GT.gt, GE.ge]; done)
    | (cases h; refine ⟨.bool _, (by simp only [VRel]; rfl), fun w => ?_⟩; rfl)
    | (cases h; done)
theorem abinStr_sound {op : BinOp} {a b : List UInt8} {v : AV} (h : abinStr op a b = some v) (t : TypeId) :
    ∃ V, VRel s v V ∧ ∀ w, (binOp op t (.string ⟨a.toArray⟩) (.string ⟨b.toArray⟩)).run cfg.P w = .ok V w := by
  cases op <;> simp only [abinStr] at h
  case add =>
    cases hb : Nat.ble (a.length + b.length) 9223372036854775807 with
    | false => rw [hb] at h; cases h
    | true =>
      rw [hb] at h
      cases h
      have hs : ¬ (((⟨a.toArray⟩ : ByteArray).size + (⟨b.toArray⟩ : ByteArray).size : Nat) : Int) > IntKind.i64.max := by
        have := ble_true.1 hb
        have e1 : (⟨a.toArray⟩ : ByteArray).size = a.length := rfl
        have e2 : (⟨b.toArray⟩ : ByteArray).size = b.length := rfl
        rw [e1, e2]
        simp [IntKind.max, IntKind.bits, IntKind.signed]
        omega
      refine ⟨.string (⟨a.toArray⟩ ++ ⟨b.toArray⟩), ?_, fun w => ?_⟩
      · simp only [VRel]
        congr 1
      · simp only [binOp, Op.stringOp, if_neg hs, Sem.run_pure]
  all_goals first
    | (cases h; refine ⟨.bool _, (by simp only [VRel]; rfl), fun w => ?_⟩; simp [binOp, Op.stringOp, Lib.toList_data, eqBytes_iff]; done)
    | (cases h; done)
theorem equal_step (t : TypeId) (x y : Value) : Op.equal t x y = Op.equalIn (9999 + 1) t x y := rfl
theorem run_eqSliceNil {P : Program} {t e : TypeId} (hu : P.underlying t = some (.slice e)) (d : Nat) (a : Option Addr) (n c : Nat) (w : World) : (Op.equalIn (d + 1) t (.slice a n c) (.slice none 0 0)).run P w = .ok a.isNone w := by
  cases a <;> simp [Op.equalIn, Go.run_underlying hu]
theorem run_eqPtrNil {P : Program} {t e : TypeId} (hu : P.underlying t = some (.pointer e)) (d : Nat) (a : Option Addr) (w : World) : (Op.equalIn (d + 1) t (.pointer a) (.pointer none)).run P w = .ok a.isNone w := by
  cases a <;> simp [Op.equalIn, Go.run_underlying hu]
theorem aeq_sound (hc : CfgTy cfg) {t : TypeId} {i : TI} (ht : cfg.ty t = some i) {x y : AV} {X Y : Value} (hx : VRel s x X) (hy : VRel s y Y) {r : Bool} (h : aeq i x y = some r) (ox oy : Operand) (op : BinOp) :
    (∀ w, (eqGuard op t ox oy X Y).run cfg.P w = .ok () w) ∧ (∀ w, (Op.equal t X Y).run cfg.P w = .ok r w) := by
  obtain ⟨info, d, z, hf⟩ := hc.facts ht
  have hu := hf.desc
  unfold aeq at h
  split at h
  · rename_i a b
    simp only [VRel] at hx hy
    subst hx; subst hy
    split at h
    · rename_i hk
      cases h
      have hd : d = .bool := by rw [hf.kd] at hk; cases d <;> simp [tkOf] at hk ⊢
      subst hd
      exact ⟨fun w => by unfold eqGuard; cases op <;> simp, fun w => run_equalIn_bool w 9999 t a b hu⟩
    · cases h
  · rename_i xs ys
    simp only [VRel] at hx hy
    obtain ⟨X, rfl, lx⟩ := hx
    obtain ⟨Y, rfl, ly⟩ := hy
    have key : aeqAgg i.eqv xs ys = some r → (∃ fs, d = .struct fs) ∨ (∃ n e, d = .array n e) → (∀ w, (eqGuard op t ox oy (.agg X.toArray) (.agg Y.toArray)).run cfg.P w = .ok () w) ∧ (∀ w, (Op.equal t (.agg X.toArray) (.agg Y.toArray)).run cfg.P w = .ok r w) := by
      intro h hd
      unfold aeqAgg at h
      rw [hf.eqv] at h
      cases hg : cfg.P.eqGuardType cfg.P.depth t with
      | true => rw [hg] at h; cases h
      | false =>
        rw [hg] at h
        simp only [cond_false] at h
        split at h
        · rename_i ks hk
          cases hl : (Nat.beq xs.length ks.length && Nat.beq ys.length ks.length) with
          | false => rw [hl] at h; cases h
          | true =>
          rw [hl] at h
          simp only [cond_true] at h
          simp only [Bool.and_eq_true, beq_true] at hl
          have hagg : ∀ Z : List Value, asV cfg.P t Z = .agg Z.toArray := fun Z => by
            unfold asV
            rcases hd with ⟨fs, rfl⟩ | ⟨n, e, rfl⟩ <;> rw [hu]
          refine ⟨fun w => run_eqGuard_agg w op t ox oy _ _ hg, fun w => ?_⟩
          have := eqOk cfg.P s 6 t ks hk 9994 xs ys X Y r w lx ly hl.1 hl.2 h
          rw [hagg, hagg] at this
          exact this
        · cases h
    split at h
    · rename_i fs hk
      exact key h (.inl (by rw [hf.kd] at hk; cases d <;> simp [tkOf] at hk; exact ⟨_, rfl⟩))
    · rename_i n e hk
      exact key h (.inr (by rw [hf.kd] at hk; cases d <;> simp [tkOf] at hk; exact ⟨_, _, rfl⟩))
    · cases h
  · split at h
    · rename_i e hk
      have hd : d = .slice e := by rw [hf.kd] at hk; cases d <;> simp [tkOf] at hk ⊢; exact hk
      subst hd
      simp only [VRel] at hy
      subst hy
      split at h
      · simp only [VRel] at hx; subst hx; cases h
        exact ⟨fun w => by unfold eqGuard; cases op <;> simp, fun w => by rw [equal_step]; simp only [run_eqSliceNil hu]; rfl⟩
      · simp only [VRel] at hx
        obtain ⟨b, c, _, rfl, _, _⟩ := hx
        cases h
        exact ⟨fun w => by unfold eqGuard; cases op <;> simp, fun w => by rw [equal_step]; simp only [run_eqSliceNil hu]; rfl⟩
      · simp only [VRel] at hx
        obtain ⟨a, c, rfl, _, _, hx⟩ := hx
        cases h
        rcases hx with hx | ⟨b, off, rfl, _⟩
        · cases hx
        · exact ⟨fun w => by unfold eqGuard; cases op <;> simp, fun w => by rw [equal_step]; simp only [run_eqSliceNil hu]; rfl⟩
      · simp only [VRel] at hx
        obtain ⟨a, rfl⟩ := hx
        cases h
        exact ⟨fun w => by unfold eqGuard; cases op <;> simp, fun w => by rw [equal_step]; simp only [run_eqSliceNil hu]; rfl⟩
      · simp only [VRel] at hx
        obtain ⟨a, c, rfl⟩ := hx
        cases h
        exact ⟨fun w => by unfold eqGuard; cases op <;> simp, fun w => by rw [equal_step]; simp only [run_eqSliceNil hu]; rfl⟩
      · cases h
    · cases h
  · split at h
    · rename_i e hk
      have hd : d = .pointer e := by rw [hf.kd] at hk; cases d <;> simp [tkOf] at hk ⊢; exact hk
      subst hd
      simp only [VRel] at hy
      subst hy
      split at h
      · simp only [VRel] at hx; subst hx; cases h
        exact ⟨fun w => by unfold eqGuard; cases op <;> simp, fun w => by rw [equal_step]; simp only [run_eqPtrNil hu]; rfl⟩
      · simp only [VRel] at hx
        obtain ⟨b, _, rfl⟩ := hx
        cases h
        exact ⟨fun w => by unfold eqGuard; cases op <;> simp, fun w => by rw [equal_step]; simp only [run_eqPtrNil hu]; rfl⟩
      · simp only [VRel] at hx
        obtain ⟨b, off, rfl, _⟩ := hx
        cases h
        exact ⟨fun w => by unfold eqGuard; cases op <;> simp, fun w => by rw [equal_step]; simp only [run_eqPtrNil hu]; rfl⟩
      · simp only [VRel] at hx
        subst hx
        cases h
        exact ⟨fun w => by unfold eqGuard; cases op <;> simp, fun w => by rw [equal_step]; simp only [run_eqPtrNil hu]; rfl⟩
      · cases h
    · cases h
  · cases h
end
end Go.Am
