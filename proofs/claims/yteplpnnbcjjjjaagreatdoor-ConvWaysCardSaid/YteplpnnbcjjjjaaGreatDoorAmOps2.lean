/- Operations that touch no memory, continued: parts of values, addresses, slices. -/
import Derived.Test.YteplpnnbcjjjjaaGreatDoorAmOps
import Derived.Laws.Tables
namespace Go.Am

/-! ### 10. Types, read back -/
theorem tk_int {d : TypeDesc} {k : IntKind} (h : tkOf d = .int k) : d = .int k := by cases d <;> simp [tkOf] at h ⊢; exact h
theorem tk_bool {d : TypeDesc} (h : tkOf d = .bool) : d = .bool := by cases d <;> simp [tkOf] at h ⊢
theorem tk_str {d : TypeDesc} (h : tkOf d = .str) : d = .string := by cases d <;> simp [tkOf] at h ⊢
theorem tk_ptr {d : TypeDesc} {e : TypeId} (h : tkOf d = .ptr e) : d = .pointer e := by cases d <;> simp [tkOf] at h ⊢; exact h
theorem tk_slice {d : TypeDesc} {e : TypeId} (h : tkOf d = .slice e) : d = .slice e := by cases d <;> simp [tkOf] at h ⊢; exact h
theorem tk_array {d : TypeDesc} {n : Nat} {e : TypeId} (h : tkOf d = .array n e) : d = .array n e := by cases d <;> simp [tkOf] at h ⊢; exact h
theorem tk_map {d : TypeDesc} {k e : TypeId} (h : tkOf d = .map k e) : d = .map k e := by cases d <;> simp [tkOf] at h ⊢; exact h
theorem tk_struct {d : TypeDesc} {fs : List (Nat × TypeId)} (h : tkOf d = .struct fs) : ∃ a, d = .struct a ∧ fs = a.toList.map fun f => (f.offset, f.type) := by
  cases d <;> simp [tkOf] at h ⊢; exact h.symm
theorem fieldAt_some {a : Array Field} {i off : Nat} {t : TypeId} (h : fieldAt (a.toList.map fun f => (f.offset, f.type)) i = some (off, t)) : ∃ f, a[i]? = some f ∧ f.offset = off ∧ f.type = t := by
  unfold fieldAt at h
  rw [List.getElem?_map] at h
  obtain ⟨f, hf, he⟩ := Option.map_eq_some_iff.1 h
  cases he
  exact ⟨f, by simpa using hf, rfl, rfl⟩

section
variable {cfg : Cfg} {s : St}
/-! ### 11. Parts of a value -/
theorem apart_sound (hc : CfgTy cfg) {t : TypeId} {cs : List AV} {xs : List Value} (hl : LRel s cs xs) {off : Nat} {v : AV} (h : apart cfg t cs off = some v) :
    ∃ V, VRel s v V ∧ ∀ w, (part t xs.toArray off).run cfg.P w = .ok V w := by
  unfold apart at h
  split at h
  · rename_i i ht
    obtain ⟨info, d, z, hf⟩ := hc.facts ht
    cases hk : isAggK i.kd with
    | true =>
      rw [hk] at h
      simp only [cond_true] at h
      cases hb : Nat.beq ((cs.drop off).take i.size).length i.size with
      | false => rw [hb] at h; cases h
      | true =>
        rw [hb] at h
        cases h
        refine ⟨.agg ((xs.drop off).take i.size).toArray, ?_, fun w => ?_⟩
        · simp only [VRel]; exact ⟨_, rfl, (hl.drop off).take _⟩
        · unfold part
          simp only [Sem.run_bind, hf.run_isAgg, Result.andThen_ok, hk, if_true, hf.run_sizeOf, Sem.run_pure]
          congr 2
          apply Array.toList_inj.1
          simp [List.extract]
    | false =>
      rw [hk] at h
      simp only [cond_false] at h
      obtain ⟨V, hV, hr⟩ := hl.get off h
      refine ⟨V, hr, fun w => ?_⟩
      unfold part
      simp only [Sem.run_bind, hf.run_isAgg, Result.andThen_ok, hk, Bool.false_eq_true, if_false]
      have : xs.toArray[off]? = some V := by simpa using hV
      rw [this]
      rfl
  · cases h
theorem afield_sound (hc : CfgTy cfg) {t : TypeId} {x : AV} {X : Value} (hx : VRel s x X) {f : Nat} {v : AV} (h : afield cfg t x f = some v) :
    ∃ V, VRel s v V ∧ ∀ w, (Instr.field t X f).run cfg.P w = .ok V w := by
  unfold afield at h
  split at h
  · rename_i i ht
    obtain ⟨info, d, z, hf⟩ := hc.facts ht
    split at h
    · rename_i fs hk
      rw [hf.kd] at hk
      obtain ⟨a, rfl, rfl⟩ := tk_struct hk
      split at h
      · rename_i _ _ off ft cs hfa
        obtain ⟨fd, hfd, rfl, rfl⟩ := fieldAt_some hfa
        simp only [VRel] at hx
        obtain ⟨xs, rfl, hl⟩ := hx
        obtain ⟨V, hV, hr⟩ := apart_sound hc hl h
        refine ⟨V, hV, fun w => ?_⟩
        unfold Instr.field
        simp [hf.run_underlying, hfd, asAgg, hr]
      · cases h
    · cases h
  · cases h
theorem addr_add (b o n : Nat) : (⟨b, o, none⟩ : Addr).add n = ⟨b, o + n, none⟩ := by unfold Addr.add; split <;> simp_all
theorem afieldAddr_sound (hc : CfgTy cfg) {t : TypeId} {x : AV} {X : Value} (hx : VRel s x X) {f : Nat} {v : AV} (h : afieldAddr cfg t x f = some v) :
    ∃ V, VRel s v V ∧ ∀ w, (Instr.fieldAt t X f).run cfg.P w = .ok V w := by
  unfold afieldAddr at h
  split at h
  · rename_i i ht
    obtain ⟨info, d, z, hf⟩ := hc.facts ht
    split at h
    · rename_i fs hk
      rw [hf.kd] at hk
      obtain ⟨a, rfl, rfl⟩ := tk_struct hk
      split at h
      · rename_i off ft hfa
        obtain ⟨fd, hfd, rfl, rfl⟩ := fieldAt_some hfa
        split at h
        · rename_i j hj
          obtain ⟨info', d', z', hf'⟩ := hc.facts hj
          cases h0 : Nat.beq j.size 0 with
          | true => rw [h0] at h; cases h
          | false =>
            rw [h0] at h
            have h0 := beq_false.1 h0
            have step : ∀ b o w, (Instr.fieldAt t (.pointer (some ⟨b, o, none⟩)) f).run cfg.P w = .ok (.pointer (some ⟨b, o + fd.offset, none⟩)) w := fun b o w => by
              unfold Instr.fieldAt
              simp [hf.run_underlying, hfd, Instr.sureAddr, fieldPlace, hf'.run_sizeOf, h0, addr_add]
            simp only [cond_false] at h
            split at h
            · cases h
              simp only [VRel] at hx
              obtain ⟨b, hm, rfl⟩ := hx
              exact ⟨_, by simp only [VRel]; exact ⟨b, hm, rfl⟩, step b _⟩
            · cases h
              simp only [VRel] at hx
              obtain ⟨b, o, rfl, hh, hi⟩ := hx
              exact ⟨_, by simp only [VRel]; exact ⟨b, _, rfl, hfL_drop _ hh, hi.drop _⟩, step b o⟩
            · cases h
              simp only [VRel] at hx
              subst hx
              exact ⟨.pointer (some ⟨_, _, none⟩), by simp only [VRel], step _ _⟩
            · cases h
        · cases h
      · cases h
    · cases h
  · cases h
theorem aindex_sound (hc : CfgTy cfg) {t : TypeId} {x ix : AV} {X IX : Value} (hx : VRel s x X) (hix : VRel s ix IX) {v : AV} (h : aindex cfg t x ix = some v) :
    ∃ V, VRel s v V ∧ ∀ w, (Instr.index t X IX).run cfg.P w = .ok V w := by
  unfold aindex at h
  split at h
  · rename_i i k n ht
    obtain ⟨info, d, z, hf⟩ := hc.facts ht
    simp only [VRel] at hix
    subst hix
    split at h
    · rename_i l hk
      rw [hf.kd] at hk
      cases tk_str hk
      simp only [VRel] at hx
      subst hx
      cases hn : decide (0 ≤ n) with
      | false => rw [hn] at h; cases h
      | true =>
        rw [hn] at h
        have hn := of_decide_eq_true hn
        obtain ⟨b, hb, rfl⟩ := Option.map_eq_some_iff.1 h
        refine ⟨.int .u8 b.toNat, by simp only [VRel], fun w => ?_⟩
        unfold Instr.index
        have hg : (⟨l.toArray⟩ : ByteArray)[n.toNat]? = some b := by
          have hlt : n.toNat < l.length := (List.getElem?_eq_some_iff.1 hb).1
          have : (⟨l.toArray⟩ : ByteArray)[n.toNat]? = l[n.toNat]? := by
            rw [List.getElem?_eq_getElem hlt]
            exact getElem?_pos (⟨l.toArray⟩ : ByteArray) n.toNat hlt
          rw [this, hb]
        simp [asIntOf, hf.run_underlying, hn, hg]
    · rename_i len e cs hk
      rw [hf.kd] at hk
      cases tk_array hk
      simp only [VRel] at hx
      obtain ⟨xs, rfl, hl⟩ := hx
      split at h
      · rename_i j hj
        obtain ⟨info', d', z', hf'⟩ := hc.facts hj
        cases hn : (decide (0 ≤ n) && decide (n < (len : Int))) with
        | false => rw [hn] at h; cases h
        | true =>
          rw [hn] at h
          simp only [Bool.and_eq_true, decide_eq_true_eq] at hn
          obtain ⟨V, hV, hr⟩ := apart_sound hc hl h
          refine ⟨V, hV, fun w => ?_⟩
          unfold Instr.index
          simp [asIntOf, hf.run_underlying, hn, hf'.run_sizeOf, hr]
      · cases h
    · cases h
  · cases h
theorem aindexAddr_sound (hc : CfgTy cfg) {t : TypeId} {x ix : AV} {X IX : Value} (hx : VRel s x X) (hix : VRel s ix IX) {v : AV} (h : aindexAddr cfg t x ix = some v) :
    ∃ V, VRel s v V ∧ ∀ w, (Instr.indexAt t X IX).run cfg.P w = .ok V w := by
  unfold aindexAddr at h
  split at h
  · rename_i i k n ht
    obtain ⟨info, d, z, hf⟩ := hc.facts ht
    simp only [VRel] at hix
    subst hix
    split at h
    · rename_i e hk
      rw [hf.kd] at hk
      cases tk_slice hk
      split at h
      · rename_i j hj
        obtain ⟨info', d', z', hf'⟩ := hc.facts hj
        have step : ∀ (b o len c : Nat) (w : World), 0 ≤ n → n < len → (Instr.indexAt t (.slice (some ⟨b, o, none⟩) len c) (.int k n)).run cfg.P w = .ok (.pointer (some ⟨b, o + n.toNat * j.size, none⟩)) w := fun b o len c w h1 h2 => by
          unfold Instr.indexAt
          simp [asIntOf, hf.run_underlying, h1, h2, hf'.run_sizeOf, addr_add]
        split at h
        · rename_i id off len cap
          cases hn : (decide (0 ≤ n) && decide (n < (len : Int))) with
          | false => rw [hn] at h; cases h
          | true =>
            rw [hn] at h
            simp only [Bool.and_eq_true, decide_eq_true_eq] at hn
            cases h
            simp only [VRel] at hx
            obtain ⟨b, c, hm, rfl, _⟩ := hx
            exact ⟨_, by simp only [VRel]; exact ⟨b, hm, rfl⟩, fun w => step b off len c w hn.1 hn.2⟩
        · rename_i cs len
          cases hn : (decide (0 ≤ n) && decide (n < (len : Int)) && !Nat.beq cs.length 0) with
          | false => rw [hn] at h; cases h
          | true =>
            rw [hn] at h
            simp only [Bool.and_eq_true, decide_eq_true_eq, Bool.not_eq_true'] at hn
            cases h
            simp only [VRel] at hx
            obtain ⟨a, c, rfl, _, hh, hi⟩ := hx
            rcases hi with hi | ⟨b, o, rfl, hi⟩
            · subst hi; exact absurd rfl (beq_false.1 hn.2)
            · exact ⟨_, by simp only [VRel]; exact ⟨b, _, rfl, hfL_drop _ hh, hi.drop _⟩, fun w => step b o len c w hn.1.1 hn.1.2⟩
        · cases h
      · cases h
    · rename_i len e hk
      rw [hf.kd] at hk
      cases tk_array hk
      split at h
      · rename_i j hj
        obtain ⟨info', d', z', hf'⟩ := hc.facts hj
        have step : ∀ (b o : Nat) (w : World), 0 ≤ n → n < len → (Instr.indexAt t (.pointer (some ⟨b, o, none⟩)) (.int k n)).run cfg.P w = .ok (.pointer (some ⟨b, o + n.toNat * j.size, none⟩)) w := fun b o w h1 h2 => by
          unfold Instr.indexAt
          simp [asIntOf, hf.run_underlying, h1, h2, hf'.run_sizeOf, addr_add, Instr.sureAddr]
        split at h
        · rename_i id off
          cases hn : (decide (0 ≤ n) && decide (n < (len : Int))) with
          | false => rw [hn] at h; cases h
          | true =>
            rw [hn] at h
            simp only [Bool.and_eq_true, decide_eq_true_eq] at hn
            cases h
            simp only [VRel] at hx
            obtain ⟨b, hm, rfl⟩ := hx
            exact ⟨_, by simp only [VRel]; exact ⟨b, hm, rfl⟩, fun w => step b off w hn.1 hn.2⟩
        · rename_i cs
          cases hn : (decide (0 ≤ n) && decide (n < (len : Int))) with
          | false => rw [hn] at h; cases h
          | true =>
            rw [hn] at h
            simp only [Bool.and_eq_true, decide_eq_true_eq] at hn
            cases h
            simp only [VRel] at hx
            obtain ⟨b, o, rfl, hh, hi⟩ := hx
            exact ⟨_, by simp only [VRel]; exact ⟨b, _, rfl, hfL_drop _ hh, hi.drop _⟩, fun w => step b o w hn.1 hn.2⟩
        · rename_i g off
          cases hn : (decide (0 ≤ n) && decide (n < (len : Int))) with
          | false => rw [hn] at h; cases h
          | true =>
            rw [hn] at h
            simp only [Bool.and_eq_true, decide_eq_true_eq] at hn
            cases h
            simp only [VRel] at hx
            subst hx
            exact ⟨.pointer (some ⟨g, _, none⟩), by simp only [VRel], fun w => step g off w hn.1 hn.2⟩
        · cases h
      · cases h
    · cases h
  · cases h

/-! ### 12. Small ones -/
theorem aun_sound {op : UnOp} {x : AV} {X : Value} (hx : VRel s x X) {v : AV} (h : aun op x = some v) : ∃ V, VRel s v V ∧ ∀ w, (Op.unary op X).run cfg.P w = .ok V w := by
  unfold aun at h
  split at h
  · simp only [VRel] at hx
    subst hx
    split at h
    · cases h; exact ⟨.int _ _, by simp only [VRel]; rfl, fun w => by simp [Op.unary, Op.intArith, wrapF_eq]⟩
    · cases h
  · simp only [VRel] at hx
    subst hx
    split at h
    · cases h; exact ⟨.bool _, by simp only [VRel]; rfl, fun w => by simp [Op.unary]⟩
    · cases h
  · cases h
theorem alen_sound (hc : CfgTy cfg) {t : TypeId} {x : AV} {X : Value} (hx : VRel s x X) {v : AV} (h : alen cfg t x = some v) (ty : TypeId) (ts : Array TypeId) (hts : ts[0]? = some t) :
    ∃ V, VRel s v V ∧ ∀ w, (Builtin.len_ ts ty #[X]).run cfg.P w = .ok V w := by
  unfold alen at h
  split at h
  · rename_i i ht
    obtain ⟨info, d, z, hf⟩ := hc.facts ht
    split at h
    · rename_i l hk
      rw [hf.kd] at hk; cases tk_str hk
      simp only [VRel] at hx; subst hx; cases h
      exact ⟨.int .i64 l.length, by simp only [VRel], fun w => by unfold Builtin.len_; simp [hts, hf.run_underlying, goInt]; rfl⟩
    · rename_i e id off n cap hk
      rw [hf.kd] at hk; cases tk_slice hk
      simp only [VRel] at hx; obtain ⟨b, c, _, rfl, _⟩ := hx; cases h
      exact ⟨.int .i64 n, by simp only [VRel], fun w => by unfold Builtin.len_; simp [hts, hf.run_underlying, goInt]⟩
    · rename_i e cs n hk
      rw [hf.kd] at hk; cases tk_slice hk
      simp only [VRel] at hx; obtain ⟨a, c, rfl, _⟩ := hx; cases h
      exact ⟨.int .i64 n, by simp only [VRel], fun w => by unfold Builtin.len_; simp [hts, hf.run_underlying, goInt]⟩
    · rename_i e hk
      rw [hf.kd] at hk; cases tk_slice hk
      simp only [VRel] at hx; subst hx; cases h
      exact ⟨.int .i64 0, by simp only [VRel], fun w => by unfold Builtin.len_; simp [hts, hf.run_underlying, goInt]⟩
    · rename_i e hk
      rw [hf.kd] at hk; cases tk_slice hk
      simp only [VRel] at hx; obtain ⟨a, rfl⟩ := hx; cases h
      exact ⟨.int .i64 0, by simp only [VRel], fun w => by unfold Builtin.len_; simp [hts, hf.run_underlying, goInt]⟩
    · rename_i e hk
      rw [hf.kd] at hk; cases tk_slice hk
      simp only [VRel] at hx; obtain ⟨a, c, rfl⟩ := hx; cases h
      exact ⟨.int .i64 0, by simp only [VRel], fun w => by unfold Builtin.len_; simp [hts, hf.run_underlying, goInt]⟩
    · rename_i n e hk
      rw [hf.kd] at hk; cases tk_array hk
      cases h
      exact ⟨.int .i64 n, by simp only [VRel], fun w => by unfold Builtin.len_; simp [hts, hf.run_underlying, goInt]⟩
    · rename_i k e hk
      rw [hf.kd] at hk; cases tk_map hk
      simp only [VRel] at hx; subst hx; cases h
      exact ⟨.int .i64 0, by simp only [VRel], fun w => by unfold Builtin.len_; simp [hts, hf.run_underlying, goInt]⟩
    · cases h
  · cases h
theorem acap_sound (hc : CfgTy cfg) {t : TypeId} {x : AV} {X : Value} (hx : VRel s x X) {v : AV} (h : acap cfg t x = some v) (ty : TypeId) (ts : Array TypeId) (hts : ts[0]? = some t) :
    ∃ V, VRel s v V ∧ ∀ w, (Builtin.cap_ ts ty #[X]).run cfg.P w = .ok V w := by
  unfold acap at h
  split at h
  · rename_i i ht
    obtain ⟨info, d, z, hf⟩ := hc.facts ht
    split at h
    · rename_i e id off n cap hk
      rw [hf.kd] at hk; cases tk_slice hk
      simp only [VRel, CapRel] at hx; obtain ⟨b, c, _, rfl, _, rfl⟩ := hx; cases h
      exact ⟨.int .i64 c, by simp only [VRel], fun w => by unfold Builtin.cap_; simp [hts, hf.run_underlying, goInt]⟩
    · rename_i e hk
      rw [hf.kd] at hk; cases tk_slice hk
      simp only [VRel] at hx; subst hx; cases h
      exact ⟨.int .i64 0, by simp only [VRel], fun w => by unfold Builtin.cap_; simp [hts, hf.run_underlying, goInt]⟩
    · rename_i e hk
      rw [hf.kd] at hk; cases tk_slice hk
      simp only [VRel] at hx; obtain ⟨a, rfl⟩ := hx; cases h
      exact ⟨.int .i64 0, by simp only [VRel], fun w => by unfold Builtin.cap_; simp [hts, hf.run_underlying, goInt]⟩
    · cases h
  · cases h
theorem amaxGo_sound : ∀ (l : List AV) (ls : List Value) (x : AV) (X : Value) (v : AV), LRel s l ls → VRel s x X → amax.go x l = some v → ∃ V, VRel s v V ∧ ∀ w, (ls.foldlM Builtin.max2 X).run cfg.P w = .ok V w
  | [], ls, x, X, v, hl, hx, h => by
    simp only [LRel] at hl; subst hl
    simp only [amax.go] at h; cases h
    exact ⟨X, hx, fun w => rfl⟩
  | y :: l, ls, x, X, v, hl, hx, h => by
    obtain ⟨Y, ms, rfl, hy, hm⟩ := hl.uncons
    unfold amax.go at h
    split at h
    · rename_i e; cases e
    rotate_left
    · cases h
    rename_i k a k' b rest e
    cases e
    simp only [VRel] at hx hy
    subst hx; subst hy
    obtain ⟨V, hV, hr⟩ := amaxGo_sound l ms (.int k (if b > a then b else a)) (.int k (if b > a then b else a)) v hm (by simp only [VRel]) h
    exact ⟨V, hV, fun w => by rw [List.foldlM_cons, Sem.run_bind]; simp only [Builtin.max2, Sem.run_pure, Result.andThen_ok]; exact hr w⟩
theorem aminGo_sound : ∀ (l : List AV) (ls : List Value) (x : AV) (X : Value) (v : AV), LRel s l ls → VRel s x X → amin.go x l = some v → ∃ V, VRel s v V ∧ ∀ w, (ls.foldlM Builtin.min2 X).run cfg.P w = .ok V w
  | [], ls, x, X, v, hl, hx, h => by
    simp only [LRel] at hl; subst hl
    simp only [amin.go] at h; cases h
    exact ⟨X, hx, fun w => rfl⟩
  | y :: l, ls, x, X, v, hl, hx, h => by
    obtain ⟨Y, ms, rfl, hy, hm⟩ := hl.uncons
    unfold amin.go at h
    split at h
    · rename_i e; cases e
    rotate_left
    · cases h
    rename_i k a k' b rest e
    cases e
    simp only [VRel] at hx hy
    subst hx; subst hy
    obtain ⟨V, hV, hr⟩ := aminGo_sound l ms (.int k (if b < a then b else a)) (.int k (if b < a then b else a)) v hm (by simp only [VRel]) h
    exact ⟨V, hV, fun w => by rw [List.foldlM_cons, Sem.run_bind]; simp only [Builtin.min2, Sem.run_pure, Result.andThen_ok]; exact hr w⟩
theorem aconv_sound (hc : CfgTy cfg) {a b : TypeId} {x : AV} {X : Value} (hx : VRel s x X) {v : AV} (h : aconv cfg a b x = some v) : ∃ V, VRel s v V ∧ ∀ w, (convert a b X).run cfg.P w = .ok V w := by
  unfold aconv at h
  split at h
  · rename_i i j k n hi hj
    obtain ⟨info, d, z, hf⟩ := hc.facts hi
    obtain ⟨info', d', z', hf'⟩ := hc.facts hj
    simp only [VRel] at hx
    subst hx
    split at h
    · rename_i k' hk
      rw [hf'.kd] at hk; cases tk_int hk
      cases h
      exact ⟨.int k' (k'.wrap n), by rw [wrapF_eq]; simp only [VRel], fun w => by unfold convert; simp [hf.run_underlying, hf'.run_underlying, Conv.intToInt]⟩
    · cases h
  · rename_i i j l hi hj
    obtain ⟨info, d, z, hf⟩ := hc.facts hi
    obtain ⟨info', d', z', hf'⟩ := hc.facts hj
    simp only [VRel] at hx
    subst hx
    split at h
    · rename_i hk
      rw [hf'.kd] at hk; cases tk_str hk
      cases h
      exact ⟨_, by simp only [VRel]; rfl, fun w => by unfold convert; simp [hf.run_underlying, hf'.run_underlying]⟩
    · cases h
  · cases h
theorem abin_sound (hc : CfgTy cfg) {op : BinOp} {t : TypeId} {x y : AV} {X Y : Value} (hx : VRel s x X) (hy : VRel s y Y) {v : AV} (h : abin cfg op t x y = some v) (ox oy : Operand) :
    ∃ V, VRel s v V ∧ ∀ w, (eqGuard op t ox oy X Y).run cfg.P w = .ok () w ∧ (binOp op t X Y).run cfg.P w = .ok V w := by
  unfold abin at h
  split at h
  · rename_i k a k' b
    simp only [VRel] at hx hy
    subst hx; subst hy
    split at h
    · cases hb : decide (b < 0) with
      | true => rw [hb] at h; cases h
      | false =>
        rw [hb] at h
        have hb := of_decide_eq_false hb
        cases h
        exact ⟨.int k _, by simp only [VRel]; rfl, fun w => ⟨run_eqGuard_int _ _ _ _ _ _ _ _ _ _, by simp [binOp, Op.shift, hb, wrapF_eq]⟩⟩
    · cases hb : decide (b < 0) with
      | true => rw [hb] at h; cases h
      | false =>
        rw [hb] at h
        have hb := of_decide_eq_false hb
        cases h
        exact ⟨.int k _, by simp only [VRel]; rfl, fun w => ⟨run_eqGuard_int _ _ _ _ _ _ _ _ _ _, by simp [binOp, Op.shift, hb]⟩⟩
    · rename_i h1 h2
      cases hk : kEq k k' with
      | false => rw [hk] at h; cases h
      | true =>
        rw [hk] at h
        cases kEq_iff.1 hk
        obtain ⟨V, hV, hr⟩ := abinInt_sound h (fun e => h1 e) (fun e => h2 e) t
        exact ⟨V, hV, fun w => ⟨run_eqGuard_int _ _ _ _ _ _ _ _ _ _, hr w⟩⟩
  · rename_i a b
    simp only [VRel] at hx hy
    subst hx; subst hy
    obtain ⟨V, hV, hr⟩ := abinStr_sound h t
    exact ⟨V, hV, fun w => ⟨run_eqGuard_str _ _ _ _ _ _ _ _, hr w⟩⟩
  · rename_i n1 n2
    have hX : ∀ r i, cfg.ty t = some i → aeq i x y = some r → (binOp .eql t X Y) = (do pure (.bool (← Op.equal t X Y))) ∧ (binOp .neq t X Y) = (do pure (.bool (!(← Op.equal t X Y)))) := by
      intro r i ht h
      unfold aeq at h
      split at h
      · simp only [VRel] at hx hy; subst hx; subst hy; exact ⟨rfl, rfl⟩
      · simp only [VRel] at hx hy; obtain ⟨_, rfl, _⟩ := hx; obtain ⟨_, rfl, _⟩ := hy; exact ⟨rfl, rfl⟩
      · split at h
        · simp only [VRel] at hy; subst hy
          split at h
          · simp only [VRel] at hx; subst hx; exact ⟨rfl, rfl⟩
          · simp only [VRel] at hx; obtain ⟨_, _, _, rfl, _⟩ := hx; exact ⟨rfl, rfl⟩
          · simp only [VRel] at hx; obtain ⟨_, _, rfl, _⟩ := hx; exact ⟨rfl, rfl⟩
          · simp only [VRel] at hx; obtain ⟨_, rfl⟩ := hx; exact ⟨rfl, rfl⟩
          · simp only [VRel] at hx; obtain ⟨_, _, rfl⟩ := hx; exact ⟨rfl, rfl⟩
          · cases h
        · cases h
      · split at h
        · simp only [VRel] at hy; subst hy
          split at h
          · simp only [VRel] at hx; subst hx; exact ⟨rfl, rfl⟩
          · simp only [VRel] at hx; obtain ⟨_, _, rfl⟩ := hx; exact ⟨rfl, rfl⟩
          · simp only [VRel] at hx; obtain ⟨_, _, rfl, _⟩ := hx; exact ⟨rfl, rfl⟩
          · simp only [VRel] at hx; subst hx; exact ⟨rfl, rfl⟩
          · cases h
        · cases h
      · cases h
    split at h
    · split at h
      · rename_i i ht
        obtain ⟨r, hr, rfl⟩ := Option.map_eq_some_iff.1 h
        obtain ⟨g, e⟩ := aeq_sound hc ht hx hy hr ox oy .eql
        exact ⟨.bool r, by simp only [VRel], fun w => ⟨g w, by rw [(hX r i ht hr).1]; simp [e w]⟩⟩
      · cases h
    · split at h
      · rename_i i ht
        obtain ⟨r, hr, rfl⟩ := Option.map_eq_some_iff.1 h
        obtain ⟨g, e⟩ := aeq_sound hc ht hx hy hr ox oy .neq
        exact ⟨.bool (!r), by simp only [VRel], fun w => ⟨g w, by rw [(hX r i ht hr).2]; simp [e w]⟩⟩
      · cases h
    · cases h
end
end Go.Am
