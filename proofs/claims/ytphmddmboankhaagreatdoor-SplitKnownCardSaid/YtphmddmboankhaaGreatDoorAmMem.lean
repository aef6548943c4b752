/- Operations that read memory. -/
import Derived.Test.YtphmddmboankhaaGreatDoorAmOps4
import Derived.Laws.Cells
import Derived.Laws.BytesString
import Derived.MapKept
namespace Go.Am
section
variable {cfg : Cfg} {G : (Nat → Nat → Option Value) → Prop} {N0 : Nat} {s : St} {h : AHeap} {w : World}
/-! ### 15. Cells -/
/-- These values lie there. -/
def CAt (w : World) (b off : Nat) (vs : List Value) : Prop := ∀ j v, vs[j]? = some v → w.cell? ⟨b, off + j, none⟩ = some v
theorem CAt.drop {b off : Nat} {vs : List Value} (hc : CAt w b off vs) (n : Nat) : CAt w b (off + n) (vs.drop n) := fun j v hj => by
  rw [List.getElem?_drop] at hj
  have := hc _ _ hj
  rwa [show off + n + j = off + (n + j) by omega]
theorem CAt.take {b off : Nat} {vs : List Value} (hc : CAt w b off vs) (n : Nat) : CAt w b off (vs.take n) := fun j v hj => by
  rw [List.getElem?_take] at hj
  split at hj
  · exact hc _ _ hj
  · cases hj
theorem IRel.list : ∀ {cs : List AV} {b off : Nat}, IRel s b off cs → ∃ vs, LRel s cs vs ∧ ∀ j v, vs[j]? = some v → s.imm b (off + j) = some v
  | [], _, _, _ => ⟨[], .nil, fun _ _ hj => by simp at hj⟩
  | c :: cs, b, off, hi => by
    simp only [IRel] at hi
    obtain ⟨⟨v, hv, hr⟩, hi⟩ := hi
    obtain ⟨vs, hl, hvs⟩ := IRel.list hi
    refine ⟨v :: vs, .cons hr hl, fun j u hj => ?_⟩
    cases j with
    | zero => cases hj; exact hv
    | succ j => rw [show off + (j + 1) = off + 1 + j by omega]; exact hvs j u (by simpa using hj)
/-- A row at rest lies in the world. -/
theorem IRel.at (hi : Inv cfg G N0 s h w) {cs : List AV} {b off : Nat} (hr : IRel s b off cs) : ∃ vs, LRel s cs vs ∧ CAt w b off vs := by
  obtain ⟨vs, hl, hvs⟩ := hr.list
  exact ⟨vs, hl, fun j v hj => hi.imm _ _ _ (hvs j v hj)⟩
/-- An object of cells lies in the world. -/
theorem Inv.cells (hi : Inv cfg G N0 s h w) {id : Nat} {cs : List AV} {e : TypeId} (hg : h.get id = some (.cells cs e)) {b : Nat} (hm : s.mem id = some b) : ∃ vs, LRel s cs vs ∧ CAt w b 0 vs := by
  obtain ⟨b', hm', _, vs, rest, e', fz, i, hb, hl, _⟩ := hi.obj id _ hg
  rw [hm] at hm'
  cases hm'
  refine ⟨vs, hl, fun j v hj => ?_⟩
  unfold World.cell?
  simp only [hb, Nat.zero_add, Option.isSome_none, Bool.false_eq_true, if_false]
  have hlt := (List.getElem?_eq_some_iff.1 hj).1
  simp only [List.getElem?_toArray]
  rw [List.getElem?_append_left hlt]
  exact hj
theorem run_loadAt {P : Program} {b off : Nat} {vs : List Value} (hc : CAt w b off vs) : (loadCells ⟨b, off, none⟩ vs.length).run P w = .ok vs.toArray w :=
  run_loadCells_list w _ vs fun j v hj => by rw [addr_add]; exact hc j v hj
theorem load_sound (hc : CfgTy cfg) {t : TypeId} {cs : List AV} {vs : List Value} (hl : LRel s cs vs) {b o : Nat} (hat : CAt w b o vs) {off : Nat} {v : AV} (hv : apart cfg t cs off = some v) :
    ∃ V, VRel s v V ∧ (loadVar t ⟨b, o + off, none⟩).run cfg.P w = .ok V w := by
  unfold apart at hv
  split at hv
  · rename_i i ht
    obtain ⟨info, d, z, hf⟩ := hc.facts ht
    cases hk : isAggK i.kd with
    | true =>
      rw [hk] at hv
      simp only [cond_true] at hv
      cases hb : Nat.beq ((cs.drop off).take i.size).length i.size with
      | false => rw [hb] at hv; cases hv
      | true =>
        rw [hb] at hv
        cases hv
        have hr := (hl.drop off).take i.size
        refine ⟨.agg ((vs.drop off).take i.size).toArray, ?_, ?_⟩
        · simp only [VRel]; exact ⟨_, rfl, hr⟩
        · have hlen : ((vs.drop off).take i.size).length = i.size := by rw [hr.length]; exact beq_true.1 hb
          unfold loadVar
          simp only [Sem.run_bind, hf.run_isAgg, Result.andThen_ok, hk, if_true, hf.run_sizeOf]
          have := run_loadAt (P := cfg.P) ((hat.drop off).take i.size)
          rw [hlen] at this
          rw [this]
          rfl
    | false =>
      rw [hk] at hv
      simp only [cond_false] at hv
      obtain ⟨V, hV, hr⟩ := hl.get off hv
      refine ⟨V, hr, ?_⟩
      unfold loadVar
      simp only [Sem.run_bind, hf.run_isAgg, Result.andThen_ok, hk, Bool.false_eq_true, if_false, run_load, hat _ _ hV]
  · cases hv
theorem aload_sound (hc : CfgTy cfg) (hi : Inv cfg G N0 s h w) {t : TypeId} {a : AV} {A : Value} (ha : VRel s a A) {v : AV} (hv : aload cfg t a h = some v) :
    ∃ V, VRel s v V ∧ (Instr.loadAt t A).run cfg.P w = .ok V w := by
  unfold aload at hv
  split at hv
  · rename_i id off
    split at hv
    · rename_i cs e hg
      simp only [VRel] at ha
      obtain ⟨b, hm, rfl⟩ := ha
      obtain ⟨vs, hl, hat⟩ := hi.cells hg hm
      obtain ⟨V, hV, hr⟩ := load_sound hc hl hat hv
      refine ⟨V, hV, ?_⟩
      unfold Instr.loadAt Instr.sureAddr
      simp only [Sem.run_bind, Sem.run_pure, Result.andThen_ok]
      rw [Nat.zero_add] at hr
      exact hr
    · cases hv
  · rename_i cs
    simp only [VRel] at ha
    obtain ⟨b, o, rfl, hh, hr⟩ := ha
    obtain ⟨vs, hl, hat⟩ := hr.at hi
    obtain ⟨V, hV, hr⟩ := load_sound hc hl hat hv
    refine ⟨V, hV, ?_⟩
    unfold Instr.loadAt Instr.sureAddr
    simp only [Sem.run_bind, Sem.run_pure, Result.andThen_ok]
    exact hr
  · rename_i g off
    split at hv
    · rename_i cs hg
      simp only [VRel] at ha
      subst ha
      obtain ⟨hh, hr0⟩ := hi.glob.2 g cs hg
      have hr : IRel s g 0 cs := IRel.free (s := ⟨fun _ => none, fun _ => none, s.imm⟩) (s' := s) (fun _ _ _ h => h) g 0 cs hh hr0
      obtain ⟨vs, hl, hat⟩ := hr.at hi
      obtain ⟨V, hV, hr⟩ := load_sound hc hl hat hv
      refine ⟨V, hV, ?_⟩
      unfold Instr.loadAt Instr.sureAddr
      simp only [Sem.run_bind, Sem.run_pure, Result.andThen_ok]
      rw [Nat.zero_add] at hr
      exact hr
    · cases hv
  · cases hv

/-! ### 16. Maps -/
/-- A key's kind and value. -/
inductive KeyOf (P : Program) (t : TypeId) : List Nat → AV → Value → Prop where
  | str (l : List UInt8) (h : P.underlying t = some .string) : KeyOf P t [2] (.str l) (.string ⟨l.toArray⟩)
  | int (k q : IntKind) (n : Int) (h : P.underlying t = some (.int q)) : KeyOf P t [1] (.int k n) (.int k n)
  | arr (ks : List Nat) (n : Nat) (e : TypeId) (q : IntKind) (zs : List (IntKind × Int)) (h : P.underlying t = some (.array n e)) (he : P.underlying e = some (.int q)) (hce : P.cellsOf e = 1) (hk : flatKs P 6 t = some ks) (hl : zs.length = ks.length) (hn : zs.length = n) :
    KeyOf P t ks (.agg (zs.map fun p => .int p.1 p.2)) (.agg (zs.map fun p => Value.int p.1 p.2).toArray)
theorem isInt_list : ∀ {cs : List AV}, cs.all isIntAV = true → ∃ zs : List (IntKind × Int), cs = zs.map fun p => .int p.1 p.2
  | [], _ => ⟨[], rfl⟩
  | c :: cs, h => by
    simp only [List.all_cons, Bool.and_eq_true] at h
    obtain ⟨zs, rfl⟩ := isInt_list h.2
    cases c with
    | int k n => exact ⟨(k, n) :: zs, rfl⟩
    | _ => cases h.1
theorem ints_rel {s : St} : ∀ {zs : List (IntKind × Int)} {X : List Value}, LRel s (zs.map fun p => .int p.1 p.2) X → X = zs.map fun p => Value.int p.1 p.2
  | [], _, h => by simpa only [List.map_nil, LRel] using h
  | p :: zs, _, h => by
    obtain ⟨v, ws, rfl, hv, h'⟩ := LRel.uncons h
    simp only [VRel] at hv
    rw [hv, ints_rel h']; rfl
theorem keyKs_sound (hc : CfgTy cfg) {t : TypeId} {k : AV} {K : Value} (hk : VRel s k K) {ks : List Nat} (hks : keyKs cfg t k = some ks) : KeyOf cfg.P t ks k K := by
  unfold keyKs at hks
  split at hks
  · rename_i i ht
    obtain ⟨info, d, z, hf⟩ := hc.facts ht
    split at hks
    · rename_i l hkd
      rw [hf.kd] at hkd; cases tk_str hkd
      simp only [VRel] at hk; subst hk
      cases hks
      exact .str l hf.desc
    · rename_i q k n hkd
      rw [hf.kd] at hkd; cases tk_int hkd
      simp only [VRel] at hk; subst hk
      cases hks
      exact .int k q n hf.desc
    · rename_i n e cs hkd
      rw [hf.kd] at hkd; cases tk_array hkd
      split at hks
      · rename_i j ks' hj hev
        obtain ⟨info', d', z', hf'⟩ := hc.facts hj
        split at hks
        · rename_i q hq
          rw [hf'.kd] at hq; cases tk_int hq
          cases hb : (Nat.beq j.size 1 && Nat.beq cs.length ks'.length && Nat.beq cs.length n && cs.all isIntAV) with
          | false => rw [hb] at hks; cases hks
          | true =>
            rw [hb] at hks
            cases hks
            simp only [Bool.and_eq_true, beq_true] at hb
            obtain ⟨zs, rfl⟩ := isInt_list hb.2
            simp only [VRel] at hk
            obtain ⟨X, rfl, hX⟩ := hk
            rw [ints_rel hX]
            rw [List.length_map] at hb
            refine .arr ks n e q zs hf.desc hf'.desc ?_ ?_ hb.1.1.2 hb.1.2
            · rw [← hb.1.1.1, hf'.hsize]; simp [Program.cellsOf, hf'.hinfo]
            · rw [hf.eqv] at hev
              cases hg : cfg.P.eqGuardType cfg.P.depth t with
              | true => rw [hg] at hev; cases hev
              | false => rw [hg] at hev; exact hev
        · cases hks
      · cases hks
    · cases hks
  · cases hks
theorem keyEq_one {k : Nat} {x y : AV} {r : Bool} (hr : keyEq [k] x y = some r) (hx : ∀ a, x ≠ .agg a) : eqK k x y = some r := by
  unfold keyEq at hr
  split at hr
  · exact absurd rfl (hx _)
  · exact absurd rfl (hx _)
  · cases hr
  · obtain ⟨a, b, h1, h2, h3⟩ := eqCells_one hr rfl rfl
    cases h1; cases h2
    exact h3
theorem bytes_eq_iff (a b : List UInt8) : ((⟨a.toArray⟩ : ByteArray) == ⟨b.toArray⟩) = (a == b) := by
  rw [beq_toListBytes, Lib.toList_data, Lib.toList_data]
theorem eqCells_true {s : St} : ∀ {ks : List Nat} {xs ys : List AV} {X Y : List Value}, eqCells ks xs ys = some true → LRel s xs X → LRel s ys Y → X = Y
  | [], xs, ys, X, Y, h, hx, hy => by
    cases xs <;> cases ys <;> simp [eqCells] at h
    simp only [LRel] at hx hy
    rw [hx, hy]
  | k :: ks, [], ys, _, _, h, _, _ => by cases ys <;> simp [eqCells] at h
  | k :: ks, x :: xs, [], _, _, h, _, _ => by simp [eqCells] at h
  | k :: ks, x :: xs, y :: ys, _, _, h, hx, hy => by
    obtain ⟨V, Vs, rfl, hv, hx'⟩ := LRel.uncons hx
    obtain ⟨U, Us, rfl, hu, hy'⟩ := LRel.uncons hy
    unfold eqCells at h
    split at h
    · rename_i e
      rw [eqCells_true h hx' hy']
      congr 1
      unfold eqK at e
      split at e
      · simp only [VRel] at hv hu
        rw [hv, hu]
        simp only [Option.some.injEq, beq_iff_eq] at e
        rw [e]
      · rename_i j a k' b
        simp only [VRel] at hv hu
        rw [hv, hu]
        cases hk : kEq j k' with
        | false => rw [hk] at e; cases e
        | true =>
          rw [hk] at e
          simp only [cond_true, Option.some.injEq, decide_eq_true_eq] at e
          rw [kEq_iff.1 hk, e]
      · simp only [VRel] at hv hu
        rw [hv, hu]
        simp only [Option.some.injEq, eqBytes_iff, beq_iff_eq] at e
        rw [e]
      · cases e
    · cases h
    · cases h
theorem eq_arr {P : Program} {t : TypeId} {ks : List Nat} (hk : flatKs P 6 t = some ks) {n : Nat} {e : TypeId} (hu : P.underlying t = some (.array n e)) {xs ys : List AV} {X Y : List Value} (hx : LRel s xs X) (hy : LRel s ys Y) (hl : xs.length = ks.length) {r : Bool} (hr : eqCells ks xs ys = some r) (hyl : ys.length = ks.length) (w : World) :
    (Op.equal t (.agg X.toArray) (.agg Y.toArray)).run P w = .ok r w := by
  have hagg : ∀ Z : List Value, asV P t Z = .agg Z.toArray := fun Z => by unfold asV; rw [hu]
  have := eqOk P s 6 t ks hk 9994 xs ys X Y r w hx hy hl hyl hr
  rw [hagg, hagg] at this
  exact this
/-- One key against another. -/
theorem KeyOf.eq {t : TypeId} {ks : List Nat} {k : AV} {K : Value} (hk : KeyOf cfg.P t ks k K) {q : AV} {Q : Value} (hq : VRel s q Q) {r : Bool} (hr : keyEq ks k q = some r) (hna : ∀ a, k ≠ .agg a) :
    (∃ d, cfg.P.underlying t = some d ∧ Instr.sameNow d K Q = some r) ∧ (r = true → Q = K) := by
  cases hk with
  | str l hu =>
    obtain ⟨x, y, hx, rfl, rfl⟩ := eqK_str (keyEq_one hr hna)
    cases hx
    simp only [VRel] at hq
    subst hq
    refine ⟨⟨_, hu, by simp only [Instr.sameNow, bytes_eq_iff]⟩, fun e => ?_⟩
    rw [beq_iff_eq.1 e]
  | int k' q' n hu =>
    obtain ⟨j, x, y, hx, rfl, rfl⟩ := eqK_int (keyEq_one hr hna)
    cases hx
    simp only [VRel] at hq
    subst hq
    refine ⟨⟨_, hu, by simp only [Instr.sameNow, if_true, beq_int]⟩, fun e => ?_⟩
    rw [of_decide_eq_true e]
  | arr => exact absurd rfl (hna _)
/-- What is found of a key. -/
def FoundRel (s : St) (K : Value) (ents : List MapEntry) (at_ : Nat) : Option (Nat × AV) → Option (Nat × Value) → Prop
  | none, r => r = none
  | some p, r => ∃ V e, r = some (p.1, V) ∧ VRel s p.2 V ∧ at_ ≤ p.1 ∧ ents[p.1 - at_]? = some e ∧ e.key = K
theorem FoundRel.next {K : Value} {e : MapEntry} {m : List MapEntry} {at_ : Nat} {r : Option (Nat × AV)} {R : Option (Nat × Value)} (h : FoundRel s K m (at_ + 1) r R) : FoundRel s K (e :: m) at_ r R := by
  cases r with
  | none => exact h
  | some p =>
    obtain ⟨V, e', h1, h2, h3, h4, h5⟩ := h
    refine ⟨V, e', h1, h2, by omega, ?_, h5⟩
    rw [show p.1 - at_ = (p.1 - (at_ + 1)) + 1 by omega]
    simpa using h4
theorem findE_sound {t : TypeId} {ks : List Nat} {k : AV} {K : Value} (hk : KeyOf cfg.P t ks k K) (hna : ∀ a, k ≠ .agg a) {d : TypeDesc} (hd : cfg.P.underlying t = some d) : ∀ (es : List (AV × AV)) (ents : List MapEntry) (at_ : Nat) (r : Option (Nat × AV)), MRel s es ents → findE ks k es at_ = some r →
    ∃ R, Instr.findNow d K ents at_ = some R ∧ FoundRel s K ents at_ r R
  | [], ents, at_, r, hm, hr => by
    simp only [MRel] at hm; subst hm
    simp only [findE] at hr; cases hr
    exact ⟨none, rfl, rfl⟩
  | p :: es, ents, at_, r, hm, hr => by
    simp only [MRel] at hm
    obtain ⟨e, m, rfl, hke, hf, hve, hm⟩ := hm
    unfold findE at hr
    split at hr
    · rename_i hq
      cases hr
      obtain ⟨⟨d', hd', hs⟩, heq⟩ := hk.eq hke hq hna
      rw [hd] at hd'; cases hd'
      exact ⟨some (at_, e.val), by simp only [Instr.findNow, hs], ⟨e.val, e, rfl, hve, Nat.le_refl _, by simp, heq rfl⟩⟩
    · rename_i hq
      obtain ⟨⟨d', hd', hs⟩, _⟩ := hk.eq hke hq hna
      rw [hd] at hd'; cases hd'
      obtain ⟨R, hR, hrel⟩ := findE_sound hk hna hd es m (at_ + 1) r hm hr
      exact ⟨R, by simp only [Instr.findNow, hs, hR], hrel.next⟩
    · cases hr
theorem keyEq_agg {ks : List Nat} {a : List AV} {q : AV} {r : Bool} (hr : keyEq ks (.agg a) q = some r) : ∃ b, q = .agg b ∧ eqCells ks a b = some r ∧ b.length = ks.length := by
  cases q with
  | agg b =>
    simp only [keyEq] at hr
    cases hb : Nat.beq b.length ks.length with
    | false => rw [hb] at hr; cases hr
    | true => rw [hb] at hr; exact ⟨b, rfl, hr, beq_true.1 hb⟩
  | _ => simp [keyEq] at hr
theorem findAsk_sound {t : TypeId} {ks : List Nat} {n : Nat} {e : TypeId} (hu : cfg.P.underlying t = some (.array n e)) (hk : flatKs cfg.P 6 t = some ks) {xs : List AV} {X : List Value} (hx : LRel s xs X) (hl : xs.length = ks.length) : ∀ (es : List (AV × AV)) (ents : List MapEntry) (at_ : Nat) (r : Option (Nat × AV)), MRel s es ents → findE ks (.agg xs) es at_ = some r →
    ∃ R, (∀ w, (Instr.findAsking t (.agg X.toArray) ents at_).run cfg.P w = .ok R w) ∧ FoundRel s (.agg X.toArray) ents at_ r R
  | [], ents, at_, r, hm, hr => by
    simp only [MRel] at hm; subst hm
    simp only [findE] at hr; cases hr
    exact ⟨none, fun w => by simp [Instr.findAsking], rfl⟩
  | p :: es, ents, at_, r, hm, hr => by
    simp only [MRel] at hm
    obtain ⟨e, m, rfl, hke, hf, hve, hm⟩ := hm
    unfold findE at hr
    split at hr
    · rename_i hq
      cases hr
      obtain ⟨b, hpb, hq, hbl⟩ := keyEq_agg hq
      rw [hpb] at hke
      simp only [VRel] at hke
      obtain ⟨Y, hY, hy⟩ := hke
      have hrun := fun w => eq_arr hk hu hx hy hl hq hbl w
      rw [← hY] at hrun
      exact ⟨some (at_, e.val), fun w => by simp only [Instr.findAsking, Sem.run_bind, hrun, Result.andThen_ok, if_true, Sem.run_pure], ⟨e.val, e, rfl, hve, Nat.le_refl _, by simp, by rw [hY, eqCells_true hq hx hy]⟩⟩
    · rename_i hq
      obtain ⟨b, hpb, hq, hbl⟩ := keyEq_agg hq
      rw [hpb] at hke
      simp only [VRel] at hke
      obtain ⟨Y, hY, hy⟩ := hke
      have hrun := fun w => eq_arr hk hu hx hy hl hq hbl w
      rw [← hY] at hrun
      obtain ⟨R, hR, hrel⟩ := findAsk_sound hu hk hx hl es m (at_ + 1) r hm hr
      exact ⟨R, fun w => by simp only [Instr.findAsking, Sem.run_bind, hrun, Result.andThen_ok, Bool.false_eq_true, if_false, hR], hrel.next⟩
    · cases hr
theorem KeyOf.desc {t : TypeId} {ks : List Nat} {k : AV} {K : Value} (hk : KeyOf cfg.P t ks k K) : ∃ d, cfg.P.underlying t = some d := by cases hk <;> exact ⟨_, by assumption⟩
theorem run_findKeyOf {t : TypeId} {ks : List Nat} {k : AV} {K : Value} (hk : KeyOf cfg.P t ks k K) {es : List (AV × AV)} {ents : List MapEntry} (hm : MRel s es ents) {r : Option (Nat × AV)} (hr : findE ks k es 0 = some r) :
    ∃ R, (∀ w, (Instr.findKey t K ents).run cfg.P w = .ok R w) ∧ FoundRel s K ents 0 r R := by
  have now : (∀ a, k ≠ .agg a) → ∃ R, (∀ w, (Instr.findKey t K ents).run cfg.P w = .ok R w) ∧ FoundRel s K ents 0 r R := by
    intro hna
    obtain ⟨d, hd⟩ := hk.desc
    obtain ⟨R, hR, hrel⟩ := findE_sound hk hna hd es ents 0 r hm hr
    exact ⟨R, fun w => by unfold Instr.findKey; simp only [Sem.run_bind, Go.run_underlying hd, Result.andThen_ok, hR, Sem.run_pure], hrel⟩
  cases hk with
  | str l h => exact now fun a h => by cases h
  | int k q n h => exact now fun a h => by cases h
  | arr ks n e q zs hu he hce hf hl hn =>
    have hx : LRel s (zs.map fun p => AV.int p.1 p.2) (zs.map fun p => Value.int p.1 p.2) := by
      clear hl hn hr now
      induction zs with
      | nil => exact .nil
      | cons p zs ih => exact .cons (by simp only [VRel]) ih
    obtain ⟨R, hR, hrel⟩ := findAsk_sound hu hf hx (by rw [List.length_map]; exact hl) es ents 0 r hm hr
    cases ents with
    | nil =>
      refine ⟨R, fun w => ?_, hrel⟩
      have := hR w
      simp only [Instr.findAsking, Sem.run_pure] at this
      cases this
      unfold Instr.findKey
      simp only [Sem.run_bind, Go.run_underlying hu, Result.andThen_ok, Instr.findNow, Sem.run_pure]
    | cons e m =>
      refine ⟨R, fun w => ?_, hrel⟩
      unfold Instr.findKey
      simp only [Sem.run_bind, Go.run_underlying hu, Result.andThen_ok, Instr.findNow, Instr.sameNow, hR]
theorem run_checkKeyOf {t : TypeId} {ks : List Nat} {k : AV} {K : Value} (hk : KeyOf cfg.P t ks k K) (em : Bool) (n : Nat) (w : World) : (Instr.checkKey em (n + 2) t K).run cfg.P w = .ok () w := by
  unfold Instr.checkKey
  cases hk with
  | str l hu => simp only [Sem.run_bind, Go.run_underlying hu, Result.andThen_ok, Sem.run_pure]
  | int k' q' n hu => simp only [Sem.run_bind, Go.run_underlying hu, Result.andThen_ok, Sem.run_pure]
  | arr ks len e q zs hu he hce hf hl hn =>
    obtain ⟨i, hi⟩ := info_of_underlying he
    have hsz : ∀ w, (sizeOf e).run cfg.P w = .ok 1 w := fun w => by rw [run_sizeOf w hi, hce]
    have hagg : ∀ w, (isAgg e).run cfg.P w = .ok false w := fun w => by
      unfold isAgg; simp only [Sem.run_bind, Go.run_underlying he, Result.andThen_ok, Sem.run_pure]
    simp only [Sem.run_bind, Go.run_underlying hu, Result.andThen_ok]
    simp only [Std.Legacy.Range.forIn_eq_forIn_range', Std.Legacy.Range.size, Nat.sub_zero, Nat.add_one_sub_one, Nat.div_one]
    have each : ∀ j ∈ List.range' 0 len, j < zs.length := fun j hj => by simp at hj; omega
    generalize List.range' 0 len = is at each
    induction is with
    | nil => simp
    | cons j is ih =>
      have hj := each j (by simp)
      have hp : (part e (zs.map fun p => Value.int p.1 p.2).toArray (j * 1)).run cfg.P w = .ok (.int (zs[j]).1 (zs[j]).2) w := by
        unfold part
        simp only [Sem.run_bind, hagg, Result.andThen_ok, Bool.false_eq_true, if_false]
        simp [hj]
      have hck : (Instr.checkKey em (n + 1) e (.int (zs[j]).1 (zs[j]).2)).run cfg.P w = .ok () w := by
        unfold Instr.checkKey
        simp only [Sem.run_bind, Go.run_underlying he, Result.andThen_ok, Sem.run_pure]
      simp only [List.forIn_cons, Sem.run_bind, hsz, Result.andThen_ok, hp, hck, Sem.run_pure]
      exact ih (fun y hy => each y (by simp [hy]))
theorem Inv.mapAt (hi : Inv cfg G N0 s h w) {id : Nat} {es : List (AV × AV)} (hg : h.get id = some (.map es)) {b : Nat} (hm : s.mem id = some b) : ∃ ents clock, w.heap[b]? = some (.map ents clock) ∧ MRel s es ents.toList := by
  obtain ⟨b', hm', _, ents, clock, hb, hr⟩ := hi.obj id _ hg
  rw [hm] at hm'
  cases hm'
  exact ⟨ents, clock, hb, hr⟩
theorem MRel.length : ∀ {l : List (AV × AV)} {es : List MapEntry}, MRel s l es → es.length = l.length
  | [], _, hm => by simp only [MRel] at hm; subst hm; rfl
  | _ :: _, _, ⟨e, m, h1, _, _, _, h4⟩ => by subst h1; simp [MRel.length h4]
theorem alookup_sound (hc : CfgTy cfg) (hi : Inv cfg G N0 s h w) {t : TypeId} {x k : AV} {X K : Value} (hx : VRel s x X) (hk : VRel s k K) {ok : Bool} {v : AV} (hv : alookup cfg t x k ok h = some v) :
    ∃ V, VRel s v V ∧ (Instr.lookup t X K ok).run cfg.P w = .ok V w := by
  unfold alookup at hv
  split at hv
  · rename_i i ht
    obtain ⟨info, d, z, hf⟩ := hc.facts ht
    split at hv
    · rename_i kt et hkd
      rw [hf.kd] at hkd; cases tk_map hkd
      split at hv
      · rename_i j hj
        obtain ⟨info', d', z', hf'⟩ := hc.facts hj
        split at hv
        · rename_i ks hks
          have hko := keyKs_sound hc hk hks
          have hzero : VRel s j.zero z' := absV_rel s hf'.zabs
          have fin : ∀ (a : AV) (A : Value) (b : Bool), VRel s a A → VRel s (bif ok then .tuple [a, .bool b] else a) (if ok then .tuple #[A, .bool b] else A) := by
            intro a A b ha
            cases ok with
            | true => simp only [VRel, cond_true, if_true]; exact ⟨[A, .bool b], rfl, .cons ha (.cons (by simp only [VRel]) .nil)⟩
            | false => simpa using ha
          split at hv
          · rename_i id
            simp only [VRel] at hx
            obtain ⟨b, hm, rfl⟩ := hx
            split at hv
            · rename_i es hg
              obtain ⟨ents, clock, hb, hmr⟩ := hi.mapAt hg hm
              have start : ∀ f : Bool × Value → Value, True := fun _ => trivial
              have hrun : ∀ R, (∀ w, (Instr.findKey kt K ents.toList).run cfg.P w = .ok R w) → (Instr.lookup t (.map (some b)) K ok).run cfg.P w = .ok (match R with | some (_, V) => (if ok then .tuple #[V, .bool true] else V) | none => (if ok then .tuple #[z', .bool false] else z')) w := by
                intro R hR
                unfold Instr.lookup
                simp only [Sem.run_bind, hf.run_underlying, Result.andThen_ok, MapKept.run_getObj_map hb, Sem.run_pure, run_checkKeyOf hko _ 9998, hR]
                cases R with
                | none => simp [hf'.run_zeroValue]
                | some p => simp
              split at hv
              · rename_i jj u hfd
                obtain ⟨R, hR, hrel⟩ := run_findKeyOf hko hmr hfd
                obtain ⟨V, e, rfl, hV, _⟩ := hrel
                cases hv
                exact ⟨_, fin _ _ true hV, hrun _ hR⟩
              · rename_i hfd
                obtain ⟨R, hR, hrel⟩ := run_findKeyOf hko hmr hfd
                simp only [FoundRel] at hrel
                subst hrel
                cases hv
                exact ⟨_, fin _ _ false hzero, hrun _ hR⟩
              · cases hv
            · cases hv
          · simp only [VRel] at hx
            subst hx
            cases hv
            refine ⟨_, fin _ _ false hzero, ?_⟩
            obtain ⟨dd, hdd⟩ := hko.desc
            have hR : ∀ w, (Instr.findKey kt K []).run cfg.P w = .ok none w := fun w => by
              unfold Instr.findKey
              simp only [Sem.run_bind, Go.run_underlying hdd, Result.andThen_ok, Instr.findNow, Sem.run_pure]
            unfold Instr.lookup
            simp only [Sem.run_bind, hf.run_underlying, Result.andThen_ok, Sem.run_pure, run_checkKeyOf hko _ 9998, hR, hf'.run_zeroValue]
          · cases hv
        · cases hv
      · cases hv
    · cases hv
  · cases hv
theorem amapLen_sound (hc : CfgTy cfg) (hi : Inv cfg G N0 s h w) {t : TypeId} {x : AV} {X : Value} (hx : VRel s x X) {v : AV} (hv : amapLen cfg t x h = some v) (ty : TypeId) (ts : Array TypeId) (hts : ts[0]? = some t) :
    ∃ V, VRel s v V ∧ (Builtin.len_ ts ty #[X]).run cfg.P w = .ok V w := by
  unfold amapLen at hv
  split at hv
  · rename_i i ht
    obtain ⟨info, d, z, hf⟩ := hc.facts ht
    split at hv
    · rename_i k e id hkd
      rw [hf.kd] at hkd; cases tk_map hkd
      split at hv
      · rename_i es hg
        simp only [VRel] at hx
        obtain ⟨b, hm, rfl⟩ := hx
        obtain ⟨ents, clock, hb, hmr⟩ := hi.mapAt hg hm
        cases hv
        refine ⟨.int .i64 es.length, by simp only [VRel], ?_⟩
        have hl := hmr.length
        simp only [Array.length_toList] at hl
        unfold Builtin.len_
        simp [hts, hf.run_underlying, goInt, MapKept.run_getObj_map hb, hl]
      · cases hv
    · cases hv
  · cases hv

/-! ### 17. Rows of bytes -/
theorem bytesOf_rel : ∀ {cs : List AV} {l : List UInt8} {vs : List Value}, bytesOf cs = some l → LRel s cs vs → vs = l.map fun b => .int .u8 b.toNat
  | [], _, _, hb, hl => by cases hb; simp only [LRel] at hl; subst hl; rfl
  | c :: cs, _, _, hb, hl => by
    obtain ⟨v, vs, rfl, hv, hl'⟩ := hl.uncons
    unfold bytesOf at hb
    split at hb
    · rename_i e; cases e
    · rename_i n l e
      cases e
      split at hb
      · rename_i m hm
        cases hn : (decide (0 ≤ n) && decide (n < 256)) with
        | false => rw [hn] at hb; cases hb
        | true =>
          rw [hn] at hb
          cases hb
          simp only [Bool.and_eq_true, decide_eq_true_eq] at hn
          simp only [VRel] at hv
          subst hv
          rw [bytesOf_rel hm hl']
          simp only [List.map_cons]
          congr 2
          simp
          omega
      · cases hb
    · cases hb
theorem rowCells_rel (hi : Inv cfg G N0 s h w) {sz : Nat} {x : AV} {X : Value} (hx : VRel s x X) {cs : List AV} (hr : rowCells sz x h = some cs) :
    ∃ a len cap vs, X = .slice a len cap ∧ len ≤ cap ∧ LRel s cs vs ∧ vs.length = len * sz ∧ (∀ a', a = some a' → (loadCells a' (len * sz)).run cfg.P w = .ok vs.toArray w) ∧ (a = none → vs = []) := by
  unfold rowCells at hr
  split at hr
  · cases hr
    simp only [VRel] at hx
    subst hx
    exact ⟨none, 0, 0, [], rfl, Nat.le_refl _, .nil, by simp, fun a' e => (by cases e), fun _ => rfl⟩
  · cases hr
    simp only [VRel] at hx
    obtain ⟨a, rfl⟩ := hx
    exact ⟨some a, 0, 0, [], rfl, Nat.le_refl _, .nil, by simp, fun a' e => (by simp [loadCells, loadCellsFrom]), fun _ => rfl⟩
  · cases hr
    simp only [VRel] at hx
    obtain ⟨a, c, rfl⟩ := hx
    exact ⟨some a, 0, c, [], rfl, Nat.zero_le _, .nil, by simp, fun a' e => (by simp [loadCells, loadCellsFrom]), fun _ => rfl⟩
  · rename_i cs' len
    cases hb : Nat.beq cs'.length (len * sz) with
    | false => rw [hb] at hr; cases hr
    | true =>
      rw [hb] at hr
      cases hr
      have hb := beq_true.1 hb
      simp only [VRel] at hx
      obtain ⟨a, c, rfl, hlc, hf, hh⟩ := hx
      rcases hh with rfl | ⟨b, off, rfl, hir⟩
      · refine ⟨a, len, c, [], rfl, hlc, .nil, by simpa using hb, fun a' e => ?_, fun e => rfl⟩
        · have : len * sz = 0 := by simpa using hb.symm
          rw [this]
          rfl
      · obtain ⟨vs, hl, hat⟩ := hir.at hi
        have hlen := hl.length
        refine ⟨some ⟨b, off, none⟩, len, c, vs, rfl, hlc, hl, by omega, fun a' e => ?_, fun e => (by cases e)⟩
        cases e
        have := run_loadAt (P := cfg.P) hat
        rwa [hlen, hb] at this
  · rename_i id off len cap
    split at hr
    · rename_i cs' e hg
      simp only at hr
      cases hb : Nat.beq ((cs'.drop off).take (len * sz)).length (len * sz) with
      | false => rw [hb] at hr; cases hr
      | true =>
        rw [hb] at hr
        cases hr
        have hb := beq_true.1 hb
        simp only [VRel] at hx
        obtain ⟨b, c, hm, rfl, hlc, hcap⟩ := hx
        obtain ⟨vs, hl, hat⟩ := hi.cells hg hm
        have hl' := (hl.drop off).take (len * sz)
        have hlen := hl'.length
        refine ⟨some ⟨b, off, none⟩, len, c, _, rfl, hlc, hl', by omega, fun a' e => ?_, fun e => (by cases e)⟩
        cases e
        have := run_loadAt (P := cfg.P) ((hat.drop off).take (len * sz))
        rw [hlen, hb, Nat.zero_add] at this
        exact this
    · cases hr
  · cases hr
theorem alen_len {t : TypeId} {x : AV} {a : Option Addr} {len cap : Nat} (hx : VRel s x (.slice a len cap)) {k : IntKind} {n : Int} (hn : alen cfg t x = some (.int k n)) (hs : ∃ i e, cfg.ty t = some i ∧ i.kd = .slice e) : n = len := by
  obtain ⟨i, e, ht, hk⟩ := hs
  unfold alen at hn
  rw [ht] at hn
  simp only [hk] at hn
  split at hn
  · rename_i e1; cases e1
  · cases hn; simp only [VRel] at hx; obtain ⟨_, _, _, hx, _⟩ := hx; cases hx; rfl
  · cases hn; simp only [VRel] at hx; obtain ⟨_, _, hx, _⟩ := hx; cases hx; rfl
  · cases hn; simp only [VRel] at hx; cases hx; rfl
  · cases hn; simp only [VRel] at hx; obtain ⟨_, hx⟩ := hx; cases hx; rfl
  · cases hn; simp only [VRel] at hx; obtain ⟨_, _, hx⟩ := hx; cases hx; rfl
  · rename_i e1; cases e1
  · rename_i e1; cases e1
  · cases hn
theorem bytes_foldl : ∀ (l : List UInt8) (acc : ByteArray), ((l.map fun b => (b.toNat : Int)).foldl (fun r n => r.push (UInt8.ofNat n.toNat)) acc) = ⟨(acc.data.toList ++ l).toArray⟩
  | [], acc => by simp
  | b :: l, acc => by
    simp only [List.map_cons, List.foldl_cons]
    rw [bytes_foldl l]
    congr 1
    simp [ByteArray.push]
theorem aconvR_sound (hc : CfgTy cfg) (hi : Inv cfg G N0 s h w) {a b : TypeId} {x : AV} {X : Value} (hx : VRel s x X) {v : AV} (hv : aconvR cfg a b x h = some v) :
    ∃ V, VRel s v V ∧ (convert a b X).run cfg.P w = .ok V w := by
  unfold aconvR at hv
  split at hv
  · rename_i i j hta htb
    obtain ⟨info, d, z, hf⟩ := hc.facts hta
    obtain ⟨info', d', z', hf'⟩ := hc.facts htb
    split at hv
    · rename_i e hk1 hk2
      rw [hf.kd] at hk1; cases tk_slice hk1
      rw [hf'.kd] at hk2; cases tk_str hk2
      split at hv
      · rename_i u hu
        obtain ⟨info2, d2, z2, hf2⟩ := hc.facts hu
        split at hv
        · rename_i hk3
          rw [hf2.kd] at hk3; cases tk_int hk3
          split at hv
          · rename_i cs hr
            obtain ⟨l, hb, rfl⟩ := Option.map_eq_some_iff.1 hv
            obtain ⟨ad, len, cap, vs, rfl, hlc, hl, hlen, hload, hnone⟩ := rowCells_rel hi hx hr
            have hvs := bytesOf_rel hb hl
            refine ⟨.string ⟨l.toArray⟩, by simp only [VRel], ?_⟩
            rw [run_convert_bytes_string w a b e ad len cap hf.desc hf2.desc hf'.desc]
            cases ad with
            | none =>
              have := hnone rfl
              rw [hvs] at this
              have : l = [] := by simpa using this
              subst this
              rfl
            | some ad =>
              have h1 := hload ad rfl
              rw [Nat.mul_one] at h1
              rw [run_bytesToString w ad len cap (l.map fun b => (b.toNat : Int)) (by rw [h1, hvs, List.map_map]; rfl), bytes_foldl]
              rfl
          · cases hv
        · cases hv
      · cases hv
    · cases hv
  · cases hv

/-! ### 18. All operations that read -/
theorem insLen_R {t : TypeId} {x : Operand} {f : Fr → AHeap → Option AV} (hi : insLen cfg t x = .R f) : f = oMapLen cfg t x := by
  unfold insLen at hi; split at hi
  · split at hi
    · cases hi; rfl
    · cases hi
  · cases hi
theorem insConv_R {a b : TypeId} {x : Operand} {f : Fr → AHeap → Option AV} (hi : insConv cfg a b x = .R f) : f = oConvR cfg a b x := by
  unfold insConv at hi; split at hi
  · split at hi
    · split at hi
      · cases hi; rfl
      · split at hi
        · cases hi
        · cases hi
      · cases hi
    · cases hi
  · cases hi
theorem insR_sound (hc : CfgTy cfg) (hinv : Inv cfg G N0 s h w) {o : Oper} {f : Fr → AHeap → Option AV} (hi : insOf cfg o.op = .R f) {fr : Fr} {a : Act} (hfr : FRel s fr a.tmps) {v : AV} (hv : f fr h = some v) :
    ∃ V, VRel s v V ∧ (execOp a.eval o).run cfg.P w = .ok (.value V) w := by
  unfold insOf at hi
  split at hi <;> try (first | (cases hi; done) | (split at hi <;> cases hi; done))
  · rename_i b t x ho
    cases insConv_R hi
    unfold oConvR at hv
    split at hv
    · rename_i u hu
      obtain ⟨V, hV, hr⟩ := aconvR_sound hc hinv (evalA_rel hfr hu) hv
      exact ⟨V, hV, by unfold execOp; simp only [ho, Sem.run_bind, hr, Result.andThen_ok, Sem.run_pure]⟩
    · cases hv
  · rename_i g first captured ho
    unfold insFunc at hi
    split at hi <;> cases hi
  · rename_i t x ho
    cases hi
    unfold oLoad at hv
    split at hv
    · rename_i u hu
      obtain ⟨V, hV, hr⟩ := aload_sound hc hinv (evalA_rel hfr hu) hv
      exact ⟨V, hV, by unfold execOp; simp only [ho, Sem.run_bind, hr, Result.andThen_ok, Sem.run_pure]⟩
    · cases hv
  · rename_i t x k ok ho
    cases hi
    unfold oLookup at hv
    split at hv
    · rename_i u hu
      split at hv
      · rename_i q hq
        obtain ⟨V, hV, hr⟩ := alookup_sound hc hinv (evalA_rel hfr hu) (evalA_rel hfr hq) hv
        exact ⟨V, hV, by unfold execOp; simp only [ho, Sem.run_bind, hr, Result.andThen_ok, Sem.run_pure]⟩
      · cases hv
    · cases hv
  all_goals try (split at hi <;> cases hi; done)
  · rename_i c ho
    unfold insCall at hi
    split at hi
    · cases hi
    · rename_i b hb
      unfold insBuiltin at hi
      split at hi
      · split at hi
        · rename_i x t hxs hts
          cases insLen_R hi
          unfold oMapLen at hv
          split at hv
          · rename_i u hu
            obtain ⟨V, hV, hr⟩ := amapLen_sound hc hinv (evalA_rel hfr hu) hv o.type c.argTypes (by rw [list1 hts]; rfl)
            refine ⟨V, hV, ?_⟩
            rw [run_builtinOp ho hb, list1 hxs]
            have : (#[x].map a.eval) = #[a.eval x] := by simp
            simp only [builtin, Sem.run_bind, this, hr]
            rfl
          · cases hv
        · cases hi
      · split at hi <;> cases hi
      · cases hi
      · cases hi
      · split at hi <;> cases hi
      · cases hi
    · cases hi
end
end Go.Am
