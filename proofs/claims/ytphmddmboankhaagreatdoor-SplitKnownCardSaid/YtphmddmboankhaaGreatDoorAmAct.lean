/- Operations that act: a store, a map's entry, an append. -/
import Derived.Test.YtphmddmboankhaaGreatDoorAmNew
import Derived.Lib.FrozenHead
import Derived.Laws.CopyRow
namespace Go.Am
section
variable {cfg : Cfg} {G : (Nat → Nat → Option Value) → Prop} {N0 : Nat} {s : St} {h : AHeap} {w : World}
/-! ### 20. Cells written -/
/-- What an acting operation leaves. -/
def Post (cfg : Cfg) (G : (Nat → Nat → Option Value) → Prop) (N0 : Nat) (s : St) (h : AHeap) (w : World) (v : AV) (h' : AHeap) (V : Value) (w' : World) : Prop :=
  ∃ s', Inv cfg G N0 s' h' w' ∧ Keep s h w s' h' w' ∧ VRel s' v V
theorem run_storeCells_own (P : Program) (g o : Nat) (t : TypeId) (fz : Nat × Nat) : ∀ (vs : List Value) (i : Nat) (cur : Array Value) (w : World), w.heap[g]? = some (.cells cur t fz) → (∀ j, j < cur.size → ¬ (fz.1 ≤ j ∧ j < fz.2)) → o + i + vs.length ≤ cur.size → (∀ v ∈ vs, v.oneCell' = true) →
    (storeCells ⟨g, o, none⟩ vs i).run P w = .ok () (w.setRow g (cur.toList.take (o + i) ++ vs ++ cur.toList.drop (o + i + vs.length)).toArray)
  | [], i, cur, w, hg, _, _, _ => by
    simp only [storeCells, List.append_nil, List.length_nil, Nat.add_zero, List.take_append_drop, Array.toArray_toList]
    rw [setRow_self w g cur t fz hg]
    rfl
  | v :: rest, i, cur, w, hg, hfz, hl, h1 => by
    have hi : o + i < cur.size := by simp at hl; omega
    have hcell : w.cell? ⟨g, o + i, none⟩ = some cur[o + i] := by simp [World.cell?, hg, hi]
    have hfro : w.frozen? ⟨g, o + i, none⟩ = false := by
      have := hfz (o + i) hi
      obtain ⟨lo, hi'⟩ := fz
      simp only [World.frozen?, hg, Bool.and_eq_false_iff, decide_eq_false_iff_not]
      simp only at this
      omega
    have hst : (store ((⟨g, o, none⟩ : Addr).add i) v).run P w = .ok () (w.setRow g (cur.setIfInBounds (o + i) v)) := by
      rw [addr_add, run_store P w _ v _ (h1 v (by simp)), hcell]
      simp [hfro, setCell_eq_setRow w g (o + i) cur t fz v hg]
    have ih := run_storeCells_own P g o t fz rest (i + 1) (cur.setIfInBounds (o + i) v) (w.setRow g (cur.setIfInBounds (o + i) v)) (setRow_heap w g cur _ t _ hg) (fun j hj => hfz j (by simpa using hj)) (by simp at hl ⊢; omega) (fun x hx => h1 x (by simp [hx]))
    simp only [storeCells, Sem.run_bind, hst, Result.andThen_ok, ih, setRow_setRow]
    congr 3
    have e := list_seg_step cur.toList (o + i) v rest (by simp at hl ⊢; omega)
    simpa [Array.toList_setIfInBounds, Nat.add_assoc] using e
theorem one_all {cs : List AV} {vs : List Value} (hl : LRel s cs vs) (h1 : cs.all AV.one = true) : ∀ v ∈ vs, v.oneCell' = true := by
  induction cs generalizing vs with
  | nil => simp only [LRel] at hl; subst hl; simp
  | cons c cs ih =>
    obtain ⟨v, ws, rfl, hv, hl⟩ := hl.uncons
    simp only [List.all_cons, Bool.and_eq_true] at h1
    intro u hu
    rcases List.mem_cons.1 hu with rfl | hu
    · exact hv.oneCell h1.1
    · exact ih hl h1.2 u hu
theorem seg_len {α : Type} (l x : List α) (o : Nat) (hb : o + x.length ≤ l.length) : (l.take o ++ x ++ l.drop (o + x.length)).length = l.length := by
  simp; omega
/-- Cells written into an object, or behind its known cells. -/
theorem write_sound (hi : Inv cfg G N0 s h w) {id : Nat} {cs : List AV} {e : TypeId} (hg : h.get id = some (.cells cs e)) {b : Nat} (hm : s.mem id = some b) {new : List AV} {vs : List Value} (hl : LRel s new vs) (h1 : new.all AV.one = true)
    {o : Nat} (hroom : ∃ q n, s.geo b = some (q, n) ∧ o + new.length ≤ n) {cs' : List AV} (hcs : (o + new.length ≤ cs.length ∧ cs' = cs.take o ++ new ++ cs.drop (o + new.length)) ∨ (o = cs.length ∧ cs' = cs ++ new)) :
    ∃ w', (storeCells ⟨b, o, none⟩ vs).run cfg.P w = .ok () w' ∧ Inv cfg G N0 s (h.put id (.cells cs' e)) w' ∧ Keep s h w s (h.put id (.cells cs' e)) w' := by
  obtain ⟨b', hm', _, cv, rest, e', fz, i, hb, hlr, ht, hgeo, hfz⟩ := hi.obj id _ hg
  rw [hm] at hm'
  cases hm'
  obtain ⟨q, n, hgeo', hon⟩ := hroom
  rw [hgeo] at hgeo'
  cases hgeo'
  have hlen := hl.length
  have hclen := hlr.length
  have hrun := run_storeCells_own cfg.P b o e' fz vs 0 (cv ++ rest).toArray w hb (fun j hj => hfz j (by simpa using hj)) (by simp at hon ⊢; omega) (one_all hl h1)
  simp only [Nat.add_zero] at hrun
  have hw' := setRow_heap w b _ ((cv ++ rest).take o ++ vs ++ (cv ++ rest).drop (o + vs.length)).toArray e' fz hb
  have hrow : ∃ rest', (cv ++ rest).take o ++ vs ++ (cv ++ rest).drop (o + vs.length) = (if o + new.length ≤ cs.length then cv.take o ++ vs ++ cv.drop (o + vs.length) else cv ++ vs) ++ rest' ∧ LRel s cs' (if o + new.length ≤ cs.length then cv.take o ++ vs ++ cv.drop (o + vs.length) else cv ++ vs) := by
    rcases hcs with ⟨hle, rfl⟩ | ⟨rfl, rfl⟩
    · refine ⟨rest, ?_, ?_⟩
      · rw [if_pos hle, List.take_append_of_le_length (by omega), List.drop_append_of_le_length (by omega)]
        simp
      · rw [if_pos hle, hlen]
        exact ((hlr.take _).append hl).append (hlr.drop _)
    · by_cases hle : cs.length + new.length ≤ cs.length
      · have hn0 : new = [] := by apply List.length_eq_zero_iff.1; omega
        subst hn0
        simp only [LRel] at hl
        subst hl
        refine ⟨rest, ?_, ?_⟩
        · rw [if_pos hle]
          simp [← hclen]
        · rw [if_pos hle]
          simpa using hlr
      · refine ⟨rest.drop vs.length, ?_, ?_⟩
        · rw [if_neg hle, ← hclen]
          simp
        · rw [if_neg hle]
          exact hlr.append hl
  obtain ⟨rest', hrow, hrel⟩ := hrow
  have hlen2 : ((cv ++ rest).take o ++ vs ++ (cv ++ rest).drop (o + vs.length)).length = (cv ++ rest).length := seg_len _ _ _ (by omega)
  have hput := hi.put hg hm (w' := w.setRow b ((cv ++ rest).take o ++ vs ++ (cv ++ rest).drop (o + vs.length)).toArray) (ob := .cells cs' e)
    (by rw [hrow] at hw' hlen2 ⊢; exact ⟨_, rest', e', fz, i, hw', hrel, ht, by rw [hlen2]; exact hgeo, fun j hj => hfz j (by rw [← hlen2]; exact hj)⟩)
    (setRow_size _ _ _) (fun k hk => setRow_other w b k _ hk) rfl rfl rfl
  exact ⟨_, hrun, hput.1, hput.2⟩
theorem astore_sound (hc : CfgTy cfg) (hi : Inv cfg G N0 s h w) {t : TypeId} {a v : AV} {A V : Value} (ha : VRel s a A) (hv : VRel s v V) {h' : AHeap} (hs : astore cfg t a v h = some h') :
    ∃ w', (Instr.storeAt t A V).run cfg.P w = .ok () w' ∧ Inv cfg G N0 s h' w' ∧ Keep s h w s h' w' := by
  unfold astore at hs
  split at hs
  · rename_i id off i ht
    obtain ⟨info, d, z, hf⟩ := hc.facts ht
    split at hs
    · rename_i cs e hg
      simp only at hs
      cases hb : (Nat.beq v.cells.length i.size && v.cells.all AV.one && Nat.ble (off + v.cells.length) cs.length) with
      | false => rw [hb] at hs; cases hs
      | true =>
        rw [hb] at hs
        cases hs
        simp only [Bool.and_eq_true, beq_true, ble_true] at hb
        simp only [VRel] at ha
        obtain ⟨b, hm, rfl⟩ := ha
        have hcl := hv.cells.length
        obtain ⟨b', hm', _, cv, rest, e', fz, j, hbk, hlr, _, hgeo, _⟩ := hi.obj id _ hg
        rw [hm] at hm'
        cases hm'
        have hl2 := hlr.length
        obtain ⟨w', hr, hI, hK⟩ := write_sound hi hg hm hv.cells hb.1.2 (o := off) ⟨_, _, hgeo, by simp; omega⟩ (.inl ⟨hb.2, rfl⟩)
        refine ⟨w', ?_, hI, hK⟩
        unfold Instr.storeAt Instr.sureAddr storeVar
        have hsz : ¬ (V.cells.size ≠ i.size) := by
          simp only [Array.length_toList] at hcl
          omega
        simp only [Sem.run_bind, Sem.run_pure, Result.andThen_ok, hf.run_sizeOf, if_neg hsz, hr]
    · cases hs
  · cases hs
/-! ### 21. A map's entry -/
theorem MRel.append : ∀ {l m : List (AV × AV)} {es fs : List MapEntry}, MRel s l es → MRel s m fs → MRel s (l ++ m) (es ++ fs)
  | [], _, _, _, h1, h2 => by simp only [MRel] at h1; subst h1; exact h2
  | _ :: _, _, _, _, ⟨e, m, h1, h2, h3, h4, h5⟩, h6 => by subst h1; exact ⟨e, _, rfl, h2, h3, h4, MRel.append h5 h6⟩
theorem setE_rel {k : AV} {K : Value} (hk : VRel s k K) (v : AV) (V : Value) (hv : VRel s v V) : ∀ {l : List (AV × AV)} {es : List MapEntry} (j : Nat), MRel s l es → ∀ (f : MapEntry → MapEntry), (∀ e, (f e).val = V) → (∀ e, es[j]? = some e → (f e).key = e.key) → MRel s (setE v l j) (es.modify j f)
  | [], _, j, h1, _, _, _ => by simp only [MRel] at h1; subst h1; simp [setE, MRel]
  | (q, u) :: l, _, 0, ⟨e, m, h1, h2, h3, h4, h5⟩, f, hf, hfk => by
    subst h1
    simp only [setE, List.modify_zero_cons]
    exact ⟨_, _, rfl, by rw [hfk e rfl]; exact h2, h3, by rw [hf]; exact hv, h5⟩
  | p :: l, _, j + 1, ⟨e, m, h1, h2, h3, h4, h5⟩, f, hf, hfk => by
    subst h1
    simp only [setE, List.modify_succ_cons]
    exact ⟨_, _, rfl, h2, h3, h4, setE_rel hk v V hv j h5 f hf (fun e he => hfk e (by simpa using he))⟩
theorem sameBits_self {ks : List Nat} {t : TypeId} {k : AV} {K : Value} (hk : KeyOf cfg.P t ks k K) (n : Nat) : Instr.sameBits (n + 2) K K = true := by
  cases hk with
  | str l h => simp only [Instr.sameBits, bytes_eq_iff, beq_self_eq_true]
  | int k q m h => simp only [Instr.sameBits, beq_self_eq_true, Bool.and_self]
  | arr ks n' e q zs =>
    simp only [Instr.sameBits, beq_self_eq_true, Bool.true_and, List.all_eq_true]
    intro p hp
    have key : ∀ zs : List (IntKind × Int), ∀ p ∈ (zs.map fun p => Value.int p.1 p.2).zip (zs.map fun p => Value.int p.1 p.2), Instr.sameBits (n + 1) p.1 p.2 = true := by
      intro zs
      induction zs with
      | nil => intro p hp; cases hp
      | cons z zs ih =>
        intro p hp
        simp only [List.map_cons, List.zip_cons_cons, List.mem_cons] at hp
        rcases hp with rfl | hp
        · simp only [Instr.sameBits, beq_self_eq_true, Bool.and_self]
        · exact ih p hp
    exact key zs p hp
theorem anext_sound (hi : Inv cfg G N0 s h w) {x : AV} {X : Value} (hx : VRel s x X) {isString : Bool} {v : AV} {h' : AHeap} (hv : anext x isString h = some (v, h')) (ty : TypeId) :
    ∃ V w', (Instr.next X isString ty).run cfg.P w = .ok V w' ∧ Post cfg G N0 s h w v h' V w' := by
  unfold anext at hv
  split at hv
  · rename_i id
    split at hv
    · rename_i l pos hg
      simp only [VRel] at hx
      obtain ⟨b, hm, rfl⟩ := hx
      obtain ⟨b', hm', _, ho⟩ := hi.obj id _ hg
      rw [hm] at hm'
      cases hm'
      have ho : w.heap[b]? = some (.stringIter ⟨l.toArray⟩ pos) := ho
      have hblt : b < w.heap.size := hi.memlt _ _ hm
      have hget : (getObj b).run cfg.P w = .ok (.stringIter ⟨l.toArray⟩ pos) w := by simp [getObj, Sem.run, ho]
      have hsz : (⟨l.toArray⟩ : ByteArray).size = l.length := rfl
      cases hp : Nat.blt pos l.length with
      | false =>
        rw [hp] at hv
        cases hv
        have hp : ¬ pos < l.length := by intro h; rw [← Nat.blt_eq] at h; rw [h] at hp; cases hp
        refine ⟨.tuple #[.bool false], w, ?_, s, hi, Keep.refl _ _ _, by simp only [VRel]; exact ⟨[.bool false], rfl, .cons (by simp only [VRel]) .nil⟩⟩
        unfold Instr.next
        simp only [Sem.run_bind, Sem.run_pure, Result.andThen_ok, hget, hsz, if_neg hp]
      | true =>
        rw [hp] at hv
        cases hv
        have hp : pos < l.length := by rwa [Nat.blt_eq] at hp
        have hdec : Utf8.decode ⟨l.toArray⟩ pos = runeAt l pos := by
          unfold runeAt
          have hb : l[pos]? = some l[pos] := List.getElem?_eq_getElem hp
          rw [hb]
          simp only
          cases hlt : Nat.blt (l[pos]).toNat 128 with
          | false => rfl
          | true =>
            have hlt : (l[pos]).toNat < 128 := by rwa [Nat.blt_eq] at hlt
            have hg : (⟨l.toArray⟩ : ByteArray).get! pos = l[pos] := by
              show (l.toArray)[pos]! = _
              simp [hp]
            unfold Utf8.decode
            simp only [Nat.add_zero, hg, if_pos (show (l[pos]).toNat < 0x80 from hlt), cond_true]
        have hput := hi.put hg hm (w' := { w with heap := w.heap.setIfInBounds b (.stringIter ⟨l.toArray⟩ (pos + (runeAt l pos).2)) }) (ob := .iter l (pos + (runeAt l pos).2)) (by show _ = _; simp [hblt]) (by simp) (fun k hk => by simp only; rw [Array.getElem?_setIfInBounds_ne (Ne.symm hk)]) rfl rfl rfl
        refine ⟨.tuple #[.bool true, .int .i64 pos, .int .i32 (runeAt l pos).1], _, ?_, s, hput.1, hput.2, by simp only [VRel]; exact ⟨[.bool true, .int .i64 pos, .int .i32 (runeAt l pos).1], rfl, .cons (by simp only [VRel]) (.cons (by simp only [VRel]) (.cons (by simp only [VRel]; rfl) .nil))⟩⟩
        unfold Instr.next
        have hset : ∀ o, (setObj b o).run cfg.P w = .ok () { w with heap := w.heap.setIfInBounds b o } := fun o => by simp [setObj, Sem.run, ho]
        simp only [Sem.run_bind, Sem.run_pure, Result.andThen_ok, hget, hsz, if_pos hp, hdec, hset]
        rfl
    · cases hv
  · cases hv
theorem amapUpdate_sound (hc : CfgTy cfg) (hi : Inv cfg G N0 s h w) {t : TypeId} {m k v : AV} {M K V : Value} (hm : VRel s m M) (hk : VRel s k K) (hv : VRel s v V) (hkf : k.hf = true) {h' : AHeap} (hs : amapUpdate cfg t m k v h = some h') :
    ∃ w', (Instr.mapUpdate t M K V).run cfg.P w = .ok () w' ∧ Inv cfg G N0 s h' w' ∧ Keep s h w s h' w' := by
  unfold amapUpdate at hs
  split at hs
  · rename_i i id ht
    obtain ⟨info, d, z, hf⟩ := hc.facts ht
    split at hs
    · rename_i kt et hkd
      rw [hf.kd] at hkd; cases tk_map hkd
      split at hs
      · rename_i ks hks
        have hko := keyKs_sound hc hk hks
        simp only [VRel] at hm
        obtain ⟨b, hmem, rfl⟩ := hm
        split at hs
        · rename_i es hg
          obtain ⟨ents, clock, hb, hmr⟩ := hi.mapAt hg hmem
          have hblt : b < w.heap.size := hi.memlt _ _ hmem
          have hput : ∀ (ents' : Array MapEntry) (clock' : Nat) (es' : List (AV × AV)), MRel s es' ents'.toList → Inv cfg G N0 s (h.put id (.map es')) { w with heap := w.heap.setIfInBounds b (.map ents' clock') } ∧ Keep s h w s (h.put id (.map es')) { w with heap := w.heap.setIfInBounds b (.map ents' clock') } := by
            intro ents' clock' es' hr
            refine hi.put hg hmem (ob := .map es') ⟨ents', clock', by simp [hblt], hr⟩ (by simp) (fun k' hk' => ?_) rfl rfl rfl
            simp only
            rw [Array.getElem?_setIfInBounds_ne (Ne.symm hk')]
          split at hs
          · rename_i j u hfd
            cases hs
            obtain ⟨R, hR, V', e, rfl, _, _, he, hkey⟩ := run_findKeyOf hko hmr hfd
            simp only [Nat.sub_zero] at he
            have he' : ents[j]? = some e := by simpa using he
            have hp := hput (ents.modify j fun e => { e with key := K, val := V }) clock (setE v es j) (by
              rw [Array.toList_modify]
              exact setE_rel hk v V hv j hmr _ (fun _ => rfl) (fun e2 he2 => by rw [he] at he2; cases he2; exact hkey.symm))
            refine ⟨_, ?_, hp.1, hp.2⟩
            unfold Instr.mapUpdate
            simp only [Sem.run_bind, hf.run_underlying, Result.andThen_ok, MapKept.run_getObj_map hb, run_checkKeyOf hko _ 9998, hR, he', Option.map_some, Option.getD_some, hkey, Instr.keyThatStays, sameBits_self hko 9998, if_true, Sem.run_pure]
            exact MapKept.run_setObj_map _ hb
          · rename_i hfd
            cases hs
            obtain ⟨R, hR, hrel⟩ := run_findKeyOf hko hmr hfd
            simp only [FoundRel] at hrel
            subst hrel
            have hp := hput (ents.push ⟨K, V, clock⟩) (clock + 1) (es ++ [(k, v)]) (by
              rw [Array.toList_push]
              exact hmr.append ⟨_, _, rfl, hk, hkf, hv, rfl⟩)
            refine ⟨_, ?_, hp.1, hp.2⟩
            unfold Instr.mapUpdate
            simp only [Sem.run_bind, hf.run_underlying, Result.andThen_ok, MapKept.run_getObj_map hb, run_checkKeyOf hko _ 9998, hR]
            exact MapKept.run_setObj_map _ hb
          · cases hs
        · cases hs
      · cases hs
    · cases hs
  · cases hs
end
end Go.Am
