/- Operations that make an object. -/
import Derived.Test.YtphmddmboankhaaGreatDoorAmMem
import Derived.Laws.AppendOwn
import Derived.Laws.IdiomStrings
namespace Go.Am
section
variable {cfg : Cfg} {s : St}
/-! ### 19. New objects -/
/-- The world with one block more: what lies in it, and what leads to it. -/
def Born (cfg : Cfg) (s : St) (w : World) (id : Nat) (p : AObj) (q : AV) (V : Value) (w' : World) : Prop :=
  ∃ (g : Option (Nat × Nat)) (ob : Obj), w'.heap = w.heap.push ob ∧ w'.os = w.os ∧ w'.tape = w.tape ∧ w'.output = w.output ∧ ORel cfg (s.born id w.heap.size g) w' w.heap.size p ∧ VRel (s.born id w.heap.size g) q V
theorem push_get {w w' : World} {ob : Obj} (h : w'.heap = w.heap.push ob) : w'.heap[w.heap.size]? = some ob := by rw [h]; simp
theorem born_mem (s : St) (id b : Nat) (g : Option (Nat × Nat)) : (s.born id b g).mem id = some b := by simp [St.born]
theorem born_geo (s : St) (id b : Nat) (g : Option (Nat × Nat)) : (s.born id b g).geo b = g := by simp [St.born]
theorem orel_new {w w' : World} {id : Nat} {cs : List AV} {vs rest : List Value} {e e' : TypeId} {fz : Nat × Nat} {i : TI} (hw : w'.heap = w.heap.push (.cells (vs ++ rest).toArray e' fz)) (hl : LRel (s.born id w.heap.size (some (i.size, (vs ++ rest).length))) cs vs) (ht : cfg.ty e = some i)
    (hfz : ∀ j, j < (vs ++ rest).length → ¬ (fz.1 ≤ j ∧ j < fz.2)) : ORel cfg (s.born id w.heap.size (some (i.size, (vs ++ rest).length))) w' w.heap.size (.cells cs e) :=
  ⟨vs, rest, e', fz, i, push_get hw, hl, ht, born_geo _ _ _ _, hfz⟩
theorem orel_plain {w w' : World} {id : Nat} {cs : List AV} {R : Array Value} {e : TypeId} {i : TI} (hw : w'.heap = w.heap.push (.cells R e)) (hl : LRel (s.born id w.heap.size (some (i.size, R.size))) cs R.toList) (ht : cfg.ty e = some i) :
    ORel cfg (s.born id w.heap.size (some (i.size, R.size))) w' w.heap.size (.cells cs e) :=
  ⟨R.toList, [], e, (0, 0), i, by simpa using push_get hw, hl, ht, by simpa using born_geo _ _ _ _, fun _ _ h => absurd h.2 (Nat.not_lt_zero _)⟩
theorem nofz (n : Nat) : ∀ j, j < n → ¬ ((0, 0) : Nat × Nat).1 ≤ j ∨ ¬ j < ((0, 0) : Nat × Nat).2 := fun _ _ => .inr (Nat.not_lt_zero _)
theorem boxed_sound {w : World} {id : Nat} (hE : ∀ g, Ext s (s.born id w.heap.size g)) {e : TypeId} {v : AV} {V : Value} (hv : VRel s v V) {p : AObj × (Nat → AV)} (hp : aboxed cfg e v = some p) :
    Born cfg s w id p.1 (p.2 id) (.pointer (some ⟨w.heap.size, 0, none⟩)) { w with heap := w.heap.push (.cells V.cells e) } := by
  unfold aboxed at hp
  split at hp
  · rename_i i ht
    cases hb : (Nat.beq v.cells.length i.size && v.cells.all AV.one) with
    | false => rw [hb] at hp; cases hp
    | true =>
      rw [hb] at hp
      cases hp
      refine ⟨some (i.size, V.cells.size), .cells V.cells e, rfl, rfl, rfl, rfl, ?_, ?_⟩
      · exact orel_plain rfl (hv.cells.ext (hE _)) ht
      · simp only [VRel]; exact ⟨_, born_mem _ _ _ _, rfl⟩
  · cases hp
theorem nZero_rel {zs : List AV} {Z : List Value} (hz : LRel s zs Z) : ∀ n : Nat, LRel s (nZero zs n) ((List.range (n * Z.length)).map fun k => Z.toArray[k % Z.toArray.size]!)
  | 0 => by simp only [Nat.zero_mul, List.range_zero, List.map_nil, nZero]; exact .nil
  | n + 1 => by
    rw [Nat.succ_mul, Nat.add_comm (n * Z.length), List.range_add, List.map_append, List.map_map, nZero]
    refine LRel.append ?_ ?_
    · have : ((List.range Z.length).map fun k => Z.toArray[k % Z.toArray.size]!) = Z := by
        apply List.ext_getElem
        · simp
        · intro k h1 h2
          simp only [List.getElem_map, List.getElem_range, List.size_toArray]
          rw [Nat.mod_eq_of_lt h2]
          simp [h2]
      rw [this]
      exact hz
    · have : ((fun k => Z.toArray[k % Z.toArray.size]!) ∘ fun x => Z.length + x) = fun k => Z.toArray[k % Z.toArray.size]! := by
        funext k
        simp
      rw [this]
      exact nZero_rel hz n
theorem nZero_nil (n : Nat) : nZero [] n = [] := by induction n with
  | zero => rfl
  | succ n ih => rw [nZero, ih]; rfl
theorem nZero_length (z : List AV) (n : Nat) : (nZero z n).length = n * z.length := by induction n with
  | zero => simp [nZero]
  | succ n ih => rw [nZero, List.length_append, ih, Nat.succ_mul]; omega
/-- The zeros of a new row, as the model lays them. -/
theorem zeros_rel {e : TypeId} {j : TI} {info : TypeInfo} {d : TypeDesc} {z : Value} (hf : TyF cfg.P e j info d z) (hz : Nat.beq j.zero.cells.length j.size = true) (n : Nat) :
    ∃ Z : Array Value, ((n * j.size = 0 ∧ Z = #[]) ∨ (n * j.size ≠ 0 ∧ Z = z.cells)) ∧ LRel s (nZero j.zero.cells n) ((Array.range (n * j.size)).map (fun k => Z[k % Z.size]!)).toList := by
  have hz := beq_true.1 hz
  have hrel : LRel s j.zero.cells z.cells.toList := (absV_rel s hf.zabs).cells
  by_cases h0 : n * j.size = 0
  · refine ⟨#[], .inl ⟨h0, rfl⟩, ?_⟩
    rw [h0]
    have : nZero j.zero.cells n = [] := by
      apply List.length_eq_zero_iff.1
      rw [nZero_length, hz, h0]
    rw [this]
    have e : ((Array.range 0).map (fun k => (#[] : Array Value)[k % (#[] : Array Value).size]!)).toList = [] := by simp
    rw [e]
    exact .nil
  · refine ⟨z.cells, .inr ⟨h0, rfl⟩, ?_⟩
    have := nZero_rel hrel n
    have hlen := hrel.length
    rw [hlen, hz] at this
    simpa using this
theorem buildSlice_sound (hc : CfgTy cfg) {w : World} {id : Nat} (hE : ∀ g, Ext s (s.born id w.heap.size g)) {t : TypeId} {len : Nat} {parts : List (Nat × AV)} {ps : Array (Nat × Value)} (hps : PRel s parts ps.toList) {p : AObj × (Nat → AV)} (hp : abuildSlice cfg t len parts = some p) :
    ∃ V w', (Instr.buildSlice t len ps).run cfg.P w = .ok V w' ∧ Born cfg s w id p.1 (p.2 id) V w' := by
  unfold abuildSlice at hp
  split at hp
  · rename_i i ht
    obtain ⟨info, d, z, hf⟩ := hc.facts ht
    split at hp
    · rename_i e hk
      rw [hf.kd] at hk; cases tk_slice hk
      split at hp
      · rename_i j hj
        obtain ⟨info', d', z', hf'⟩ := hc.facts hj
        cases hb : (Nat.ble (len * j.size) 16777216 && Nat.beq j.zero.cells.length j.size) with
        | false => rw [hb] at hp; cases hp
        | true =>
          rw [hb] at hp
          simp only [Bool.and_eq_true, ble_true] at hb
          simp only [cond_true] at hp
          split at hp
          · rename_i cs hcs
            cases hp
            obtain ⟨Z, hZ, hrel⟩ := zeros_rel (s := s) hf' hb.2 len
            obtain ⟨R, hR, hr⟩ := afill_sound (s := s) (placeM := fun i => some (i * j.size, j.size)) (fun _ _ h => h) parts ps.toList _ _ cs hps hrel hcs
            refine ⟨.slice (some ⟨w.heap.size, 0, none⟩) len len, { w with heap := w.heap.push (.cells R e) }, ?_, some (j.size, R.size), .cells R e, rfl, rfl, rfl, rfl, ?_, ?_⟩
            · unfold Instr.buildSlice
              have hno : ¬ len * j.size > 2 ^ 24 := by omega
              simp only [Sem.run_bind, hf.run_underlying, Result.andThen_ok, hf'.run_sizeOf, if_neg hno]
              rcases hZ with ⟨h0, rfl⟩ | ⟨h0, rfl⟩
              · rw [if_pos h0]
                simp only [Sem.run_pure, Result.andThen_ok, hR, newRow, Sem.run_bind, run_newObj]
              · rw [if_neg h0]
                simp only [Sem.run_pure, Result.andThen_ok, hf'.run_zeroValue, hR, newRow, Sem.run_bind, run_newObj]
            · exact orel_plain rfl (hr.ext (hE _)) hj
            · simp only [VRel, CapRel]; exact ⟨_, _, born_mem _ _ _ _, rfl, Nat.le_refl _, rfl⟩
          · cases hp
      · cases hp
    · cases hp
  · cases hp
theorem wrap64 {n : Int} (h1 : 0 ≤ n) (h2 : n ≤ 9223372036854775807) : IntKind.i64.wrap n = n := by
  unfold IntKind.wrap
  simp [IntKind.bits, IntKind.signed]
  omega
theorem makeSlice_sound (hc : CfgTy cfg) {w : World} {id : Nat} (hE : ∀ g, Ext s (s.born id w.heap.size g)) {t : TypeId} {l c : AV} {L C : Value} (hl : VRel s l L) (hcv : VRel s c C) {p : AObj × (Nat → AV)} (hp : amakeSlice cfg t l c = some p) :
    ∃ V w', (Instr.makeSlice t L C).run cfg.P w = .ok V w' ∧ Born cfg s w id p.1 (p.2 id) V w' := by
  unfold amakeSlice at hp
  split at hp
  · rename_i i k a k' b ht
    obtain ⟨info, d, z, hf⟩ := hc.facts ht
    simp only [VRel] at hl hcv
    subst hl; subst hcv
    split at hp
    · rename_i e hk
      rw [hf.kd] at hk; cases tk_slice hk
      split at hp
      · rename_i j hj
        obtain ⟨info', d', z', hf'⟩ := hc.facts hj
        cases hb : (decide (0 ≤ a) && decide (a ≤ b) && decide (b ≤ 281474976710656) && decide ((j.bytes : Int) * b ≤ 281474976710656) && Nat.beq j.zero.cells.length j.size) with
        | false => rw [hb] at hp; cases hp
        | true =>
          rw [hb] at hp
          simp only [Bool.and_eq_true, decide_eq_true_eq] at hb
          simp only [cond_true] at hp
          cases hp
          obtain ⟨⟨⟨⟨h1, h2⟩, h3⟩, h4⟩, h5⟩ := hb
          obtain ⟨Z, hZ, hrel⟩ := zeros_rel (s := s) hf' h5 b.toNat
          refine ⟨.slice (some ⟨w.heap.size, 0, none⟩) a.toNat b.toNat, { w with heap := w.heap.push (.cells ((Array.range (b.toNat * j.size)).map (fun k => Z[k % Z.size]!)) e) }, ?_, some (j.size, ((Array.range (b.toNat * j.size)).map (fun k => Z[k % Z.size]!)).size), .cells ((Array.range (b.toNat * j.size)).map (fun k => Z[k % Z.size]!)) e, rfl, rfl, rfl, rfl, ?_, ?_⟩
          · unfold Instr.makeSlice
            have e1 : IntKind.i64.wrap a = a := wrap64 h1 (by omega)
            have e2 : IntKind.i64.wrap b = b := wrap64 (by omega) (by omega)
            have hbytes : info'.bytes = j.bytes := hf'.hbytes.symm
            have n1 : (decide (b < 0) || decide ((j.bytes : Int) * b > 2 ^ 48)) = false := by
              simp only [Bool.or_eq_false_iff, decide_eq_false_iff_not]
              omega
            have n2 : ¬ ((((decide (b < 0) || decide ((j.bytes : Int) * b > 2 ^ 48)) = true ∨ a < 0) ∨ a > b)) := by
              rw [n1]; simp; omega
            simp only [Sem.run_bind, hf.run_underlying, Result.andThen_ok, asInt, asIntOf, Sem.run_pure, hf'.run_typeInfo, e1, e2, hbytes]
            simp only [n1, Bool.false_or, Bool.or_eq_true, decide_eq_true_eq]
            rw [if_neg (by omega)]
            simp only [Sem.run_bind, run_askRoom, Result.andThen_ok, hf'.run_sizeOf]
            rcases hZ with ⟨h0, rfl⟩ | ⟨h0, rfl⟩
            · rw [if_pos h0]
              simp only [Sem.run_pure, Result.andThen_ok, newRow, Sem.run_bind, run_newObj]
            · rw [if_neg h0]
              simp only [Sem.run_pure, Result.andThen_ok, hf'.run_zeroValue, newRow, Sem.run_bind, run_newObj]
          · exact orel_plain rfl (hrel.ext (hE _)) hj
          · simp only [VRel, CapRel]; exact ⟨_, _, born_mem _ _ _ _, rfl, by omega, rfl⟩
      · cases hp
    · cases hp
  · cases hp
theorem convC_sound (hc : CfgTy cfg) {w : World} {id : Nat} (hE : ∀ g, Ext s (s.born id w.heap.size g)) {a b : TypeId} {x : AV} {X : Value} (hx : VRel s x X) {p : AObj × (Nat → AV)} (hp : aconvC cfg a b x = some p) :
    ∃ V w', (convert a b X).run cfg.P w = .ok V w' ∧ Born cfg s w id p.1 (p.2 id) V w' := by
  unfold aconvC at hp
  split at hp
  · rename_i i j l hta htb
    obtain ⟨info, d, z, hf⟩ := hc.facts hta
    obtain ⟨info', d', z', hf'⟩ := hc.facts htb
    simp only [VRel] at hx
    subst hx
    split at hp
    · rename_i e hk1 hk2
      rw [hf.kd] at hk1; cases tk_str hk1
      rw [hf'.kd] at hk2; cases tk_slice hk2
      split at hp
      · rename_i u hu
        obtain ⟨info2, d2, z2, hf2⟩ := hc.facts hu
        split at hp
        · rename_i hk3
          rw [hf2.kd] at hk3; cases tk_int hk3
          cases hb : Nat.beq u.size 1 with
          | false => rw [hb] at hp; cases hp
          | true =>
            rw [hb] at hp
            cases hp
            have hsz := beq_true.1 hb
            have hsize : (⟨l.toArray⟩ : ByteArray).size = l.length := rfl
            generalize hcap : grownCap w l.length 0 e = cap
            have hge : l.length ≤ cap := by rw [← hcap]; exact grownCap_ge w l.length 0 e
            let vs : List Value := l.map fun (b : UInt8) => Value.int .u8 b.toNat
            let rest : List Value := List.replicate (cap - l.length) (Value.int .u8 0)
            have htot : (vs ++ rest).length = cap := by simp [vs, rest]; omega
            refine ⟨.slice (some ⟨w.heap.size, 0, none⟩) l.length cap, { w with drawn := w.drawn + 1, heap := w.heap.push (.cells (vs ++ rest).toArray e (cap, cap + 1)) }, ?_, some (u.size, (vs ++ rest).length), .cells (vs ++ rest).toArray e (cap, cap + 1), rfl, rfl, rfl, rfl, ?_, ?_⟩
            · have hcells : bytesRow ⟨l.toArray⟩ cap = (vs ++ rest).toArray := by
                apply Array.toList_inj.1
                simp [bytesRow, vs, rest, hsize]
              have hsz2 : (bytesRow ⟨l.toArray⟩ cap).size = cap := by rw [hcells]; simpa using htot
              have hrun := run_bytes_of_string w a b e ⟨l.toArray⟩ hf.desc hf'.desc hf2.desc
              rw [hsize, hcap, hsz2, hcells] at hrun
              exact hrun
            · refine orel_new (fz := (cap, cap + 1)) rfl ?_ hu (fun j hj h => ?_)
              · refine LRel.ext (hE _) _ _ ?_
                clear hcap hge
                have : ∀ l : List UInt8, LRel s (l.map fun b => AV.int .u8 b.toNat) (l.map fun b => Value.int .u8 b.toNat) := fun l => by
                  induction l with
                  | nil => exact .nil
                  | cons b l ih => exact .cons (by simp only [VRel]) ih
                exact this l
              · simp only at h; omega
            · simp only [VRel, CapRel]
              exact ⟨_, cap, born_mem _ _ _ _, rfl, hge, _, by rw [born_geo, hsz], by rw [htot]; omega⟩
        · cases hp
      · cases hp
    · cases hp
  · cases hp
theorem range_sound (hc : CfgTy cfg) {w : World} {id : Nat} {t : TypeId} {x : AV} {X : Value} (hx : VRel s x X) {p : AObj × (Nat → AV)} (hp : arange cfg t x = some p) :
    ∃ V w', (Instr.range t X).run cfg.P w = .ok V w' ∧ Born cfg s w id p.1 (p.2 id) V w' := by
  unfold arange at hp
  split at hp
  · rename_i i l ht
    obtain ⟨info, d, z, hf⟩ := hc.facts ht
    split at hp
    · rename_i hk
      rw [hf.kd] at hk; cases tk_str hk
      cases hp
      simp only [VRel] at hx
      subst hx
      refine ⟨.pointer (some ⟨w.heap.size, 0, none⟩), { w with heap := w.heap.push (.stringIter ⟨l.toArray⟩ 0) }, ?_, none, .stringIter ⟨l.toArray⟩ 0, rfl, rfl, rfl, rfl, push_get rfl, ?_⟩
      · unfold Instr.range
        simp only [Sem.run_bind, hf.run_underlying, Result.andThen_ok, Sem.run_pure, run_newObj]
      · simp only [VRel]; exact ⟨_, born_mem _ _ _ _, rfl⟩
    · cases hp
  · cases hp
theorem insConv_C {a b : TypeId} {x : Operand} {f : Fr → Option (AObj × (Nat → AV))} (hi : insConv cfg a b x = .C f) : f = oConvC cfg a b x := by
  unfold insConv at hi; split at hi
  · split at hi
    · split at hi
      · cases hi
      · split at hi
        · cases hi; rfl
        · cases hi
      · cases hi
    · cases hi
  · cases hi
theorem insC_sound (hc : CfgTy cfg) {w : World} {id : Nat} (hE : ∀ g, Ext s (s.born id w.heap.size g)) {o : Oper} {f : Fr → Option (AObj × (Nat → AV))} (hi : insOf cfg o.op = .C f) {fr : Fr} {a : Act} (hfr : FRel s fr a.tmps) {p : AObj × (Nat → AV)} (hp : f fr = some p) :
    ∃ V w', (execOp a.eval o).run cfg.P w = .ok (.value V) w' ∧ Born cfg s w id p.1 (p.2 id) V w' := by
  unfold insOf at hi
  split at hi <;> try (first | (cases hi; done) | (split at hi <;> cases hi; done))
  · rename_i b t x ho
    cases insConv_C hi
    unfold oConvC at hp
    split at hp
    · rename_i u hu
      obtain ⟨V, w', hr, hb⟩ := convC_sound hc hE (evalA_rel hfr hu) hp
      exact ⟨V, w', by unfold execOp; simp only [ho, Sem.run_bind, hr, Result.andThen_ok, Sem.run_pure], hb⟩
    · cases hp
  · rename_i g first captured ho
    unfold insFunc at hi
    split at hi <;> cases hi
  · rename_i e ho
    cases hi
    unfold oAlloc at hp
    split at hp
    · rename_i i ht
      obtain ⟨info, d, z, hf⟩ := hc.facts ht
      refine ⟨_, _, ?_, boxed_sound hE (absV_rel s hf.zabs) hp⟩
      unfold execOp
      simp only [ho, Sem.run_bind, Instr.alloc, hf.run_zeroValue, Result.andThen_ok, newVar, newRow, run_newObj, Sem.run_pure]
    · cases hp
  · rename_i e x ho
    cases hi
    unfold oBox at hp
    split at hp
    · rename_i u hu
      refine ⟨_, _, ?_, boxed_sound hE (evalA_rel hfr hu) hp⟩
      unfold execOp
      simp only [ho, Sem.run_bind, Instr.box, Result.andThen_ok, newVar, newRow, run_newObj, Sem.run_pure]
    · cases hp
  · rename_i t n ps ho
    cases hi
    unfold oParts at hp
    split at hp
    · rename_i l hl
      obtain ⟨V, w', hr, hb⟩ := buildSlice_sound hc hE (ps := ps.map fun (i, x) => (i, a.eval x)) (by rw [Array.toList_map]; exact evalParts_rel hfr hl) hp
      exact ⟨V, w', by unfold execOp; simp only [ho, Sem.run_bind, hr, Result.andThen_ok, Sem.run_pure], hb⟩
    · cases hp
  · rename_i t l c ho
    cases hi
    unfold oMake at hp
    split at hp
    · rename_i u hu
      split at hp
      · rename_i q hq
        obtain ⟨V, w', hr, hb⟩ := makeSlice_sound hc hE (evalA_rel hfr hu) (evalA_rel hfr hq) hp
        exact ⟨V, w', by unfold execOp; simp only [ho, Sem.run_bind, hr, Result.andThen_ok, Sem.run_pure], hb⟩
      · cases hp
    · cases hp
  · rename_i t r ho
    split at hi
    · cases hi
      cases hp
      refine ⟨.map (some w.heap.size), { w with heap := w.heap.push (.map #[] 0) }, ?_, none, .map #[] 0, rfl, rfl, rfl, rfl, ?_, ?_⟩
      · unfold execOp
        simp only [ho, Sem.run_bind, Instr.makeMap, Option.map_none, Result.andThen_ok, run_newObj, Sem.run_pure]
      · exact ⟨#[], 0, push_get rfl, rfl⟩
      · simp only [VRel]; exact ⟨_, born_mem _ _ _ _, rfl⟩
    · cases hi
  · rename_i t x ho
    cases hi
    unfold oRange at hp
    split at hp
    · rename_i u hu
      obtain ⟨V, w', hr, hb⟩ := range_sound hc (w := w) (id := id) (evalA_rel hfr hu) hp
      exact ⟨V, w', by unfold execOp; simp only [ho, Sem.run_bind, hr, Result.andThen_ok, Sem.run_pure], hb⟩
    · cases hp
  · rename_i c ho
    unfold insCall at hi
    split at hi
    · cases hi
    · rename_i b hb
      unfold insBuiltin at hi
      split at hi
      · split at hi
        · unfold insLen at hi
          split at hi
          · split at hi <;> cases hi
          · cases hi
        · cases hi
      · split at hi <;> cases hi
      · cases hi
      · cases hi
      · split at hi <;> cases hi
      · cases hi
    · cases hi
end
end Go.Am
