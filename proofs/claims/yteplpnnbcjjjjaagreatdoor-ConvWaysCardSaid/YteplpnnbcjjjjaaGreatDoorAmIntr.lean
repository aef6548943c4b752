/- Functions that the machine answers itself: what the model answers. -/
import Derived.Test.YteplpnnbcjjjjaaGreatDoorAmCall
import Derived.Laws.Externs
import GoSem.Extern.BytealgCount
import Derived.Lib.Bytealg
import Derived.Lib.Repeat
import Derived.Lib.Join
namespace Go.Am
theorem idxB_find (c : UInt8) : ∀ (l pre : List UInt8), ((List.range' pre.length l.length).find? fun i => (⟨(pre ++ l).toArray⟩ : ByteArray)[i]! == c).elim (-1) (fun i => (i : Int)) = idxB c.toNat l pre.length
  | [], pre => rfl
  | b :: l, pre => by
    rw [List.length_cons, List.range'_succ, List.find?_cons]
    have hb : (⟨(pre ++ b :: l).toArray⟩ : ByteArray)[pre.length]! = b := by
      rw [Lib.get!_eq]
      simp
    rw [hb]
    unfold idxB
    have hn : Nat.beq b.toNat c.toNat = (b == c) := by
      cases h : Nat.beq b.toNat c.toNat with
      | true => have : b = c := UInt8.toNat_inj.1 (beq_true.1 h); simp [this]
      | false => have : b ≠ c := fun e => beq_false.1 h (by rw [e]); simp [this]
    rw [hn]
    cases b == c with
    | true => rfl
    | false =>
      have ih := idxB_find c l (pre ++ [b])
      simp only [List.append_assoc, List.singleton_append, List.length_append, List.length_singleton] at ih
      exact ih
theorem firstIdx_eq (s : List UInt8) (c : UInt8) : firstIdx ⟨s.toArray⟩ c = idxB c.toNat s 0 := by
  have := idxB_find c s []
  simp only [List.nil_append, List.length_nil] at this
  rw [← this]
  unfold firstIdx
  have e : (⟨s.toArray⟩ : ByteArray).size = s.length := rfl
  rw [e, List.range_eq_range']
  cases (List.range' 0 s.length).find? fun i => (⟨s.toArray⟩ : ByteArray)[i]! == c <;> rfl
section
variable {cfg : Cfg} {G : (Nat → Nat → Option Value) → Prop} {N0 : Nat}
theorem post_same {s : St} {h : AHeap} {w : World} (hi : Inv cfg G N0 s h w) {v : AV} {V : Value} (hv : VRel s v V) : Post cfg G N0 s h w v h V w := ⟨s, hi, Keep.refl _ _ _, hv⟩
theorem indexByte_run {f : FuncId} {fn : Func} (hf : cfg.P.funcs[f]? = some fn) (hname : (fn.name == "runtime.NumGoroutine") = false) (hb : fn.body.isNone = true) (hn : Extern.findNext fn = none) (he : Extern.find fn = some Extern.BytealgIndexByte.indexByte)
    {args : List AV} {h : AHeap} {v : AV} {h' : AHeap} (hr : iIndexByte args h = some (v, h')) {s : St} {w : World} {Args : List Value} (hl : LRel s args Args) (hi : Inv cfg G N0 s h w) : CallRun cfg.P f Args w fun V w' => Post cfg G N0 s h w v h' V w' := by
  unfold iIndexByte at hr
  split at hr
  · rename_i l c
    cases hc : Nat.blt c 256 with
    | false => rw [hc] at hr; cases hr
    | true =>
      rw [hc] at hr
      cases hr
      have hc : c < 256 := by simpa [Nat.blt_eq] using hc
      obtain ⟨A, As, rfl, hA, hl⟩ := hl.uncons
      obtain ⟨B, Bs, rfl, hB, hl⟩ := hl.uncons
      simp only [LRel] at hl
      simp only [VRel] at hA hB
      subst hl; subst hA; subst hB
      refine .inr ⟨.int .i64 (idxB c l 0), w, ?_, post_same hi (by simp only [VRel])⟩
      rw [run_callFunc_extern hf hname hb hn he]
      have := run_indexByte_string (P := cfg.P) ⟨l.toArray⟩ (Int.ofNat c) w
      rw [this, firstIdx_eq]
      have e : ((Int.ofNat c).toNat.toUInt8).toNat = c := by simp; omega
      rw [e]
      rfl
  · cases hr
theorem cntB_count (c : UInt8) : ∀ l : List UInt8, cntB c.toNat l = Lib.countByte l c
  | [] => rfl
  | b :: l => by
    have hn : Nat.beq b.toNat c.toNat = (b == c) := by
      cases h : Nat.beq b.toNat c.toNat with
      | true => have : b = c := UInt8.toNat_inj.1 (beq_true.1 h); simp [this]
      | false => have : b ≠ c := fun e => beq_false.1 h (by rw [e]); simp [this]
    have hc : cntB c.toNat (b :: l) = bif Nat.beq b.toNat c.toNat then cntB c.toNat l + 1 else cntB c.toNat l := rfl
    rw [hc, hn, cntB_count c l]
    unfold Lib.countByte
    rw [List.count_cons]
    cases b == c <;> simp
theorem countByte_run {f : FuncId} {fn : Func} (hf : cfg.P.funcs[f]? = some fn) (hname : (fn.name == "runtime.NumGoroutine") = false) (hb : fn.body.isNone = true) (hn : Extern.findNext fn = none) (he : Extern.find fn = some Extern.BytealgCount.count)
    {args : List AV} {h : AHeap} {v : AV} {h' : AHeap} (hr : iCountByte args h = some (v, h')) {s : St} {w : World} {Args : List Value} (hl : LRel s args Args) (hi : Inv cfg G N0 s h w) : CallRun cfg.P f Args w fun V w' => Post cfg G N0 s h w v h' V w' := by
  unfold iCountByte at hr
  split at hr
  · rename_i l c
    cases hc : Nat.blt c 256 with
    | false => rw [hc] at hr; cases hr
    | true =>
      rw [hc] at hr
      cases hr
      have hc : c < 256 := by simpa [Nat.blt_eq] using hc
      obtain ⟨A, As, rfl, hA, hl⟩ := hl.uncons
      obtain ⟨B, Bs, rfl, hB, hl⟩ := hl.uncons
      simp only [LRel] at hl
      simp only [VRel] at hA hB
      subst hl; subst hA; subst hB
      refine .inr ⟨.int .i64 (cntB c l), w, ?_, post_same hi (by simp only [VRel])⟩
      rw [run_callFunc_extern hf hname hb hn he]
      have := Lib.run_countString (P := cfg.P) ⟨l.toArray⟩ (Int.ofNat c) w
      rw [this, ← cntB_count]
      have e : ((Int.ofNat c).toNat.toUInt8).toNat = c := by simp; omega
      rw [e]
      rfl
  · cases hr
/-- A call that writes new blocks alone. -/
theorem post_below {s : St} {h : AHeap} {w w' : World} (hi : Inv cfg G N0 s h w) (hb : RowKit.Below w.heap.size w w') {v : AV} {V : Value} (hv : VRel s v V) : Post cfg G N0 s h w v h V w' := by
  refine ⟨s, ⟨fun i o hg => ?_, hi.inj, hi.fresh, fun i b hm => Nat.lt_of_lt_of_le (hi.memlt i b hm) hb.size, fun b g hg => Nat.lt_of_lt_of_le (hi.geolt b g hg) hb.size, fun b o v hv => ?_, hi.apart, hi.glob, Nat.le_trans hi.old hb.size⟩, ⟨⟨hb.os, hb.tape, hb.output, hb.size, fun b hlt _ => hb.block b hlt, fun _ _ _ h => h, fun _ _ => rfl, fun b ho => .inl ho, Ext.refl s⟩, fun _ _ => rfl, Nat.le_refl _⟩, hv⟩
  · obtain ⟨b, hm, hN, ho⟩ := hi.obj i o hg
    exact ⟨b, hm, hN, ho.of_heap (hb.block b (hi.memlt _ _ hm))⟩
  · have hc := hi.imm b o v hv
    have hlt : b < w.heap.size := World.block_lt_of_cell? w ⟨b, o, none⟩ hc
    unfold World.cell? at hc ⊢
    rw [hb.block b hlt]
    exact hc

/-- The cells of a row, in the world. -/
theorem rowCells_at {s : St} {h : AHeap} {w : World} (hi : Inv cfg G N0 s h w) {sz : Nat} {x : AV} {X : Value} (hx : VRel s x X) {cs : List AV} (hr : rowCells sz x h = some cs) :
    ∃ a len cap vs, X = .slice a len cap ∧ len ≤ cap ∧ LRel s cs vs ∧ vs.length = len * sz ∧ (vs = [] ∨ ∃ b off, a = some ⟨b, off, none⟩ ∧ CAt w b off vs) := by
  unfold rowCells at hr
  split at hr
  · cases hr; simp only [VRel] at hx; subst hx; exact ⟨none, 0, 0, [], rfl, Nat.le_refl _, .nil, by simp, .inl rfl⟩
  · cases hr; simp only [VRel] at hx; obtain ⟨a, rfl⟩ := hx; exact ⟨some a, 0, 0, [], rfl, Nat.le_refl _, .nil, by simp, .inl rfl⟩
  · cases hr; simp only [VRel] at hx; obtain ⟨a, c, rfl⟩ := hx; exact ⟨some a, 0, c, [], rfl, Nat.zero_le _, .nil, by simp, .inl rfl⟩
  · rename_i cs' len
    cases hb : Nat.beq cs'.length (len * sz) with
    | false => rw [hb] at hr; cases hr
    | true =>
      rw [hb] at hr
      cases hr
      have hb := beq_true.1 hb
      simp only [VRel] at hx
      obtain ⟨a, c, rfl, hlc, hf, hh⟩ := hx
      rcases hh with rfl | ⟨b, off, rfl, hir⟩
      · exact ⟨a, len, c, [], rfl, hlc, .nil, by simpa using hb, .inl rfl⟩
      · obtain ⟨vs, hl, hat⟩ := hir.at hi
        have hlen := hl.length
        exact ⟨some ⟨b, off, none⟩, len, c, vs, rfl, hlc, hl, by omega, .inr ⟨b, off, rfl, hat⟩⟩
  · rename_i id off len cap
    split at hr
    · rename_i cs' e hg
      simp only at hr
      cases hb : Nat.beq ((cs'.drop off).take (len * sz)).length (len * sz) with
      | false => rw [hb] at hr; cases hr
      | true =>
        rw [hb] at hr
        cases hr
        have hb := beq_true.1 hb
        simp only [VRel] at hx
        obtain ⟨b, c, hm, rfl, hlc, hcap⟩ := hx
        obtain ⟨vs, hl, hat⟩ := hi.cells hg hm
        have hl' := (hl.drop off).take (len * sz)
        have hlen := hl'.length
        refine ⟨some ⟨b, off, none⟩, len, c, _, rfl, hlc, hl', by omega, .inr ⟨b, off, rfl, ?_⟩⟩
        have := (hat.drop off).take (len * sz)
        rwa [Nat.zero_add] at this
    · cases hr
  · cases hr
theorem repB_repeatL (s : List UInt8) : ∀ n, repB s n = Lib.repeatL s n
  | 0 => rfl
  | n + 1 => by unfold repB Lib.repeatL; rw [repB_repeatL s n]
theorem joinB_join (sep : List UInt8) : ∀ l, joinB sep l = Lib.join l sep
  | [] => rfl
  | [x] => (Lib.join_one x sep).symm
  | x :: y :: l => by
    unfold joinB
    rw [joinB_join sep (y :: l), Lib.join_cons, Lib.join_cons]
    simp [Lib.joinTail]
/-- A Go function that the program bears, entered. -/
def Enters (P : Program) (f : FuncId) : Prop := ∃ fn, P.funcs[f]? = some fn ∧ fn.body.isNone = false ∧ (fn.name == "runtime.NumGoroutine") = false
theorem repeat_run {f : FuncId} (he : Enters cfg.P f) (hc : ∀ (s : ByteArray) (c : Nat) (w : World), c ≤ 9223372036854775807 → s.size * c ≤ 140737488355328 → Calls cfg.P f #[.string s, .int .i64 c] w fun e w' => e = .returned (.string ⟨(Lib.repeatL s.data.toList c).toArray⟩) ∧ RowKit.Below w.heap.size w w')
    {args : List AV} {h : AHeap} {v : AV} {h' : AHeap} (hr : iRepeat args h = some (v, h')) {s : St} {w : World} {Args : List Value} (hl : LRel s args Args) (hi : Inv cfg G N0 s h w) : CallRun cfg.P f Args w fun V w' => Post cfg G N0 s h w v h' V w' := by
  unfold iRepeat at hr
  split at hr
  · rename_i l n
    cases hn : (Nat.ble n 1073741824 && Nat.ble (n * l.length) 1073741824) with
    | false => rw [hn] at hr; cases hr
    | true =>
      rw [hn] at hr
      cases hr
      simp only [Bool.and_eq_true, ble_true] at hn
      obtain ⟨A, As, rfl, hA, hl⟩ := hl.uncons
      obtain ⟨B, Bs, rfl, hB, hl⟩ := hl.uncons
      simp only [LRel] at hl
      simp only [VRel] at hA hB
      subst hl; subst hA; subst hB
      refine .inl ⟨he, (hc ⟨l.toArray⟩ n w (by omega) ?_).mono fun e w' ⟨h1, h2⟩ => ⟨_, h1, post_below hi h2 ?_⟩⟩
      · have e : (⟨l.toArray⟩ : ByteArray).size = l.length := rfl
        rw [e, Nat.mul_comm]; omega
      · simp only [VRel]
        rw [repB_repeatL]
  · cases hr
theorem strsOf_rel {s : St} : ∀ {cs : List AV} {l : List (List UInt8)} {vs : List Value}, strsOf cs = some l → LRel s cs vs → vs = l.map fun b => Value.string ⟨b.toArray⟩
  | [], l, vs, h, hl => by cases h; simp only [LRel] at hl; exact hl
  | c :: cs, l, vs, h, hl => by
    obtain ⟨v, ws, rfl, hv, hl'⟩ := hl.uncons
    unfold strsOf at h
    cases c with
    | str s0 =>
      simp only at h
      cases hm : strsOf cs with
      | none => rw [hm] at h; cases h
      | some m =>
        rw [hm] at h
        cases h
        simp only [VRel] at hv
        rw [hv, strsOf_rel hm hl']
        rfl
    | _ => cases h
theorem join_run {f : FuncId} (he : Enters cfg.P f)
    (h0 : ∀ (a : Option Addr) (c : Nat) (sep : ByteArray) (w : World), Calls cfg.P f #[.slice a 0 c, .string sep] w fun e w' => e = .returned (.string ⟨#[]⟩) ∧ w' = w)
    (hc : ∀ (bk o c : Nat) (xs : List ByteArray) (sep : ByteArray) (w : World), (∀ (j : Nat) x, xs[j]? = some x → w.cell? ⟨bk, o + j, none⟩ = some (.string x)) → bk < w.heap.size → xs.length ≤ 140737488355328 → xs.length ≤ c → (Lib.join (xs.map (·.data.toList)) sep.data.toList).length ≤ 140737488355328 →
      Calls cfg.P f #[.slice (some ⟨bk, o, none⟩) xs.length c, .string sep] w fun e w' => e = .returned (.string ⟨(Lib.join (xs.map (·.data.toList)) sep.data.toList).toArray⟩) ∧ RowKit.Below w.heap.size w w')
    {args : List AV} {h : AHeap} {v : AV} {h' : AHeap} (hr : iJoin args h = some (v, h')) {s : St} {w : World} {Args : List Value} (hl : LRel s args Args) (hi : Inv cfg G N0 s h w) : CallRun cfg.P f Args w fun V w' => Post cfg G N0 s h w v h' V w' := by
  unfold iJoin at hr
  split at hr
  · rename_i x sep
    split at hr
    · rename_i cs hrow
      split at hr
      · rename_i l hstr
        cases hn : (Nat.ble l.length 1073741824 && Nat.ble (joinB sep l).length 1073741824) with
        | false => rw [hn] at hr; cases hr
        | true =>
          rw [hn] at hr
          cases hr
          simp only [Bool.and_eq_true, ble_true] at hn
          obtain ⟨A, As, rfl, hA, hl⟩ := hl.uncons
          obtain ⟨B, Bs, rfl, hB, hl⟩ := hl.uncons
          simp only [LRel] at hl
          simp only [VRel] at hB
          subst hl; subst hB
          obtain ⟨a, len, cap, vs, rfl, hlc, hvl, hlen, hat⟩ := rowCells_at hi hA hrow
          have hvs := strsOf_rel hstr hvl
          have hll : len = l.length := by rw [hvs, List.length_map] at hlen; omega
          subst hll
          refine .inl ⟨he, ?_⟩
          rcases hat with hnil | ⟨b, off, rfl, hat⟩
          · have : l = [] := by rw [hvs] at hnil; simpa using hnil
            subst this
            exact (h0 a cap ⟨sep.toArray⟩ w).mono fun e w' ⟨h1, h2⟩ => ⟨_, h1, by subst h2; exact post_same hi (by simp only [VRel]; rfl)⟩
          · cases l with
            | nil => exact (h0 _ cap ⟨sep.toArray⟩ w).mono fun e w' ⟨h1, h2⟩ => ⟨_, h1, by subst h2; exact post_same hi (by simp only [VRel]; rfl)⟩
            | cons y l =>
              have hcell : ∀ (j : Nat) x, ((y :: l).map fun b => (⟨b.toArray⟩ : ByteArray))[j]? = some x → w.cell? ⟨b, off + j, none⟩ = some (.string x) := fun j x hx => hat j _ (by
                rw [hvs]
                simp only [List.getElem?_map, Option.map_eq_some_iff] at hx ⊢
                obtain ⟨z, hz, rfl⟩ := hx
                exact ⟨z, hz, rfl⟩)
              have hb : b < w.heap.size := World.block_lt_of_cell? w ⟨b, off + 0, none⟩ (hcell 0 _ rfl)
              have hmm : (((y :: l).map fun b => (⟨b.toArray⟩ : ByteArray)).map (·.data.toList)) = y :: l := by simp [Function.comp_def]
              have := hc b off cap ((y :: l).map fun b => ⟨b.toArray⟩) ⟨sep.toArray⟩ w hcell hb (by simp only [List.length_map]; omega) (by simpa using hlc) (by rw [hmm, ← joinB_join]; exact Nat.le_trans hn.2 (by decide))
              rw [hmm, List.length_map] at this
              refine this.mono fun e w' ⟨h1, h2⟩ => ⟨_, h1, post_below hi h2 (by simp only [VRel]; rw [joinB_join])⟩
      · cases hr
    · cases hr
  · cases hr
end
end Go.Am
