/- One operation that acts, calls among them; a region in the text's order. -/
import Derived.Test.YteplpnnbcjjjjaaGreatDoorAmApp2
import Derived.LoopN
namespace Go.Am
section
variable {cfg : Cfg} {G : (Nat → Nat → Option Value) → Prop} {N0 : Nat} {s : St} {h : AHeap} {w : World}
/-! ### 26. Operations that act -/
/-- A call comes to a value: of a function with a body, or of one that the model stands in for. -/
def CallRun (P : Program) (f : FuncId) (Args : List Value) (w : World) (R : Value → World → Prop) : Prop :=
  ((∃ fn, P.funcs[f]? = some fn ∧ fn.body.isNone = false ∧ (fn.name == "runtime.NumGoroutine") = false) ∧ Calls P f Args.toArray w fun e w' => ∃ V, e = .returned V ∧ R V w') ∨
  ∃ V w', (callFunc f Args.toArray).run P w = .ok (.value V) w' ∧ R V w'
/-- A call that the machine answers runs so. -/
def CallsOk (cfg : Cfg) (G : (Nat → Nat → Option Value) → Prop) (N0 : Nat) (callf : CallF) : Prop :=
  ∀ f args h v h', callf f args h = some (v, h') → ∀ s w Args, LRel s args Args → Inv cfg G N0 s h w → CallRun cfg.P f Args w fun V w' => Post cfg G N0 s h w v h' V w'
theorem wp_value {P : Program} {o : Oper} {a : Act} {w w' : World} {V : Value} {next : Act → World → Prop} {Q : Exit → Act → World → Prop} (hr : (execOp a.eval o).run P w = .ok (.value V) w') (hn : next (a.put o.dst V) w') : o.wp P a w next Q := by
  unfold Oper.wp; rw [hr]; exact hn
theorem wp_skipped {P : Program} {o : Oper} {a : Act} {w w' : World} {next : Act → World → Prop} {Q : Exit → Act → World → Prop} (hr : (execOp a.eval o).run P w = .ok .skip w') (hn : next (a.put o.dst undef) w') : o.wp P a w next Q := by
  unfold Oper.wp; rw [hr]; exact hn
theorem run_callFunc_enter {P : Program} {f : FuncId} {fn : Func} (hf : P.funcs[f]? = some fn) (hb : fn.body.isNone = false) (hn : (fn.name == "runtime.NumGoroutine") = false) (args : Array Value) (w : World) : (callFunc f args).run P w = .ok (.enter f args) w := by
  unfold callFunc
  simp only [Sem.run_bind, run_program, Result.andThen_ok, hf, hn, hb, Bool.false_eq_true, if_false, Sem.run_pure]
theorem insA_sound (hc : CfgTy cfg) {callf : CallF} (hcall : CallsOk cfg G N0 callf) (hinv : Inv cfg G N0 s h w) {o : Oper} {f : CallF → Fr → AHeap → Option (AV × AHeap)} (hi : insOf cfg o.op = .A f) {fr : Fr} {a : Act} (hfr : FRel s fr a.tmps) {v : AV} {h' : AHeap} (hv : f callf fr h = some (v, h'))
    {next : Act → World → Prop} {Q : Exit → Act → World → Prop} (hnext : ∀ V w', Post cfg G N0 s h w v h' V w' → next (a.put o.dst V) w') : o.wp cfg.P a w next Q := by
  have hput : ∀ {t : TypeId} {m k x : Operand}, (oMapPut cfg t m k x callf fr h = some (v, h')) → ∃ w', (Instr.mapUpdate t (a.eval m) (a.eval k) (a.eval x)).run cfg.P w = .ok () w' ∧ Post cfg G N0 s h w v h' undef w' := by
    intro t m k x hv
    unfold oMapPut at hv
    split at hv
    · rename_i m1 hm
      split at hv
      · rename_i k1 hk
        split at hv
        · rename_i x1 hx
          cases hkf : k1.hf with
          | false => rw [hkf] at hv; cases hv
          | true =>
            rw [hkf] at hv
            simp only [cond_true] at hv
            split at hv
            · rename_i h1 hu
              cases hv
              obtain ⟨w', hr, hI, hK⟩ := amapUpdate_sound hc hinv (evalA_rel hfr hm) (evalA_rel hfr hk) (evalA_rel hfr hx) hkf hu
              exact ⟨w', hr, s, hI, hK, VRel.undef⟩
            · cases hv
        · cases hv
      · cases hv
    · cases hv
  unfold insOf at hi
  split at hi <;> try (first | (cases hi; done) | (split at hi <;> cases hi; done))
  · rename_i b t x ho
    unfold insConv at hi; split at hi
    · split at hi
      · split at hi
        · cases hi
        · split at hi <;> cases hi
        · cases hi
      · cases hi
    · cases hi
  · rename_i g first captured ho
    unfold insFunc at hi
    split at hi <;> cases hi
  · rename_i x isString ho
    cases hi
    unfold oNext at hv
    split at hv
    · rename_i u hu
      obtain ⟨V, w', hr, hp⟩ := anext_sound hinv (evalA_rel hfr hu) hv o.type
      refine wp_value (w' := w') ?_ (hnext V w' hp)
      unfold execOp
      simp only [ho, Sem.run_bind, hr, Result.andThen_ok, Sem.run_pure]
    · cases hv
  · rename_i t p x ho
    cases hi
    unfold oStore at hv
    split at hv
    · rename_i p1 hp
      split at hv
      · rename_i x1 hx
        split at hv
        · rename_i h1 hs
          cases hv
          obtain ⟨w', hr, hI, hK⟩ := astore_sound hc hinv (evalA_rel hfr hp) (evalA_rel hfr hx) hs
          refine wp_skipped (w' := w') ?_ (hnext undef w' ⟨s, hI, hK, VRel.undef⟩)
          unfold execOp
          simp only [ho, Sem.run_bind, hr, Result.andThen_ok, Sem.run_pure]
        · cases hv
      · cases hv
    · cases hv
  · rename_i t m k x ho
    cases hi
    obtain ⟨w', hr, hp⟩ := hput hv
    refine wp_skipped (w' := w') ?_ (hnext undef w' hp)
    unfold execOp
    simp only [ho, Sem.run_bind, hr, Result.andThen_ok, Sem.run_pure]
  · rename_i t m k x ho
    cases hi
    obtain ⟨w', hr, hp⟩ := hput hv
    refine wp_skipped (w' := w') ?_ (hnext undef w' hp)
    unfold execOp
    simp only [ho, Sem.run_bind, hr, Result.andThen_ok, Sem.run_pure]
  · rename_i c ho
    unfold insCall at hi
    split at hi
    · rename_i fv hfv
      cases hi
      unfold oCall at hv
      split at hv
      · rename_i l hl
        split at hv
        · rename_i g x y hg
          have hgr := evalA_rel hfr hg
          simp only [VRel] at hgr
          obtain ⟨X, Y, hX, hx, hy⟩ := hgr
          have hargs := evalAs_rel hfr hl
          have hexec : (execOp a.eval o).run cfg.P w = (callFunc g (X ++ c.args.toList.map a.eval ++ Y).toArray).run cfg.P w := by
            unfold execOp
            simp only [ho, resolve, hfv, hX, Deferred.ofValue, Sem.run_bind, Sem.run_pure, Result.andThen_ok, invoke]
            have : (X.toArray ++ c.args.map a.eval ++ Y.toArray) = (X ++ c.args.toList.map a.eval ++ Y).toArray := by
              apply Array.toList_inj.1
              simp
            rw [this]
          rcases hcall g _ h v h' hv s w _ ((hx.append hargs).append hy) hinv with ⟨⟨fn, hfn, hbody, hname⟩, hcalls⟩ | ⟨V, w', hrun, hp⟩
          · rw [run_callFunc_enter hfn hbody hname _ w] at hexec
            unfold Oper.wp
            rw [hexec, Oper.upon_enter]
            refine hcalls.mono fun e w' he => ?_
            obtain ⟨V, rfl, hp⟩ := he
            exact hnext V w' hp
          · exact wp_value (hexec.trans hrun) (hnext V w' hp)
        · cases hv
      · cases hv
    · rename_i b hb
      unfold insBuiltin at hi
      split at hi
      · split at hi
        · unfold insLen at hi
          split at hi
          · split at hi <;> cases hi
          · cases hi
        · cases hi
      · split at hi <;> cases hi
      · cases hi
      · cases hi
      · split at hi
        · rename_i x y t u hxs hts
          cases hi
          unfold oAppend at hv
          split at hv
          · rename_i x1 hx
            split at hv
            · rename_i y1 hy
              obtain ⟨V, w', hr, hp⟩ := aappend_sound hc hinv (evalA_rel hfr hx) (evalA_rel hfr hy) hv o.type
              refine wp_value (w' := w') (V := V) ?_ (hnext V w' hp)
              rw [run_builtinOp ho hb, list2 hxs, list2 hts]
              have : (#[x, y].map a.eval) = #[a.eval x, a.eval y] := by simp
              simp only [builtin, Sem.run_bind, this, hr]
              rfl
            · cases hv
          · cases hv
        · cases hi
      · cases hi
    · cases hi
/-! ### 27. A region in the text's order -/
/-- A frame of the machine against one of the model. -/
structure SRel (cfg : Cfg) (G : (Nat → Nat → Option Value) → Prop) (N0 nt : Nat) (s : St) (h : AHeap) (w : World) (fr : Fr) (a : Act) : Prop where
  inv : Inv cfg G N0 s h w
  frel : FRel s fr a.tmps
  size : a.tmps.size = nt
  defers : a.defers = []
theorem SRel.put {nt : Nat} {fr : Fr} {a : Act} (hs : SRel cfg G N0 nt s h w fr a) {s' : St} {h' : AHeap} {w' : World} (hi : Inv cfg G N0 s' h' w') (he : Ext s s') {v : AV} {V : Value} (hv : VRel s' v V) {d : Option Nat} (hd : ∀ t, d = some t → t < nt) :
    SRel cfg G N0 nt s' h' w' (Fr.put fr d v) (a.put d V) :=
  ⟨hi, (hs.frel.ext he).put hv d (fun t e => by rw [hs.size]; exact hd t e) a.defers, by rw [put_size, hs.size], by
    have : (a.put d V).defers = a.defers := by cases d <;> rfl
    rw [this, hs.defers]⟩
theorem rel_bool {b : Bool} {x : AV} (hv : VRel s x (.bool b)) : x = .bool b := by
  cases x <;> simp only [VRel] at hv <;> first
    | (cases hv; rfl)
    | (obtain ⟨_, _, hv, _⟩ := hv; cases hv; done)
    | (obtain ⟨_, _, _, hv, _⟩ := hv; cases hv; done)
    | (obtain ⟨_, _, hv⟩ := hv; cases hv; done)
    | (obtain ⟨_, hv, _⟩ := hv; cases hv; done)
    | (obtain ⟨_, hv⟩ := hv; cases hv; done)
    | cases hv
theorem wanted_eq {fr : Fr} {a : Act} (hf : FRel s fr a.tmps) (ops : Array Oper) (o : Oper) : Region.wanted o (yielded ops a.tmps) = wantedA ops.toList o fr := by
  unfold Region.wanted wantedA
  cases o.guard with
  | none => rfl
  | some p =>
    obtain ⟨j, want⟩ := p
    simp only [yielded]
    have hget : ops.toList[j]? = ops[j]? := by simp
    rw [hget]
    cases hd : (ops[j]?).bind (·.dst) with
    | none => rfl
    | some t =>
      simp only [Option.bind_some]
      have hr := hf t
      rw [Array.getD_eq_getD_getElem?] at hr
      cases ht : a.tmps[t]? with
      | none =>
        rw [ht] at hr
        simp only [Option.getD_none] at hr
        cases hx : Fr.at fr t with
        | bool b => rw [hx] at hr; simp only [VRel] at hr; cases hr
        | _ => rfl
      | some V =>
        rw [ht] at hr
        simp only [Option.getD_some] at hr
        cases V with
        | bool b =>
          rw [rel_bool hr]
          cases b <;> cases want <;> rfl
        | _ =>
          cases hx : Fr.at fr t with
          | bool b => rw [hx] at hr; simp only [VRel] at hr; cases hr
          | _ => rfl
theorem force_eq {α : Type} (v : AV) (k : AV → α) : force v k = k v := by
  unfold force
  split
  · split
    · split <;> rfl
    · split <;> rfl
  · split <;> rfl
  · rfl
theorem runL_cons (callf : CallF) (ops : List Oper) (o : Oper) (l : List Oper) (fr : Fr) (h : AHeap) : runL cfg callf ops (o :: l) fr h = cond (wantedA ops o fr) (match stepA callf (insOf cfg o.op) fr h with
      | some (v, h1) => runL cfg callf ops l (Fr.put fr o.dst v) h1
      | none => none) (runL cfg callf ops l (Fr.put fr o.dst .undef) h) := by
  show cond (wantedA ops o fr) (match stepA callf (insOf cfg o.op) fr h with
      | some (v, h1) => force v fun v => runL cfg callf ops l (Fr.put fr o.dst v) h1
      | none => none) (runL cfg callf ops l (Fr.put fr o.dst .undef) h) = _
  simp only [force_eq]
/-- One operation of any class. -/
theorem step_sound (hc : CfgTy cfg) {callf : CallF} (hcall : CallsOk cfg G N0 callf) {nt : Nat} {fr : Fr} {a : Act} (hs : SRel cfg G N0 nt s h w fr a) {o : Oper} (hd : ∀ t, o.dst = some t → t < nt) {v : AV} {h' : AHeap} (hv : stepA callf (insOf cfg o.op) fr h = some (v, h'))
    {next : Act → World → Prop} {Q : Exit → Act → World → Prop} (hnext : ∀ s' a' w', Keep s h w s' h' w' → SRel cfg G N0 nt s' h' w' (Fr.put fr o.dst v) a' → next a' w') : o.wp cfg.P a w next Q := by
  cases hi : insOf cfg o.op with
  | P f =>
    rw [hi] at hv
    simp only [stepA] at hv
    split at hv
    · rename_i u hu
      cases hv
      obtain ⟨V, hV, hr⟩ := insP_sound hc hi hs.frel hu
      exact wp_value (hr w) (hnext s _ w (Keep.refl _ _ _) (hs.put hs.inv (Ext.refl s) hV hd))
    · cases hv
  | R f =>
    rw [hi] at hv
    simp only [stepA] at hv
    split at hv
    · rename_i u hu
      cases hv
      obtain ⟨V, hV, hr⟩ := insR_sound hc hs.inv hi hs.frel hu
      exact wp_value hr (hnext s _ w (Keep.refl _ _ _) (hs.put hs.inv (Ext.refl s) hV hd))
    · cases hv
  | C f =>
    rw [hi] at hv
    simp only [stepA] at hv
    split at hv
    · rename_i p hp
      cases hv
      obtain ⟨V, w', hr, g, ob, hw, hos, htape, hout, hob, hval⟩ := insC_sound hc (id := h.next) (fun g => hs.inv.extBorn g) hi hs.frel hp
      have hn := hs.inv.new hw hob hos htape hout
      exact wp_value hr (hnext _ _ w' hn.2 (hs.put hn.1 hn.2.ext hval hd))
    · cases hv
  | A f =>
    rw [hi] at hv
    simp only [stepA] at hv
    refine insA_sound hc hcall hs.inv hi hs.frel hv (fun V w' hp => ?_)
    obtain ⟨s', hI, hK, hV⟩ := hp
    exact hnext s' _ w' hK (hs.put hI hK.ext hV hd)
  | X => rw [hi] at hv; cases hv
theorem runL_sound (hc : CfgTy cfg) {callf : CallF} (hcall : CallsOk cfg G N0 callf) {nt : Nat} {ops : Array Oper} (hd : ∀ o ∈ ops.toList, ∀ t, o.dst = some t → t < nt) {Q : Exit → Act → World → Prop} {fr' : Fr} {h' : AHeap} :
    ∀ (l : List Oper) (i : Nat) (s : St) (h : AHeap) (w : World) (fr : Fr) (a : Act), ops.toList.drop i = l → SRel cfg G N0 nt s h w fr a → runL cfg callf ops.toList l fr h = some (fr', h') →
      (∀ s' a' w', Keep s h w s' h' w' → SRel cfg G N0 nt s' h' w' fr' a' → Q .normal a' w') → wpOps cfg.P ops Q (List.range' i l.length) a w
  | [], i, s, h, w, fr, a, _, hs, hr, hq => by
    cases hr
    exact hq s a w (Keep.refl _ _ _) hs
  | o :: l, i, s, h, w, fr, a, hdrop, hs, hr, hq => by
    rw [List.length_cons, List.range'_succ, wpOps_cons]
    have hget : ops[i]? = some o := by
      have : ops.toList[i]? = some o := by
        have := congrArg (·[0]?) hdrop
        simpa using this
      simpa using this
    have hmem : o ∈ ops.toList := List.mem_of_getElem? (by simpa using hget)
    have hdrop' : ops.toList.drop (i + 1) = l := by
      rw [← List.drop_drop, hdrop]; rfl
    unfold wpOp
    simp only [hget]
    rw [wanted_eq hs.frel, ]
    rw [runL_cons] at hr
    cases hw : wantedA ops.toList o fr with
    | true =>
      rw [hw] at hr
      simp only [cond_true] at hr
      rw [if_pos rfl]
      split at hr
      · rename_i v h1 hst
        refine .inl (step_sound hc hcall hs (hd o hmem) hst (fun s1 a1 w1 hK hs1 => ?_))
        exact runL_sound hc hcall hd l (i + 1) s1 h1 w1 _ a1 hdrop' hs1 hr (fun s' a' w' hK' hs' => hq s' a' w' (hK.trans hK') hs')
      · cases hr
    | false =>
      rw [hw] at hr
      simp only [cond_false] at hr
      rw [if_neg (by simp)]
      exact runL_sound hc hcall hd l (i + 1) s h w _ _ hdrop' (hs.put hs.inv (Ext.refl s) VRel.undef (hd o hmem)) hr hq
end
end Go.Am
