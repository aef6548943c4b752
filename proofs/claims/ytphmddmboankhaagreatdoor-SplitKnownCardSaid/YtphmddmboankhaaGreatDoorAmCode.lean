/- Code and calls: what the machine answers, the model answers. -/
import Derived.Test.YtphmddmboankhaaGreatDoorAmDraw2
namespace Go.Am
section
variable {cfg : Cfg} {G : (Nat → Nat → Option Value) → Prop} {N0 nt : Nat} {callf : CallF}
/-! ### 36. Code -/
def AExit.ex : AExit → Exit
  | .normal => .normal
  | .exit id => .exit id
  | .ret => .ret
theorem opsOk_dst {ops : Array Oper} {draw : Bool} (h : opsOk cfg nt ops.toList draw = true) : ∀ o ∈ ops.toList, ∀ t, o.dst = some t → t < nt := fun o ho t ht => by
  unfold opsOk at h
  simp only [Bool.and_eq_true] at h
  have := List.all_eq_true.1 h.1 o ho
  rw [ht] at this
  simpa [Nat.blt_eq] using this
theorem opsOk_plan {ops : Array Oper} (h : opsOk cfg nt ops.toList true = true) : planOk cfg ops.toList = true := by
  unfold opsOk at h
  simp only [Bool.and_eq_true, Bool.not_true, Bool.false_or] at h
  exact h.2
theorem codeA_sound (hc : CfgTy cfg) (hcall : CallsOk cfg G N0 callf) (hm : cfg.P.follows .mixedOrders = true) (n : Nat) : ∀ (c : Code), codeOk cfg nt c = true → ∀ (s : St) (h : AHeap) (w : World) (fr : Fr) (a : Act) (x : AExit) (fr' : Fr) (h' : AHeap) (Q : Exit → Act → World → Prop),
    SRel cfg G N0 nt s h w fr a → codeA cfg callf n c fr h = some (x, fr', h') → (∀ s' a' w', Keep s h w s' h' w' → SRel cfg G N0 nt s' h' w' fr' a' → Q x.ex a' w') → c.wp cfg.P Q a w := by
  intro c
  induction c with
  | skip =>
    intro _ s h w fr a x fr' h' Q hs hr hq
    cases hr
    exact wp_skip (hq s a w (Keep.refl _ _ _) hs)
  | region id ops draw =>
    intro hok s h w fr a x fr' h' Q hs hr hq
    have hok : opsOk cfg nt ops.toList draw = true := hok
    have hr : stepRegion cfg callf ops.toList draw fr h = some (x, fr', h') := hr
    unfold stepRegion at hr
    cases draw with
    | true =>
      simp only [cond_true] at hr
      split at hr
      · rename_i fr1 h1 hd
        cases hr
        exact drawA_sound hc hcall hm (opsOk_plan hok) (opsOk_dst hok) hs hd hq id
      · cases hr
    | false =>
      simp only [cond_false] at hr
      split at hr
      · rename_i fr1 h1 hd
        cases hr
        refine wp_region ?_
        have := runL_sound (Q := Q) hc hcall (opsOk_dst hok) ops.toList 0 s h w fr a rfl hs hd hq
        rw [List.range_eq_range']
        simpa using this
      · cases hr
  | seq p q ih1 ih2 =>
    intro hok s h w fr a x fr' h' Q hs hr hq
    have hok : (codeOk cfg nt p && codeOk cfg nt q) = true := hok
    simp only [Bool.and_eq_true] at hok
    have hr : stepSeq (codeA cfg callf n p) (codeA cfg callf n q) fr h = some (x, fr', h') := hr
    unfold stepSeq at hr
    split at hr
    · rename_i fr1 h1 hp
      refine wp_seq (ih1 hok.1 s h w fr a .normal fr1 h1 _ hs hp (fun s1 a1 w1 hK hs1 => ?_))
      exact ih2 hok.2 s1 h1 w1 fr1 a1 x fr' h' Q hs1 hr (fun s' a' w' hK' hs' => hq s' a' w' (hK.trans hK') hs')
    · rename_i hne
      cases x with
      | normal => exact absurd hr (hne fr' h')
      | exit id => exact wp_seq (ih1 hok.1 s h w fr a (.exit id) fr' h' _ hs hr hq)
      | ret => exact wp_seq (ih1 hok.1 s h w fr a .ret fr' h' _ hs hr hq)
  | cond c p q ih1 ih2 =>
    intro hok s h w fr a x fr' h' Q hs hr hq
    have hok : (codeOk cfg nt p && codeOk cfg nt q) = true := hok
    simp only [Bool.and_eq_true] at hok
    have hr : stepCond c (codeA cfg callf n p) (codeA cfg callf n q) fr h = some (x, fr', h') := hr
    unfold stepCond at hr
    split at hr
    · rename_i b hb
      have hev := evalA_rel hs.frel hb
      simp only [VRel] at hev
      refine wp_cond hev ?_
      cases b with
      | true => exact ih1 hok.1 s h w fr a x fr' h' Q hs hr hq
      | false => exact ih2 hok.2 s h w fr a x fr' h' Q hs hr hq
    · cases hr
  | block id p ih =>
    intro hok s h w fr a x fr' h' Q hs hr hq
    have hr : stepBlock id (codeA cfg callf n p) fr h = some (x, fr', h') := hr
    unfold stepBlock at hr
    split at hr
    · rename_i j fr1 h1 hp
      refine wp_block (ih hok s h w fr a (.exit j) fr1 h1 _ hs hp (fun s1 a1 w1 hK hs1 => ?_))
      show (if j = id then Q .normal a1 w1 else Q (.exit j) a1 w1)
      cases hj : Nat.beq j id with
      | true =>
        rw [hj] at hr
        cases hr
        rw [if_pos (beq_true.1 hj)]
        exact hq s1 a1 w1 hK hs1
      | false =>
        rw [hj] at hr
        cases hr
        rw [if_neg (beq_false.1 hj)]
        exact hq s1 a1 w1 hK hs1
    · rename_i hne
      cases x with
      | normal => exact wp_block (ih hok s h w fr a .normal fr' h' _ hs hr hq)
      | exit j => exact absurd hr (hne j fr' h')
      | ret => exact wp_block (ih hok s h w fr a .ret fr' h' _ hs hr hq)
  | loop p ih =>
    intro hok s h w fr a x fr' h' Q hs hr hq
    have hr : roundsA (codeA cfg callf n p) n fr h = some (x, fr', h') := hr
    refine wp_loop_rounds n ?_
    have key : ∀ k s h w fr a, SRel cfg G N0 nt s h w fr a → roundsA (codeA cfg callf n p) k fr h = some (x, fr', h') → (∀ s' a' w', Keep s h w s' h' w' → SRel cfg G N0 nt s' h' w' fr' a' → Q x.ex a' w') → Code.rounds cfg.P p Q k a w := by
      intro k
      induction k with
      | zero => intro s h w fr a _ hr _; cases hr
      | succ k ihk =>
        intro s h w fr a hs hr hq
        have hr : (match codeA cfg callf n p fr h with
          | some (.normal, fr1, h1) => roundsA (codeA cfg callf n p) k fr1 h1
          | r => r) = some (x, fr', h') := hr
        rw [rounds_succ]
        split at hr
        · rename_i fr1 h1 hp
          refine ih hok s h w fr a .normal fr1 h1 _ hs hp (fun s1 a1 w1 hK hs1 => ?_)
          exact ihk s1 h1 w1 fr1 a1 hs1 hr (fun s' a' w' hK' hs' => hq s' a' w' (hK.trans hK') hs')
        · rename_i hne
          cases x with
          | normal => exact absurd hr (hne fr' h')
          | exit j => exact ih hok s h w fr a (.exit j) fr' h' _ hs hr hq
          | ret => exact ih hok s h w fr a .ret fr' h' _ hs hr hq
    exact key n s h w fr a hs hr hq
  | rangeFunc f ps p q ih1 ih2 => intro _ s h w fr a x fr' h' Q hs hr; cases hr
  | exit id =>
    intro _ s h w fr a x fr' h' Q hs hr hq
    cases hr
    exact wp_exit (hq s a w (Keep.refl _ _ _) hs)
  | scope p ih => intro _ s h w fr a x fr' h' Q hs hr; cases hr
  | label l =>
    intro _ s h w fr a x fr' h' Q hs hr hq
    cases hr
    exact wp_label (hq s a w (Keep.refl _ _ _) hs)
  | goto l => intro _ s h w fr a x fr' h' Q hs hr; cases hr
  | ret =>
    intro _ s h w fr a x fr' h' Q hs hr hq
    cases hr
    exact wp_ret (hq s a w (Keep.refl _ _ _) hs)
  | refuse y => intro _ s h w fr a x fr' h' Q hs hr; cases hr
/-! ### 37. Bodies -/
theorem frOf_rel {s : St} : ∀ (args : List AV) (i : Nat) (fr : Fr) (Args : List Value), LRel s args Args → ∀ t, (i ≤ t → t < i + args.length → ∃ V, Args[t - i]? = some V ∧ VRel s (Fr.at (frOf args i fr) t) V) ∧ (t < i ∨ i + args.length ≤ t → Fr.at (frOf args i fr) t = Fr.at fr t)
  | [], i, fr, Args, hl, t => ⟨fun h1 h2 => by simp at h2; omega, fun _ => rfl⟩
  | a :: l, i, fr, Args, hl, t => by
    obtain ⟨V, Vs, rfl, hv, hl⟩ := hl.uncons
    have ih := frOf_rel l (i + 1) (Fr.put fr (some i) a) Vs hl t
    unfold frOf
    simp only [List.length_cons]
    refine ⟨fun h1 h2 => ?_, fun h => ?_⟩
    · by_cases e : t = i
      · subst e
        rw [ih.2 (.inl (by omega)), Fr.at_put, if_pos rfl, Nat.sub_self]
        exact ⟨V, rfl, hv⟩
      · obtain ⟨U, hU, hr⟩ := ih.1 (by omega) (by omega)
        refine ⟨U, ?_, hr⟩
        rw [show t - i = (t - (i + 1)) + 1 by omega]
        simpa using hU
    · rw [ih.2 (by omega), Fr.at_put, if_neg (by omega)]
theorem enter_rel {s : St} {args : List AV} {Args : List Value} (hl : LRel s args Args) (k : Nat) : FRel s (frOf args 0 .nil) (Args.toArray ++ Array.replicate k undef) := by
  intro t
  have hlen := hl.length
  have hf := frOf_rel args 0 .nil Args hl t
  rw [Array.getD_eq_getD_getElem?]
  by_cases h : t < args.length
  · obtain ⟨V, hV, hr⟩ := hf.1 (Nat.zero_le _) (by omega)
    rw [Array.getElem?_append_left (by simp; omega)]
    have : Args.toArray[t]? = some V := by simpa using hV
    rw [this]
    exact hr
  · rw [hf.2 (.inr (by omega)), Fr.at_nil, Array.getElem?_append_right (by simp; omega), Array.getElem?_replicate]
    split <;> exact VRel.undef
theorem results_run (_P : Program) (fn : Func) (tmps : Array Value) : results fn tmps = (fn.results.toList.mapM fun
    | .tmp t => pure (tmps.getD t undef)
    | .cell a t => do loadVar t (← asAddr (tmps.getD a undef))) >>= fun l => pure (if h : l.toArray.size = 1 then l.toArray[0] else .tuple l.toArray) := by
  unfold results
  rw [Array.mapM_eq_mapM_toList]
  simp only [bind_map_left]
  rfl
theorem asAddr_sure {P : Program} {w : World} {t : TypeId} {A V : Value} (h : (Instr.loadAt t A).run P w = .ok V w) : ((do loadVar t (← asAddr A)) : Sem Value).run P w = .ok V w := by
  unfold Instr.loadAt Instr.sureAddr at h
  simp only [Sem.run_bind] at h ⊢
  cases A with
  | pointer a =>
    cases a with
    | none => simp at h
    | some a => simpa [asAddr] using h
  | _ => simp at h
theorem resultsA_sound (hc : CfgTy cfg) {s : St} {h : AHeap} {w : World} {fr : Fr} {a : Act} (hs : SRel cfg G N0 nt s h w fr a) : ∀ (rs : List ResultVar) (l : List AV), resultsA cfg fr h rs = some l →
    ∃ L, (rs.mapM (m := Sem) fun
    | .tmp t => pure (a.tmps.getD t undef)
    | .cell x t => do loadVar t (← asAddr (a.tmps.getD x undef))).run cfg.P w = .ok L w ∧ LRel s l L
  | [], l, hr => by cases hr; exact ⟨[], rfl, .nil⟩
  | .tmp t :: rs, l, hr => by
    unfold resultsA at hr
    split at hr
    · rename_i m hm
      cases hr
      obtain ⟨L, hL, hrel⟩ := resultsA_sound hc hs rs m hm
      refine ⟨a.tmps.getD t undef :: L, ?_, .cons (hs.frel t) hrel⟩
      rw [List.mapM_cons]
      simp only [Sem.run_bind, Sem.run_pure, Result.andThen_ok, hL]
    · cases hr
  | .cell x t :: rs, l, hr => by
    unfold resultsA at hr
    split at hr
    · rename_i v m hv hm
      cases hr
      obtain ⟨L, hL, hrel⟩ := resultsA_sound hc hs rs m hm
      obtain ⟨V, hV, hrun⟩ := aload_sound hc hs.inv (hs.frel x) hv
      have := asAddr_sure hrun
      refine ⟨V :: L, ?_, .cons hV hrel⟩
      rw [List.mapM_cons]
      simp only [Sem.run_bind] at this ⊢
      rw [this]
      simp only [Result.andThen_ok, Sem.run_pure, hL]
    · cases hr
theorem resultA_rel {s : St} {l : List AV} {L : List Value} (hl : LRel s l L) : VRel s (resultA l) (if h : L.toArray.size = 1 then L.toArray[0] else .tuple L.toArray) := by
  match l, L, hl with
  | [v], L, hl =>
    obtain ⟨V, Vs, rfl, hv, hl⟩ := hl.uncons
    simp only [LRel] at hl
    subst hl
    exact hv
  | [], L, hl =>
    simp only [LRel] at hl
    subst hl
    simp only [resultA]
    rw [dif_neg (by simp)]
    simp only [VRel]
    exact ⟨[], rfl, .nil⟩
  | x :: y :: r, L, hl =>
    have hlen := hl.length
    simp only [List.length_cons] at hlen
    simp only [resultA]
    rw [dif_neg (by simp; omega)]
    simp only [VRel]
    exact ⟨L, rfl, hl⟩
theorem bodyA_sound (hc : CfgTy cfg) (hcall : CallsOk cfg G N0 callf) (hm : cfg.P.follows .mixedOrders = true) {f : FuncId} {fn : AFn} (hfn : FnOk cfg.P f fn) (hok : codeOk cfg fn.ntmps fn.body = true) {n : Nat} {args : List AV} {h : AHeap} {v : AV} {h' : AHeap} (hb : bodyA cfg callf n fn args h = some (v, h'))
    {s : St} {w : World} {Args : List Value} (hl : LRel s args Args) (hi : Inv cfg G N0 s h w) : Calls cfg.P f Args.toArray w fun e w' => ∃ V, e = .returned V ∧ Post cfg G N0 s h w v h' V w' := by
  obtain ⟨F, hF, hbody, hnt, hres, _⟩ := hfn
  unfold bodyA at hb
  cases hle : Nat.ble args.length fn.ntmps with
  | false => rw [hle] at hb; cases hb
  | true =>
  rw [hle] at hb
  have hle := ble_true.1 hle
  simp only [cond_true] at hb
  have hlen := hl.length
  refine calls_of_wp hF hbody ?_
  have hsize : (Args.toArray ++ Array.replicate (F.ntmps - Args.toArray.size) undef).size = fn.ntmps := by
    simp only [Array.size_append, List.size_toArray, Array.size_replicate]
    omega
  have hs : SRel cfg G N0 fn.ntmps s h w (frOf args 0 .nil) { tmps := Args.toArray ++ Array.replicate (F.ntmps - Args.toArray.size) undef, defers := [] } := ⟨hi, enter_rel hl _, hsize, rfl⟩
  have fin : ∀ fr1 h1 l, resultsA cfg fr1 h1 fn.results = some l → ∀ s' a' w', Keep s h w s' h1 w' → SRel cfg G N0 fn.ntmps s' h1 w' fr1 a' → a'.defers = [] ∧ ∃ V, (results F a'.tmps).run cfg.P w' = .ok V w' ∧ ∃ V', Ending.returned V = .returned V' ∧ Post cfg G N0 s h w (resultA l) h1 V' w' := by
    intro fr1 h1 l hr s' a' w' hK hs'
    rw [hres] at hr
    obtain ⟨L, hL, hrel⟩ := resultsA_sound hc hs' _ l hr
    refine ⟨hs'.defers, _, ?_, _, rfl, s', hs'.inv, hK, resultA_rel hrel⟩
    rw [results_run cfg.P]
    simp only [Sem.run_bind, hL, Result.andThen_ok, Sem.run_pure]
  split at hb
  · cases hb
  · rename_i x fr1 h1 hne hcode
    split at hb
    · rename_i l hr
      cases hb
      refine codeA_sound hc hcall hm n fn.body hok s h w _ _ x fr1 h' _ hs hcode (fun s' a' w' hK hs' => ?_)
      cases x with
      | normal => exact fin fr1 h' l hr s' a' w' hK hs'
      | ret => exact fin fr1 h' l hr s' a' w' hK hs'
      | exit id => exact absurd rfl (hne id)
    · cases hb
  · cases hb
end
end Go.Am
