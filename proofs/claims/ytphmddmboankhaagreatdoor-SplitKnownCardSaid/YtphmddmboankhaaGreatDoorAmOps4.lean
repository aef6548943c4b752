/- All operations that touch no memory. -/
import Derived.Test.YtphmddmboankhaaGreatDoorAmOps3
namespace Go.Am
section
variable {cfg : Cfg} {s : St}
/-- The operation gives that value, in every world, and leaves the world. -/
def Gives (P : Program) (o : Oper) (ρ : Operand → Value) (s : St) (v : AV) : Prop := ∃ V, VRel s v V ∧ ∀ w, (execOp ρ o).run P w = .ok (.value V) w
theorem o1_some {g : AV → Option AV} {x : Operand} {fr : Fr} {v : AV} (h : o1 g x fr = some v) : ∃ a, evalA fr x = some a ∧ g a = some v := by
  unfold o1 at h; split at h
  · exact ⟨_, by assumption, h⟩
  · cases h
theorem o2_some {g : AV → AV → Option AV} {x y : Operand} {fr : Fr} {v : AV} (h : o2 g x y fr = some v) : ∃ a b, evalA fr x = some a ∧ evalA fr y = some b ∧ g a b = some v := by
  unfold o2 at h; split at h
  · split at h
    · exact ⟨_, _, by assumption, by assumption, h⟩
    · cases h
  · cases h
theorem o3_some {g : AV → AV → AV → Option AV} {x y z : Operand} {fr : Fr} {v : AV} (h : o3 g x y z fr = some v) : ∃ a b c, evalA fr x = some a ∧ evalA fr y = some b ∧ evalA fr z = some c ∧ g a b c = some v := by
  unfold o3 at h; split at h
  · split at h
    · split at h
      · exact ⟨_, _, _, by assumption, by assumption, by assumption, h⟩
      · cases h
    · cases h
  · cases h
theorem oList_some {g : List AV → Option AV} {xs : List Operand} {fr : Fr} {v : AV} (h : oList g xs fr = some v) : ∃ l, evalAs fr xs = some l ∧ g l = some v := by
  unfold oList at h; split at h
  · exact ⟨_, by assumption, h⟩
  · cases h
theorem anilCheck_sound {x : AV} {X : Value} (hx : VRel s x X) {v : AV} (h : anilCheck x = some v) : VRel s v X ∧ ((∃ a, X = .pointer (some a)) ∨ ∃ f y z, X = .func (.func f) y z) := by
  unfold anilCheck at h
  split at h
  · cases h
    refine ⟨hx, .inl ?_⟩
    simp only [VRel] at hx; obtain ⟨b, _, rfl⟩ := hx; exact ⟨_, rfl⟩
  · cases h
    refine ⟨hx, .inl ?_⟩
    simp only [VRel] at hx; obtain ⟨b, o, rfl, _⟩ := hx; exact ⟨_, rfl⟩
  · cases h
    refine ⟨hx, .inl ?_⟩
    simp only [VRel] at hx; subst hx; exact ⟨_, rfl⟩
  · cases h
    refine ⟨hx, .inr ?_⟩
    simp only [VRel] at hx; obtain ⟨y, z, rfl, _⟩ := hx; exact ⟨_, _, _, rfl⟩
  · cases h
/-- One builtin call's run. -/
theorem run_builtinOp {P : Program} {o : Oper} {ρ : Operand → Value} {c : Call} {b : Builtin} (ho : o.op = .call c) (hb : c.callee = .builtin b) (w : World) :
    (execOp ρ o).run P w = (builtin b c.argTypes o.type (c.args.map fun | .const _ => true | _ => false) (c.args.map ρ)).run P w := by
  unfold execOp
  simp only [ho, resolve, hb, Sem.run_bind, Sem.run_pure, Result.andThen_ok, invoke]
  rfl
theorem list1 {α : Type} {a : Array α} {x : α} (h : a.toList = [x]) : a = #[x] := by apply Array.toList_inj.1; simpa using h
theorem list2 {α : Type} {a : Array α} {x y : α} (h : a.toList = [x, y]) : a = #[x, y] := by apply Array.toList_inj.1; simpa using h
theorem insLen_P {t : TypeId} {x : Operand} {f : Fr → Option AV} (h : insLen cfg t x = .P f) : f = o1 (alen cfg t) x := by
  unfold insLen at h; split at h
  · split at h
    · cases h
    · cases h; rfl
  · cases h
theorem insConv_P {a b : TypeId} {x : Operand} {f : Fr → Option AV} (h : insConv cfg a b x = .P f) : f = o1 (aconv cfg a b) x := by
  unfold insConv at h; split at h
  · split at h
    · split at h
      · cases h
      · split at h
        · cases h
        · cases h; rfl
      · cases h; rfl
    · cases h
  · cases h
theorem tk_iface {d : TypeDesc} (h : tkOf d = .iface) : ∃ ms, d = .interface ms := by cases d <;> simp [tkOf] at h ⊢
theorem run_eqNilNil {P : Program} {t : TypeId} {ms : Array (String × TypeId)} (hu : P.underlying t = some (.interface ms)) (d : Nat) (w : World) : (Op.equalIn (d + 1) t .nilIface .nilIface).run P w = .ok true w := by simp [Op.equalIn, Go.run_underlying hu]
theorem run_eqIfaceNil {P : Program} {t u : TypeId} {x : Value} {ms : Array (String × TypeId)} (hu : P.underlying t = some (.interface ms)) (d : Nat) (w : World) : (Op.equalIn (d + 1) t (.iface u x) .nilIface).run P w = .ok false w := by simp [Op.equalIn, Go.run_underlying hu]
theorem run_eqlOf {P : Program} {t : TypeId} {x : Value} {r : Bool} {w : World} (hx : x = .nilIface ∨ ∃ u y, x = .iface u y) (h : (Op.equalIn (9999 + 1) t x .nilIface).run P w = .ok r w) : (binOp .eql t x .nilIface).run P w = .ok (.bool r) w ∧ (binOp .neq t x .nilIface).run P w = .ok (.bool (!r)) w := by
  rw [← equal_step] at h
  rcases hx with rfl | ⟨u, y, rfl⟩
  · exact ⟨by show (do pure (.bool (← Op.equal t .nilIface .nilIface)) : Sem Value).run P w = _; rw [Sem.run_bind, h]; rfl, by show (do pure (.bool (!(← Op.equal t .nilIface .nilIface))) : Sem Value).run P w = _; rw [Sem.run_bind, h]; rfl⟩
  · exact ⟨by show (do pure (.bool (← Op.equal t (.iface u y) .nilIface)) : Sem Value).run P w = _; rw [Sem.run_bind, h]; rfl, by show (do pure (.bool (!(← Op.equal t (.iface u y) .nilIface))) : Sem Value).run P w = _; rw [Sem.run_bind, h]; rfl⟩
theorem aisNil_sound (hc : CfgTy cfg) {op : BinOp} {t : TypeId} {x : AV} {X : Value} (hx : VRel s x X) {v : AV} (h : aisNil cfg op t x = some v) (ox : Operand) :
    ∃ V, VRel s v V ∧ ∀ w, (eqGuard op t ox (.const .nilIface) X .nilIface).run cfg.P w = .ok () w ∧ (binOp op t X .nilIface).run cfg.P w = .ok V w := by
  unfold aisNil at h
  split at h
  · rename_i i ht
    obtain ⟨info, d, z, hf⟩ := hc.facts ht
    split at h
    · rename_i hk
      rw [hf.kd] at hk; obtain ⟨ms, rfl⟩ := tk_iface hk
      simp only [VRel] at hx; subst hx; cases h
      exact ⟨.bool true, by simp only [VRel], fun w => ⟨by simp [eqGuard], (run_eqlOf (.inl rfl) (run_eqNilNil hf.desc 9999 w)).1⟩⟩
    · rename_i hk
      rw [hf.kd] at hk; obtain ⟨ms, rfl⟩ := tk_iface hk
      simp only [VRel] at hx; obtain ⟨y, rfl, _⟩ := hx; cases h
      exact ⟨.bool false, by simp only [VRel], fun w => ⟨by simp [eqGuard], (run_eqlOf (.inr ⟨_, _, rfl⟩) (run_eqIfaceNil hf.desc 9999 w)).1⟩⟩
    · rename_i hk
      rw [hf.kd] at hk; obtain ⟨ms, rfl⟩ := tk_iface hk
      simp only [VRel] at hx; subst hx; cases h
      exact ⟨.bool false, by simp only [VRel], fun w => ⟨by simp [eqGuard], (run_eqlOf (.inl rfl) (run_eqNilNil hf.desc 9999 w)).2⟩⟩
    · rename_i hk
      rw [hf.kd] at hk; obtain ⟨ms, rfl⟩ := tk_iface hk
      simp only [VRel] at hx; obtain ⟨y, rfl, _⟩ := hx; cases h
      exact ⟨.bool true, by simp only [VRel], fun w => ⟨by simp [eqGuard], (run_eqlOf (.inr ⟨_, _, rfl⟩) (run_eqIfaceNil hf.desc 9999 w)).2⟩⟩
    · cases h
  · cases h
theorem insP_sound (hc : CfgTy cfg) {o : Oper} {f : Fr → Option AV} (hi : insOf cfg o.op = .P f) {fr : Fr} {a : Act} (hfr : FRel s fr a.tmps) {v : AV} (h : f fr = some v) : Gives cfg.P o a.eval s v := by
  unfold insOf at hi
  split at hi <;> try (cases hi; done)
  · rename_i x ho
    cases hi
    obtain ⟨u, hu, e⟩ := o1_some h
    cases e
    exact ⟨_, evalA_rel hfr hu, fun w => by unfold execOp; simp only [ho]; rfl⟩
  · rename_i x ho
    cases hi
    obtain ⟨u, hu, e⟩ := o1_some h
    cases e
    exact ⟨_, evalA_rel hfr hu, fun w => by unfold execOp; simp only [ho]; rfl⟩
  · rename_i c x y ho
    cases hi
    obtain ⟨u, p, q, hu, hp, hq, e⟩ := o3_some h
    cases u <;> simp only [apick] at e <;> try cases e
    rename_i b
    have hb := evalA_rel hfr hu
    simp only [VRel] at hb
    refine ⟨if b then a.eval x else a.eval y, ?_, fun w => ?_⟩
    · cases b
      · exact evalA_rel hfr hq
      · exact evalA_rel hfr hp
    · unfold execOp; simp only [ho, hb, asBool, Sem.run_bind, Sem.run_pure, Result.andThen_ok]
  · rename_i t ps ho
    cases hi
    unfold oParts at h
    split at h
    · rename_i l hl
      obtain ⟨V, hV, hr⟩ := abuild_sound hc (ps := ps.map fun (i, x) => (i, a.eval x)) (by rw [Array.toList_map]; exact evalParts_rel hfr hl) h
      exact ⟨V, hV, fun w => by unfold execOp; simp only [ho, Sem.run_bind, hr, Result.andThen_ok, Sem.run_pure]⟩
    · cases h
  · rename_i x ho
    cases hi
    obtain ⟨u, hu, e⟩ := o1_some h
    obtain ⟨hv, hs⟩ := anilCheck_sound (evalA_rel hfr hu) e
    refine ⟨_, hv, fun w => ?_⟩
    unfold execOp
    simp only [ho]
    rcases hs with ⟨p, hp⟩ | ⟨g, y, z, hp⟩ <;> rw [hp] <;> rfl
  · rename_i op t x y _ ho
    split at hi
    · cases hi
      obtain ⟨u, hu, e⟩ := o1_some h
      obtain ⟨V, hV, hr⟩ := aisNil_sound hc (evalA_rel hfr hu) e x
      have hen : a.eval (.const .nilIface) = .nilIface := rfl
      exact ⟨V, hV, fun w => by unfold execOp; simp only [ho, hen, Sem.run_bind, (hr w).1, (hr w).2, Result.andThen_ok, Sem.run_pure]⟩
    cases hi
    obtain ⟨u, p, hu, hp, e⟩ := o2_some h
    obtain ⟨V, hV, hr⟩ := abin_sound hc (evalA_rel hfr hu) (evalA_rel hfr hp) e x y
    exact ⟨V, hV, fun w => by unfold execOp; simp only [ho, Sem.run_bind, (hr w).1, (hr w).2, Result.andThen_ok, Sem.run_pure]⟩
  · rename_i op t x ho
    cases hi
    obtain ⟨u, hu, e⟩ := o1_some h
    obtain ⟨V, hV, hr⟩ := aun_sound (cfg := cfg) (evalA_rel hfr hu) e
    exact ⟨V, hV, fun w => by unfold execOp; simp only [ho, Sem.run_bind, hr, Result.andThen_ok, Sem.run_pure]⟩
  · rename_i b t x ho
    cases insConv_P hi
    obtain ⟨u, hu, e⟩ := o1_some h
    obtain ⟨V, hV, hr⟩ := aconv_sound hc (evalA_rel hfr hu) e
    exact ⟨V, hV, fun w => by unfold execOp; simp only [ho, Sem.run_bind, hr, Result.andThen_ok, Sem.run_pure]⟩
  · rename_i g first captured ho
    unfold insFunc at hi
    split at hi
    · rename_i fid
      cases hi
      unfold oFunc at h
      split at h
      · rename_i l hl
        split at h
        · rename_i m hm
          cases h
          refine ⟨.func (.func fid) (first.map a.eval) (captured.map a.eval), ?_, fun w => ?_⟩
          · simp only [VRel]
            exact ⟨first.toList.map a.eval, captured.toList.map a.eval, by rw [← Array.toList_map, ← Array.toList_map, Array.toArray_toList, Array.toArray_toList], evalAs_rel hfr hl, evalAs_rel hfr hm⟩
          · unfold execOp; simp only [ho, Sem.run_bind, Instr.makeFunc, Result.andThen_ok, Sem.run_pure]
        · cases h
      · cases h
    · cases hi
  · rename_i t x lo hii mx ho
    cases hi
    unfold oSlice at h
    split at h
    · rename_i u hu
      split at h
      · rename_i l hl
        split at h
        · rename_i q hq
          split at h
          · rename_i m hm
            obtain ⟨V, hV, hr⟩ := aslice_sound hc (evalA_rel hfr hu) (evalO_rel hfr hl) (evalO_rel hfr hq) (evalO_rel hfr hm) h
            exact ⟨V, hV, fun w => by unfold execOp; simp only [ho, Sem.run_bind, hr, Result.andThen_ok, Sem.run_pure]⟩
          · cases h
        · cases h
      · cases h
    · cases h
  · rename_i t x f ho
    cases hi
    obtain ⟨u, hu, e⟩ := o1_some h
    obtain ⟨V, hV, hr⟩ := afieldAddr_sound hc (evalA_rel hfr hu) e
    exact ⟨V, hV, fun w => by unfold execOp; simp only [ho, Sem.run_bind, hr, Result.andThen_ok, Sem.run_pure]⟩
  · rename_i t x f ho
    cases hi
    obtain ⟨u, hu, e⟩ := o1_some h
    obtain ⟨V, hV, hr⟩ := afield_sound hc (evalA_rel hfr hu) e
    exact ⟨V, hV, fun w => by unfold execOp; simp only [ho, Sem.run_bind, hr, Result.andThen_ok, Sem.run_pure]⟩
  · rename_i t x ix ho
    cases hi
    obtain ⟨u, p, hu, hp, e⟩ := o2_some h
    obtain ⟨V, hV, hr⟩ := aindexAddr_sound hc (evalA_rel hfr hu) (evalA_rel hfr hp) e
    exact ⟨V, hV, fun w => by unfold execOp; simp only [ho, Sem.run_bind, hr, Result.andThen_ok, Sem.run_pure]⟩
  · rename_i t x ix ho
    cases hi
    obtain ⟨u, p, hu, hp, e⟩ := o2_some h
    obtain ⟨V, hV, hr⟩ := aindex_sound hc (evalA_rel hfr hu) (evalA_rel hfr hp) e
    exact ⟨V, hV, fun w => by unfold execOp; simp only [ho, Sem.run_bind, hr, Result.andThen_ok, Sem.run_pure]⟩
  · rename_i x i ho
    cases hi
    obtain ⟨u, hu, e⟩ := o1_some h
    cases u <;> simp only [aextract] at e <;> try cases e
    rename_i vs
    have hu' := evalA_rel hfr hu
    simp only [VRel] at hu'
    obtain ⟨X, hX, hl⟩ := hu'
    obtain ⟨V, hV, hr⟩ := hl.get i e
    refine ⟨V, hr, fun w => ?_⟩
    unfold execOp
    have hg : X.toArray[i]? = some V := by simpa using hV
    simp only [ho, Sem.run_bind, hX, Instr.extract, hg, Sem.run_pure, Result.andThen_ok]
  all_goals try (split at hi <;> cases hi; done)
  · rename_i c ho
    unfold insCall at hi
    split at hi
    · cases hi
    · rename_i b hb
      unfold insBuiltin at hi
      split at hi
      · split at hi
        · rename_i x t hxs hts
          cases insLen_P hi
          obtain ⟨u, hu, e⟩ := o1_some h
          obtain ⟨V, hV, hr⟩ := alen_sound hc (evalA_rel hfr hu) e o.type c.argTypes (by rw [list1 hts]; rfl)
          refine ⟨V, hV, fun w => ?_⟩
          rw [run_builtinOp ho hb, list1 hxs]
          have : (#[x].map a.eval) = #[a.eval x] := by simp
          simp only [builtin, Sem.run_bind, this, hr]
          rfl
        · cases hi
      · split at hi
        · rename_i x t hxs hts
          cases hi
          obtain ⟨u, hu, e⟩ := o1_some h
          obtain ⟨V, hV, hr⟩ := acap_sound hc (evalA_rel hfr hu) e o.type c.argTypes (by rw [list1 hts]; rfl)
          refine ⟨V, hV, fun w => ?_⟩
          rw [run_builtinOp ho hb, list1 hxs]
          have : (#[x].map a.eval) = #[a.eval x] := by simp
          simp only [builtin, Sem.run_bind, this, hr]
          rfl
        · cases hi
      · cases hi
        obtain ⟨l, hl, e⟩ := oList_some h
        unfold amax at e
        split at e
        · cases e
        · rename_i x rest
          obtain ⟨X, ms, he, hx, hm⟩ := (evalAs_rel hfr hl).uncons
          obtain ⟨V, hV, hr⟩ := amaxGo_sound (cfg := cfg) rest ms x X v hm hx e
          refine ⟨V, hV, fun w => ?_⟩
          rw [run_builtinOp ho hb]
          simp only [builtin, Sem.run_bind, Builtin.max_, Array.toList_map, he, hr]
          rfl
      · cases hi
        obtain ⟨l, hl, e⟩ := oList_some h
        unfold amin at e
        split at e
        · cases e
        · rename_i x rest
          obtain ⟨X, ms, he, hx, hm⟩ := (evalAs_rel hfr hl).uncons
          obtain ⟨V, hV, hr⟩ := aminGo_sound (cfg := cfg) rest ms x X v hm hx e
          refine ⟨V, hV, fun w => ?_⟩
          rw [run_builtinOp ho hb]
          simp only [builtin, Sem.run_bind, Builtin.min_, Array.toList_map, he, hr]
          rfl
      · split at hi <;> cases hi
      · cases hi
    · cases hi
end
end Go.Am
