/- A region that draws its order: put together. -/
import Derived.Test.YtphmddmboankhaaGreatDoorAmDraw
import Derived.Orders
namespace Go.Am
section
variable {cfg : Cfg} {G : (Nat → Nat → Option Value) → Prop} {N0 nt : Nat} {callf : CallF} {m : List Nat} {D : Nat → DSt} {s0 : St} {h0 : AHeap} {w0 : World} {fr0 : Fr}
/-! ### 35. Every order -/
def unl (listed : Array Bool) : Nat → Nat
  | 0 => 0
  | k + 1 => unl listed k + (bif listed.getD k false then 0 else 1)
theorem getD_set (l : Array Bool) (i k : Nat) (hi : i < l.size) : (l.setIfInBounds i true).getD k false = if k = i then true else l.getD k false := by
  rw [Array.getD_eq_getD_getElem?, Array.getElem?_setIfInBounds]
  by_cases e : i = k
  · subst e; simp [hi]
  · rw [if_neg e, if_neg (fun h => e h.symm), Array.getD_eq_getD_getElem?]
theorem unl_set (l : Array Bool) (i : Nat) (hi : i < l.size) (hf : l.getD i false = false) : ∀ k, unl (l.setIfInBounds i true) k + (if i < k then 1 else 0) = unl l k
  | 0 => rfl
  | k + 1 => by
    have ih := unl_set l i hi hf k
    unfold unl
    rw [getD_set l i k hi]
    by_cases e : k = i
    · subst e
      rw [if_pos rfl, hf]
      simp at ih ⊢
      omega
    · rw [if_neg e]
      by_cases hlt : i < k
      · rw [if_pos hlt] at ih
        rw [if_pos (by omega)]
        omega
      · rw [if_neg hlt] at ih
        rw [if_neg (by omega)]
        omega
theorem unl_zero (l : Array Bool) : ∀ k, unl l k = 0 → ∀ i, i < k → l.getD i false = true
  | 0, _, i, hi => absurd hi (Nat.not_lt_zero _)
  | k + 1, h, i, hi => by
    unfold unl at h
    by_cases e : i = k
    · subst e
      cases hb : l.getD i false with
      | true => rfl
      | false => rw [hb] at h; simp at h
    · exact unl_zero l k (by omega) i (by omega)
/-- The listed ones. -/
def Lst (l : Array Bool) : Nat → Prop := fun i => l.getD i false = true
theorem ready_iff {ops : Array Oper} {l : Array Bool} (hs : l.size = ops.size) {i : Nat} : i ∈ Region.ready .any ops l ↔ i < ops.size ∧ ¬ Lst l i ∧ Ready ops.toList (Lst l) i := by
  unfold Region.ready
  rw [List.mem_filter, List.mem_range]
  constructor
  · rintro ⟨h1, h2⟩
    have ho : ops[i]? = some (ops[i]'h1) := Array.getElem?_eq_getElem h1
    rw [ho] at h2
    simp only [Option.map_some, Option.getD_some, Bool.and_eq_true] at h2
    refine ⟨h1, ?_, fun o hoi e he hb => ?_⟩
    · unfold Lst
      rw [Array.getD_eq_getD_getElem?] at h2 ⊢
      have : l[i]? = some (l[i]'(by omega)) := Array.getElem?_eq_getElem (by omega)
      rw [this] at h2 ⊢
      simpa using h2.1
    · have hoe : ops.toList[i]? = ops[i]? := by simp
      rw [hoe, ho] at hoi
      cases hoi
      have := h2.2
      rw [Array.all_eq_true_iff_forall_mem] at this
      have := this e (by simpa using he)
      rw [hb] at this
      simpa [Lst] using this
  · rintro ⟨h1, h2, h3⟩
    refine ⟨h1, ?_⟩
    have ho : ops[i]? = some (ops[i]'h1) := Array.getElem?_eq_getElem h1
    rw [ho]
    simp only [Option.map_some, Option.getD_some, Bool.and_eq_true]
    constructor
    · unfold Lst at h2
      rw [Array.getD_eq_getD_getElem?] at h2 ⊢
      have : l[i]? = some (l[i]'(by omega)) := Array.getElem?_eq_getElem (by omega)
      rw [this] at h2 ⊢
      simpa using h2
    · rw [Array.all_eq_true_iff_forall_mem]
      intro e he
      cases hb : Region.binds .any e with
      | false => rfl
      | true =>
        have hoe : ops.toList[i]? = ops[i]? := by simp
        have := h3 (ops[i]'h1) (by rw [hoe, ho]) e (by simpa using he) hb
        simpa [Lst] using this
theorem all_listed {ops : Array Oper} {l : Array Bool} (hs : l.size = ops.size) (hp : Plan cfg ops.toList m) (hr : Region.ready .any ops l = []) : ∀ n i, i < n → i < ops.size → Lst l i
  | 0, i, hi, _ => absurd hi (Nat.not_lt_zero _)
  | n + 1, i, hi, hlt => by
    apply Classical.byContradiction
    intro hno
    have : i ∈ Region.ready .any ops l := (ready_iff hs).2 ⟨hlt, hno, fun o ho e he hb => by
      have := hp.lt i o ho e he hb
      exact all_listed hs hp hr n e.on (by omega) (by omega)⟩
    rw [hr] at this
    cases this
theorem any_sound {ops : Array Oper} (hc : CfgTy cfg) (hcall : CallsOk cfg G N0 callf) (hr : Run cfg nt callf ops.toList m D h0 fr0) {Q : Exit → Act → World → Prop}
    (hq : ∀ s w a, J cfg G N0 nt ops.toList m D s0 h0 w0 fr0 (fun i => i < ops.size) s w a → Q .normal a w) :
    ∀ (fuel : Nat) (l : Array Bool) (s : St) (w : World) (a : Act), l.size = ops.size → unl l ops.size ≤ fuel → (∀ i, Lst l i → i < ops.size) → J cfg G N0 nt ops.toList m D s0 h0 w0 fr0 (Lst l) s w a → wpAny cfg.P .any ops Q fuel l a w := by
  intro fuel
  have fin : ∀ (l : Array Bool) (s : St) (w : World) (a : Act), (∀ i, i < ops.size → Lst l i) → (∀ i, Lst l i → i < ops.size) → J cfg G N0 nt ops.toList m D s0 h0 w0 fr0 (Lst l) s w a → Q .normal a w := fun l s w a h1 h2 hj => by
    have : Lst l = fun i => i < ops.size := by
      funext i
      exact propext ⟨h2 i, h1 i⟩
    rw [this] at hj
    exact hq s w a hj
  induction fuel with
  | zero =>
    intro l s w a hs hu hlt hj
    have hall : ∀ i, i < ops.size → Lst l i := unl_zero l ops.size (by omega)
    refine ⟨?_, fin l s w a hall hlt hj⟩
    apply List.eq_nil_iff_forall_not_mem.2
    intro i hi
    have := (ready_iff hs).1 hi
    exact this.2.1 (hall i this.1)
  | succ fuel ih =>
    intro l s w a hs hu hlt hj
    refine ⟨fun hre => fin l s w a (fun i hi => all_listed hs hr.plan hre (i + 1) i (Nat.lt_succ_self _) hi) hlt hj, fun i hi => ?_⟩
    obtain ⟨hil, hn, hrd⟩ := (ready_iff hs).1 hi
    have hoa : ops[i]? = some (ops[i]'hil) := Array.getElem?_eq_getElem hil
    have ho : ops.toList[i]? = some (ops[i]'hil) := by rw [← hoa]; simp
    generalize ops[i]'hil = o at hoa ho
    have hW : Lst (l.setIfInBounds i true) = With (Lst l) i := by
      funext k
      unfold Lst With
      rw [getD_set l i k (by omega)]
      by_cases e : k = i
      · rw [if_pos e]; simp [e]
      · rw [if_neg e]; simp [e]
    have next : ∀ s' w' a', J cfg G N0 nt ops.toList m D s0 h0 w0 fr0 (With (Lst l) i) s' w' a' → wpAny cfg.P .any ops Q fuel (l.setIfInBounds i true) a' w' := fun s' w' a' hj' => by
      refine ih _ s' w' a' (by simpa using hs) ?_ ?_ (by rw [hW]; exact hj')
      · have hf : l.getD i false = false := by
          cases e : l.getD i false with
          | false => rfl
          | true => exact absurd e hn
        have := unl_set l i (by omega) hf ops.size
        rw [if_pos hil] at this
        omega
      · intro k hk
        rw [hW] at hk
        rcases hk with hk | rfl
        · exact hlt k hk
        · exact hil
    obtain ⟨F, hF, hFR⟩ := id hj.frame
    have hwant := J.wanted hr hj.closed hF ho hrd hn
    unfold wpOp
    simp only [hoa]
    rw [wanted_eq hFR, hwant]
    have hcong := ins_congr (cfg := cfg) o.op
    have hfeq := J.feq hr hj.closed hF ho hrd hn
    cases (hr.trace.inv ho).2.2.2.2 with
    | unwanted hw hv hh hp =>
      rw [hw, if_neg (by simp)]
      refine next s w _ (hj.plain hr ho hrd hn ?_ ?_ hh (by rw [hv]; exact VRel.undef))
      · rintro ⟨o', h1, _, h3⟩; rw [ho] at h1; cases h1; rw [hw] at h3; cases h3
      · rintro ob ⟨o', f', p', h1, _, h3, _⟩; rw [ho] at h1; cases h1; rw [hw] at h3; cases h3
    | pure f hi hw hv hh hp =>
      rw [hw, if_pos rfl]
      rw [hi] at hcong
      obtain ⟨V, hV, hrun⟩ := insP_sound (s := s) hc hi hFR (by rw [hcong F (D i).fr hfeq]; exact hv)
      refine .inl (wp_value (hrun w) (next s w _ (hj.plain hr ho hrd hn ?_ ?_ hh hV)))
      · rintro ⟨o', h1, h2, _⟩; rw [ho] at h1; cases h1; rw [hi] at h2; cases h2
      · rintro ob ⟨o', f', p', h1, h2, _⟩; rw [ho] at h1; cases h1; rw [hi] at h2; cases h2
    | read f hi hw hv hh hp =>
      rw [hw, if_pos rfl]
      obtain ⟨H, F', hIH, hFR', hval⟩ := hj.reads hr ho hrd hn hi hw
      obtain ⟨V, hV, hrun⟩ := insR_sound hc hIH hi hFR' hval
      refine .inl (wp_value hrun (next s w _ (hj.plain hr ho hrd hn ?_ ?_ hh hV)))
      · rintro ⟨o', h1, h2, _⟩; rw [ho] at h1; cases h1; rw [hi] at h2; cases h2
      · rintro ob ⟨o', f', p', h1, h2, _⟩; rw [ho] at h1; cases h1; rw [hi] at h2; cases h2
    | make f q hi hw hf hv hh hp =>
      rw [hw, if_pos rfl]
      obtain ⟨V, w', s', hrun, hj'⟩ := hj.make hr hc ho hrd hn hi hw hf hv hh
      exact .inl (wp_value hrun (next s' w' _ hj'))
    | act f hi hw hv hp =>
      rw [hw, if_pos rfl]
      exact .inl (hj.act hr hc hcall ho hrd hn hi hw hv (fun s' V w' hj' => next s' w' _ hj'))
/-- A region that draws its order. -/
theorem drawA_sound {ops : Array Oper} (hc : CfgTy cfg) (hcall : CallsOk cfg G N0 callf) (hm : cfg.P.follows .mixedOrders = true) (hplan : planOk cfg ops.toList = true) (hd : ∀ o ∈ ops.toList, ∀ t, o.dst = some t → t < nt) {s : St} {h : AHeap} {w : World} {fr : Fr} {a : Act} (hs : SRel cfg G N0 nt s h w fr a)
    {fr' : Fr} {h' : AHeap} (hdraw : drawA cfg callf ops.toList fr h = some (fr', h')) {Q : Exit → Act → World → Prop} (hq : ∀ s' a' w', Keep s h w s' h' w' → SRel cfg G N0 nt s' h' w' fr' a' → Q .normal a' w') (id : Nat) : (Code.region id ops true).wp cfg.P Q a w := by
  unfold drawA at hdraw
  simp only at hdraw
  split at hdraw
  rotate_left
  · cases hdraw
  rename_i sf hrun
  cases hok : readsOk cfg ops.toList (ancs ops.toList []) sf.hts.reverse ops.toList 0 fr sf.vals.reverse with
  | false => rw [hok] at hdraw; cases hdraw
  | true =>
  rw [hok] at hdraw
  cases hdraw
  have hp := planOk_plan hplan
  obtain ⟨D, hD0, hDn, htr⟩ := runD_trace _ _ _ _ _ hrun
  have ht : Trace cfg callf ops.toList (ancs ops.toList []) D := fun j o ho => by
    have := htr j o ho
    simpa using this
  rw [Nat.zero_add] at hDn
  have hr : Run cfg nt callf ops.toList (ancs ops.toList []) D h fr := by
    refine ⟨hp, ht, hd, by rw [hD0], by rw [hD0], by rw [hD0], by rw [hD0], fun j o f ho hi hw p hp1 h1 h2 => ?_⟩
    have hv := ht.vals (by rw [hD0]) ops.toList.length (Nat.le_refl _)
    have hh := ht.hts (by rw [hD0]) ops.toList.length (Nat.le_refl _)
    rw [hDn] at hv hh
    have hg := readsOk_get ht ops.toList 0 fr sf.vals.reverse rfl (by rw [hD0]) (fun k hk => by rw [Nat.zero_add]; exact hv.2 k hk) hok j o f ho hi (by rw [Nat.zero_add]; exact hw)
    simp only [Nat.zero_add] at hg
    refine readsSame_get (k := cntA cfg ops.toList p - countA cfg (fun i => ((ancs ops.toList []).getD j 0).testBit i) ops.toList 0) hg ?_
    rw [List.getElem?_take, if_pos (by omega), List.getElem?_drop]
    rw [show countA cfg (fun i => ((ancs ops.toList []).getD j 0).testBit i) ops.toList 0 + (cntA cfg ops.toList p - countA cfg (fun i => ((ancs ops.toList []).getD j 0).testBit i) ops.toList 0) = cntA cfg ops.toList p by omega]
    exact hh.2 p hp1
  refine wp_region_any hm ?_
  refine any_sound (m := ancs ops.toList []) (D := D) (s0 := s) (h0 := h) (w0 := w) (fr0 := fr) (G := G) (N0 := N0) (nt := nt) hc hcall hr (fun s' w' a' hj => ?_) ops.size (Array.replicate ops.size false) s _ a (by simp) ?_ ?_ ?_
  · obtain ⟨p, H, hp1, hact, hH, hI, hnx, hK, hcl⟩ := hj.heap
    obtain ⟨F, hF, hFR⟩ := hj.frame
    have hlen : ops.toList.length = ops.size := Array.length_toList
    have hpn : (D p).h = (D ops.toList.length).h := by
      refine (ht.heap_eq ops.toList.length hp1 (Nat.le_refl _) (fun i o h1 h2 ho => ?_)).symm
      cases e : isA (insOf cfg o.op) with
      | false => rfl
      | true =>
        have := (hact i o ho e).1 (by omega)
        omega
    have hpend := ht.pend hp (by rw [hD0]) ops.toList.length (Nat.le_refl _)
    rw [hDn] at hpend hpn
    have hunfl : ∀ c ob, CrOf cfg ops.toList D c ob → (Unfl cfg ops.toList (ancs ops.toList []) D (fun i => i < ops.size) c ↔ (c, (D c).nid, ob) ∈ sf.pend) := fun c ob hcr => by
      rw [hpend]
      simp only [hlen]
      unfold Unfl
      constructor
      · rintro ⟨h1, h2⟩; exact ⟨h1, hcr, trivial, h2⟩
      · rintro ⟨h1, _, _, h2⟩; exact ⟨h1, h2⟩
    have hget : ∀ i, (putAll sf.h sf.pend).get i = H.get i := fun i => by
      by_cases hx : ∀ c ob, Unfl cfg ops.toList (ancs ops.toList []) D (fun i => i < ops.size) c → CrOf cfg ops.toList D c ob → i ≠ (D c).nid
      · rw [hH.miss i hx, hpn]
        refine putAll_miss _ _ i fun x hxm e => ?_
        obtain ⟨h1, h2, h3, h4⟩ := (hpend x).1 hxm
        exact hx x.1 x.2.2 ⟨by rw [← hlen]; exact h1, by rw [hlen] at h4; exact h4⟩ h2 (by rw [← h3, e])
      · have : ∃ c ob, Unfl cfg ops.toList (ancs ops.toList []) D (fun i => i < ops.size) c ∧ CrOf cfg ops.toList D c ob ∧ i = (D c).nid := by
          apply Classical.byContradiction
          intro hno
          exact hx fun c ob hu hcr e => hno ⟨c, ob, hu, hcr, e⟩
        obtain ⟨c, ob, hu, hcr, rfl⟩ := this
        rw [hH.hit c ob hu hcr]
        refine putAll_hit _ _ _ ob ⟨_, (hunfl c ob hcr).1 hu, rfl⟩ fun y hy e => ?_
        obtain ⟨h1, h2, h3, h4⟩ := (hpend y).1 hy
        have := h2.inj hr hcr (by rw [← h3, e])
        rw [this] at h2
        exact h2.fun hcr
    have hnext : (putAll sf.h sf.pend).next = H.next := by rw [putAll_next, hH.next, hpn]
    refine hq s' a' w' (hK.congr hget hnext) ⟨hI.congr hget hnext, fun t => ?_, hj.size, hj.defers⟩
    have hfin := ht.frame (by rw [hD0]) ops.toList.length (Nat.le_refl _) (fr0 := fr)
    rw [hDn, hlen] at hfin
    rw [← hF.same hfin (t := t) (fun i o _ _ => Iff.rfl)]
    exact hFR t
  · have : ∀ k, unl (Array.replicate ops.size false) k ≤ k := fun k => by
      induction k with
      | zero => exact Nat.le_refl _
      | succ k ih =>
        unfold unl
        cases (Array.replicate ops.size false).getD k false <;> simp <;> omega
    exact this ops.size
  · intro i hi
    unfold Lst at hi
    rw [Array.getD_eq_getD_getElem?, Array.getElem?_replicate] at hi
    split at hi <;> simp at hi
  · have hno : ∀ i, ¬ Lst (Array.replicate ops.size false) i := fun i hi => by
      unfold Lst at hi
      rw [Array.getD_eq_getD_getElem?, Array.getElem?_replicate] at hi
      split at hi <;> simp at hi
    have hI0 := (hs.inv.reserve (countC cfg ops.toList)).drewN 1
    refine ⟨fun j o hj => absurd hj (hno j), ⟨0, ⟨h.objs, h.next + countC cfg ops.toList⟩, Nat.zero_le _, fun i o _ _ => ⟨fun hi => absurd hi (hno i), fun hi => absurd hi (Nat.not_lt_zero _)⟩, ⟨by rw [hr.h00], fun c ob hu => absurd hu.1 (hno c), fun i _ => by rw [hr.h00]⟩, hI0, Nat.le_refl _, ?_, fun c ob hcr _ => ?_⟩, fun c o ho hco _ => hs.inv.fresh _ (hr.nid_lt ho hco).1, ⟨fr, fun t => .inr ⟨fun i o hi => absurd hi (hno i), rfl⟩, hs.frel⟩, hs.size, hs.defers⟩
    · exact ⟨⟨rfl, rfl, rfl, Nat.le_refl _, fun _ _ _ => rfl, fun _ _ _ h => h, fun _ _ => rfl, fun _ h => .inl h, Ext.refl s⟩, fun _ _ => rfl, Nat.le_add_right _ _⟩
    · obtain ⟨o, ho, hco⟩ := hcr.isC
      rw [hr.h00]
      show h.get (D c).nid = none
      cases e : h.get (D c).nid with
      | none => rfl
      | some ob' =>
        obtain ⟨b, hmm, _⟩ := hs.inv.obj _ _ e
        rw [hs.inv.fresh _ (hr.nid_lt ho hco).1] at hmm
        cases hmm
end
end Go.Am
