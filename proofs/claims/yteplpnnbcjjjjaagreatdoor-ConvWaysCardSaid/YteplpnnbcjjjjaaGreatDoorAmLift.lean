/- From a run of the machine to a call of the model; what the listed variables hold. -/
import Derived.Test.YteplpnnbcjjjjaaGreatDoorAmIntr
import Derived.Lib.LaidU8
import Derived.OpenShut
namespace Go.Am
section
variable {cfg : Cfg} {G : (Nat → Nat → Option Value) → Prop} {N0 : Nat}
/-- A call that the machine answers, from a memory in which it has no object of its own. -/
theorem calls_of_run (hc : CfgOk cfg G N0) {k : Nat} {f : FuncId} {args : List AV} {v : AV} {h' : AHeap} (hr : callA cfg k f args .empty = some (v, h')) (he : Enters cfg.P f)
    {s : St} {w : World} {Args : List Value} (hl : LRel s args Args) (hi : Inv cfg G N0 s .empty w) :
    Calls cfg.P f Args.toArray w fun e w' => ∃ V s', e = .returned V ∧ VRel s' v V ∧ RowKit.Below w.heap.size w w' := by
  rcases callA_sound hc k f args .empty v h' hr s w Args hl hi with ⟨_, h⟩ | ⟨V, w', h, _⟩
  · refine h.mono fun e w' ⟨V, he, s', hi', hk, hv⟩ => ⟨V, s', he, hv, hk.os, hk.tape, hk.output, hk.size, fun b hb => hk.block b hb ?_⟩
    rintro ⟨i, hg, _⟩
    exact hg rfl
  · obtain ⟨fn, h1, h2, h3⟩ := he
    rw [run_callFunc_enter h1 h2 h3] at h
    cases h
/-- The machine at its start: no object, some cells at rest. -/
theorem inv_start {imm : Nat → Nat → Option Value} {w : World} (him : ∀ b o v, imm b o = some v → w.cell? ⟨b, o, none⟩ = some v) (hG : G imm) (hg : GlobOk cfg imm) (hN : N0 ≤ w.heap.size) :
    Inv cfg G N0 ⟨fun _ => none, fun _ => none, imm⟩ .empty w :=
  ⟨fun i o h => (by cases h), fun i j b h => absurd rfl h, fun _ _ => rfl, fun i b h => (by cases h), fun b g h => (by cases h), him, fun i b o h => absurd rfl h, ⟨hG, hg⟩, hN⟩
theorem irel_ints {s : St} {b : Nat} {k : IntKind} : ∀ {zs : List Int} {off : Nat}, (∀ (j : Nat) z, zs[j]? = some z → s.imm b (off + j) = some (.int k z)) → IRel s b off (zs.map (AV.int k ·))
  | [], _, _ => by simp only [List.map_nil, IRel]
  | z :: zs, off, h => by
    simp only [List.map_cons, IRel]
    exact ⟨⟨_, by simpa using h 0 z rfl, by simp only [VRel]⟩, irel_ints fun j y hj => by rw [show off + 1 + j = off + (j + 1) by omega]; exact h (j + 1) y (by simpa using hj)⟩
theorem hfL_ints (k : IntKind) : ∀ zs : List Int, hfL (zs.map (AV.int k ·)) = true
  | [] => rfl
  | z :: zs => by simp [hfL, AV.hf, hfL_ints k zs]
end
/-- A table of numbers that is listed: its cells. -/
theorem ints_of_reads {P : Program} {w : World} {n : String} {k : IntKind} {zs : List Int} {g t e : Nat} {m : Nat} (hr : Lib.VarReads P w n (.agg (zs.map fun z => .lit (.int k z)))) (hg : P.globalNamed n = some g) (ht : (P.globals[g]?).map (·.type) = some t)
    (hu : P.underlying t = some (.array m e)) (he : P.underlying e = some (.int k)) (hce : P.cellsOf e = 1) : ∀ (j : Nat) z, zs[j]? = some z → w.cell? ⟨g, j, none⟩ = some (.int k z) := by
  intro j z hz
  obtain ⟨g', t', cs, fuel, p, hg', ht', hv, hd⟩ := hr
  obtain rfl := Option.some.inj (hg.symm.trans hg')
  obtain rfl := Option.some.inj (ht.symm.trans ht')
  have hj : j < m := by
    obtain ⟨xs, q, _, hx, _, hl, _⟩ := DataW.trod_array hu hd
    have h1 := congrArg (fun x => match x.1 with | DataW.agg l => l.length | _ => 0) hx
    simp at h1
    have h2 := (List.getElem?_eq_some_iff.1 hz).1
    omega
  obtain ⟨fuel', d, q, hdj, htr⟩ := Lib.array_elem hu hd j hj
  simp only [List.getElem?_map, hz, Option.map_some, Option.some.injEq] at hdj
  subst hdj
  rw [hce] at htr
  obtain ⟨y, hc, he', _⟩ := DataW.trod_int he htr
  have hy : y = z := by
    simp at he'
    exact he'.1.symm
  subst hy
  have hcell := World.var?_cell hg hv j
  have h3 : cs[j]? = some (.int k y) := by
    have := congrArg (·[0]?) hc
    simpa [List.getElem?_take, List.getElem?_drop] using this
  simpa [h3] using hcell
end Go.Am
