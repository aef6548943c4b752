/- Arguments opened: rows of numbers by value. -/
import Derived.Test.YteplpnnbcjjjjaaGreatDoorAmLift
import Derived.ProofKit
import Derived.OpenShut
namespace Go.Am
open Go.ChangeShapes
def intOf : Value → Int
  | .int _ z => z
  | _ => 0
theorem open_intsV {H : Type} {enc : TypeId × Value → H} {P : Program} {w : World} {base b0 : Nat} {sp : Nat → Bool} {held : Bool} {r : Reach} {t e n : Nat} {q : IntKind} (hu : P.underlying t = some (.array n e)) (he : P.underlying e = some (.int q)) (hce : P.cellsOf e = 1) (hct : P.cellsOf t = n) {v : Value} {d : DataW H} {p : List MemPlace}
    (hv : Value.okWide P w r b0 t v) (h : DataW.Trod enc P w base sp held t v d p) : ∃ zs : List Int, zs.length = n ∧ v = .agg (zs.map (Value.int q ·)).toArray := by
  simp only [Value.okWide, hu] at hv
  obtain ⟨cs, rfl, hs, _⟩ := hv
  obtain ⟨fuel, hf⟩ := h
  obtain ⟨xs, m, _, _, _, hl, hel⟩ := DataW.trod_array hu hf
  have hsz : cs.toList.length = n := by rw [Array.length_toList, hs, hct]
  refine ⟨cs.toList.map intOf, by simpa using hsz, ?_⟩
  congr 1
  apply Array.toList_inj.1
  simp only
  apply List.ext_getElem?
  intro i
  by_cases hi : i < n
  · have h1 := hel i hi
    have hx : xs[i]? = some (xs[i]'(by omega)) := List.getElem?_eq_getElem (by omega)
    rw [hx, hce, Nat.mul_one] at h1
    obtain ⟨z, hz, _⟩ := DataW.trod_int he h1
    have h2 : cs.toList[i]? = some (.int q z) := by
      have := congrArg (·[0]?) hz
      simpa [Value.cells, List.getElem?_take, List.getElem?_drop] using this
    rw [List.getElem?_map, List.getElem?_map, h2]
    rfl
  · rw [List.getElem?_eq_none (by omega), List.getElem?_eq_none (by simp only [List.length_map]; omega)]
theorem lrel_ints {s : St} (q : IntKind) : ∀ zs : List Int, LRel s (zs.map (AV.int q ·)) (zs.map (Value.int q ·))
  | [] => .nil
  | z :: zs => .cons (by simp only [VRel]) (lrel_ints q zs)
end Go.Am
