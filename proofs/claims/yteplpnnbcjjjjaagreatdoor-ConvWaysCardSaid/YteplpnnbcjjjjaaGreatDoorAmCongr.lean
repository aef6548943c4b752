/- An operation looks at its operands alone. -/
import Derived.Test.YteplpnnbcjjjjaaGreatDoorAmStep
namespace Go.Am
section
variable {cfg : Cfg}
/-- Two frames alike at these operands' temporaries. -/
def FEq (f1 f2 : Fr) (xs : List Operand) : Prop := ∀ x ∈ xs, evalA f1 x = evalA f2 x
theorem FEq.of_tmps {f1 f2 : Fr} : ∀ {xs : List Operand}, (∀ t ∈ tmpsOf xs, Fr.at f1 t = Fr.at f2 t) → FEq f1 f2 xs
  | [], _ => fun _ h => by cases h
  | x :: xs, h => by
    intro y hy
    rcases List.mem_cons.1 hy with rfl | hy
    · cases y with
      | tmp t => show some (Fr.at f1 t) = some (Fr.at f2 t); rw [h t (by simp [tmpsOf])]
      | const v => rfl
      | func f => rfl
      | global g => rfl
    · refine FEq.of_tmps (xs := xs) (fun t ht => h t ?_) y hy
      cases x <;> simp only [tmpsOf] <;> first | exact ht | exact List.mem_cons_of_mem _ ht
variable {f1 f2 : Fr}
theorem evalAs_congr : ∀ {l : List Operand}, FEq f1 f2 l → evalAs f1 l = evalAs f2 l
  | [], _ => rfl
  | x :: l, h => by
    rw [evalAs_cons, evalAs_cons, h x (by simp), evalAs_congr (l := l) fun y hy => h y (by simp [hy])]
theorem evalParts_congr : ∀ {l : List (Nat × Operand)}, FEq f1 f2 (l.map (·.2)) → evalParts f1 l = evalParts f2 l
  | [], _ => rfl
  | (i, x) :: l, h => by
    unfold evalParts
    rw [h x (by simp), evalParts_congr (l := l) fun y hy => h y (by simp only [List.map_cons, List.mem_cons]; exact .inr hy)]
theorem evalO_congr {x : Option Operand} (h : FEq f1 f2 x.toList) : evalO f1 x = evalO f2 x := by
  cases x with
  | none => rfl
  | some x => show (evalA f1 x).map some = (evalA f2 x).map some; rw [h x (by simp)]
/-- One class's function looks at these operands alone. -/
def InsCongr (xs : List Operand) : Ins → Prop
  | .P f => ∀ f1 f2, FEq f1 f2 xs → f f1 = f f2
  | .R f => ∀ f1 f2, FEq f1 f2 xs → ∀ h, f f1 h = f f2 h
  | .C f => ∀ f1 f2, FEq f1 f2 xs → f f1 = f f2
  | .A f => ∀ f1 f2, FEq f1 f2 xs → ∀ c h, f c f1 h = f c f2 h
  | .X => True
theorem o1_congr {g : AV → Option AV} {x : Operand} {xs : List Operand} (hx : x ∈ xs) : InsCongr xs (.P (o1 g x)) := fun f1 f2 h => by unfold o1; rw [h x hx]
theorem o2_congr {g : AV → AV → Option AV} {x y : Operand} {xs : List Operand} (hx : x ∈ xs) (hy : y ∈ xs) : InsCongr xs (.P (o2 g x y)) := fun f1 f2 h => by unfold o2; rw [h x hx, h y hy]
theorem insConv_congr {s t : TypeId} {x : Operand} {xs : List Operand} (hx : x ∈ xs) : InsCongr xs (insConv cfg s t x) := by
  unfold insConv
  split
  · split
    · split
      · exact fun f1 f2 h hh => by unfold oConvR; rw [h x hx]
      · split
        · exact fun f1 f2 h => by unfold oConvC; rw [h x hx]
        · exact o1_congr hx
      · exact o1_congr hx
    · trivial
  · trivial
theorem insLen_congr {t : TypeId} {x : Operand} {xs : List Operand} (hx : x ∈ xs) : InsCongr xs (insLen cfg t x) := by
  unfold insLen
  split
  · split
    · exact fun f1 f2 h hh => by unfold oMapLen; rw [h x hx]
    · exact o1_congr hx
  · trivial
theorem ins_congr (op : Op) : InsCongr op.operands.toList (insOf cfg op) := by
  unfold insOf
  split
  · exact o1_congr (by simp [Op.operands])
  · exact o1_congr (by simp [Op.operands])
  · rename_i c a b
    exact fun f1 f2 h => by unfold o3; rw [h c (by simp [Op.operands]), h a (by simp [Op.operands]), h b (by simp [Op.operands])]
  · rename_i t ps
    exact fun f1 f2 h => by unfold oParts; rw [evalParts_congr (l := ps.toList) (by simpa [Op.operands] using h)]
  · exact o1_congr (by simp [Op.operands])
  · split
    · exact o1_congr (by simp [Op.operands])
    · exact o2_congr (by simp [Op.operands]) (by simp [Op.operands])
  · exact o1_congr (by simp [Op.operands])
  · exact insConv_congr (by simp [Op.operands])
  · rename_i f first captured
    unfold insFunc
    split
    · exact fun f1 f2 h => by
        unfold oFunc
        rw [evalAs_congr (l := first.toList) (fun x hx => h x (by simp only [Op.operands, Array.toList_append, List.mem_append]; exact .inl hx)), evalAs_congr (l := captured.toList) (fun x hx => h x (by simp only [Op.operands, Array.toList_append, List.mem_append]; exact .inr hx))]
    · trivial
  · rename_i t x lo hi mx
    exact fun f1 f2 h => by
      have hm : ∀ y, (y = x ∨ y ∈ lo.toList ∨ y ∈ hi.toList ∨ y ∈ mx.toList) → evalA f1 y = evalA f2 y := fun y hy => h y (by
        simp only [Op.operands, Array.toList_append, List.mem_append, List.mem_singleton]
        rcases hy with hy | hy | hy | hy
        · exact .inl (.inl (.inl hy))
        · exact .inl (.inl (.inr (by cases lo <;> simp_all)))
        · exact .inl (.inr (by cases hi <;> simp_all))
        · exact .inr (by cases mx <;> simp_all))
      unfold oSlice
      rw [hm x (.inl rfl), evalO_congr (x := lo) (fun y hy => hm y (.inr (.inl hy))), evalO_congr (x := hi) (fun y hy => hm y (.inr (.inr (.inl hy)))), evalO_congr (x := mx) (fun y hy => hm y (.inr (.inr (.inr hy))))]
  · exact o1_congr (by simp [Op.operands])
  · exact o1_congr (by simp [Op.operands])
  · exact o2_congr (by simp [Op.operands]) (by simp [Op.operands])
  · exact o2_congr (by simp [Op.operands]) (by simp [Op.operands])
  · exact o1_congr (by simp [Op.operands])
  · rename_i t a
    exact fun f1 f2 h hh => by unfold oLoad; rw [h a (by simp [Op.operands])]
  · rename_i t x k ok
    exact fun f1 f2 h hh => by unfold oLookup; rw [h x (by simp [Op.operands]), h k (by simp [Op.operands])]
  · exact fun f1 f2 h => rfl
  · rename_i e x
    exact fun f1 f2 h => by unfold oBox; rw [h x (by simp [Op.operands])]
  · rename_i t n ps
    exact fun f1 f2 h => by unfold oParts; rw [evalParts_congr (l := ps.toList) (by simpa [Op.operands] using h)]
  · rename_i t l c
    exact fun f1 f2 h => by unfold oMake; rw [h l (by simp [Op.operands]), h c (by simp [Op.operands])]
  · split
    · exact fun f1 f2 h => rfl
    · trivial
  · rename_i t x
    exact fun f1 f2 h => by unfold oRange; rw [h x (by simp [Op.operands])]
  · rename_i x isString
    exact fun f1 f2 h c hh => by unfold oNext; rw [h x (by simp [Op.operands])]
  · rename_i t a x
    exact fun f1 f2 h c hh => by unfold oStore; rw [h a (by simp [Op.operands]), h x (by simp [Op.operands])]
  · rename_i t m k x
    exact fun f1 f2 h c hh => by unfold oMapPut; rw [h m (by simp [Op.operands]), h k (by simp [Op.operands]), h x (by simp [Op.operands])]
  · rename_i t m k x
    exact fun f1 f2 h c hh => by unfold oMapPut; rw [h m (by simp [Op.operands]), h k (by simp [Op.operands]), h x (by simp [Op.operands])]
  · rename_i c
    unfold insCall
    split
    · rename_i f hf
      exact fun f1 f2 h cf hh => by
        unfold oCall
        have hl : evalAs f1 c.args.toList = evalAs f2 c.args.toList := evalAs_congr fun y hy => h y (by simp only [Op.operands, Call.operands, Array.toList_append, List.mem_append]; exact .inr hy)
        rw [hl, h f (by simp [Op.operands, Call.operands, hf])]
    · rename_i b hb
      have hin : ∀ y, y ∈ c.args.toList → y ∈ (Op.call c).operands.toList := fun y hy => by simp only [Op.operands, Call.operands, Array.toList_append, List.mem_append]; exact .inr hy
      unfold insBuiltin
      split
      · split
        · rename_i x t hx ht
          exact insLen_congr (hin _ (by rw [hx]; simp))
        · trivial
      · split
        · rename_i x t hx ht
          exact o1_congr (hin _ (by rw [hx]; simp))
        · trivial
      · exact fun f1 f2 h => by unfold oList; rw [evalAs_congr fun y hy => h y (hin y hy)]
      · exact fun f1 f2 h => by unfold oList; rw [evalAs_congr fun y hy => h y (hin y hy)]
      · split
        · rename_i s x t u hx ht
          exact fun f1 f2 h cf hh => by unfold oAppend; rw [h s (hin _ (by rw [hx]; simp)), h x (hin _ (by rw [hx]; simp))]
        · trivial
      · trivial
    · trivial
  · trivial
end
end Go.Am
