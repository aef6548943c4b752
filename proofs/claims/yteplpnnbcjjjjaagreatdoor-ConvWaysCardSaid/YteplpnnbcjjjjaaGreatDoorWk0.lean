/- Rows of numbers at rest; arithmetic that does not wrap. -/
import Derived.Test.YteplpnnbcjjjjaaGreatDoorAmHo2
import Derived.Test.YteplpnnbcjjjjaaGreatDoorAmEq
noncomputable section
namespace Go.Am
/-! ### K1. Numbers that fit -/
def lo (k : IntKind) : Int := if signedB k then -(lim k : Int) else 0
theorem wrapF_in {k : IntKind} {n : Int} (h1 : lo k ≤ n) (h2 : n < lim k) : wrapF k n = n := by
  cases n with
  | ofNat m =>
    have : Nat.blt m (lim k) = true := by rw [Nat.blt_eq]; have : ((m : Int)) < lim k := h2; omega
    show (bif Nat.blt m (lim k) then Int.ofNat m else k.wrap (.ofNat m)) = _
    rw [this]; rfl
  | negSucc m =>
    show (bif signedB k && Nat.blt m (lim k) then Int.negSucc m else k.wrap (.negSucc m)) = _
    unfold lo at h1
    cases hs : signedB k with
    | false => rw [hs] at h1; simp at h1
    | true =>
      rw [hs] at h1
      simp only [if_true] at h1
      have : Nat.blt m (lim k) = true := by rw [Nat.blt_eq]; omega
      rw [this]; rfl
theorem wrapF_i64 {n : Int} (h1 : -9223372036854775808 ≤ n) (h2 : n < 9223372036854775808) : wrapF .i64 n = n := wrapF_in h1 h2
theorem wrapF_u64 {n : Int} (h1 : 0 ≤ n) (h2 : n < 18446744073709551616) : wrapF .u64 n = n := wrapF_in h1 h2
theorem wrapF_u32 {n : Int} (h1 : 0 ≤ n) (h2 : n < 4294967296) : wrapF .u32 n = n := wrapF_in h1 h2
theorem wrapF_u8 {n : Int} (h1 : 0 ≤ n) (h2 : n < 256) : wrapF .u8 n = n := wrapF_in h1 h2
theorem wrapF_mod32 (n : Nat) : wrapF .u32 (n : Int) = ((n % 4294967296 : Nat) : Int) := by
  rw [wrapF_eq]
  simp [IntKind.wrap, IntKind.signed, IntKind.bits]
section
variable {cfg : Cfg} {ops l : List Oper} {o : Oper} {strict : Bool} {L : Env} {h : AHeap} {Q : Env → AHeap → Prop} {d : Nat}
/-- A reckoning that fits. -/
theorem m2f {k : IntKind} {g : AV → AV → Option AV} {x y : Operand} {a b : AV} {z : Int} (hg : o.guard = none) (hd : o.dst = some d) (hi : insOf cfg o.op = .P (o2 g x y)) (hx : L.op x = some a) (hy : L.op y = some b) (hv : g a b = some (.int k (wrapF k z))) (h1 : lo k ≤ z) (h2 : z < lim k) (q : hoM cfg ops strict l ((d, .int k z) :: L) h Q) : hoM cfg ops strict (o :: l) L h Q :=
  m2 hg hd hi hx hy (by rw [hv, wrapF_in h1 h2]) q
theorem m1f {k : IntKind} {g : AV → Option AV} {x : Operand} {a : AV} {z : Int} (hg : o.guard = none) (hd : o.dst = some d) (hi : insOf cfg o.op = .P (o1 g x)) (hx : L.op x = some a) (hv : g a = some (.int k (wrapF k z))) (h1 : lo k ≤ z) (h2 : z < lim k) (q : hoM cfg ops strict l ((d, .int k z) :: L) h Q) : hoM cfg ops strict (o :: l) L h Q :=
  m1 hg hd hi hx (by rw [hv, wrapF_in h1 h2]) q
end
/-! ### K2. Rows at rest -/
/-- A row at rest, of elements of one cell each. -/
def Row (x : AV) (cs : List AV) : Prop := (cs = [] ∧ (x = .nilsl ∨ x = .e0 ∨ x = .cap0 ∨ x = .ro [] 0)) ∨ (x = .ro cs cs.length ∧ cs ≠ [] ∧ hfL cs = true)
theorem Row.hf {x : AV} {cs : List AV} (h : Row x cs) : x.hf = true := by
  rcases h with ⟨_, h | h | h | h⟩ | ⟨h, _⟩ <;> subst h <;> rfl
theorem Row.hfL {x : AV} {cs : List AV} (h : Row x cs) : hfL cs = true := by
  rcases h with ⟨rfl, _⟩ | ⟨_, _, h⟩
  · rfl
  · exact h
section
variable {cfg : Cfg} {t e : TypeId} {i j : TI} {x : AV} {cs : List AV}
theorem Row.len (h : Row x cs) (ht : cfg.ty t = some i) (hk : i.kd = .slice e) : alen cfg t x = some (.int .i64 cs.length) := by
  unfold alen
  rw [ht]
  simp only [hk]
  rcases h with ⟨rfl, h | h | h | h⟩ | ⟨h, _⟩ <;> subst h <;> rfl
theorem Row.addr (h : Row x cs) (ht : cfg.ty t = some i) (hk : i.kd = .slice e) (he : cfg.ty e = some j) (hj : j.size = 1) {k : IntKind} {n : Nat} (hn : n < cs.length) : aindexAddr cfg t x (.int k n) = some (.rptr (cs.drop n)) := by
  rcases h with ⟨rfl, _⟩ | ⟨rfl, hne, _⟩
  · simp at hn
  · unfold aindexAddr
    rw [ht]
    simp only [hk, he, hj, Nat.mul_one, Int.toNat_natCast]
    have h1 : (decide ((0 : Int) ≤ (n : Int)) && decide ((n : Int) < (cs.length : Int)) && !Nat.beq cs.length 0) = true := by
      simp only [Bool.and_eq_true, decide_eq_true_eq, Bool.not_eq_true', beq_false]
      exact ⟨⟨by omega, by omega⟩, by omega⟩
    rw [h1]; rfl
theorem load_at (he : cfg.ty e = some j) (hj : isAggK j.kd = false) {h : AHeap} {n : Nat} {v : AV} (hv : cs[n]? = some v) : aload cfg e (.rptr (cs.drop n)) h = some v := by
  unfold aload apart
  rw [he]
  simp only [hj, cond_false, List.getElem?_drop, Nat.add_zero, hv]
end
/-! ### K3. Words -/
def wl (ws : List Nat) : List AV := ws.map fun n : Nat => AV.int .u32 (n : Int)
theorem wl_len (ws : List Nat) : (wl ws).length = ws.length := by simp [wl]
theorem wl_get (ws : List Nat) (n : Nat) (h : n < ws.length) : (wl ws)[n]? = some (.int .u32 (ws[n] : Nat)) := by simp [wl, h]
theorem wl_hf : ∀ ws : List Nat, hfL (wl ws) = true
  | [] => rfl
  | w :: ws => by simp only [wl, List.map_cons, hfL, AV.hf, Bool.true_and]; exact wl_hf ws
def Ws (ws : List Nat) : Prop := ∀ w ∈ ws, w < 4294967296
end Go.Am
