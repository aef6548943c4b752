/- An abstract machine for the translated Go code: values as trees, memory as a table of numbered objects, one order, no capacities. Its soundness over the model is shown in the texts AmRel and following. This text: the machine alone. -/
import GoSem.Claim
import Derived.Control
import Derived.Orders
noncomputable section
namespace Go.Am

/-! ### 1. Tables -/
inductive HT (α : Type) where
  | nil
  | node (v : Option α) (l r : HT α)
noncomputable def HT.get {α : Type} (t : HT α) : Nat → Option α :=
  HT.rec (fun _ => none) (fun v _ _ gl gr k => cond (Nat.beq k 0) v (cond (Nat.beq (Nat.mod k 2) 1) (gl (Nat.div k 2)) (gr (Nat.sub (Nat.div k 2) 1)))) t
noncomputable def HT.set {α : Type} (f : Nat) : HT α → Nat → Option α → HT α :=
  Nat.rec (fun t _ _ => t) (fun _ ih t k x => HT.casesOn t
    (cond (Nat.beq k 0) (.node x .nil .nil) (cond (Nat.beq (Nat.mod k 2) 1) (.node none (ih .nil (Nat.div k 2) x) .nil) (.node none .nil (ih .nil (Nat.sub (Nat.div k 2) 1) x))))
    (fun v l r => cond (Nat.beq k 0) (.node x l r) (cond (Nat.beq (Nat.mod k 2) 1) (.node v (ih l (Nat.div k 2) x) r) (.node v l (ih r (Nat.sub (Nat.div k 2) 1) x))))) f

/-! ### 2. Values and objects -/
/-- A slice's capacity: known, or all of its block's cells, of elements of e cells. -/
inductive ACap where
  | known (c : Nat)
  | rest (e : Nat)
/-- ptr, sl, map: into the machine's own memory · rptr, ro: into memory that nobody writes any more -/
inductive AV where
  | int (k : IntKind) (n : Int)
  | bool (b : Bool)
  | str (s : List UInt8)
  | ptr (id off : Nat)
  | rptr (cs : List AV)
  | gl (g off : Nat)
  | nilptr
  | sl (id off len : Nat) (cap : ACap)
  | nilsl
  | cap0
  | e0
  | ro (cs : List AV) (len : Nat)
  | map (id : Nat)
  | nilmap
  | func (f : FuncId) (first captured : List AV)
  | nilfunc
  | iface (t : TypeId) (v : AV)
  | niliface
  | agg (cs : List AV)
  | tuple (vs : List AV)
instance : Inhabited AV := ⟨.tuple []⟩
def AV.undef : AV := .tuple []
def AV.cells : AV → List AV
  | .agg cs => cs
  | v => [v]
def AV.one : AV → Bool
  | .agg _ | .tuple _ => false
  | _ => true
mutual
/-- Does a value lead into the machine's own memory? -/
def AV.hf : AV → Bool
  | .ptr _ _ | .sl _ _ _ _ | .map _ => false
  | .func _ a b => hfL a && hfL b
  | .iface _ v => v.hf
  | .agg cs => hfL cs
  | .tuple cs => hfL cs
  | _ => true
def hfL : List AV → Bool
  | [] => true
  | a :: l => a.hf && hfL l
end
inductive AObj where
  | cells (cs : List AV) (elem : TypeId)
  | map (es : List (AV × AV))
  | iter (s : List UInt8) (pos : Nat)
structure AHeap where
  objs : HT AObj
  next : Nat
def AHeap.empty : AHeap := ⟨.nil, 0⟩
noncomputable def AHeap.get (h : AHeap) (id : Nat) : Option AObj := h.objs.get id
noncomputable def AHeap.put (h : AHeap) (id : Nat) (o : AObj) : AHeap := ⟨h.objs.set (id + 1) id (some o), h.next⟩
noncomputable def AHeap.drop (h : AHeap) (id : Nat) : AHeap := ⟨h.objs.set (id + 1) id none, h.next⟩
noncomputable def AHeap.new (h : AHeap) (o : AObj) : AHeap := ⟨h.objs.set (h.next + 1) h.next (some o), h.next + 1⟩

/-! ### 3. Types -/
inductive TK where
  | int (k : IntKind)
  | bool
  | str
  | ptr (e : TypeId)
  | slice (e : TypeId)
  | array (n : Nat) (e : TypeId)
  | map (k e : TypeId)
  | struct (fs : List (Nat × TypeId))
  | func
  | iface
  | other
structure TI where
  kd : TK
  size : Nat
  bytes : Nat
  zero : AV
  /-- where '==' of two such values compares cell by cell: the cells' kinds -/
  eqv : Option (List Nat)
/-- An agg of cells, or one cell, with no memory behind. -/
def absCell : Value → Option AV
  | .int k n => some (.int k n)
  | .bool b => some (.bool b)
  | .string s => some (.str s.data.toList)
  | .pointer none => some .nilptr
  | .slice none 0 0 => some .nilsl
  | .map none => some .nilmap
  | .nilFunc => some .nilfunc
  | .nilIface => some .niliface
  | _ => none
def absCells : List Value → Option (List AV)
  | [] => some []
  | v :: l => match absCell v, absCells l with
    | some a, some m => some (a :: m)
    | _, _ => none
def absV : Value → Option AV
  | .agg cs => (absCells cs.toList).map .agg
  | .tuple vs => (absCells vs.toList).map .tuple
  | v => absCell v

def repK (ks : List Nat) : Nat → List Nat
  | 0 => []
  | n + 1 => ks ++ repK ks n
/-- The kinds of a struct's fields, one behind the other (0 a bool, 1 a whole number, 2 a string). -/
def flatFs (P : Program) (g : TypeId → Option (List Nat)) : Nat → List Field → Option (List Nat)
  | _, [] => some []
  | at_, f :: fs => match g f.type with
    | some ks => bif f.name != "_" && Nat.beq f.offset at_ && Nat.beq ks.length (P.cellsOf f.type) then (match flatFs P g (at_ + ks.length) fs with
      | some r => some (ks ++ r)
      | none => none) else none
    | none => none
/-- The kinds of the cells of a type whose values compare cell by cell. -/
def flatKs (P : Program) : Nat → TypeId → Option (List Nat)
  | 0, _ => none
  | d + 1, t => match P.underlying t with
    | some .bool => some [0]
    | some (.int _) => some [1]
    | some .string => some [2]
    | some (.array n e) => match flatKs P d e with
      | some ks => bif Nat.beq ks.length (P.cellsOf e) then some (repK ks n) else none
      | none => none
    | some (.struct fs) => bif P.stoodInHeld t then none else flatFs P (flatKs P d) 0 fs.toList
    | _ => none
def tkOf : TypeDesc → TK
  | .bool => .bool
  | .int k => .int k
  | .string => .str
  | .pointer e => .ptr e
  | .slice e => .slice e
  | .array n e => .array n e
  | .map k e => .map k e
  | .struct fs => .struct (fs.toList.map fun f => (f.offset, f.type))
  | .func .. => .func
  | .interface _ => .iface
  | _ => .other
def tiOf (P : Program) (t : TypeId) : Option TI :=
  match P.info? t, P.underlying t with
  | some i, some d => match i.zero with
    | some z => match absV z with
      | some a => some { kd := tkOf d, size := i.size, bytes := i.bytes, zero := a, eqv := bif P.eqGuardType P.depth t then none else flatKs P 6 t }
      | none => none
    | none => none
  | _, _ => none

/-! ### 4. The machine's frame of reference -/
structure AFn where
  body : Code
  ntmps : Nat
  results : List ResultVar
  pure : Bool
/-- What a call of another make gives: the value, the memory behind it. -/
abbrev Intr := List AV → AHeap → Option (AV × AHeap)
structure Cfg where
  P : Program
  ty : TypeId → Option TI
  fn : FuncId → Option AFn
  intr : FuncId → Option Intr
  glob : Nat → Option (List AV)
abbrev Fr := HT AV
def Fr.at (fr : Fr) (t : Nat) : AV := (HT.get fr t).getD .undef
def Fr.put (fr : Fr) (d : Option Nat) (v : AV) : Fr := match d with
  | some t => HT.set (t + 1) fr t (some v)
  | none => fr
def evalA (fr : Fr) : Operand → Option AV
  | .tmp t => some (Fr.at fr t)
  | .const v => absV v
  | .func f => some (.func f [] [])
  | .global g => some (.gl g 0)
def evalAs (fr : Fr) (l : List Operand) : Option (List AV) :=
  List.rec (some []) (fun x _ ih => match evalA fr x with
    | some a => match ih with
      | some m => some (a :: m)
      | none => none
    | none => none) l

/-! ### 5. Operations that touch no memory -/
def eqBytes : List UInt8 → List UInt8 → Bool
  | [], [] => true
  | a :: l, b :: m => bif Nat.beq a.toNat b.toNat then eqBytes l m else false
  | _, _ => false
def kTag : IntKind → Nat
  | .i8 => 0 | .i16 => 1 | .i32 => 2 | .i64 => 3 | .u8 => 4 | .u16 => 5 | .u32 => 6 | .u64 => 7
def kEq (j k : IntKind) : Bool := Nat.beq (kTag j) (kTag k)
def eqK : Nat → AV → AV → Option Bool
  | 0, .bool a, .bool b => some (a == b)
  | 1, .int j a, .int k b => bif kEq j k then some (decide (a = b)) else none
  | 2, .str a, .str b => some (eqBytes a b)
  | _, _, _ => none
def eqCells : List Nat → List AV → List AV → Option Bool
  | [], [], [] => some true
  | k :: ks, a :: l, b :: m => match eqK k a b with
    | some true => eqCells ks l m
    | some false => some false
    | none => none
  | _, _, _ => none
def lim : IntKind → Nat
  | .i8 => 128 | .i16 => 32768 | .i32 => 2147483648 | .i64 => 9223372036854775808 | .u8 => 256 | .u16 => 65536 | .u32 => 4294967296 | .u64 => 18446744073709551616
def signedB : IntKind → Bool
  | .i8 | .i16 | .i32 | .i64 => true
  | _ => false
/-- The kind's wrap, quick at small numbers. -/
def wrapF (k : IntKind) (n : Int) : Int := match n with
  | .ofNat m => bif Nat.blt m (lim k) then .ofNat m else k.wrap (.ofNat m)
  | .negSucc m => bif signedB k && Nat.blt m (lim k) then .negSucc m else k.wrap (.negSucc m)
def abinInt (op : BinOp) (k : IntKind) (a b : Int) : Option AV := match op with
  | .add => some (.int k (wrapF k (a + b)))
  | .sub => some (.int k (wrapF k (a - b)))
  | .mul => some (.int k (wrapF k (a * b)))
  | .quo => if b = 0 then none else some (.int k (wrapF k (a.tdiv b)))
  | .rem => if b = 0 then none else some (.int k (a.tmod b))
  | .and => some (.int k (wrapF k (BitVec.ofInt k.bits a &&& BitVec.ofInt k.bits b).toNat))
  | .or => some (.int k (wrapF k (BitVec.ofInt k.bits a ||| BitVec.ofInt k.bits b).toNat))
  | .xor => some (.int k (wrapF k (BitVec.ofInt k.bits a ^^^ BitVec.ofInt k.bits b).toNat))
  | .andNot => some (.int k (wrapF k (BitVec.ofInt k.bits a &&& ~~~ BitVec.ofInt k.bits b).toNat))
  | .eql => some (.bool (decide (a = b)))
  | .neq => some (.bool (!decide (a = b)))
  | .lss => some (.bool (decide (a < b)))
  | .leq => some (.bool (decide (a ≤ b)))
  | .gtr => some (.bool (decide (b < a)))
  | .geq => some (.bool (decide (b ≤ a)))
  | _ => none
def abinStr (op : BinOp) (a b : List UInt8) : Option AV := match op with
  | .add => bif Nat.ble (a.length + b.length) 9223372036854775807 then some (.str (a ++ b)) else none
  | .eql => some (.bool (eqBytes a b))
  | .neq => some (.bool (!eqBytes a b))
  | .lss => some (.bool (Op.bytesLess a b))
  | .leq => some (.bool (Op.bytesLess a b || eqBytes a b))
  | .gtr => some (.bool (!(Op.bytesLess a b || eqBytes a b)))
  | .geq => some (.bool (!Op.bytesLess a b))
  | _ => none
def aeqAgg (e : Option (List Nat)) (xs ys : List AV) : Option Bool := match e with
  | some ks => bif Nat.beq xs.length ks.length && Nat.beq ys.length ks.length then eqCells ks xs ys else none
  | none => none
/-- '==' of two values that are no whole numbers and no strings. -/
def aeq (i : TI) (x y : AV) : Option Bool := match x, y with
  | .bool a, .bool b => match i.kd with
    | .bool => some (a == b)
    | _ => none
  | .agg xs, .agg ys => match i.kd with
    | .struct _ => aeqAgg i.eqv xs ys
    | .array _ _ => aeqAgg i.eqv xs ys
    | _ => none
  | x, .nilsl => match i.kd with
    | .slice _ => match x with
      | .nilsl => some true
      | .sl _ _ _ _ => some false
      | .ro (_ :: _) _ => some false
      | .cap0 => some false
      | .e0 => some false
      | _ => none
    | _ => none
  | x, .nilptr => match i.kd with
    | .ptr _ => match x with
      | .nilptr => some true
      | .ptr _ _ => some false
      | .rptr _ => some false
      | .gl _ _ => some false
      | _ => none
    | _ => none
  | _, _ => none
def abin (cfg : Cfg) (op : BinOp) (t : TypeId) (x y : AV) : Option AV :=
  match x, y with
  | .int k a, .int k' b => match op with
    | .shl => bif decide (b < 0) then none else some (.int k (wrapF k (a * 2 ^ (min b.toNat k.bits))))
    | .shr => bif decide (b < 0) then none else some (.int k (a.fdiv (2 ^ (min b.toNat k.bits))))
    | _ => bif kEq k k' then abinInt op k a b else none
  | .str a, .str b => abinStr op a b
  | x, y => match op with
    | .eql => match cfg.ty t with
      | some i => (aeq i x y).map .bool
      | none => none
    | .neq => match cfg.ty t with
      | some i => (aeq i x y).map fun b => .bool (!b)
      | none => none
    | _ => none
/-- An interface value against the literal nil. -/
def aisNil (cfg : Cfg) (op : BinOp) (t : TypeId) (x : AV) : Option AV := match cfg.ty t with
  | some i => match i.kd, op, x with
    | .iface, .eql, .niliface => some (.bool true)
    | .iface, .eql, .iface _ _ => some (.bool false)
    | .iface, .neq, .niliface => some (.bool false)
    | .iface, .neq, .iface _ _ => some (.bool true)
    | _, _, _ => none
  | none => none
def aun (op : UnOp) : AV → Option AV
  | .int k n => match op with
    | .neg => some (.int k (wrapF k (0 - n)))
    | _ => none
  | .bool b => match op with
    | .not => some (.bool (!b))
    | _ => none
  | _ => none
def aconv (cfg : Cfg) (s t : TypeId) (x : AV) : Option AV := match cfg.ty s, cfg.ty t, x with
  | some _, some j, .int _ n => match j.kd with
    | .int k => some (.int k (wrapF k n))
    | _ => none
  | some _, some j, .str s => match j.kd with
    | .str => some (.str s)
    | _ => none
  | _, _, _ => none
/-- Parts laid into a row of cells. -/
def afill (place : Nat → Option (Nat × Nat)) (cells : List AV) : List (Nat × AV) → Option (List AV)
  | [] => some cells
  | (i, v) :: rest => match place i with
    | none => none
    | some (off, size) =>
      let vs := v.cells
      bif Nat.beq vs.length size && Nat.ble (off + vs.length) cells.length && vs.all AV.one then afill place (cells.take off ++ vs ++ cells.drop (off + vs.length)) rest else none
def evalParts (fr : Fr) : List (Nat × Operand) → Option (List (Nat × AV))
  | [] => some []
  | (i, x) :: l => match evalA fr x, evalParts fr l with
    | some a, some m => some ((i, a) :: m)
    | _, _ => none
def fieldAt (fs : List (Nat × TypeId)) (i : Nat) : Option (Nat × TypeId) := fs[i]?
def structPlace (cfg : Cfg) (fs : List (Nat × TypeId)) (i : Nat) : Option (Nat × Nat) := match fieldAt fs i with
  | some (off, t) => (cfg.ty t).map fun j => (off, j.size)
  | none => none
/-- All fields have a known type. -/
def fieldsKnown (cfg : Cfg) (fs : List (Nat × TypeId)) : Bool := fs.all fun f => (cfg.ty f.2).isSome
def abuild (cfg : Cfg) (t : TypeId) (parts : List (Nat × AV)) : Option AV := match cfg.ty t with
  | some i => match i.kd with
    | .struct fs => bif fieldsKnown cfg fs then (afill (structPlace cfg fs) i.zero.cells parts).map .agg else none
    | .array _ e => match cfg.ty e with
      | some j => (afill (fun i => some (i * j.size, j.size)) i.zero.cells parts).map .agg
      | none => none
    | _ => none
  | none => none
def afieldAddr (cfg : Cfg) (s : TypeId) (x : AV) (f : Nat) : Option AV := match cfg.ty s with
  | some i => match i.kd with
    | .struct fs => match fieldAt fs f with
      | some (off, t) => match cfg.ty t with
        | some j => bif Nat.beq j.size 0 then none else match x with
          | .ptr id o => some (.ptr id (o + off))
          | .rptr cs => some (.rptr (cs.drop off))
          | .gl g o => some (.gl g (o + off))
          | _ => none
        | none => none
      | none => none
    | _ => none
  | none => none
def isAggK : TK → Bool
  | .struct _ | .array _ _ => true
  | _ => false
/-- A part of a row of cells, as a value of type t. -/
def apart (cfg : Cfg) (t : TypeId) (cs : List AV) (off : Nat) : Option AV := match cfg.ty t with
  | some i => bif isAggK i.kd then (let seg := (cs.drop off).take i.size; bif Nat.beq seg.length i.size then some (.agg seg) else none) else cs[off]?
  | none => none
def afield (cfg : Cfg) (s : TypeId) (x : AV) (f : Nat) : Option AV := match cfg.ty s with
  | some i => match i.kd with
    | .struct fs => match fieldAt fs f, x with
      | some (off, t), .agg cs => apart cfg t cs off
      | _, _ => none
    | _ => none
  | none => none
def aindexAddr (cfg : Cfg) (t : TypeId) (x ix : AV) : Option AV := match cfg.ty t, ix with
  | some i, .int _ n => match i.kd with
    | .slice e => match cfg.ty e with
      | some j => match x with
        | .sl id off len _ => bif decide (0 ≤ n) && decide (n < len) then some (.ptr id (off + n.toNat * j.size)) else none
        | .ro cs len => bif decide (0 ≤ n) && decide (n < len) && !Nat.beq cs.length 0 then some (.rptr (cs.drop (n.toNat * j.size))) else none
        | _ => none
      | none => none
    | .array len e => match cfg.ty e with
      | some j => match x with
        | .ptr id off => bif decide (0 ≤ n) && decide (n < len) then some (.ptr id (off + n.toNat * j.size)) else none
        | .rptr cs => bif decide (0 ≤ n) && decide (n < len) then some (.rptr (cs.drop (n.toNat * j.size))) else none
        | .gl g off => bif decide (0 ≤ n) && decide (n < len) then some (.gl g (off + n.toNat * j.size)) else none
        | _ => none
      | none => none
    | _ => none
  | _, _ => none
def aindex (cfg : Cfg) (t : TypeId) (x ix : AV) : Option AV := match cfg.ty t, ix with
  | some i, .int _ n => match i.kd, x with
    | .str, .str s => bif decide (0 ≤ n) then (s[n.toNat]?).map fun b => .int .u8 b.toNat else none
    | .array len e, .agg cs => match cfg.ty e with
      | some j => bif decide (0 ≤ n) && decide (n < len) then apart cfg e cs (n.toNat * j.size) else none
      | none => none
    | _, _ => none
  | _, _ => none
/-- A bound of a slice: absent, or a number. -/
def bnd (dflt : Nat) : Option AV → Option Nat
  | none => some dflt
  | some (.int _ n) => bif decide (0 ≤ n) then some n.toNat else none
  | some _ => none
def aslice (cfg : Cfg) (t : TypeId) (x : AV) (lo hi mx : Option AV) : Option AV := match cfg.ty t with
  | some i => match i.kd, x with
    | .str, .str s => match mx, bnd 0 lo, bnd s.length hi with
      | none, some l, some h => bif Nat.ble h s.length && Nat.ble l h then some (.str ((s.drop l).take (h - l))) else none
      | _, _, _ => none
    | .slice e, .sl id off len (.known c) => match cfg.ty e, bnd c mx, bnd len hi, bnd 0 lo with
      | some j, some m, some h, some l => bif (hi.isSome || mx.isNone) && Nat.ble m c && Nat.ble h m && Nat.ble l h then some (.sl id (bif Nat.beq m l then off else off + l * j.size) (h - l) (.known (m - l))) else none
      | _, _, _, _ => none
    | .slice e, .sl id off len (.rest q) => match cfg.ty e, mx, bnd len hi, bnd 0 lo with
      | some j, none, some h, some l => bif Nat.beq q j.size && Nat.ble h len && Nat.ble l h then (bif Nat.beq l 0 then some (.sl id off h (.rest q)) else bif Nat.beq l h then some .e0 else some (.sl id (off + l * j.size) (h - l) (.rest q))) else none
      | some j, some mx, some h, some l => match bnd 0 (some mx) with
        | some m => bif hi.isSome && Nat.ble m len && Nat.ble h m && Nat.ble l h then some (.sl id (bif Nat.beq m l then off else off + l * j.size) (h - l) (.known (m - l))) else none
        | none => none
      | _, _, _, _ => none
    | .slice e, .ro cs len => match cfg.ty e, bnd len mx, bnd len hi, bnd 0 lo with
      | some j, some m, some h, some l => bif (hi.isSome || mx.isNone) && Nat.ble m len && Nat.ble h m && Nat.ble l h && Nat.beq cs.length (len * j.size) then (bif mx.isSome && Nat.beq m l then (bif Nat.beq cs.length 0 then none else some .cap0) else bif Nat.beq l h then some (bif Nat.beq cs.length 0 then .ro [] 0 else .e0) else some (.ro ((cs.drop (l * j.size)).take ((h - l) * j.size)) (h - l))) else none
      | _, _, _, _ => none
    | .slice e, .e0 => match bnd 0 mx, bnd 0 hi, bnd 0 lo with
      | some 0, some 0, some 0 => bif (hi.isSome || mx.isNone) && (cfg.ty e).isSome then some (bif mx.isSome then .cap0 else .e0) else none
      | _, _, _ => none
    | .slice e, .cap0 => match bnd 0 mx, bnd 0 hi, bnd 0 lo with
      | some 0, some 0, some 0 => bif (hi.isSome || mx.isNone) && (cfg.ty e).isSome then some .cap0 else none
      | _, _, _ => none
    | .slice e, .nilsl => match bnd 0 mx, bnd 0 hi, bnd 0 lo with
      | some 0, some 0, some 0 => bif (hi.isSome || mx.isNone) && (cfg.ty e).isSome then some .nilsl else none
      | _, _, _ => none
    | .array n e, .ptr id off => match cfg.ty e, mx, bnd n hi, bnd 0 lo with
      | some j, none, some h, some l => bif Nat.ble h n && Nat.ble l h then some (.sl id (bif Nat.beq n l then off else off + l * j.size) (h - l) (.known (n - l))) else none
      | _, _, _, _ => none
    | _, _ => none
  | none => none
def alen (cfg : Cfg) (t : TypeId) (x : AV) : Option AV := match cfg.ty t with
  | some i => match i.kd, x with
    | .str, .str s => some (.int .i64 s.length)
    | .slice _, .sl _ _ n _ => some (.int .i64 n)
    | .slice _, .ro _ n => some (.int .i64 n)
    | .slice _, .nilsl => some (.int .i64 0)
    | .slice _, .cap0 => some (.int .i64 0)
    | .slice _, .e0 => some (.int .i64 0)
    | .array n _, _ => some (.int .i64 n)
    | .map _ _, .nilmap => some (.int .i64 0)
    | _, _ => none
  | none => none
def acap (cfg : Cfg) (t : TypeId) (x : AV) : Option AV := match cfg.ty t with
  | some i => match i.kd, x with
    | .slice _, .sl _ _ _ (.known c) => some (.int .i64 c)
    | .slice _, .nilsl => some (.int .i64 0)
    | .slice _, .cap0 => some (.int .i64 0)
    | _, _ => none
  | none => none
def amax : List AV → Option AV
  | [] => none
  | x :: rest => go x rest
where go : AV → List AV → Option AV
  | x, [] => some x
  | .int k a, .int _ b :: rest => go (.int k (if b > a then b else a)) rest
  | _, _ => none
def amin : List AV → Option AV
  | [] => none
  | x :: rest => go x rest
where go : AV → List AV → Option AV
  | x, [] => some x
  | .int k a, .int _ b :: rest => go (.int k (if b < a then b else a)) rest
  | _, _ => none
def anilCheck : AV → Option AV
  | .ptr id o => some (.ptr id o)
  | .rptr cs => some (.rptr cs)
  | .gl g o => some (.gl g o)
  | .func f a b => some (.func f a b)
  | _ => none
def apick : AV → AV → AV → Option AV
  | .bool c, x, y => some (bif c then x else y)
  | _, _, _ => none
def aextract (x : AV) (i : Nat) : Option AV := match x with
  | .tuple vs => vs[i]?
  | _ => none
/-- An optional bound's value: the outer none: it can't be told. -/
def evalO (fr : Fr) : Option Operand → Option (Option AV)
  | none => some none
  | some x => (evalA fr x).map some
end Go.Am
