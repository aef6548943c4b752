/- The abstract machine, its second part: operations on memory, regions, code, calls. -/
import Derived.Test.YteplpnnbcjjjjaaGreatDoorAmCore
import GoSem.Builtin.Append
noncomputable section
namespace Go.Am

/-! ### 6. Operations that read memory -/
def aload (cfg : Cfg) (t : TypeId) (a : AV) (h : AHeap) : Option AV := match a with
  | .ptr id off => match h.get id with
    | some (.cells cs _) => apart cfg t cs off
    | _ => none
  | .rptr cs => apart cfg t cs 0
  | .gl g off => match cfg.glob g with
    | some cs => apart cfg t cs off
    | none => none
  | _ => none
/-- Two keys of a type whose values compare cell by cell. -/
def keyEq (ks : List Nat) (x y : AV) : Option Bool := match x, y with
  | .agg a, .agg b => bif Nat.beq b.length ks.length then eqCells ks a b else none
  | .agg _, _ => none
  | _, .agg _ => none
  | x, y => eqCells ks [x] [y]
def isIntAV : AV → Bool
  | .int _ _ => true
  | _ => false
/-- The place and the value of a key. -/
def findE (ks : List Nat) (k : AV) : List (AV × AV) → Nat → Option (Option (Nat × AV))
  | [], _ => some none
  | p :: es, i => match keyEq ks k p.1 with
    | some true => some (some (i, p.2))
    | some false => findE ks k es (i + 1)
    | none => none
/-- The kinds of a key's cells; the key is of that make. -/
def keyKs (cfg : Cfg) (t : TypeId) (k : AV) : Option (List Nat) := match cfg.ty t with
  | some i => match i.kd, k with
    | .str, .str _ => some [2]
    | .int _, .int _ _ => some [1]
    | .array n e, .agg cs => match cfg.ty e, i.eqv with
      | some j, some ks => match j.kd with
        | .int _ => bif Nat.beq j.size 1 && Nat.beq cs.length ks.length && Nat.beq cs.length n && cs.all isIntAV then some ks else none
        | _ => none
      | _, _ => none
    | _, _ => none
  | none => none
def alookup (cfg : Cfg) (t : TypeId) (x k : AV) (ok : Bool) (h : AHeap) : Option AV := match cfg.ty t with
  | some i => match i.kd with
    | .map kt et => match cfg.ty et with
      | some j => match keyKs cfg kt k with
        | some ks => match x with
          | .map id => match h.get id with
            | some (.map es) => match findE ks k es 0 with
              | some (some (_, v)) => some (bif ok then .tuple [v, .bool true] else v)
              | some none => some (bif ok then .tuple [j.zero, .bool false] else j.zero)
              | none => none
            | _ => none
          | .nilmap => some (bif ok then .tuple [j.zero, .bool false] else j.zero)
          | _ => none
        | none => none
      | none => none
    | _ => none
  | none => none
def amapLen (cfg : Cfg) (t : TypeId) (x : AV) (h : AHeap) : Option AV := match cfg.ty t with
  | some i => match i.kd, x with
    | .map _ _, .map id => match h.get id with
      | some (.map es) => some (.int .i64 es.length)
      | _ => none
    | _, _ => none
  | none => none
def bytesOf : List AV → Option (List UInt8)
  | [] => some []
  | .int .u8 n :: l => match bytesOf l with
    | some m => bif decide (0 ≤ n) && decide (n < 256) then some (UInt8.ofNat n.toNat :: m) else none
    | none => none
  | _ :: _ => none
/-- The cells of a row. -/
def rowCells (sz : Nat) (x : AV) (h : AHeap) : Option (List AV) := match x with
  | .nilsl => some []
  | .cap0 => some []
  | .e0 => some []
  | .ro cs len => bif Nat.beq cs.length (len * sz) then some cs else none
  | .sl id off len _ => match h.get id with
    | some (.cells cs _) => let seg := (cs.drop off).take (len * sz); bif Nat.beq seg.length (len * sz) then some seg else none
    | _ => none
  | _ => none
def aconvR (cfg : Cfg) (s t : TypeId) (x : AV) (h : AHeap) : Option AV := match cfg.ty s, cfg.ty t with
  | some i, some j => match i.kd, j.kd with
    | .slice e, .str => match cfg.ty e with
      | some u => match u.kd with
        | .int .u8 => match rowCells 1 x h with
          | some cs => (bytesOf cs).map .str
          | none => none
        | _ => none
      | none => none
    | _, _ => none
  | _, _ => none

/-! ### 7. Operations that make an object -/
def nZero (z : List AV) : Nat → List AV
  | 0 => []
  | n + 1 => z ++ nZero z n
def abuildSlice (cfg : Cfg) (t : TypeId) (len : Nat) (parts : List (Nat × AV)) : Option (AObj × (Nat → AV)) := match cfg.ty t with
  | some i => match i.kd with
    | .slice e => match cfg.ty e with
      | some j => bif Nat.ble (len * j.size) 16777216 && Nat.beq j.zero.cells.length j.size then (match afill (fun i => some (i * j.size, j.size)) (nZero j.zero.cells len) parts with
        | some cs => some (.cells cs e, fun id => .sl id 0 len (.known len))
        | none => none) else none
      | none => none
    | _ => none
  | none => none
def amakeSlice (cfg : Cfg) (t : TypeId) (l c : AV) : Option (AObj × (Nat → AV)) := match cfg.ty t, l, c with
  | some i, .int _ a, .int _ b => match i.kd with
    | .slice e => match cfg.ty e with
      | some j => bif decide (0 ≤ a) && decide (a ≤ b) && decide (b ≤ 281474976710656) && decide (j.bytes * b ≤ 281474976710656) && Nat.beq j.zero.cells.length j.size then some (.cells (nZero j.zero.cells b.toNat) e, fun id => .sl id 0 a.toNat (.known b.toNat)) else none
      | none => none
    | _ => none
  | _, _, _ => none
def aconvC (cfg : Cfg) (s t : TypeId) (x : AV) : Option (AObj × (Nat → AV)) := match cfg.ty s, cfg.ty t, x with
  | some i, some j, .str l => match i.kd, j.kd with
    | .str, .slice e => match cfg.ty e with
      | some u => match u.kd with
        | .int .u8 => bif !Nat.beq u.size 1 then none else some (.cells (l.map fun b => .int .u8 b.toNat) e, fun id => .sl id 0 l.length (.rest 1))
        | _ => none
      | none => none
    | _, _ => none
  | _, _, _ => none
def aboxed (cfg : Cfg) (e : TypeId) (v : AV) : Option (AObj × (Nat → AV)) := match cfg.ty e with
  | some i => bif Nat.beq v.cells.length i.size && v.cells.all AV.one then some (.cells v.cells e, fun id => .ptr id 0) else none
  | none => none

/-- A range over a string begins. -/
def arange (cfg : Cfg) (t : TypeId) (x : AV) : Option (AObj × (Nat → AV)) := match cfg.ty t, x with
  | some i, .str s => match i.kd with
    | .str => some (.iter s 0, fun id => .ptr id 0)
    | _ => none
  | _, _ => none

/-! ### 8. Operations that act -/
/-- The rune at a place, and its width. -/
def runeAt (s : List UInt8) (pos : Nat) : Nat × Nat := match s[pos]? with
  | some b => bif Nat.blt b.toNat 128 then (b.toNat, 1) else Utf8.decode ⟨s.toArray⟩ pos
  | none => (0, 1)
def anext (x : AV) (isString : Bool) (h : AHeap) : Option (AV × AHeap) := match x, isString with
  | .ptr id 0, true => match h.get id with
    | some (.iter s pos) => bif Nat.blt pos s.length then
        (match runeAt s pos with
         | (c, w) => some (.tuple [.bool true, .int .i64 pos, .int .i32 c], h.put id (.iter s (pos + w))))
      else some (.tuple [.bool false], h)
    | _ => none
  | _, _ => none
def astore (cfg : Cfg) (t : TypeId) (a v : AV) (h : AHeap) : Option AHeap := match a, cfg.ty t with
  | .ptr id off, some i => match h.get id with
    | some (.cells cs e) =>
      let vs := v.cells
      bif Nat.beq vs.length i.size && vs.all AV.one && Nat.ble (off + vs.length) cs.length then some (h.put id (.cells (cs.take off ++ vs ++ cs.drop (off + vs.length)) e)) else none
    | _ => none
  | _, _ => none
def setE (v : AV) : List (AV × AV) → Nat → List (AV × AV)
  | [], _ => []
  | (k, _) :: es, 0 => (k, v) :: es
  | e :: es, n + 1 => e :: setE v es n
def amapUpdate (cfg : Cfg) (t : TypeId) (m k v : AV) (h : AHeap) : Option AHeap := match cfg.ty t, m with
  | some i, .map id => match i.kd with
    | .map kt _ => match keyKs cfg kt k with
      | some ks => match h.get id with
        | some (.map es) => match findE ks k es 0 with
          | some (some (j, _)) => some (h.put id (.map (setE v es j)))
          | some none => some (h.put id (.map (es ++ [(k, v)])))
          | none => none
        | _ => none
      | none => none
    | _ => none
  | _, _ => none
/-- What is appended: its cells, how many elements. -/
def appended (cfg : Cfg) (xt : TypeId) (j : TI) (x : AV) (h : AHeap) : Option (List AV × Nat) := match cfg.ty xt with
  | some i => match i.kd, x with
    | .int _, .int _ n => bif decide (0 ≤ n) && decide (n * (j.bytes : Int) ≤ 281474976710656) && decide (n ≤ 281474976710656) && Nat.beq j.zero.cells.length j.size then some (nZero j.zero.cells n.toNat, n.toNat) else none
    | .str, .str s => bif Nat.beq j.size 1 then some (s.map fun b => .int .u8 b.toNat, s.length) else none
    | .slice _, x => match rowCells j.size x h, alen cfg xt x with
      | some cs, some (.int _ n) => some (cs, n.toNat)
      | _, _ => none
    | _, _ => none
  | none => none
/-- The cells of one value each. -/
def allOne (cs : List AV) : Bool := cs.all AV.one
def aappend (cfg : Cfg) (st xt : TypeId) (s x : AV) (h : AHeap) : Option (AV × AHeap) := match cfg.ty st with
  | some i => match i.kd with
    | .slice e => match cfg.ty e with
      | some j => bif Nat.beq j.size 0 || !Nat.beq j.zero.cells.length j.size then none else match appended cfg xt j x h with
        | some (new, n) => bif allOne new && Nat.beq new.length (n * j.size) then (match s with
          | .nilsl => bif Nat.beq n 0 then some (.nilsl, h) else bif Nat.ble (n * j.bytes) 140737488355328 && Nat.ble n 9223372036854775807 then some (.sl h.next 0 n (.rest j.size), h.new (.cells new e)) else none
          | .cap0 => bif Nat.beq n 0 then some (.cap0, h) else bif Nat.ble (n * j.bytes) 140737488355328 && Nat.ble n 9223372036854775807 then some (.sl h.next 0 n (.rest j.size), h.new (.cells new e)) else none
          | .sl id off len (.known c) => match h.get id with
            | some (.cells cs e') =>
              bif Nat.ble (len + n) c then
                (bif Nat.ble (off + (len + n) * j.size) cs.length then some (.sl id off (len + n) (.known c), h.put id (.cells (cs.take (off + len * j.size) ++ new ++ cs.drop (off + (len + n) * j.size)) e')) else none)
              else bif Nat.ble (off + len * j.size) cs.length && Nat.ble ((len + n) * j.bytes) 140737488355328 && Nat.ble (len + n) 9223372036854775807 then
                some (.sl h.next 0 (len + n) (.rest j.size), h.new (.cells ((cs.drop off).take (len * j.size) ++ new) e)) else none
            | _ => none
          | .sl id off len (.rest q) => match h.get id with
            | some (.cells cs e') =>
              bif Nat.beq q j.size && Nat.ble (off + (len + n) * j.size) cs.length then
                some (.sl id off (len + n) (.rest q), h.put id (.cells (cs.take (off + len * j.size) ++ new ++ cs.drop (off + (len + n) * j.size)) e'))
              else bif Nat.beq off 0 && Nat.beq (len * j.size) cs.length && Nat.beq e e' && Nat.beq q j.size && Nat.ble ((len + n) * j.bytes) 140737488355328 && Nat.ble (len + n) 9223372036854775807 then
                (let h1 := h.drop id; some (.sl h1.next 0 (len + n) (.rest q), h1.new (.cells (cs ++ new) e)))
              else none
            | _ => none
          | _ => none) else none
        | none => none
      | none => none
    | _ => none
  | none => none

/-! ### 9. One operation: what it is, and what it does -/
abbrev CallF := FuncId → List AV → AHeap → Option (AV × AHeap)
/-- P: no memory · R: reads · C: makes an object · A: acts · X: not taken -/
inductive Ins where
  | P (f : Fr → Option AV)
  | R (f : Fr → AHeap → Option AV)
  | C (f : Fr → Option (AObj × (Nat → AV)))
  | A (f : CallF → Fr → AHeap → Option (AV × AHeap))
  | X
def o1 (g : AV → Option AV) (x : Operand) (fr : Fr) : Option AV := match evalA fr x with
  | some a => g a
  | none => none
def o2 (g : AV → AV → Option AV) (x y : Operand) (fr : Fr) : Option AV := match evalA fr x with
  | some a => match evalA fr y with
    | some b => g a b
    | none => none
  | none => none
def o3 (g : AV → AV → AV → Option AV) (x y z : Operand) (fr : Fr) : Option AV := match evalA fr x with
  | some a => match evalA fr y with
    | some b => match evalA fr z with
      | some c => g a b c
      | none => none
    | none => none
  | none => none
def oParts {α : Type} (g : List (Nat × AV) → Option α) (ps : List (Nat × Operand)) (fr : Fr) : Option α := match evalParts fr ps with
  | some l => g l
  | none => none
def oSlice (cfg : Cfg) (t : TypeId) (x : Operand) (lo hi mx : Option Operand) (fr : Fr) : Option AV := match evalA fr x with
  | some x => match evalO fr lo with
    | some lo => match evalO fr hi with
      | some hi => match evalO fr mx with
        | some mx => aslice cfg t x lo hi mx
        | none => none
      | none => none
    | none => none
  | none => none
def oFunc (f : FuncId) (first captured : List Operand) (fr : Fr) : Option AV := match evalAs fr first with
  | some a => match evalAs fr captured with
    | some b => some (.func f a b)
    | none => none
  | none => none
def oList (g : List AV → Option AV) (xs : List Operand) (fr : Fr) : Option AV := match evalAs fr xs with
  | some l => g l
  | none => none
def oLoad (cfg : Cfg) (t : TypeId) (a : Operand) (fr : Fr) (h : AHeap) : Option AV := match evalA fr a with
  | some a => aload cfg t a h
  | none => none
def oLookup (cfg : Cfg) (t : TypeId) (x k : Operand) (ok : Bool) (fr : Fr) (h : AHeap) : Option AV := match evalA fr x with
  | some x => match evalA fr k with
    | some k => alookup cfg t x k ok h
    | none => none
  | none => none
def oConvR (cfg : Cfg) (s t : TypeId) (x : Operand) (fr : Fr) (h : AHeap) : Option AV := match evalA fr x with
  | some x => aconvR cfg s t x h
  | none => none
def oMapLen (cfg : Cfg) (t : TypeId) (x : Operand) (fr : Fr) (h : AHeap) : Option AV := match evalA fr x with
  | some x => amapLen cfg t x h
  | none => none
def oAlloc (cfg : Cfg) (e : TypeId) (_ : Fr) : Option (AObj × (Nat → AV)) := match cfg.ty e with
  | some i => aboxed cfg e i.zero
  | none => none
def oBox (cfg : Cfg) (e : TypeId) (x : Operand) (fr : Fr) : Option (AObj × (Nat → AV)) := match evalA fr x with
  | some v => aboxed cfg e v
  | none => none
def oMake (cfg : Cfg) (t : TypeId) (l c : Operand) (fr : Fr) : Option (AObj × (Nat → AV)) := match evalA fr l with
  | some l => match evalA fr c with
    | some c => amakeSlice cfg t l c
    | none => none
  | none => none
def oMap (_ : Fr) : Option (AObj × (Nat → AV)) := some (.map [], fun id => .map id)
def oRange (cfg : Cfg) (t : TypeId) (x : Operand) (fr : Fr) : Option (AObj × (Nat → AV)) := match evalA fr x with
  | some x => arange cfg t x
  | none => none
def oNext (x : Operand) (isString : Bool) (_ : CallF) (fr : Fr) (h : AHeap) : Option (AV × AHeap) := match evalA fr x with
  | some x => anext x isString h
  | none => none
def oConvC (cfg : Cfg) (s t : TypeId) (x : Operand) (fr : Fr) : Option (AObj × (Nat → AV)) := match evalA fr x with
  | some x => aconvC cfg s t x
  | none => none
def oStore (cfg : Cfg) (t : TypeId) (a x : Operand) (_ : CallF) (fr : Fr) (h : AHeap) : Option (AV × AHeap) := match evalA fr a with
  | some a => match evalA fr x with
    | some x => match astore cfg t a x h with
      | some h1 => some (.undef, h1)
      | none => none
    | none => none
  | none => none
def oMapPut (cfg : Cfg) (t : TypeId) (m k x : Operand) (_ : CallF) (fr : Fr) (h : AHeap) : Option (AV × AHeap) := match evalA fr m with
  | some m => match evalA fr k with
    | some k => match evalA fr x with
      | some x => bif k.hf then (match amapUpdate cfg t m k x h with
        | some h1 => some (.undef, h1)
        | none => none) else none
      | none => none
    | none => none
  | none => none
def oCall (f : Operand) (xs : List Operand) (callf : CallF) (fr : Fr) (h : AHeap) : Option (AV × AHeap) := match evalAs fr xs with
  | some l => match evalA fr f with
    | some (.func g a b) => callf g (a ++ l ++ b) h
    | _ => none
  | none => none
def oAppend (cfg : Cfg) (t u : TypeId) (s x : Operand) (_ : CallF) (fr : Fr) (h : AHeap) : Option (AV × AHeap) := match evalA fr s with
  | some s => match evalA fr x with
    | some x => aappend cfg t u s x h
    | none => none
  | none => none
def insConv (cfg : Cfg) (s t : TypeId) (x : Operand) : Ins := match cfg.ty s with
  | some i => match cfg.ty t with
    | some j => match i.kd with
      | .slice _ => .R (oConvR cfg s t x)
      | .str => match j.kd with
        | .slice _ => .C (oConvC cfg s t x)
        | _ => .P (o1 (aconv cfg s t) x)
      | _ => .P (o1 (aconv cfg s t) x)
    | none => .X
  | none => .X
def insLen (cfg : Cfg) (t : TypeId) (x : Operand) : Ins := match cfg.ty t with
  | some i => match i.kd with
    | .map _ _ => .R (oMapLen cfg t x)
    | _ => .P (o1 (alen cfg t) x)
  | none => .X
def insBuiltin (cfg : Cfg) (b : Builtin) (xs : List Operand) (ts : List TypeId) : Ins := match b with
  | .len => match xs, ts with
    | [x], [t] => insLen cfg t x
    | _, _ => .X
  | .cap => match xs, ts with
    | [x], [t] => .P (o1 (acap cfg t) x)
    | _, _ => .X
  | .max => .P (oList amax xs)
  | .min => .P (oList amin xs)
  | .append => match xs, ts with
    | [s, x], [t, u] => .A (oAppend cfg t u s x)
    | _, _ => .X
  | _ => .X
def insCall (cfg : Cfg) (c : Call) : Ins := match c.callee with
  | .value f => .A (oCall f c.args.toList)
  | .builtin b => insBuiltin cfg b c.args.toList c.argTypes.toList
  | .invoke _ _ => .X
def insFunc (f : Fn) (first captured : List Operand) : Ins := match f with
  | .func g => .P (oFunc g first captured)
  | _ => .X
def insOf (cfg : Cfg) (op : Op) : Ins := match op with
  | .move x => .P (o1 some x)
  | .assign x => .P (o1 some x)
  | .pick c a b => .P (o3 apick c a b)
  | .build t ps => .P (oParts (abuild cfg t) ps.toList)
  | .nilCheck x => .P (o1 anilCheck x)
  | .binOp op t x y _ => match y with
    | .const .nilIface => .P (o1 (aisNil cfg op t) x)
    | y => .P (o2 (abin cfg op t) x y)
  | .unOp op _ x => .P (o1 (aun op) x)
  | .convert s t x => insConv cfg s t x
  | .makeFunc f first captured => insFunc f first.toList captured.toList
  | .slice t x lo hi mx => .P (oSlice cfg t x lo hi mx)
  | .fieldAddr s x f => .P (o1 (fun a => afieldAddr cfg s a f) x)
  | .field s x f => .P (o1 (fun a => afield cfg s a f) x)
  | .indexAddr t x ix => .P (o2 (aindexAddr cfg t) x ix)
  | .index t x ix => .P (o2 (aindex cfg t) x ix)
  | .extract x i => .P (o1 (fun a => aextract a i) x)
  | .load t a => .R (oLoad cfg t a)
  | .lookup t x k ok => .R (oLookup cfg t x k ok)
  | .alloc e => .C (oAlloc cfg e)
  | .box e x => .C (oBox cfg e x)
  | .buildSlice t n ps => .C (oParts (abuildSlice cfg t n) ps.toList)
  | .makeSlice t l c => .C (oMake cfg t l c)
  | .makeMap _ r => match r with
    | none => .C oMap
    | some _ => .X
  | .range t x => .C (oRange cfg t x)
  | .next x isString => .A (oNext x isString)
  | .store t a x => .A (oStore cfg t a x)
  | .mapUpdate t m k x => .A (oMapPut cfg t m k x)
  | .insert t m k x => .A (oMapPut cfg t m k x)
  | .call c => insCall cfg c
  | _ => .X
def isA : Ins → Bool
  | .A _ => true
  | _ => false
def isC : Ins → Bool
  | .C _ => true
  | _ => false
def isR : Ins → Bool
  | .R _ => true
  | _ => false

/-! ### 10. A region in the text's order -/
def guardTmp (ops : List Oper) (o : Oper) : Option Nat := match o.guard with
  | some (j, _) => (ops[j]?).bind (·.dst)
  | none => none
def wantedA (ops : List Oper) (o : Oper) (fr : Fr) : Bool := match o.guard with
  | none => true
  | some (j, want) => match (ops[j]?).bind (·.dst) with
    | some t => match Fr.at fr t with
      | .bool b => b == want
      | _ => false
    | none => false
/-- The same value, its number laid bare. -/
def force {α : Type} (v : AV) (k : AV → α) : α := match v with
  | .int q n => match n with
    | .ofNat m => match m with
      | 0 => k (.int q (.ofNat 0))
      | j + 1 => k (.int q (.ofNat (j + 1)))
    | .negSucc m => match m with
      | 0 => k (.int q (.negSucc 0))
      | j + 1 => k (.int q (.negSucc (j + 1)))
  | .bool b => match b with
    | true => k (.bool true)
    | false => k (.bool false)
  | v => k v
/-- One operation, whatever its class. -/
def stepA (callf : CallF) (s : Ins) (fr : Fr) (h : AHeap) : Option (AV × AHeap) := match s with
  | .P f => match f fr with
    | some v => some (v, h)
    | none => none
  | .R f => match f fr h with
    | some v => some (v, h)
    | none => none
  | .C f => match f fr with
    | some p => some (p.2 h.next, h.new p.1)
    | none => none
  | .A f => f callf fr h
  | .X => none
def runL (cfg : Cfg) (callf : CallF) (ops : List Oper) (l : List Oper) : Fr → AHeap → Option (Fr × AHeap) :=
  List.rec (fun fr h => some (fr, h)) (fun o _ ih fr h => cond (wantedA ops o fr) (match stepA callf (insOf cfg o.op) fr h with
      | some (v, h1) => force v fun v => ih (Fr.put fr o.dst v) h1
      | none => none) (ih (Fr.put fr o.dst .undef) h)) l

/-! ### 11. A region that draws its order -/
mutual
def AV.same : AV → AV → Bool
  | .int j a, .int k b => kEq j k && decide (a = b)
  | .bool a, .bool b => a == b
  | .str a, .str b => eqBytes a b
  | .ptr a b, .ptr c d => Nat.beq a c && Nat.beq b d
  | .rptr a, .rptr b => sameL a b
  | .gl a b, .gl c d => Nat.beq a c && Nat.beq b d
  | .nilptr, .nilptr => true
  | .sl a b c d, .sl e f g i => Nat.beq a e && Nat.beq b f && Nat.beq c g && (match d, i with | .rest x, .rest y => Nat.beq x y | .known x, .known y => Nat.beq x y | _, _ => false)
  | .nilsl, .nilsl => true
  | .cap0, .cap0 => true
  | .e0, .e0 => true
  | .ro a n, .ro b m => Nat.beq n m && sameL a b
  | .map a, .map b => Nat.beq a b
  | .nilmap, .nilmap => true
  | .func f a b, .func g c d => Nat.beq f g && sameL a c && sameL b d
  | .nilfunc, .nilfunc => true
  | .iface t v, .iface u w => Nat.beq t u && AV.same v w
  | .niliface, .niliface => true
  | .agg a, .agg b => sameL a b
  | .tuple a, .tuple b => sameL a b
  | _, _ => false
def sameL : List AV → List AV → Bool
  | [], [] => true
  | a :: l, b :: m => AV.same a b && sameL l m
  | _, _ => false
end
def edgeMask (acc : List Nat) : List Edge → Nat
  | [] => 0
  | e :: l => bif Region.binds .any e then (2 ^ e.on ||| acc.getD e.on 0) ||| edgeMask acc l else edgeMask acc l
/-- Of each operation, which ones come ahead of it in every order: a bit each. -/
def ancs : List Oper → List Nat → List Nat
  | [], acc => acc
  | o :: l, acc => ancs l (acc ++ [edgeMask acc o.after.toList])
def tmpsOf : List Operand → List Nat
  | [] => []
  | .tmp t :: l => t :: tmpsOf l
  | _ :: l => tmpsOf l
def namesOf (ops : List Oper) (o : Oper) : List Nat := o.dst.toList ++ (guardTmp ops o).toList ++ tmpsOf o.op.operands.toList
/-- May the order be told once: what comes ahead of what, by the edges. -/
def planOk (cfg : Cfg) (ops : List Oper) : Bool :=
  let m := ancs ops []
  (ops.zipIdx.all fun (o, i) => o.after.toList.all (fun e => !Region.binds .any e || decide (e.on < i)) &&
    (match o.guard with | none => true | some (j, _) => (m.getD i 0).testBit j && ((ops[j]?).bind (·.dst)).isSome)) &&
  (ops.zipIdx.all fun (o, j) => ops.zipIdx.all fun (q, i) => Nat.beq i j || (match q.dst with | none => true | some d => !(namesOf ops o).contains d || (m.getD (max i j) 0).testBit (min i j))) &&
  (ops.zipIdx.all fun (o, j) => !isA (insOf cfg o.op) || ops.zipIdx.all fun (q, i) => !isA (insOf cfg q.op) || Nat.ble j i || (m.getD j 0).testBit i)
structure DSt where
  fr : Fr
  h : AHeap
  nid : Nat
  pend : List (Nat × Nat × AObj)
  vals : List AV
  hts : List AHeap
def putAll (h : AHeap) : List (Nat × Nat × AObj) → AHeap
  | [] => h
  | (_, id, o) :: l => putAll (h.put id o) l
def dP (s : DSt) (d : Option Nat) (v : AV) : DSt := ⟨Fr.put s.fr d v, s.h, s.nid, s.pend, v :: s.vals, s.hts⟩
def dC (s : DSt) (d : Option Nat) (i : Nat) (p : AObj × (Nat → AV)) : DSt := ⟨Fr.put s.fr d (p.2 s.nid), s.h, s.nid + 1, s.pend ++ [(i, s.nid, p.1)], p.2 s.nid :: s.vals, s.hts⟩
def dA (s : DSt) (d : Option Nat) (m : Nat) (v : AV) (h2 : AHeap) : DSt := ⟨Fr.put s.fr d v, h2, s.nid, s.pend.filter (fun p => !m.testBit p.1), v :: s.vals, h2 :: s.hts⟩
def dN (s : DSt) (d : Option Nat) (c a : Bool) : DSt := ⟨Fr.put s.fr d .undef, s.h, (bif c then s.nid + 1 else s.nid), s.pend, .undef :: s.vals, (bif a then s.h :: s.hts else s.hts)⟩
def stepD (callf : CallF) (ins : Ins) (d : Option Nat) (m i : Nat) (s : DSt) : Option DSt := match ins with
  | .P f => match f s.fr with
    | some v => force v fun v => some (dP s d v)
    | none => none
  | .R f => match f s.fr s.h with
    | some v => force v fun v => some (dP s d v)
    | none => none
  | .C f => match f s.fr with
    | some p => some (dC s d i p)
    | none => none
  | .A f => match f callf s.fr (putAll s.h (s.pend.filter fun p => m.testBit p.1)) with
    | some (v, h2) => force v fun v => some (dA s d m v h2)
    | none => none
  | .X => none
def runD (cfg : Cfg) (callf : CallF) (ops : List Oper) : List Oper → List Nat → Nat → DSt → Option DSt
  | [], _, _, s => some s
  | _ :: _, [], _, _ => none
  | o :: l, m :: ms, i, s =>
    bif wantedA ops o s.fr then (match stepD callf (insOf cfg o.op) o.dst m i s with
      | some s1 => runD cfg callf ops l ms (i + 1) s1
      | none => none)
    else runD cfg callf ops l ms (i + 1) (dN s o.dst (isC (insOf cfg o.op)) (isA (insOf cfg o.op)))
/-- How many of the acting operations ahead hold the bit's test. -/
def countA (cfg : Cfg) (p : Nat → Bool) : List Oper → Nat → Nat
  | [], _ => 0
  | o :: l, i => (bif isA (insOf cfg o.op) && p i then 1 else 0) + countA cfg p l (i + 1)
def readsSame (f : Fr → AHeap → Option AV) (fr : Fr) (v : AV) : List AHeap → Bool
  | [] => true
  | h :: l => (match f fr h with | some u => AV.same v u | none => false) && readsSame f fr v l
/-- What is read is the same at whatever time it may be read. -/
def readsOk (cfg : Cfg) (ops : List Oper) (m : List Nat) (hts : List AHeap) : List Oper → Nat → Fr → List AV → Bool
  | [], _, _, _ => true
  | _ :: _, _, _, [] => false
  | o :: l, i, fr, v :: vs =>
    (bif wantedA ops o fr then (match insOf cfg o.op with
      | .R f =>
        let lo := countA cfg (fun j => (m.getD i 0).testBit j) ops 0
        let up := countA cfg (fun j => !(m.getD j 0).testBit i) ops 0
        readsSame f fr v ((hts.drop lo).take (up + 1 - lo))
      | _ => true) else true) && readsOk cfg ops m hts l (i + 1) (Fr.put fr o.dst v) vs
def countC (cfg : Cfg) : List Oper → Nat
  | [] => 0
  | o :: l => (bif isC (insOf cfg o.op) then 1 else 0) + countC cfg l
def drawA (cfg : Cfg) (callf : CallF) (ops : List Oper) (fr : Fr) (h : AHeap) : Option (Fr × AHeap) :=
  let m := ancs ops []
  let h0 : AHeap := ⟨h.objs, h.next + countC cfg ops⟩
  match runD cfg callf ops ops m 0 ⟨fr, h0, h.next, [], [], [h0]⟩ with
  | some s => bif readsOk cfg ops m s.hts.reverse ops 0 fr s.vals.reverse then some (s.fr, putAll s.h s.pend) else none
  | none => none

/-! ### 12. Code and calls -/
inductive AExit where
  | normal
  | exit (id : Nat)
  | ret
def roundsA (f : Fr → AHeap → Option (AExit × Fr × AHeap)) (n : Nat) : Fr → AHeap → Option (AExit × Fr × AHeap) :=
  Nat.rec (fun _ _ => none) (fun _ ih fr h => match f fr h with
    | some (.normal, fr1, h1) => ih fr1 h1
    | r => r) n
def stepRegion (cfg : Cfg) (callf : CallF) (ops : List Oper) (draw : Bool) (fr : Fr) (h : AHeap) : Option (AExit × Fr × AHeap) :=
  match (cond draw (drawA cfg callf ops fr h) (runL cfg callf ops ops fr h)) with
  | some (fr1, h1) => some (.normal, fr1, h1)
  | none => none
def stepSeq (f g : Fr → AHeap → Option (AExit × Fr × AHeap)) (fr : Fr) (h : AHeap) : Option (AExit × Fr × AHeap) := match f fr h with
  | some (.normal, fr1, h1) => g fr1 h1
  | r => r
def stepCond (c : Operand) (f g : Fr → AHeap → Option (AExit × Fr × AHeap)) (fr : Fr) (h : AHeap) : Option (AExit × Fr × AHeap) := match evalA fr c with
  | some (.bool b) => cond b (f fr h) (g fr h)
  | _ => none
def stepBlock (id : Nat) (f : Fr → AHeap → Option (AExit × Fr × AHeap)) (fr : Fr) (h : AHeap) : Option (AExit × Fr × AHeap) := match f fr h with
  | some (.exit j, fr1, h1) => bif Nat.beq j id then some (.normal, fr1, h1) else some (.exit j, fr1, h1)
  | r => r
def codeA (cfg : Cfg) (callf : CallF) (n : Nat) (c : Code) : Fr → AHeap → Option (AExit × Fr × AHeap) :=
  Code.rec (motive := fun _ => Fr → AHeap → Option (AExit × Fr × AHeap))
    (fun fr h => some (.normal, fr, h))                                  -- skip
    (fun _ ops draw fr h => stepRegion cfg callf ops.toList draw fr h)   -- region
    (fun _ _ f g fr h => stepSeq f g fr h)                               -- seq
    (fun c _ _ f g fr h => stepCond c f g fr h)                          -- cond
    (fun id _ f fr h => stepBlock id f fr h)                             -- block
    (fun _ f fr h => roundsA f n fr h)                                   -- loop
    (fun _ _ _ _ _ _ _ _ => none)                                       -- rangeFunc
    (fun id fr h => some (.exit id, fr, h))                              -- exit
    (fun _ _ _ _ => none)                                               -- scope
    (fun _ fr h => some (.normal, fr, h))                                -- label
    (fun _ _ _ => none)                                                  -- goto
    (fun fr h => some (.ret, fr, h))                                     -- ret
    (fun _ _ _ => none) c                                                -- refuse
/-- Every temporary that is laid has its place; the drawn regions have a plan. -/
def opsOk (cfg : Cfg) (nt : Nat) (ops : List Oper) (draw : Bool) : Bool :=
  ops.all (fun o => match o.dst with | none => true | some t => Nat.blt t nt) && (!draw || planOk cfg ops)
def codeOk (cfg : Cfg) (nt : Nat) (c : Code) : Bool :=
  Code.rec (motive := fun _ => Bool) true (fun _ ops draw => opsOk cfg nt ops.toList draw) (fun _ _ f g => f && g) (fun _ _ _ f g => f && g) (fun _ _ f => f) (fun _ f => f)
    (fun _ _ _ _ _ _ => true) (fun _ => true) (fun _ _ => true) (fun _ => true) (fun _ => true) true (fun _ => true) c
def resultsA (cfg : Cfg) (fr : Fr) (h : AHeap) : List ResultVar → Option (List AV)
  | [] => some []
  | .tmp t :: l => match resultsA cfg fr h l with
    | some m => some (Fr.at fr t :: m)
    | none => none
  | .cell a t :: l => match aload cfg t (Fr.at fr a) h, resultsA cfg fr h l with
    | some v, some m => some (v :: m)
    | _, _ => none
def resultA : List AV → AV
  | [v] => v
  | l => .tuple l
def frOf : List AV → Nat → Fr → Fr
  | [], _, fr => fr
  | a :: l, i, fr => frOf l (i + 1) (Fr.put fr (some i) a)
/-- A value laid to rest: its rows are nobody's to write any more. -/
def frzL (f : AV → Option AV) : List AV → Option (List AV)
  | [] => some []
  | a :: l => match f a, frzL f l with
    | some b, some m => some (b :: m)
    | _, _ => none
def frz (cfg : Cfg) (h : AHeap) : Nat → AV → Option AV
  | 0, _ => none
  | d + 1, v => match v with
    | .ptr _ _ | .map _ | .func _ _ _ | .iface _ _ => none
    | .sl id off len _ => bif Nat.beq len 0 then some .e0 else match h.get id with
      | some (.cells cs e) => match cfg.ty e with
        | some j => let seg := (cs.drop off).take (len * j.size); bif Nat.beq seg.length (len * j.size) then (match frzL (frz cfg h d) seg with | some l => some (.ro l len) | none => none) else none
        | none => none
      | _ => none
    | .agg cs => match frzL (frz cfg h d) cs with | some l => some (.agg l) | none => none
    | .tuple cs => match frzL (frz cfg h d) cs with | some l => some (.tuple l) | none => none
    | v => some v
def bodyA (cfg : Cfg) (callf : CallF) (n : Nat) (fn : AFn) (args : List AV) (h : AHeap) : Option (AV × AHeap) :=
  cond (Nat.ble args.length fn.ntmps) (match codeA cfg callf n fn.body (frOf args 0 .nil) h with
  | some (.exit _, _, _) => none
  | some (_, fr, h1) => match resultsA cfg fr h1 fn.results with
    | some l => some (resultA l, h1)
    | none => none
  | none => none) none
def callPure (cfg : Cfg) (callf : CallF) (n : Nat) (fn : AFn) (args : List AV) (h : AHeap) : Option (AV × AHeap) :=
  match bodyA cfg callf n fn args .empty with
  | some (v, h1) => match frz cfg h1 8 v with
    | some r => some (r, h)
    | none => none
  | none => none
def callOne (cfg : Cfg) (callf : CallF) (n : Nat) (f : FuncId) (args : List AV) (h : AHeap) : Option (AV × AHeap) := match cfg.intr f with
  | some g => g args h
  | none => match cfg.fn f with
    | some fn => cond (fn.pure && hfL args) (callPure cfg callf n fn args h) (bodyA cfg callf n fn args h)
    | none => none
def callA (cfg : Cfg) (k : Nat) : CallF :=
  Nat.rec (fun _ _ _ => none) (fun n ih f args h => callOne cfg ih n f args h) k
end Go.Am
namespace Go.Am
/-! ### 13. Tables as search trees -/
inductive Tr (α : Type) where
  | lf
  | nd (l : Tr α) (k : Nat) (v : α) (r : Tr α)
def Tr.find {α : Type} : Tr α → Nat → Option α
  | .lf, _ => none
  | .nd l q v r, k => bif Nat.beq k q then some v else bif Nat.ble k q then l.find k else r.find k
def Tr.All {α : Type} (p : Nat → α → Prop) : Tr α → Prop
  | .lf => True
  | .nd l k v r => l.All p ∧ p k v ∧ r.All p
theorem Tr.find_all {α : Type} {p : Nat → α → Prop} {k : Nat} {v : α} : ∀ {t : Tr α}, t.All p → t.find k = some v → p k v
  | .lf, _, h => by cases h
  | .nd l q u r, ⟨hl, hq, hr⟩, h => by
    unfold Tr.find at h
    cases h1 : Nat.beq k q with
    | true =>
      rw [h1] at h
      have : k = q := Nat.eq_of_beq_eq_true h1
      subst this
      cases h
      exact hq
    | false =>
      rw [h1] at h
      cases h2 : Nat.ble k q with
      | true => rw [h2] at h; exact Tr.find_all hl h
      | false => rw [h2] at h; exact Tr.find_all hr h
def mkFn (f : Func) (p : Bool) : AFn := ⟨f.body.getD .skip, f.ntmps, f.results.toList, p⟩
/-- What the machine holds of a function is the program's. -/
def FnOk (P : Program) (f : FuncId) (a : AFn) : Prop :=
  ∃ fn, P.funcs[f]? = some fn ∧ fn.body = some a.body ∧ a.ntmps = fn.ntmps ∧ a.results = fn.results.toList ∧ (fn.name == "runtime.NumGoroutine") = false
end Go.Am
noncomputable section
namespace Go.Am
/-! ### 14. Functions that the machine answers itself -/
def idxB (c : Nat) : List UInt8 → Nat → Int
  | [], _ => -1
  | b :: l, i => bif Nat.beq b.toNat c then (i : Int) else idxB c l (i + 1)
def iIndexByte : Intr := fun args h => match args with
  | [.str s, .int .u8 (.ofNat c)] => bif Nat.blt c 256 then some (.int .i64 (idxB c s 0), h) else none
  | _ => none
def cntB (c : Nat) : List UInt8 → Nat
  | [] => 0
  | b :: l => bif Nat.beq b.toNat c then cntB c l + 1 else cntB c l
def iCountByte : Intr := fun args h => match args with
  | [.str s, .int .u8 (.ofNat c)] => bif Nat.blt c 256 then some (.int .i64 (cntB c s), h) else none
  | _ => none
def repB (s : List UInt8) : Nat → List UInt8
  | 0 => []
  | n + 1 => s ++ repB s n
def iRepeat : Intr := fun args h => match args with
  | [.str s, .int .i64 (.ofNat n)] => bif Nat.ble n 1073741824 && Nat.ble (n * s.length) 1073741824 then some (.str (repB s n), h) else none
  | _ => none
def strsOf : List AV → Option (List (List UInt8))
  | [] => some []
  | .str s :: l => match strsOf l with
    | some m => some (s :: m)
    | none => none
  | _ :: _ => none
def joinB (sep : List UInt8) : List (List UInt8) → List UInt8
  | [] => []
  | [s] => s
  | s :: t :: l => s ++ sep ++ joinB sep (t :: l)
def iJoin : Intr := fun args h => match args with
  | [x, .str sep] => match rowCells 1 x h with
    | some cs => match strsOf cs with
      | some l => bif Nat.ble l.length 1073741824 && Nat.ble (joinB sep l).length 1073741824 then some (.str (joinB sep l), h) else none
      | none => none
    | none => none
  | _ => none
end Go.Am
