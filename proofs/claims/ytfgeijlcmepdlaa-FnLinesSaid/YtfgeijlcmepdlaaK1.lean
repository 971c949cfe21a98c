/- Part 1 of the tree calculus: symbolic execution of the model's code over typed lists, proved sound. No condition. -/
import GoSem.Dispatch
import GoSem.Machine.Return
import Derived.Orders
import Derived.ArgAppend
import Derived.Laws.MakeOwn
import Derived.Laws.BytesString
import Derived.Laws.Tables
import Derived.Deep.Draws
namespace Go.Tree

abbrev Row := List Value

/-- a cell of an element of a slice: a plain value, or a slice of plain rows of n cells, or something that is not known -/
inductive C where
  | v (x : Value)
  | s (n : Nat) (rows : List Row)
  | x
  deriving Inhabited

/-- the elements of a slice, each of sz cells -/
structure Sl where
  sz : Nat
  d : List (List C)
  deriving Inhabited

/-- what is known of a value that lies in a slot or in a variable's cell -/
inductive AV where
  | unk
  | v (x : Value)
  | nil
  | rd (src : List Nat) (l : Sl)
  | own (o : Nat)
  | nest (o i : Nat)
  | box (b off : Nat)
  | adr (o i off : Nat)
  | adn (o i j off : Nat)
  | rad (src : List Nat) (c : List C)
  | fn (f : FuncId) (caps : List Nat)
  | fnr (f : FuncId) (caps : List (List C))
  deriving Inhabited

inductive TV where
  | c (a : AV)
  | agg (l : List AV)
  | tup (l : List (Bool × List AV))
  deriving Inhabited

structure St where
  tm : List (Nat × TV)
  bx : List (Nat × List AV)
  ob : List (Nat × Sl)
  deriving Inhabited

def look {α : Type} (n : Nat) : List (Nat × α) → Option α
  | [] => none
  | (m, a) :: l => if m = n then some a else look n l
def drop {α : Type} (n : Nat) : List (Nat × α) → List (Nat × α)
  | [] => []
  | (m, a) :: l => if m = n then drop n l else (m, a) :: drop n l
def put {α : Type} (n : Nat) (x : α) : List (Nat × α) → List (Nat × α)
  | [] => [(n, x)]
  | (m, a) :: l => if m = n then (n, x) :: l else (m, a) :: put n x l

def St.get (A : St) (t : Nat) : TV := (look t A.tm).getD (.c .unk)
def St.dst (A : St) (d : Option Nat) (x : TV) : St := match d with | some t => { A with tm := put t x A.tm } | none => A

def TV.map (f : AV → AV) : TV → TV
  | .c a => .c (f a)
  | .agg l => .agg (l.map f)
  | .tup l => .tup (l.map fun p => (p.1, p.2.map f))

def mapTm (f : AV → AV) (l : List (Nat × TV)) : List (Nat × TV) := l.map fun p => (p.1, p.2.map f)
def mapBx (f : AV → AV) (l : List (Nat × List AV)) : List (Nat × List AV) := l.map fun p => (p.1, p.2.map f)
def St.map (f : AV → AV) (A : St) : St := { A with tm := mapTm f A.tm, bx := mapBx f A.bx }

/-- the objects that a value speaks of -/
def AV.obs : AV → List Nat
  | .own o => [o] | .nest o _ => [o] | .adr o _ _ => [o] | .adn o _ _ _ => [o] | .rd s _ => s | .rad s _ => s | _ => []
/-- the objects out of whose memory a value was read -/
def AV.reads : AV → List Nat
  | .rd s _ => s | .rad s _ => s | _ => []
def AV.bxs : AV → List Nat
  | .box b _ => [b] | .fn _ l => l | _ => []
def killIf (p : AV → Bool) (a : AV) : AV := if p a then .unk else a
/-- object o is no more -/
def killAV (o : Nat) : AV → AV := killIf fun a => a.obs.contains o
/-- object o has been written: what was read of it is unknown -/
def staleAV (o : Nat) : AV → AV := killIf fun a => a.reads.contains o
def killBox (b : Nat) : AV → AV := killIf fun a => a.bxs.contains b
def AV.nests (o i : Nat) : AV → Bool
  | .nest p j => p == o && j == i | .adn p j _ _ => p == o && j == i | _ => false
def killNest (o i : Nat) : AV → AV := killIf fun a => a.reads.contains o || a.nests o i

def St.kill (o : Nat) (A : St) : St := { A.map (killAV o) with ob := drop o A.ob }
def St.stale (o : Nat) (A : St) : St := A.map (staleAV o)

/-- the name of what the operation with slot t makes -/
def nm (t k : Nat) : Nat := 256 * (t + 1) + k

def St.newOb (n : Nat) (x : Sl) (A : St) : St := { A.kill n with ob := (n, x) :: (A.kill n).ob }
def St.newBox (n : Nat) (x : List AV) (A : St) : St := { A.map (killBox n) with bx := (n, x) :: drop n (mapBx (killBox n) A.bx) }

def single : Value → Bool
  | .agg _ => false | .tuple _ => false | _ => true
def cellAV : Value → AV
  | .slice none 0 0 => .nil
  | x => .v x
def valTV : Value → TV
  | .agg cs => .agg (cs.toList.map cellAV)
  | .tuple _ => .c .unk
  | x => .c (cellAV x)
/-- a value whose parts can be stored -/
def flat : Value → Bool
  | .agg cs => cs.toList.all single
  | x => single x

def avVal : AV → Option Value
  | .v x => some x
  | .nil => some (.slice none 0 0)
  | _ => none
def avVals : List AV → Option (List Value)
  | [] => some []
  | a :: l => match avVal a, avVals l with | some x, some y => some (x :: y) | _, _ => none
def tvVal : TV → Option Value
  | .c a => avVal a
  | .agg l => (avVals l).map fun l => .agg l.toArray
  | .tup _ => none

def St.ev (A : St) : Operand → TV
  | .tmp t => A.get t
  | .const v => if flat v then valTV v else .c .unk
  | .global _ => .c .unk
  | .func f => .c (.fnr f [])

/-- what a computation that touches no memory comes to -/
def asPure {α : Type} (P : Program) : Sem α → Option α
  | .pure a => some a
  | .program k => asPure P (k P)
  | _ => none

def lift (rows : List Row) : List (List C) := rows.map fun r => r.map .v
def lower1 : List C → Option Row
  | [] => some []
  | .v x :: l => (lower1 l).map (x :: ·)
  | _ :: _ => none
def lower : List (List C) → Option (List Row)
  | [] => some []
  | r :: l => match lower1 r, lower l with | some x, some y => some (x :: y) | _, _ => none

/-- the elements of a slice -/
def St.data (A : St) : AV → Option Sl
  | .nil => some ⟨0, []⟩
  | .rd _ l => some l
  | .own o => look o A.ob
  | .nest o i => match look o A.ob with
    | some b => match b.d[i]? with | some [.s n rows] => some ⟨n, lift rows⟩ | _ => none
    | none => none
  | _ => none
/-- the objects in whose blocks a slice lies -/
def srcs : AV → List Nat
  | .rd s _ => s
  | .own o => [o]
  | .nest o _ => [o]
  | _ => []

/-- surely one cell -/
def AV.sure : AV → Bool
  | .unk => false
  | .v x => single x
  | _ => true
def parts : TV → Option (List AV)
  | .c a => if a.sure then some [a] else none
  | .agg l => some l
  | .tup _ => none
def partsL : List TV → Option (List (List AV))
  | [] => some []
  | x :: l => match parts x, partsL l with | some a, some r => some (a :: r) | _, _ => none

def splice {α : Type} (l : List α) (off : Nat) (xs : List α) : List α := l.take off ++ xs ++ l.drop (off + xs.length)

def cAV (o i : Nat) : C → AV
  | .v x => cellAV x
  | .s _ _ => .nest o i
  | .x => .unk
def cRd (s : List Nat) : C → AV
  | .v x => cellAV x
  | .s n rows => .rd s ⟨n, lift rows⟩
  | .x => .unk

def sub? {α : Type} (l : List α) (off n : Nat) : Option (List α) := if off + n ≤ l.length then some ((l.drop off).take n) else none

/-- the cells of a variable of n cells at an address -/
def St.at (A : St) (n : Nat) : AV → Option (List AV)
  | .box b off => match look b A.bx with
    | some x => sub? x off n
    | none => none
  | .adr o i off => match look o A.ob with
    | some b => match b.d[i]? with
      | some cs => (sub? cs off n).map fun l => l.map (cAV o i)
      | none => none
    | none => none
  | .adn o i j off => match look o A.ob with
    | some b => match b.d[i]? with
      | some [.s _ rows] => match rows[j]? with
        | some r => (sub? r off n).map fun l => l.map cellAV
        | none => none
      | _ => none
    | none => none
  | .rad s c => (sub? c 0 n).map fun l => l.map (cRd s)
  | _ => none

section
variable (P : Program)
def isAggT (t : TypeId) : Bool := match P.underlying t with | some (.struct _) | some (.array ..) => true | _ => false
def elemT (t : TypeId) : TypeId := match P.underlying t with | some (.slice e) => e | _ => t
def isSliceT (t : TypeId) : Bool := match P.underlying t with | some (.slice _) => true | _ => false
def elemSz (t : TypeId) : Nat := P.cellsOf (elemT P t)
def zeroCells (t : TypeId) : Option (List Value) := match P.info? t with
  | some i => match i.zero with
    | some z => if z.cells.toList.all single then some z.cells.toList else none
    | none => none
  | none => none
def zeroC (sz n : Nat) : Value → C
  | .slice none 0 0 => if sz = 1 then .s n [] else .x
  | x => .v x
/-- a slice type whose elements have a zero value of their size -/
def goodT (t : TypeId) : Bool := isSliceT P t && match P.info? (elemT P t) with
  | some i => match i.zero with | some z => z.cells.size == i.size && decide (0 < i.size) | none => false
  | none => false
/-- n elements of a slice type are few enough -/
def small (n : Nat) (t : TypeId) : Bool := decide (n * P.bytesOf (elemT P t) ≤ 140737488355328) && decide (n ≤ 9223372036854775807)
def fieldOf (t : TypeId) (f : Nat) : Option Nat := match P.underlying t with
  | some (.struct fs) => match fs[f]? with | some fd => if P.cellsOf fd.type = 0 then none else some fd.offset | none => none
  | _ => none
def placesOf (t : TypeId) : Option (List (Nat × Nat)) := match P.underlying t with
  | some (.struct fs) => fs.toList.mapM fun f => (P.info? f.type).map fun i => (f.offset, i.size)
  | _ => none
def cellsTV (t : TypeId) (l : List AV) : Option TV := match P.underlying t with
  | none => none
  | some _ => if isAggT P t then some (.agg l) else match l with | [a] => some (.c a) | _ => none

/-- plain cells -/
def vVals : List AV → Option (List Value)
  | [] => some []
  | .v x :: l => if single x then (vVals l).map (x :: ·) else none
  | _ :: _ => none
/-- a store; n: the cells of an element of a slice that is stored -/
def St.store (A : St) (n : Nat) (a : AV) (xs : List AV) : Option St :=
  match a with
  | .box b off => match look b A.bx with
    | some x => if off + xs.length ≤ x.length then some { A with bx := put b (splice x off xs) A.bx } else none
    | none => none
  | .adr o i off => match xs with
    | [.nest p j] => if p = o ∧ j = i ∧ off = 0 then (match look o A.ob with | some b => (match b.d[i]? with | some [.s _ _] => some A | _ => none) | none => none) else none
    | [.v y] => match look o A.ob with
      | some b => match b.d[i]? with
        | some old => if off < old.length ∧ single y then some { A.map (killNest o i) with ob := put o ⟨b.sz, b.d.set i (old.set off (.v y))⟩ A.ob } else none
        | none => none
      | none => none
    | [.nil] => match look o A.ob with
      | some b => if b.sz = 1 ∧ i < b.d.length ∧ off = 0 then some { A.map (killNest o i) with ob := put o ⟨b.sz, b.d.set i [.s n []]⟩ A.ob } else none
      | none => none
    | [.own q] => if q = o then none else match look q A.ob, look o A.ob with
      | some bq, some b => match lower bq.d with
        | some rows => if b.sz = 1 ∧ i < b.d.length ∧ off = 0 then some { (A.kill q).map (killNest o i) with ob := put o ⟨b.sz, b.d.set i [.s bq.sz rows]⟩ (A.kill q).ob } else none
        | none => none
      | _, _ => none
    | xs => match vVals xs, look o A.ob with
      | some vs, some b => match b.d[i]? with
        | some old => if off = 0 ∧ vs.length = old.length ∧ vs ≠ [] then some { A.map (killNest o i) with ob := put o ⟨b.sz, b.d.set i (vs.map .v)⟩ A.ob } else none
        | none => none
      | _, _ => none
  | .adn o i j off => match xs with
    | [.v y] => match look o A.ob with
      | some b => match b.d[i]? with
        | some [.s n rows] => match rows[j]? with
          | some r => if off < r.length ∧ single y then
              some { A.stale o with ob := put o ⟨b.sz, b.d.set i [.s n (rows.set j (r.set off y))]⟩ A.ob } else none
          | none => none
        | _ => none
      | none => none
    | _ => none
  | _ => none

def fillAV (place : Nat → Option (Nat × Nat)) : List AV → List (Nat × List AV) → Option (List AV)
  | cells, [] => some cells
  | cells, (i, v) :: rest => match place i with
    | none => none
    | some (off, size) => if v.length = size ∧ off + v.length ≤ cells.length then fillAV place (splice cells off v) rest else none

/-- an element of a slice that is written out: plain cells -/
def plainRow (n sz : Nat) (l : List AV) : Option (List C) := match l with
  | [.nil] => if sz = 1 then some [.s n []] else none
  | l => match avVals l with
    | some vs => if vs.all single then some (vs.map .v) else none
    | none => none
def plainRows (n sz : Nat) : List (List AV) → Option (List (List C))
  | [] => some []
  | l :: r => match plainRow n sz l, plainRows n sz r with | some x, some y => some (x :: y) | _, _ => none
/-- an element of a slice that is written out: a slice that is lent -/
def lendRow (A : St) (l : List AV) : Option (List C × List Nat) := match l with
  | [a] => match A.data a with
    | some x => match lower x.d with
      | some rows => some ([.s x.sz rows], srcs a)
      | none => none
    | none => none
  | _ => none
def lendRows (A : St) : List (List AV) → Option (List (List C) × List Nat)
  | [] => some ([], [])
  | l :: r => match lendRow A l, lendRows A r with | some x, some y => some (x.1 :: y.1, x.2 ++ y.2) | _, _ => none

def natOf : TV → Option Nat
  | .c (.v (.int _ n)) => if 0 ≤ n then some n.toNat else none
  | _ => none
def boundOf (A : St) (d : Nat) : Option Operand → Option Nat
  | none => some d
  | some x => natOf (A.ev x)
def cut {α : Type} (l : List α) (lo hi : Nat) : List α := (l.take hi).drop lo

def valsOf (A : St) : List Operand → Bool
  | [] => true
  | x :: l => (tvVal (A.ev x)).isSome && valsOf A l
/-- an operation upon plain values: the model's own -/
def noSelect : Op → Bool
  | .select _ _ => false
  | _ => true
def plainOp (A : St) (o : Oper) : Option St :=
  if valsOf A o.op.operands.toList && noSelect o.op then
    match asPure P (execOp (fun x => (tvVal (A.ev x)).getD undef) o) with
    | some (.value v) => if flat v then some (A.dst o.dst (valTV v)) else none
    | _ => none
  else none

def rowBytes : List (List C) → Option (List UInt8)
  | [] => some []
  | [.v (.int .u8 n)] :: l => (rowBytes l).map (UInt8.ofNat n.toNat :: ·)
  | _ => none

/-- what a text's author says of a function: slots at which a cut is taken over (the rest of the object is given up), slots at which slices are lent to a written-out one, slots of calls whose shared results are left unknown; the slots that are live at a loop's head -/
structure Hint where
  take : List Nat
  lend : List Nat
  loose : List Nat
  live : Nat → List Nat
  deriving Inhabited

/-- element i of object p, a slice, becomes an object by itself; a hole is left -/
def St.extract (A : St) (p i m : Nat) : Option St := if p = m then none else match look p A.ob with
  | some b => match b.d[i]? with
    | some [.s n rows] => some (St.newOb m ⟨n, lift rows⟩ { A.map (killNest p i) with ob := put p ⟨b.sz, b.d.set i [.x]⟩ A.ob })
    | _ => none
  | none => none

/-- an append to object p; the whole is object m -/
def appendOwn (A : St) (m p : Nat) (e : TypeId) (b : AV) : Option St := match look p A.ob, A.data b with
  | some l, some r => if (l.sz = elemSz P e ∨ l.sz = 0 ∧ l.d.length = 0) ∧ (r.sz = elemSz P e ∨ r.d.length = 0) ∧ small P (l.d.length + r.d.length) e ∧ goodT P e then
      match lower r.d with
      | some _ => if (srcs b).contains p then none else some ((A.kill p).newOb m ⟨elemSz P e, l.d ++ r.d⟩)
      | none => match b with
        | .own q => if p = q then none else some (((A.kill q).kill p).newOb m ⟨elemSz P e, l.d ++ r.d⟩)
        | _ => none
    else none
  | _, _ => none
def appendNil (A : St) (m : Nat) (e : TypeId) (b : AV) : Option St := match A.data b with
  | some r => if (r.sz = elemSz P e ∨ r.d.length = 0) ∧ small P r.d.length e ∧ goodT P e then
      match lower r.d with
      | some _ => some (A.newOb m ⟨elemSz P e, r.d⟩)
      | none => none
    else none
  | none => none
/-- a cut of object p, taken over -/
def cutOwn (A : St) (m p : Nat) (e : TypeId) (lo hi : Option Operand) : Option St := match look p A.ob with
  | some b => match boundOf A 0 lo, boundOf A b.d.length hi with
    | some l, some r => if l ≤ r ∧ r ≤ b.d.length ∧ b.sz = elemSz P e ∧ goodT P e then some ((A.kill p).newOb m ⟨b.sz, cut b.d l r⟩) else none
    | _, _ => none
  | none => none
/-- a cut that is read -/
def cutRd (A : St) (e : TypeId) (v : AV) (lo hi : Option Operand) : Option AV := match A.data v with
  | some b => match boundOf A 0 lo, boundOf A b.d.length hi with
    | some l, some r => if l ≤ r ∧ r ≤ b.d.length ∧ (b.sz = elemSz P e ∨ b.sz = 0) ∧ goodT P e then some (.rd (srcs v) ⟨b.sz, cut b.d l r⟩) else none
    | _, _ => none
  | none => none

def appendOp (A : St) (o : Oper) (t : Nat) (c : Call) : Option St := match c.args.toList, c.argTypes.toList with
  | [x, y], [e, e'] => if e = e' then
      (match A.ev x with
      | .c .nil => match A.ev y with
        | .c b => (match appendNil P A (nm t 0) e b with | some A => some (A.dst o.dst (.c (.own (nm t 0)))) | none => none)
        | _ => none
      | .c (.own p) => match A.ev y with
        | .c b => (match appendOwn P A (nm t 0) p e b with | some A => some (A.dst o.dst (.c (.own (nm t 0)))) | none => none)
        | _ => none
      | .c (.nest p i) => match A.extract p i (nm t 1) with
        | some A => match A.ev y with
          | .c b => (match appendOwn P A (nm t 0) (nm t 1) e b with | some A => some (A.dst o.dst (.c (.own (nm t 0)))) | none => none)
          | _ => none
        | none => none
      | _ => none)
    else none
  | _, _ => none
def lenOp (A : St) (o : Oper) (c : Call) : Option St := match c.args.toList, c.argTypes.toList with
  | [x], [e] => match A.ev x with
    | .c (.v _) => plainOp P A o
    | .c a => match A.data a, isSliceT P e with
      | some l, true => some (A.dst o.dst (.c (.v (.int .i64 l.d.length))))
      | _, _ => none
    | _ => none
  | _, _ => none

/-- an operation that is no call of a Go function -/
def aop (h : Hint) (A : St) (o : Oper) : Option St :=
  let t := o.dst.getD 0
  match o.op with
  | .move x => some (A.dst o.dst (A.ev x))
  | .assign x => some (A.dst o.dst (A.ev x))
  | .pick c a b => match A.ev c with
    | .c (.v (.bool u)) => some (A.dst o.dst (if u then A.ev a else A.ev b))
    | _ => none
  | .alloc e => match o.dst, zeroCells P e with
    | some t, some z => some ((A.newBox t (z.map cellAV)).dst (some t) (.c (.box t 0)))
    | _, _ => none
  | .box _ x => match o.dst, parts (A.ev x) with
    | some t, some l => some ((A.newBox t (l.map (killBox t))).dst (some t) (.c (.box t 0)))
    | _, _ => none
  | .build e ps => match placesOf P e, zeroCells P e, partsL (ps.toList.map fun p => A.ev p.2) with
    | some pl, some z, some l => match fillAV (pl[·]?) (z.map cellAV) ((ps.toList.map (·.1)).zip l) with
      | some cs => some (A.dst o.dst (.agg cs))
      | none => none
    | _, _, _ => none
  | .buildSlice e n ps => if ps.toList.map (·.1) = List.range n ∧ n * elemSz P e ≤ 16777216 ∧ goodT P e then
      match partsL (ps.toList.map fun p => A.ev p.2) with
      | some l => if l.all (fun r => r.length == elemSz P e) then
          if h.lend.contains t then (match lendRows A l with
            | some (cs, ss) => some (A.dst o.dst (.c (.rd ss ⟨elemSz P e, cs⟩)))
            | none => none)
          else match l with
            | [[.own q]] => (match look q A.ob with
              | some b => match lower b.d with
                | some rows => some (((A.kill q).newOb (nm t 0) ⟨elemSz P e, [[.s b.sz rows]]⟩).dst o.dst (.c (.own (nm t 0))))
                | none => none
              | none => none)
            | l => match plainRows (elemSz P (elemT P e)) (elemSz P e) l with
              | some cs => some ((A.newOb (nm t 0) ⟨elemSz P e, cs⟩).dst o.dst (.c (.own (nm t 0))))
              | none => none
        else none
      | none => none
    else none
  | .load e a => match A.ev a with
    | .c a => if P.cellsOf e = 0 then none else match A.at (P.cellsOf e) a with
      | some l => match cellsTV P e l with
        | some x => some (A.dst o.dst x)
        | none => none
      | none => none
    | _ => none
  | .store e a x => match A.ev a, parts (A.ev x) with
    | .c a, some l => if l.length = P.cellsOf e ∧ P.cellsOf e ≠ 0 then (match A.store (elemSz P e) a l with | some A => some (A.dst o.dst (.c .unk)) | none => none) else none
    | _, _ => none
  | .nilCheck x => match A.ev x with
    | .c (.box b f) => some (A.dst o.dst (.c (.box b f)))
    | .c (.rad s c) => some (A.dst o.dst (.c (.rad s c)))
    | _ => none
  | .fieldAddr e x f => match A.ev x, fieldOf P e f with
    | .c (.box b off), some k => some (A.dst o.dst (.c (.box b (off + k))))
    | .c (.adr p i off), some k => some (A.dst o.dst (.c (.adr p i (off + k))))
    | .c (.adn p i j off), some k => some (A.dst o.dst (.c (.adn p i j (off + k))))
    | .c (.rad s c), some k => some (A.dst o.dst (.c (.rad s (c.drop k))))
    | _, _ => none
  | .indexAddr e x ix => match A.ev x, natOf (A.ev ix) with
    | .c (.own p), some i => match look p A.ob with
      | some b => if i < b.d.length ∧ b.sz = elemSz P e ∧ isSliceT P e then some (A.dst o.dst (.c (.adr p i 0))) else none
      | none => none
    | .c (.nest p k), some i => match A.data (.nest p k) with
      | some l => if i < l.d.length ∧ l.sz = elemSz P e ∧ isSliceT P e then some (A.dst o.dst (.c (.adn p k i 0))) else none
      | none => none
    | .c (.rd s l), some i => match l.d[i]? with
      | some c => if l.sz = elemSz P e ∧ isSliceT P e then some (A.dst o.dst (.c (.rad s c))) else none
      | none => none
    | .c (.box b off), some i => match P.underlying e with
      | some (.array n el) => if i < n ∧ 2 ≤ n ∧ P.cellsOf el = 1 then some (A.dst o.dst (.c (.box b (off + i)))) else none
      | _ => none
    | _, _ => none
  | .slice e x lo hi none => match A.ev x with
    | .c v => match v with
      | .v _ => plainOp P A o
      | .own p => if h.take.contains t then (match cutOwn P A (nm t 0) p e lo hi with | some A => some (A.dst o.dst (.c (.own (nm t 0)))) | none => none)
        else (match cutRd P A e v lo hi with | some x => some (A.dst o.dst (.c x)) | none => none)
      | .nest p i => if h.take.contains t then (match A.extract p i (nm t 1) with
          | some A => (match cutOwn P A (nm t 0) (nm t 1) e lo hi with | some A => some (A.dst o.dst (.c (.own (nm t 0)))) | none => none)
          | none => none)
        else (match cutRd P A e v lo hi with | some x => some (A.dst o.dst (.c x)) | none => none)
      | _ => match cutRd P A e v lo hi with | some x => some (A.dst o.dst (.c x)) | none => none
    | _ => none
  | .makeSlice e l c => match natOf (A.ev l), natOf (A.ev c), zeroCells P (elemT P e) with
    | some n, some m, some z => if n = m ∧ small P n e ∧ goodT P e then
        some ((A.newOb (nm t 0) ⟨elemSz P e, List.replicate n (z.map (zeroC (elemSz P e) (elemSz P (elemT P e))))⟩).dst o.dst (.c (.own (nm t 0))))
      else none
    | _, _, _ => none
  | .makeFunc fn first caps => match fn with
    | .func f => if first.size = 0 then (match caps.toList.mapM fun x => (match A.ev x with | .c (.box b 0) => some b | _ => none) with
      | some l => some (A.dst o.dst (.c (.fn f l)))
      | none => none) else none
    | _ => none
  | .extract x i => match A.ev x with
    | .tup l => match l[i]? with
      | some (true, l) => some (A.dst o.dst (.agg l))
      | some (false, [a]) => some (A.dst o.dst (.c a))
      | _ => none
    | _ => none
  | .convert e d x => match A.ev x with
    | .c (.v _) => plainOp P A o
    | .c a => match A.data a, P.underlying e, P.underlying d with
      | some l, some (.slice el), some .string => match P.underlying el, rowBytes l.d with
        | some (.int .u8), some bs => some (A.dst o.dst (.c (.v (.string ⟨bs.toArray⟩))))
        | _, _ => none
      | _, _, _ => none
    | _ => none
  | .call c => match c.callee with
    | .builtin b => match b with
      | .append => appendOp P A o t c
      | .len => lenOp P A o c
      | _ => plainOp P A o
    | _ => none
  | _ => plainOp P A o

end
end Go.Tree
namespace Go.Tree
set_option linter.unusedVariables false
set_option linter.unusedSimpArgs false
set_option linter.constructorNameAsVariable false

/-- two lists, element by element -/
inductive F2 {α β : Type} (R : α → β → Prop) : List α → List β → Prop
  | nil : F2 R [] []
  | cons {a b l m} : R a b → F2 R l m → F2 R (a :: l) (b :: m)

section
variable {α β : Type} {R S : α → β → Prop}
theorem F2.length {l : List α} {m : List β} (h : F2 R l m) : l.length = m.length := by
  induction h with
  | nil => rfl
  | cons _ _ ih => simp [ih]
theorem F2.mono {l : List α} {m : List β} (h : F2 R l m) (f : ∀ a b, R a b → S a b) : F2 S l m := by
  induction h with
  | nil => exact .nil
  | cons r _ ih => exact .cons (f _ _ r) ih
theorem F2.get {l : List α} {m : List β} (h : F2 R l m) : ∀ {i : Nat} {a}, l[i]? = some a → ∃ b, m[i]? = some b ∧ R a b := by
  induction h with
  | nil => intro i a h; simp at h
  | cons r _ ih =>
    intro i a h
    cases i with
    | zero => simp at h; subst h; exact ⟨_, rfl, r⟩
    | succ i => simp at h; simpa using ih h
theorem F2.of_get : ∀ {l : List α} {m : List β}, l.length = m.length → (∀ (i : Nat) a b, l[i]? = some a → m[i]? = some b → R a b) → F2 R l m
  | [], [], _, _ => .nil
  | a :: l, b :: m, hl, h => .cons (h 0 a b rfl rfl) (F2.of_get (by simpa using hl) fun i x y hx hy => h (i + 1) x y (by simpa using hx) (by simpa using hy))
  | [], _ :: _, hl, _ => by simp at hl
  | _ :: _, [], hl, _ => by simp at hl
theorem F2.append {l l' : List α} {m m' : List β} (h : F2 R l m) (h' : F2 R l' m') : F2 R (l ++ l') (m ++ m') := by
  induction h with
  | nil => exact h'
  | cons r _ ih => exact .cons r ih
theorem F2.take {l : List α} {m : List β} (h : F2 R l m) : ∀ n, F2 R (l.take n) (m.take n) := by
  induction h with
  | nil => intro n; simp; exact .nil
  | cons r _ ih => intro n; cases n with
    | zero => exact .nil
    | succ n => simpa using .cons r (ih n)
theorem F2.drop {l : List α} {m : List β} (h : F2 R l m) : ∀ n, F2 R (l.drop n) (m.drop n) := by
  induction h with
  | nil => intro n; simp; exact .nil
  | cons r h' ih => intro n; cases n with
    | zero => exact .cons r h'
    | succ n => simpa using ih n
theorem F2.map_left {γ : Type} {f : γ → α} {l : List γ} {m : List β} (h : F2 (fun a b => R (f a) b) l m) : F2 R (l.map f) m := by
  induction h with
  | nil => exact .nil
  | cons r _ ih => exact .cons r ih
theorem F2.of_map_left {γ : Type} {f : γ → α} : ∀ {l : List γ} {m : List β}, F2 R (l.map f) m → F2 (fun a b => R (f a) b) l m
  | [], [], _ => .nil
  | _ :: _, _ :: _, .cons r h => .cons r (F2.of_map_left h)
end

inductive Tag where
  | bx (b : Nat) | ob (o : Nat) | ne (o i : Nat)

/-- where the objects and boxes lie; tg: to whom a block belongs; z: memory that stays -/
structure Gh where
  hd : Nat → Value
  sz : Nat → Nat
  nh : Nat → Nat → Value
  ns : Nat → Nat → Nat
  bb : Nat → Nat
  tg : Nat → Option Tag
  z : Nat → Prop

def Gh.inOb (γ : Gh) (o b : Nat) : Prop := γ.tg b = some (.ob o) ∨ ∃ i, γ.tg b = some (.ne o i)
def Gh.inR (γ : Gh) (s : List Nat) (b : Nat) : Prop := γ.z b ∨ ∃ o, o ∈ s ∧ γ.inOb o b

def RowsAt (w : World) (R : Nat → Prop) (y : Value) (n : Nat) (rows : List Row) : Prop :=
  (∀ r ∈ rows, r.length = n) ∧ ∃ a cap, y = .slice a rows.length cap ∧ rows.length ≤ cap ∧ (n = 0 → y = .slice none 0 0) ∧
    (rows ≠ [] → ∃ blk off, a = some ⟨blk, off, none⟩ ∧ R blk ∧ ∀ i r, rows[i]? = some r → ∀ j x, r[j]? = some x → w.cell? ⟨blk, off + i * n + j, none⟩ = some x ∧ x.oneCell' = true)

def CAt (w : World) (R : Nat → Prop) : C → Value → Prop
  | .v x, y => y = x ∧ x.oneCell' = true
  | .s n rows, y => RowsAt w R y n rows
  | .x, y => y.oneCell' = true

def SlAt (w : World) (R : Nat → Prop) (y : Value) (l : Sl) : Prop :=
  (∀ r ∈ l.d, r.length = l.sz) ∧ ∃ a cap, y = .slice a l.d.length cap ∧ l.d.length ≤ cap ∧ (l.sz = 0 → y = .slice none 0 0) ∧
    (l.d ≠ [] → ∃ blk off, a = some ⟨blk, off, none⟩ ∧ R blk ∧ ∀ i r, l.d[i]? = some r → ∀ j x, r[j]? = some x → ∃ u, w.cell? ⟨blk, off + i * l.sz + j, none⟩ = some u ∧ CAt w R x u)

def RadAt (w : World) (R : Nat → Prop) (y : Value) (c : List C) : Prop :=
  ∃ blk off, y = .pointer (some ⟨blk, off, none⟩) ∧ (c ≠ [] → R blk) ∧ ∀ j x, c[j]? = some x → ∃ u, w.cell? ⟨blk, off + j, none⟩ = some u ∧ CAt w R x u

def AVrep (γ : Gh) (w : World) : AV → Value → Prop
  | .unk, _ => True
  | .v x, y => y = x
  | .nil, y => y = .slice none 0 0
  | .rd s l, y => SlAt w (γ.inR s) y l
  | .own o, y => y = γ.hd o ∧ y.oneCell' = true
  | .nest o i, y => y = γ.nh o i ∧ y.oneCell' = true
  | .box b f, y => y = .pointer (some ⟨γ.bb b, f, none⟩)
  | .adr o i f, y => ∃ blk off len cap, γ.hd o = .slice (some ⟨blk, off, none⟩) len cap ∧ y = .pointer (some ⟨blk, off + i * γ.sz o + f, none⟩)
  | .adn o i j f, y => ∃ blk off len cap, γ.nh o i = .slice (some ⟨blk, off, none⟩) len cap ∧ y = .pointer (some ⟨blk, off + j * γ.ns o i + f, none⟩)
  | .rad s c, y => RadAt w (γ.inR s) y c
  | .fn f caps, y => y = .func (.func f) #[] (caps.map fun b => Value.pointer (some ⟨γ.bb b, 0, none⟩)).toArray
  | .fnr f caps, y => ∃ vs : List Value, y = .func (.func f) #[] vs.toArray ∧ F2 (fun c u => RadAt w γ.z u c) caps vs

def Cells (γ : Gh) (w : World) (l : List AV) (cs : List Value) : Prop := F2 (fun a u => AVrep γ w a u ∧ u.oneCell' = true) l cs

def TVrep (γ : Gh) (w : World) : TV → Value → Prop
  | .c a, y => AVrep γ w a y
  | .agg l, y => ∃ cs : List Value, y = .agg cs.toArray ∧ Cells γ w l cs
  | .tup l, y => ∃ vs : List Value, y = .tuple vs.toArray ∧ F2 (fun p u => (p.1 = true ∧ ∃ cs : List Value, u = .agg cs.toArray ∧ Cells γ w p.2 cs) ∨ (p.1 = false ∧ ∃ a, p.2 = [a] ∧ AVrep γ w a u)) l vs

/-- a slice that is owned: its block bears the tag t -/
def NeAt (γ : Gh) (w : World) (o i n : Nat) (rows : List Row) : Prop :=
  (∀ r ∈ rows, r.length = n) ∧ (((∃ ad, γ.nh o i = .slice ad 0 0 ∧ (n = 0 → ad = none)) ∧ rows = []) ∨ (0 < n ∧ γ.ns o i = n ∧ ∃ blk off cap cs e, γ.nh o i = .slice (some ⟨blk, off, none⟩) rows.length cap ∧
    rows.length ≤ cap ∧ γ.tg blk = some (.ne o i) ∧ w.heap[blk]? = some (.cells cs e (0, 0)) ∧ off + cap * n ≤ cs.size ∧
    ∀ k r, rows[k]? = some r → ∀ j x, r[j]? = some x → cs[off + k * n + j]? = some x ∧ x.oneCell' = true))
def COwn (γ : Gh) (w : World) (o sz i : Nat) : C → Value → Prop
  | .v x, y => y = x ∧ x.oneCell' = true
  | .s n rows, y => sz = 1 ∧ y = γ.nh o i ∧ NeAt γ w o i n rows
  | .x, y => y.oneCell' = true
def ObAt (γ : Gh) (w : World) (o : Nat) (l : Sl) : Prop :=
  (∀ r ∈ l.d, r.length = l.sz) ∧ (((∃ ad, γ.hd o = .slice ad 0 0 ∧ (l.sz = 0 → ad = none)) ∧ l.d = []) ∨ (0 < l.sz ∧ γ.sz o = l.sz ∧ ∃ blk off cap cs e, γ.hd o = .slice (some ⟨blk, off, none⟩) l.d.length cap ∧
    l.d.length ≤ cap ∧ γ.tg blk = some (.ob o) ∧ w.heap[blk]? = some (.cells cs e (0, 0)) ∧ off + cap * l.sz ≤ cs.size ∧
    ∀ k r, l.d[k]? = some r → ∀ j x, r[j]? = some x → ∃ u, cs[off + k * l.sz + j]? = some u ∧ COwn γ w o l.sz k x u))
def BxAt (γ : Gh) (w : World) (b : Nat) (l : List AV) : Prop :=
  ∃ (cs : List Value) (e : TypeId), w.heap[γ.bb b]? = some (.cells cs.toArray e (0, 0)) ∧ γ.tg (γ.bb b) = some (.bx b) ∧ Cells γ w l cs

structure Rel (γ : Gh) (A : St) (tmps : Array Value) (w : World) : Prop where
  tm : ∀ t x, look t A.tm = some x → TVrep γ w x (tmps.getD t undef)
  bx : ∀ b l, look b A.bx = some l → BxAt γ w b l
  ob : ∀ o l, look o A.ob = some l → ObAt γ w o l
  zt : ∀ b, γ.z b → γ.tg b = none
  lt : ∀ b, γ.z b ∨ γ.tg b ≠ none → b < w.heap.size

/-- what has become of the memory since the call began -/
structure Hist (γ0 : Gh) (w0 : World) (γ : Gh) (w : World) : Prop where
  size : w0.heap.size ≤ w.heap.size
  os : w.os = w0.os
  tape : w.tape = w0.tape
  output : w.output = w0.output
  block : ∀ b, b < w0.heap.size → γ0.tg b = none → w.heap[b]? = w0.heap[b]? ∧ γ.tg b = none
  z : ∀ b, b < w0.heap.size → γ.z b → γ0.z b ∨ γ0.tg b ≠ none

/- lists with names -/
theorem look_put {α : Type} (n m : Nat) (x : α) : ∀ l : List (Nat × α), look m (put n x l) = if m = n then some x else look m l
  | [] => by
    simp only [put, look]
    by_cases h : m = n
    · simp [h]
    · rw [if_neg (fun e => h e.symm), if_neg h]
  | (k, a) :: l => by
    simp only [put]
    split
    · rename_i h
      subst h
      by_cases hm : k = m
      · simp [look, hm]
      · simp [look, hm, Ne.symm hm]
    · rename_i h
      simp only [look]
      split
      · rename_i h'
        subst h'
        simp [h]
      · rw [look_put]
theorem look_drop {α : Type} (n m : Nat) : ∀ l : List (Nat × α), look m (drop n l) = if m = n then none else look m l
  | [] => by simp [drop, look]
  | (k, a) :: l => by
    simp only [drop]
    split
    · rename_i h
      subst h
      rw [look_drop]
      by_cases hm : m = k
      · simp [hm]
      · simp [hm, look, Ne.symm hm]
    · rename_i h
      simp only [look]
      split
      · rename_i h'
        subst h'
        simp [h]
      · rw [look_drop]
theorem look_mapTm (f : AV → AV) (t : Nat) : ∀ l, look t (mapTm f l) = (look t l).map (TV.map f)
  | [] => rfl
  | (k, a) :: l => by simp only [mapTm, List.map_cons, look]; split <;> simp [← look_mapTm f t l, mapTm]
theorem look_mapBx (f : AV → AV) (t : Nat) : ∀ l, look t (mapBx f l) = (look t l).map (List.map f)
  | [] => rfl
  | (k, a) :: l => by simp only [mapBx, List.map_cons, look]; split <;> simp [← look_mapBx f t l, mapBx]

/- a map that only forgets -/
def Forgets (f : AV → AV) : Prop := ∀ a, f a = a ∨ f a = .unk
theorem forgets_killIf (p : AV → Bool) : Forgets (killIf p) := fun a => by unfold killIf; split <;> simp
theorem AVrep.forget {γ w f a y} (hf : Forgets f) (h : AVrep γ w a y) : AVrep γ w (f a) y := by
  rcases hf a with e | e <;> rw [e]
  · exact h
  · trivial
theorem Cells.map {γ γ' : Gh} {w w' : World} {f : AV → AV} {l cs} (h : Cells γ w l cs) (hf : ∀ a y, a ∈ l → AVrep γ w a y → AVrep γ' w' (f a) y) : Cells γ' w' (l.map f) cs := by
  unfold Cells at *
  induction h with
  | nil => exact .nil
  | cons r _ ih => exact .cons ⟨hf _ _ (by simp) r.1, r.2⟩ (ih fun a y ha => hf a y (by simp [ha]))
def TV.avs : TV → List AV
  | .c a => [a] | .agg l => l | .tup l => l.flatMap (·.2)
theorem TVrep.map {γ γ' : Gh} {w w' : World} {f : AV → AV} {x y} (h : TVrep γ w x y) (hf : ∀ a y, a ∈ x.avs → AVrep γ w a y → AVrep γ' w' (f a) y) : TVrep γ' w' (x.map f) y := by
  cases x with
  | c a => exact hf _ _ (by simp [TV.avs]) h
  | agg l => obtain ⟨cs, e, h⟩ := h; exact ⟨cs, e, h.map hf⟩
  | tup l =>
    obtain ⟨vs, e, h⟩ := h
    refine ⟨vs, e, ?_⟩
    clear e
    simp only [TV.avs] at hf
    induction h with
    | nil => exact .nil
    | cons r _ ih =>
      refine .cons ?_ (ih fun a y ha => hf a y (by simp only [List.flatMap_cons, List.mem_append]; exact .inr ha))
      rcases r with ⟨r1, cs, r2, r3⟩ | ⟨r1, a, r2, r3⟩
      · exact .inl ⟨r1, cs, r2, r3.map fun a y ha => hf a y (by simp only [List.flatMap_cons, List.mem_append]; exact .inl ha)⟩
      · refine .inr ⟨r1, f a, by simp [r2], hf _ _ ?_ r3⟩
        simp only [List.flatMap_cons, List.mem_append]
        exact .inl (by simp [r2])
theorem TVrep.mono {γ γ' : Gh} {w w' : World} {x y} (h : TVrep γ w x y) (hf : ∀ a y, a ∈ x.avs → AVrep γ w a y → AVrep γ' w' a y) : TVrep γ' w' x y := by
  have := h.map (f := id) hf
  have e : x.map id = x := by cases x <;> simp [TV.map]
  rwa [e] at this
theorem Cells.mono {γ γ' : Gh} {w w' : World} {l cs} (h : Cells γ w l cs) (hf : ∀ a y, a ∈ l → AVrep γ w a y → AVrep γ' w' a y) : Cells γ' w' l cs := by
  have := h.map (f := id) hf
  rwa [List.map_id] at this

/-- all that is said of values in a state -/
def St.avs (A : St) : List AV := A.tm.flatMap (·.2.avs) ++ A.bx.flatMap (·.2)
theorem mem_of_look {α : Type} {n : Nat} {x : α} : ∀ {l : List (Nat × α)}, look n l = some x → (n, x) ∈ l
  | (k, a) :: l, h => by
    simp only [look] at h
    split at h
    · rename_i e; cases h; simp [e]
    · exact List.mem_cons_of_mem _ (mem_of_look h)

theorem Rel.map {γ A tmps w} (h : Rel γ A tmps w) {f : AV → AV} (hf : Forgets f) : Rel γ (A.map f) tmps w where
  tm t x hx := by
    simp only [St.map, look_mapTm, Option.map_eq_some_iff] at hx
    obtain ⟨y, hy, rfl⟩ := hx
    exact (h.tm t y hy).map fun a y _ ha => ha.forget hf
  bx b l hl := by
    simp only [St.map, look_mapBx, Option.map_eq_some_iff] at hl
    obtain ⟨y, hy, rfl⟩ := hl
    obtain ⟨cs, e, h1, h2, h3⟩ := h.bx b y hy
    exact ⟨cs, e, h1, h2, h3.map fun a y _ ha => ha.forget hf⟩
  ob := h.ob
  zt := h.zt
  lt := h.lt
theorem Rel.dropOb {γ A tmps w} (h : Rel γ A tmps w) (o : Nat) : Rel γ { A with ob := drop o A.ob } tmps w where
  tm := h.tm
  bx := h.bx
  ob p l hl := by
    simp only [look_drop] at hl
    split at hl
    · cases hl
    · exact h.ob p l hl
  zt := h.zt
  lt := h.lt
theorem Rel.kill {γ A tmps w} (h : Rel γ A tmps w) (o : Nat) : Rel γ (A.kill o) tmps w := (h.map (forgets_killIf _)).dropOb o
theorem Rel.stale {γ A tmps w} (h : Rel γ A tmps w) (o : Nat) : Rel γ (A.stale o) tmps w := h.map (forgets_killIf _)
theorem cellAV_rep {γ : Gh} {w : World} (x : Value) : AVrep γ w (cellAV x) x := by unfold cellAV; split <;> simp [AVrep]
theorem single_one {x : Value} (h : single x = true) : x.oneCell' = true := by cases x <;> simp_all [single, Value.oneCell']
theorem one_single {x : Value} (h : x.oneCell' = true) : single x = true := by cases x <;> simp_all [single, Value.oneCell']
theorem cells_vals {γ : Gh} {w : World} : ∀ l : List Value, l.all single = true → Cells γ w (l.map cellAV) l
  | [], _ => .nil
  | a :: l, h => by
    simp only [List.all_cons, Bool.and_eq_true] at h
    exact .cons ⟨cellAV_rep a, single_one h.1⟩ (cells_vals l h.2)
theorem valTV_rep {γ : Gh} {w : World} {v : Value} (hf : flat v = true) : TVrep γ w (valTV v) v := by
  unfold valTV
  split
  · rename_i cs; exact ⟨cs.toList, by simp, cells_vals _ hf⟩
  · trivial
  · exact cellAV_rep v
theorem Rel.eval {γ A tmps w d} (h : Rel γ A tmps w) (x : Operand) : TVrep γ w (A.ev x) (Act.eval ⟨tmps, d⟩ x) := by
  cases x with
  | tmp t =>
    simp only [St.ev, St.get, Act.eval]
    cases hl : look t A.tm with
    | none => trivial
    | some x => exact h.tm t x hl
  | const v =>
    simp only [St.ev, Act.eval]
    split
    · rename_i hf; exact valTV_rep hf
    · trivial
  | global g => trivial
  | func f => exact ⟨[], rfl, .nil⟩
end Go.Tree
namespace Go.Tree
set_option linter.unusedVariables false
set_option linter.unusedSimpArgs false
set_option linter.constructorNameAsVariable false

theorem cell_of_heap {w w' : World} {blk off : Nat} (h : w'.heap[blk]? = w.heap[blk]?) : w'.cell? ⟨blk, off, none⟩ = w.cell? ⟨blk, off, none⟩ := by simp [World.cell?, h]
theorem cell_lt {w : World} {blk off : Nat} {x : Value} (h : w.cell? ⟨blk, off, none⟩ = some x) : blk < w.heap.size := World.block_lt_of_cell? w _ h
theorem cell_cells {w : World} {blk off : Nat} {cs : Array Value} {e : TypeId} {f : Nat × Nat} (h : w.heap[blk]? = some (.cells cs e f)) : w.cell? ⟨blk, off, none⟩ = cs[off]? := by simp [World.cell?, h]
theorem frozen_cells {w : World} {blk off : Nat} {cs : Array Value} {e : TypeId} (h : w.heap[blk]? = some (.cells cs e (0, 0))) : w.frozen? ⟨blk, off, none⟩ = false := by simp [World.frozen?, h]
theorem heap_lt {w : World} {b : Nat} {o : Obj} (h : w.heap[b]? = some o) : b < w.heap.size := (Array.getElem?_eq_some_iff.1 h).1

section
variable {w w' : World} {R R' : Nat → Prop}
theorem RowsAt.move {y n rows} (h : RowsAt w R y n rows) (hr : ∀ b, R b → b < w.heap.size → w'.heap[b]? = w.heap[b]? ∧ R' b) : RowsAt w' R' y n rows := by
  obtain ⟨h1, a, cap, h2, h3, h4, h5⟩ := h
  refine ⟨h1, a, cap, h2, h3, h4, fun hne => ?_⟩
  obtain ⟨blk, off, e, hR, hc⟩ := h5 hne
  by_cases hlt : blk < w.heap.size
  · obtain ⟨hh, hR'⟩ := hr blk hR hlt
    exact ⟨blk, off, e, hR', fun i r hi j x hj => by rw [cell_of_heap hh]; exact hc i r hi j x hj⟩
  · exfalso
    cases rows with
    | nil => exact hne rfl
    | cons r rows =>
      have hn : n ≠ 0 := fun hn => by have e2 := h4 hn; rw [h2, e] at e2; simp at e2
      have hrl : r.length = n := h1 r (by simp)
      cases r with
      | nil => simp at hrl; exact hn hrl.symm
      | cons x r => exact hlt (cell_lt (hc 0 _ rfl 0 x rfl).1)
theorem CAt.move {c y} (h : CAt w R c y) (hr : ∀ b, R b → b < w.heap.size → w'.heap[b]? = w.heap[b]? ∧ R' b) : CAt w' R' c y := by
  cases c with
  | v x => exact h
  | s n rows => exact RowsAt.move h hr
  | x => exact h
theorem SlAt.move {y l} (h : SlAt w R y l) (hr : ∀ b, R b → b < w.heap.size → w'.heap[b]? = w.heap[b]? ∧ R' b) : SlAt w' R' y l := by
  obtain ⟨h1, a, cap, h2, h3, h4, h5⟩ := h
  refine ⟨h1, a, cap, h2, h3, h4, fun hne => ?_⟩
  obtain ⟨blk, off, e, hR, hc⟩ := h5 hne
  by_cases hlt : blk < w.heap.size
  · obtain ⟨hh, hR'⟩ := hr blk hR hlt
    exact ⟨blk, off, e, hR', fun i r hi j x hj => by
      obtain ⟨u, hu, hx⟩ := hc i r hi j x hj
      exact ⟨u, by rw [cell_of_heap hh]; exact hu, hx.move hr⟩⟩
  · exfalso
    obtain ⟨sz, d⟩ := l
    cases d with
    | nil => exact hne rfl
    | cons r rows =>
      have hn : sz ≠ 0 := fun hn => by have e2 := h4 hn; rw [h2, e] at e2; simp at e2
      have hrl : r.length = sz := h1 r (by simp)
      cases r with
      | nil => simp at hrl; exact hn hrl.symm
      | cons x r =>
        obtain ⟨u, hu, _⟩ := hc 0 _ rfl 0 x rfl
        exact hlt (cell_lt hu)
theorem RadAt.move {y c} (h : RadAt w R y c) (hr : ∀ b, R b → b < w.heap.size → w'.heap[b]? = w.heap[b]? ∧ R' b) : RadAt w' R' y c := by
  obtain ⟨blk, off, h1, h2, h3⟩ := h
  cases c with
  | nil => exact ⟨blk, off, h1, fun h => absurd rfl h, fun j x hj => by simp at hj⟩
  | cons a c =>
    obtain ⟨u, hu, _⟩ := h3 0 a rfl
    obtain ⟨hh, hR'⟩ := hr blk (h2 (by simp)) (cell_lt hu)
    refine ⟨blk, off, h1, fun _ => hR', fun j x hj => ?_⟩
    obtain ⟨u, hu, hx⟩ := h3 j x hj
    exact ⟨u, by rw [cell_of_heap hh]; exact hu, hx.move hr⟩
end

/-- what a value leans on -/
structure Leans (γ : Gh) (w : World) (γ' : Gh) (w' : World) (a : AV) : Prop where
  rd : ∀ b, γ.inR a.reads b → b < w.heap.size → w'.heap[b]? = w.heap[b]? ∧ γ'.inR a.reads b
  z : ∀ b, γ.z b → b < w.heap.size → w'.heap[b]? = w.heap[b]? ∧ γ'.z b
  hd : ∀ o, o ∈ a.obs → γ'.hd o = γ.hd o ∧ γ'.sz o = γ.sz o
  nh : ∀ o i, a.nests o i = true → γ'.nh o i = γ.nh o i ∧ γ'.ns o i = γ.ns o i
  bb : ∀ b, b ∈ a.bxs → γ'.bb b = γ.bb b
theorem F2.radmove {γ γ' : Gh} {w w' : World} {caps vs} (h : F2 (fun c u => RadAt w γ.z u c) caps vs) (hz : ∀ b, γ.z b → b < w.heap.size → w'.heap[b]? = w.heap[b]? ∧ γ'.z b) : F2 (fun c u => RadAt w' γ'.z u c) caps vs :=
  h.mono fun c u hc => RadAt.move hc hz
theorem AVrep.move {γ γ' w w' a y} (h : AVrep γ w a y) (L : Leans γ w γ' w' a) : AVrep γ' w' a y := by
  cases a with
  | unk => trivial
  | v x => exact h
  | nil => exact h
  | rd s l => exact SlAt.move h L.rd
  | own o => exact ⟨h.1.trans (L.hd o (by simp [AV.obs])).1.symm, h.2⟩
  | nest o i => exact ⟨h.1.trans (L.nh o i (by simp [AV.nests])).1.symm, h.2⟩
  | box b f => simp only [AVrep] at *; rw [L.bb b (by simp [AV.bxs])]; exact h
  | adr o i f =>
    obtain ⟨blk, off, len, cap, h1, h2⟩ := h
    have := L.hd o (by simp [AV.obs])
    exact ⟨blk, off, len, cap, this.1.trans h1, by rw [this.2]; exact h2⟩
  | adn o i j f =>
    obtain ⟨blk, off, len, cap, h1, h2⟩ := h
    have := L.nh o i (by simp [AV.nests])
    exact ⟨blk, off, len, cap, this.1.trans h1, by rw [this.2]; exact h2⟩
  | rad s c => exact RadAt.move h L.rd
  | fn f caps =>
    simp only [AVrep] at *
    rw [h]
    congr 2
    exact List.map_congr_left fun b hb => by rw [L.bb b (by simpa [AV.bxs] using hb)]
  | fnr f caps =>
    obtain ⟨vs, e, h⟩ := h
    exact ⟨vs, e, h.radmove L.z⟩

/-- what an owned thing leans on -/
theorem ObAt.move {γ γ' : Gh} {w w' : World} {o l} (h : ObAt γ w o l) (hb : ∀ b, γ.inOb o b → b < w.heap.size → w'.heap[b]? = w.heap[b]? ∧ γ'.tg b = γ.tg b)
    (hh : γ'.hd o = γ.hd o ∧ γ'.sz o = γ.sz o) (hn : ∀ i, γ'.nh o i = γ.nh o i ∧ γ'.ns o i = γ.ns o i) : ObAt γ' w' o l := by
  obtain ⟨h1, h⟩ := h
  refine ⟨h1, ?_⟩
  rcases h with ⟨h2, h3⟩ | ⟨h2, h3, blk, off, cap, cs, e, h4, h5, h6, h7, h8, h9⟩
  · exact .inl ⟨h2.imp fun ad h => ⟨hh.1.trans h.1, h.2⟩, h3⟩
  · obtain ⟨e1, e2⟩ := hb blk (.inl h6) (heap_lt h7)
    refine .inr ⟨h2, hh.2.trans h3, blk, off, cap, cs, e, hh.1.trans h4, h5, e2.trans h6, e1.trans h7, h8, fun k r hk j x hj => ?_⟩
    obtain ⟨u, hu, hx⟩ := h9 k r hk j x hj
    refine ⟨u, hu, ?_⟩
    cases x with
    | v x => exact hx
    | x => exact hx
    | s n rows =>
      obtain ⟨g1, g2, g3, g⟩ := hx
      refine ⟨g1, g2.trans (hn k).1.symm, g3, ?_⟩
      rcases g with ⟨g4, g5⟩ | ⟨g4, g5, blk, off, cap, cs, e, g6, g7, g8, g9, g10⟩
      · exact .inl ⟨g4.imp fun ad h => ⟨(hn k).1.trans h.1, h.2⟩, g5⟩
      · obtain ⟨e1, e2⟩ := hb blk (.inr ⟨k, g8⟩) (heap_lt g9)
        exact .inr ⟨g4, (hn k).2.trans g5, blk, off, cap, cs, e, (hn k).1.trans g6, g7, e2.trans g8, e1.trans g9, g10⟩
theorem BxAt.move {γ γ' : Gh} {w w' : World} {b l} (h : BxAt γ w b l) (hb : w'.heap[γ.bb b]? = w.heap[γ.bb b]? ∧ γ'.tg (γ.bb b) = γ.tg (γ.bb b)) (hbb : γ'.bb b = γ.bb b) (hl : ∀ a, a ∈ l → Leans γ w γ' w' a) : BxAt γ' w' b l := by
  obtain ⟨cs, e, h1, h2, h3⟩ := h
  exact ⟨cs, e, by rw [hbb]; exact hb.1.trans h1, by rw [hbb]; exact hb.2.trans h2, h3.mono fun a y ha hy => hy.move (hl a ha)⟩

/-- A change of memory and of the names that leaves alone all that a state speaks of. -/
theorem Rel.move {γ γ' : Gh} {A : St} {tmps : Array Value} {w w' : World} (h : Rel γ A tmps w)
    (hl : ∀ a, a ∈ A.avs → Leans γ w γ' w' a)
    (hb : ∀ b l, look b A.bx = some l → w'.heap[γ.bb b]? = w.heap[γ.bb b]? ∧ γ'.tg (γ.bb b) = γ.tg (γ.bb b) ∧ γ'.bb b = γ.bb b)
    (ho : ∀ o l, look o A.ob = some l → (∀ b, γ.inOb o b → b < w.heap.size → w'.heap[b]? = w.heap[b]? ∧ γ'.tg b = γ.tg b) ∧ (γ'.hd o = γ.hd o ∧ γ'.sz o = γ.sz o) ∧ ∀ i, γ'.nh o i = γ.nh o i ∧ γ'.ns o i = γ.ns o i)
    (zt : ∀ b, γ'.z b → γ'.tg b = none) (lt : ∀ b, γ'.z b ∨ γ'.tg b ≠ none → b < w'.heap.size) : Rel γ' A tmps w' where
  tm t x hx := (h.tm t x hx).mono fun a y ha hy => hy.move (hl a (List.mem_append_left _ (List.mem_flatMap.2 ⟨_, mem_of_look hx, ha⟩)))
  bx b l hl' := (h.bx b l hl').move ⟨(hb b l hl').1, (hb b l hl').2.1⟩ (hb b l hl').2.2 fun a ha => hl a (List.mem_append_right _ (List.mem_flatMap.2 ⟨_, mem_of_look hl', ha⟩))
  ob o l hl' := (h.ob o l hl').move (ho o l hl').1 (ho o l hl').2.1 (ho o l hl').2.2
  zt := zt
  lt := lt

theorem forgets_avs {f : AV → AV} (hf : Forgets f) (A : St) {a : AV} (ha : a ∈ (A.map f).avs) : ∃ b, a = f b := by
  simp only [St.avs, St.map, List.mem_append, List.mem_flatMap] at ha
  rcases ha with ⟨p, hp, ha⟩ | ⟨p, hp, ha⟩
  · simp only [mapTm, List.mem_map] at hp
    obtain ⟨q, hq, rfl⟩ := hp
    cases hx : q.2 with
    | c b => simp [hx, TV.map, TV.avs] at ha; exact ⟨b, ha⟩
    | agg l => simp [hx, TV.map, TV.avs] at ha; obtain ⟨b, _, hb⟩ := ha; exact ⟨b, hb.symm⟩
    | tup l =>
      simp only [hx, TV.map, TV.avs, List.mem_flatMap, List.mem_map] at ha
      obtain ⟨p, ⟨q', _, rfl⟩, hp⟩ := ha
      simp only [List.mem_map] at hp
      obtain ⟨b, _, hb⟩ := hp
      exact ⟨b, hb.symm⟩
  · simp only [mapBx, List.mem_map] at hp
    obtain ⟨q, hq, rfl⟩ := hp
    simp only [List.mem_map] at ha
    obtain ⟨b, _, hb⟩ := ha
    exact ⟨b, hb.symm⟩
theorem killIf_not {p : AV → Bool} {b : AV} (hu : p .unk = false) : p (killIf p b) = false := by
  unfold killIf; split
  · exact hu
  · rename_i h; simpa using h
theorem kill_obs {A : St} {o : Nat} {a : AV} (ha : a ∈ (A.kill o).avs) : o ∉ a.obs := by
  obtain ⟨b, rfl⟩ := forgets_avs (forgets_killIf _) A (a := a) ha
  have := killIf_not (p := fun a : AV => a.obs.contains o) (b := b) (by simp [AV.obs])
  simpa using this
theorem stale_reads {A : St} {o : Nat} {a : AV} (ha : a ∈ (A.stale o).avs) : o ∉ a.reads := by
  obtain ⟨b, rfl⟩ := forgets_avs (forgets_killIf _) A (a := a) ha
  have := killIf_not (p := fun a : AV => a.reads.contains o) (b := b) (by simp [AV.reads])
  simpa using this
theorem reads_obs {a : AV} {o : Nat} (h : o ∈ a.reads) : o ∈ a.obs := by cases a <;> simp_all [AV.reads, AV.obs]
theorem nests_obs {a : AV} {o i : Nat} (h : a.nests o i = true) : o ∈ a.obs := by cases a <;> simp_all [AV.nests, AV.obs]
end Go.Tree
namespace Go.Tree
set_option linter.unusedVariables false
set_option linter.unusedSimpArgs false
set_option linter.constructorNameAsVariable false

structure Inv (γ0 : Gh) (w0 : World) (n : Nat) (A : St) (a : Act) (w : World) : Prop where
  ex : ∃ γ, Rel γ A a.tmps w ∧ Hist γ0 w0 γ w
  df : a.defers = []
  sz : a.tmps.size = n

def OpOk (P : Program) (γ0 : Gh) (w0 : World) (n : Nat) (o : Oper) (a : Act) (w : World) (A' : St) : Prop :=
  ∃ r w' v, (execOp a.eval o).run P w = .ok r w' ∧ (r = .value v ∨ r = .skip ∧ v = undef) ∧ Inv γ0 w0 n A' (a.put o.dst v) w'

theorem Hist.refl (γ : Gh) (w : World) : Hist γ w γ w := ⟨Nat.le_refl _, rfl, rfl, rfl, fun b _ h => ⟨rfl, h⟩, fun b _ h => .inl h⟩
theorem Hist.trans {γ0 w0 γ1 w1 γ2 w2} (h : Hist γ0 w0 γ1 w1) (k : Hist γ1 w1 γ2 w2) : Hist γ0 w0 γ2 w2 where
  size := Nat.le_trans h.size k.size
  os := k.os.trans h.os
  tape := k.tape.trans h.tape
  output := k.output.trans h.output
  block b hb ht := by
    obtain ⟨e1, t1⟩ := h.block b hb ht
    obtain ⟨e2, t2⟩ := k.block b (Nat.lt_of_lt_of_le hb h.size) t1
    exact ⟨e2.trans e1, t2⟩
  z b hb hz := by
    rcases k.z b (Nat.lt_of_lt_of_le hb h.size) hz with h1 | h1
    · exact h.z b hb h1
    · refine .inr fun ht => h1 (h.block b hb ht).2

def putT (tmps : Array Value) (d : Option Nat) (v : Value) : Array Value := match d with | some t => tmps.setIfInBounds t v | none => tmps
theorem Rel.dst {γ A tmps w} (h : Rel γ A tmps w) (d : Option Nat) (x : TV) (v : Value) (hd : ∀ t, d = some t → t < tmps.size) (hx : TVrep γ w x v) :
    Rel γ (A.dst d x) (putT tmps d v) w := by
  cases d with
  | none => exact h
  | some t =>
    refine ⟨fun s y hy => ?_, h.bx, h.ob, h.zt, h.lt⟩
    simp only [St.dst, look_put] at hy
    have ht := hd t rfl
    split at hy
    · rename_i e
      subst e
      cases hy
      simpa [putT, Array.getElem?_setIfInBounds, ht] using hx
    · rename_i e
      have := h.tm s y hy
      simpa [putT, Array.getElem?_setIfInBounds, Ne.symm e] using this
theorem Act.put_tmps (a : Act) (d : Option Nat) (v : Value) : (a.put d v).tmps = putT a.tmps d v := by cases d <;> rfl
theorem Act.put_df (a : Act) (d : Option Nat) (v : Value) : (a.put d v).defers = a.defers := by cases d <;> rfl

section
variable {P : Program} {γ0 : Gh} {w0 : World} {n : Nat} {A : St} {a : Act} {w : World} {o : Oper}

theorem Inv.finish (hI : Inv γ0 w0 n A a w) (hd : ∀ t, o.dst = some t → t < n) {A1 : St} {w' : World} {x : TV} {v : Value}
    (h : ∃ γ, Rel γ A1 a.tmps w' ∧ Hist γ0 w0 γ w' ∧ TVrep γ w' x v) : Inv γ0 w0 n (A1.dst o.dst x) (a.put o.dst v) w' := by
  obtain ⟨γ, hR, hH, hx⟩ := h
  refine ⟨⟨γ, ?_, hH⟩, by rw [Act.put_df]; exact hI.df, ?_⟩
  · rw [Act.put_tmps]; exact hR.dst _ _ _ (fun t ht => by rw [hI.sz]; exact hd t ht) hx
  · rw [Act.put_tmps]; cases o.dst <;> simp [putT, hI.sz]
theorem OpOk.val (hI : Inv γ0 w0 n A a w) (hd : ∀ t, o.dst = some t → t < n) {A1 : St} {w' : World} {x : TV} {v : Value} (hrun : (execOp a.eval o).run P w = .ok (.value v) w')
    (h : ∃ γ, Rel γ A1 a.tmps w' ∧ Hist γ0 w0 γ w' ∧ TVrep γ w' x v) : OpOk P γ0 w0 n o a w (A1.dst o.dst x) :=
  ⟨_, _, v, hrun, .inl rfl, hI.finish hd h⟩
/-- nothing is written: the value alone -/
theorem OpOk.pure (hI : Inv γ0 w0 n A a w) (hd : ∀ t, o.dst = some t → t < n) {x : TV} {v : Value} (hrun : (execOp a.eval o).run P w = .ok (.value v) w)
    (h : ∀ γ, Rel γ A a.tmps w → TVrep γ w x v) : OpOk P γ0 w0 n o a w (A.dst o.dst x) := by
  obtain ⟨γ, hR, hH⟩ := hI.ex
  exact OpOk.val hI hd hrun ⟨γ, hR, hH, h γ hR⟩

theorem avVal_rep {γ : Gh} {w : World} {x : AV} {u y : Value} (h : AVrep γ w x y) (hu : avVal x = some u) : y = u := by
  cases x <;> simp [avVal] at hu <;> subst hu <;> exact h
theorem avVals_rep {γ : Gh} {w : World} : ∀ {l : List AV} {us ys : List Value}, Cells γ w l ys → avVals l = some us → ys = us
  | [], us, ys, h, hu => by cases h; simp [avVals] at hu; first | exact hu | exact hu.symm
  | x :: l, us, ys, h, hu => by
    cases h with
    | cons r h =>
      simp only [avVals] at hu
      split at hu
      · rename_i u v h1 h2
        cases hu
        rw [avVal_rep r.1 h1, avVals_rep h h2]
      · cases hu
theorem tvVal_rep {γ : Gh} {w : World} {x : TV} {u y : Value} (h : TVrep γ w x y) (hu : tvVal x = some u) : y = u := by
  cases x with
  | c x => exact avVal_rep h hu
  | agg l =>
    obtain ⟨cs, e, h⟩ := h
    simp only [tvVal, Option.map_eq_some_iff] at hu
    obtain ⟨us, h1, h2⟩ := hu
    rw [e, avVals_rep h h1, h2]
  | tup l => simp [tvVal] at hu
theorem asPure_run {α : Type} (P : Program) (w : World) (s : Sem α) {x : α} (h : asPure P s = some x) : s.run P w = .ok x w := by
  induction s with
  | pure a => simp [asPure] at h; subst h; rfl
  | program k ih => simp only [asPure] at h; exact ih P h
  | _ => simp [asPure] at h

theorem valsOf_mem {A : St} : ∀ {l : List Operand}, valsOf A l = true → ∀ x ∈ l, ∃ u, tvVal (A.ev x) = some u
  | y :: l, h, x, hx => by
    simp only [valsOf, Bool.and_eq_true] at h
    rcases List.mem_cons.1 hx with rfl | hx
    · exact Option.isSome_iff_exists.1 h.1
    · exact valsOf_mem h.2 x hx

theorem plainOp_ok {A' : St} (hI : Inv γ0 w0 n A a w) (hd : ∀ t, o.dst = some t → t < n) (h : plainOp P A o = some A') : OpOk P γ0 w0 n o a w A' := by
  unfold plainOp at h
  split at h
  · rename_i hv
    simp only [Bool.and_eq_true] at hv
    split at h
    · rename_i v hp
      split at h
      · rename_i hf
        cases h
        obtain ⟨γ, hR, hH⟩ := hI.ex
        have hc : execOp (fun x => (tvVal (A.ev x)).getD undef) o = execOp a.eval o := by
          refine execOp_congr o (fun cs b e => by rw [e] at hv; simp [noSelect] at hv) fun x hx => ?_
          obtain ⟨u, hu⟩ := valsOf_mem hv.1 x (by simpa using hx)
          have := tvVal_rep (hR.eval (d := a.defers) x) hu
          simp only [hu, Option.getD_some]
          exact this.symm
        rw [hc] at hp
        exact OpOk.pure hI hd (asPure_run P w _ hp) fun γ hR => valTV_rep hf
      · cases h
    · cases h
  · cases h

theorem ev_int {γ : Gh} {x : Operand} {i : Nat} (hR : Rel γ A a.tmps w) (h : natOf (A.ev x) = some i) : ∃ k, a.eval x = .int k (i : Int) := by
  have := hR.eval (d := a.defers) x
  unfold natOf at h
  split at h
  · rename_i k m e
    split at h
    · rename_i h0
      cases h
      rw [e] at this
      exact ⟨k, by show a.eval x = _; rw [this, Int.toNat_of_nonneg h0]⟩
    · cases h
  · cases h

theorem move_ok (x : Operand) (hop : o.op = .move x ∨ o.op = .assign x) (hI : Inv γ0 w0 n A a w) (hd : ∀ t, o.dst = some t → t < n) : OpOk P γ0 w0 n o a w (A.dst o.dst (A.ev x)) :=
  OpOk.pure (v := a.eval x) hI hd (by rcases hop with h | h <;> simp [execOp, h]) fun γ hR => hR.eval (d := a.defers) x

theorem pick_ok {c x y : Operand} {u : Bool} (hop : o.op = .pick c x y) (hc : A.ev c = .c (.v (.bool u))) (hI : Inv γ0 w0 n A a w) (hd : ∀ t, o.dst = some t → t < n) :
    OpOk P γ0 w0 n o a w (A.dst o.dst (if u then A.ev x else A.ev y)) := by
  obtain ⟨γ, hR, hH⟩ := hI.ex
  have := hR.eval (d := a.defers) c
  rw [hc] at this
  have he : a.eval c = .bool u := this
  refine OpOk.pure (v := if u then a.eval x else a.eval y) hI hd (by simp [execOp, hop, he, asBool]) fun γ hR => ?_
  cases u
  · exact hR.eval (d := a.defers) y
  · exact hR.eval (d := a.defers) x

theorem addr_add (blk off n : Nat) : (⟨blk, off, none⟩ : Addr).add n = ⟨blk, off + n, none⟩ := by unfold Addr.add; split <;> simp_all

theorem SlAt.nilv {R : Nat → Prop} {sz : Nat} : SlAt w R (.slice none 0 0) ⟨sz, []⟩ := ⟨by simp, none, 0, rfl, Nat.le_refl _, fun _ => rfl, fun h => absurd rfl h⟩
theorem lift_len (rows : List Row) : (lift rows).length = rows.length := by simp [lift]
theorem RowsAt.sl {R : Nat → Prop} {y : Value} {n : Nat} {rows : List Row} (h : RowsAt w R y n rows) : SlAt w R y ⟨n, lift rows⟩ := by
  obtain ⟨h1, b, cap, h2, h3, h4, h5⟩ := h
  refine ⟨?_, b, cap, by rw [lift_len]; exact h2, by rw [lift_len]; exact h3, h4, fun hne => ?_⟩
  · intro r hr
    simp only [lift, List.mem_map] at hr
    obtain ⟨r', hr', rfl⟩ := hr
    simpa using h1 r' hr'
  · obtain ⟨blk, off, e, hR, hc⟩ := h5 (fun e => hne (by simp [lift, e]))
    refine ⟨blk, off, e, hR, fun i r hi j x hj => ?_⟩
    simp only [lift, List.getElem?_map, Option.map_eq_some_iff] at hi
    obtain ⟨r', hi, rfl⟩ := hi
    simp only [List.getElem?_map, Option.map_eq_some_iff] at hj
    obtain ⟨x', hj, rfl⟩ := hj
    obtain ⟨c1, c2⟩ := hc i r' hi j x' hj
    exact ⟨x', c1, rfl, c2⟩
theorem NeAt.rows {γ : Gh} {p i m : Nat} {rows : List Row} (h : NeAt γ w p i m rows) : RowsAt w (γ.inOb p) (γ.nh p i) m rows := by
  obtain ⟨h1, h⟩ := h
  refine ⟨h1, ?_⟩
  rcases h with ⟨h2, rfl⟩ | ⟨h2, h3, blk, off, cap, cs, e, h4, h5, h6, h7, h8, h9⟩
  · obtain ⟨ad, h2, h2'⟩ := h2
    exact ⟨ad, 0, by simpa using h2, by simp, fun h => by rw [h2, h2' h], fun h => absurd rfl h⟩
  · exact ⟨_, cap, h4, h5, fun h => by omega, fun _ => ⟨blk, off, rfl, .inr ⟨i, h6⟩, fun k r hk j x hj => ⟨by rw [cell_cells h7]; exact (h9 k r hk j x hj).1, (h9 k r hk j x hj).2⟩⟩⟩
theorem RowsAt.mono {R R' : Nat → Prop} {y : Value} {m : Nat} {rows : List Row} (h : RowsAt w R y m rows) (hr : ∀ b, R b → R' b) : RowsAt w R' y m rows := h.move fun b hb _ => ⟨rfl, hr b hb⟩
theorem SlAt.mono {R R' : Nat → Prop} {y : Value} {l : Sl} (h : SlAt w R y l) (hr : ∀ b, R b → R' b) : SlAt w R' y l := h.move fun b hb _ => ⟨rfl, hr b hb⟩
theorem CAt.mono {R R' : Nat → Prop} {y : Value} {l : C} (h : CAt w R l y) (hr : ∀ b, R b → R' b) : CAt w R' l y := h.move fun b hb _ => ⟨rfl, hr b hb⟩
theorem COwn.cat {γ : Gh} {p sz i : Nat} {c : C} {y : Value} (h : COwn γ w p sz i c y) : CAt w (γ.inOb p) c y := by
  cases c with
  | v x => exact h
  | x => exact h
  | s m rows => obtain ⟨h1, h2, h3⟩ := h; show RowsAt _ _ _ _ _; rw [h2]; exact h3.rows
theorem ObAt.sl {γ : Gh} {p : Nat} {l : Sl} (h : ObAt γ w p l) : SlAt w (γ.inOb p) (γ.hd p) l := by
  obtain ⟨h1, h⟩ := h
  refine ⟨h1, ?_⟩
  rcases h with ⟨h2, h3⟩ | ⟨h2, h3, blk, off, cap, cs, e, h4, h5, h6, h7, h8, h9⟩
  · obtain ⟨ad, h2, h2'⟩ := h2
    exact ⟨ad, 0, by rw [h3]; exact h2, by simp [h3], fun h => by rw [h2, h2' h], fun h => absurd h3 h⟩
  · refine ⟨_, cap, h4, h5, fun h => by omega, fun _ => ⟨blk, off, rfl, .inl h6, fun k r hk j x hj => ?_⟩⟩
    obtain ⟨u, hu, hx⟩ := h9 k r hk j x hj
    exact ⟨u, by rw [cell_cells h7]; exact hu, hx.cat⟩
theorem inR_one {γ : Gh} {p b : Nat} (h : γ.inOb p b) : γ.inR [p] b := .inr ⟨p, by simp, h⟩
/-- what is told of a slice is what memory holds -/
theorem data_rep {γ : Gh} {x : AV} {y : Value} {l : Sl} (hR : Rel γ A a.tmps w) (hx : AVrep γ w x y) (h : A.data x = some l) : SlAt w (γ.inR (srcs x)) y l := by
  cases x with
  | nil => simp [St.data] at h; subst h; rw [show y = _ from hx]; exact SlAt.nilv
  | rd s l' => simp [St.data] at h; subst h; exact hx
  | own p => rw [show y = _ from hx.1]; exact ((hR.ob p l h).sl).mono fun b hb => inR_one hb
  | nest p i =>
    simp only [St.data] at h
    split at h
    · rename_i b hb
      split at h
      · rename_i m rows hi
        cases h
        obtain ⟨_, ho⟩ := hR.ob p b hb
        rcases ho with ⟨_, h3⟩ | ⟨h2, h3, blk, off, cap, cs, e, h4, h5, h6, h7, h8, h9⟩
        · rw [h3] at hi; simp at hi
        · obtain ⟨u, hu, g1, g2, g3⟩ := h9 i _ hi 0 _ rfl
          rw [show y = _ from hx.1]
          exact g3.rows.sl.mono fun b hb => inR_one hb
      · cases h
    · cases h
  | _ => simp [St.data] at h

theorem isSliceT_elim {t : TypeId} (h : isSliceT P t = true) : P.underlying t = some (.slice (elemT P t)) := by
  unfold isSliceT at h
  unfold elemT
  split at h
  · rename_i e he; rw [he]
  · cases h
theorem info_of_cells {t : TypeId} (h : P.cellsOf t ≠ 0) : ∃ i, P.info? t = some i ∧ i.size = P.cellsOf t := by
  unfold Program.cellsOf at *
  cases hi : P.info? t with
  | none => simp [hi] at h
  | some i => exact ⟨i, rfl, by simp⟩
theorem run_sizeOf_cells {t : TypeId} (h : P.cellsOf t ≠ 0) (w : World) : (sizeOf t).run P w = .ok (P.cellsOf t) w := by
  obtain ⟨i, h1, h2⟩ := info_of_cells h
  simp [sizeOf, typeInfo, h1, h2]

theorem len_ok {x : Operand} {v : AV} {l : Sl} {t ty : TypeId} {args : Array Operand} {ts : Array TypeId} (hop : o.op = .call { callee := .builtin .len, args := args, argTypes := ts }) (ha : args.toList = [x]) (hts : ts.toList = [t])
    (hv : A.ev x = .c v) (hl : A.data v = some l) (ht : isSliceT P t = true) (hI : Inv γ0 w0 n A a w) (hd : ∀ t, o.dst = some t → t < n) :
    OpOk P γ0 w0 n o a w (A.dst o.dst (.c (.v (.int .i64 l.d.length)))) := by
  obtain ⟨γ, hR, hH⟩ := hI.ex
  have h1 := hR.eval (d := a.defers) x
  rw [hv] at h1
  obtain ⟨_, b, cap, h2, _⟩ := data_rep hR h1 hl
  have hx : a.eval x = .slice b l.d.length cap := h2
  obtain rfl : args = #[x] := by cases args; simp_all
  obtain rfl : ts = #[t] := by cases ts; simp_all
  refine OpOk.pure (v := .int .i64 l.d.length) hI hd ?_ fun γ hR => rfl
  simp [execOp, hop, resolve, invoke, builtin, hx, Builtin.len_, run_underlying (isSliceT_elim ht), goInt]
end
end Go.Tree
namespace Go.Tree
set_option linter.unusedVariables false
set_option linter.unusedSimpArgs false
set_option linter.constructorNameAsVariable false
section
variable {P : Program} {γ0 : Gh} {w0 : World} {n : Nat} {A : St} {a : Act} {w : World} {o : Oper}

theorem ev_c {γ : Gh} {x : Operand} {v : AV} (hR : Rel γ A a.tmps w) (h : A.ev x = .c v) : AVrep γ w v (a.eval x) := by
  have := hR.eval (d := a.defers) x
  rw [h] at this
  exact this

/- addresses of elements -/
theorem run_indexSlice {t : TypeId} {blk off len cap i : Nat} {k : IntKind} (ht : isSliceT P t = true) (hs : elemSz P t ≠ 0) (hi : i < len) :
    (Instr.indexAt t (.slice (some ⟨blk, off, none⟩) len cap) (.int k (i : Int))).run P w = .ok (.pointer (some ⟨blk, off + i * elemSz P t, none⟩)) w := by
  have hu := isSliceT_elim ht
  have h1 : (0 : Int) ≤ i ∧ (i : Int) < len := by omega
  simp [Instr.indexAt, asIntOf, run_underlying hu, h1.2, run_sizeOf_cells hs, addr_add, elemSz]
  intro h; omega

theorem index_run {t : TypeId} {x ix : Operand} {v y : Value} {k : IntKind} {i : Nat} (hop : o.op = .indexAddr t x ix) (hx : a.eval x = y) (hi : a.eval ix = .int k (i : Int))
    (h : (Instr.indexAt t y (.int k (i : Int))).run P w = .ok v w) : (execOp a.eval o).run P w = .ok (.value v) w := by
  simp [execOp, hop, hx, hi, h]

theorem indexOwn_ok {t : TypeId} {x ix : Operand} {p i : Nat} {b : Sl} (hop : o.op = .indexAddr t x ix) (hx : A.ev x = .c (.own p)) (hi : natOf (A.ev ix) = some i) (hb : look p A.ob = some b)
    (hlt : i < b.d.length) (hsz : b.sz = elemSz P t) (ht : isSliceT P t = true) (hI : Inv γ0 w0 n A a w) (hd : ∀ t, o.dst = some t → t < n) :
    OpOk P γ0 w0 n o a w (A.dst o.dst (.c (.adr p i 0))) := by
  obtain ⟨γ, hR, hH⟩ := hI.ex
  have h1 := ev_c hR hx
  obtain ⟨k, hk⟩ := ev_int hR hi
  obtain ⟨_, ho⟩ := hR.ob p b hb
  rcases ho with ⟨_, h3⟩ | ⟨h2, h3, blk, off, cap, cs, e, h4, h5, h6, h7, h8, h9⟩
  · rw [h3] at hlt; simp at hlt
  · refine OpOk.val hI hd (index_run hop (h1.1.trans h4) hk (run_indexSlice ht (by omega) hlt)) ⟨γ, hR, hH, blk, off, _, cap, h4, ?_⟩
    rw [h3, hsz]; simp

theorem indexNest_ok {t : TypeId} {x ix : Operand} {p q i : Nat} {b : Sl} (hop : o.op = .indexAddr t x ix) (hx : A.ev x = .c (.nest p q)) (hi : natOf (A.ev ix) = some i) (hb : A.data (.nest p q) = some b)
    (hlt : i < b.d.length) (hsz : b.sz = elemSz P t) (ht : isSliceT P t = true) (hI : Inv γ0 w0 n A a w) (hd : ∀ t, o.dst = some t → t < n) :
    OpOk P γ0 w0 n o a w (A.dst o.dst (.c (.adn p q i 0))) := by
  obtain ⟨γ, hR, hH⟩ := hI.ex
  have h1 := ev_c hR hx
  obtain ⟨k, hk⟩ := ev_int hR hi
  simp only [St.data] at hb
  split at hb
  · rename_i b' hb'
    split at hb
    · rename_i m rows hq
      cases hb
      obtain ⟨_, ho⟩ := hR.ob p b' hb'
      rcases ho with ⟨_, h3⟩ | ⟨h2, h3, blk, off, cap, cs, e, h4, h5, h6, h7, h8, h9⟩
      · rw [h3] at hq; simp at hq
      · obtain ⟨u, hu, g1, g2, g3⟩ := h9 q _ hq 0 _ rfl
        rcases g3.2 with ⟨_, g4⟩ | ⟨g4, g5, blk, off, cap, cs, e, g6, g7, g8, g9, g10⟩
        · rw [g4] at hlt; simp [lift] at hlt
        · rw [lift_len] at hlt
          refine OpOk.val hI hd (index_run hop (h1.1.trans g6) hk (run_indexSlice ht (by simp at hsz; omega) hlt)) ⟨γ, hR, hH, blk, off, _, cap, g6, ?_⟩
          simp at hsz
          rw [g5, hsz]; simp
    · cases hb
  · cases hb

theorem indexRd_ok {t : TypeId} {x ix : Operand} {s : List Nat} {l : Sl} {i : Nat} {c : List C} (hop : o.op = .indexAddr t x ix) (hx : A.ev x = .c (.rd s l)) (hi : natOf (A.ev ix) = some i) (hc : l.d[i]? = some c)
    (hsz : l.sz = elemSz P t) (ht : isSliceT P t = true) (hI : Inv γ0 w0 n A a w) (hd : ∀ t, o.dst = some t → t < n) :
    OpOk P γ0 w0 n o a w (A.dst o.dst (.c (.rad s c))) := by
  obtain ⟨γ, hR, hH⟩ := hI.ex
  have h1 := ev_c hR hx
  obtain ⟨k, hk⟩ := ev_int hR hi
  obtain ⟨h2, b, cap, h3, h4, h5, h6⟩ := h1
  have hlt : i < l.d.length := (List.getElem?_eq_some_iff.1 hc).1
  obtain ⟨blk, off, rfl, hB, hcell⟩ := h6 (fun e => by rw [e] at hlt; simp at hlt)
  have hne : l.sz ≠ 0 := fun e => by have e2 := h5 e; rw [h3] at e2; simp at e2
  refine OpOk.val hI hd (index_run hop h3 hk (run_indexSlice ht (by omega) hlt)) ⟨γ, hR, hH, blk, off + i * elemSz P t, rfl, fun _ => hB, fun j x hj => ?_⟩
  rw [← hsz]
  exact hcell i c hc j x hj

theorem indexBox_ok {t el : TypeId} {x ix : Operand} {b off i m : Nat} (hop : o.op = .indexAddr t x ix) (hx : A.ev x = .c (.box b off)) (hi : natOf (A.ev ix) = some i) (hu : P.underlying t = some (.array m el))
    (hlt : i < m) (h2 : 2 ≤ m) (hc : P.cellsOf el = 1) (hI : Inv γ0 w0 n A a w) (hd : ∀ t, o.dst = some t → t < n) :
    OpOk P γ0 w0 n o a w (A.dst o.dst (.c (.box b (off + i)))) := by
  obtain ⟨γ, hR, hH⟩ := hI.ex
  have h1 : a.eval x = .pointer (some ⟨γ.bb b, off, none⟩) := ev_c hR hx
  obtain ⟨k, hk⟩ := ev_int hR hi
  refine OpOk.val hI hd (index_run (v := .pointer (some ⟨γ.bb b, off + i, none⟩)) hop h1 hk ?_) ⟨γ, hR, hH, rfl⟩
  have h3 : (0 : Int) ≤ i ∧ (i : Int) < m := by omega
  have hs := run_sizeOf_cells (P := P) (t := el) (by omega) w
  rw [hc] at hs
  simp [Instr.indexAt, asIntOf, run_underlying hu, Instr.sureAddr, h3.2, hs, addr_add]
  intro h; omega

/- addresses of fields -/
theorem run_field {t : TypeId} {f k blk off : Nat} (hf : fieldOf P t f = some k) :
    (Instr.fieldAt t (.pointer (some ⟨blk, off, none⟩)) f).run P w = .ok (.pointer (some ⟨blk, off + k, none⟩)) w := by
  unfold fieldOf at hf
  split at hf
  · rename_i fs hu
    split at hf
    · rename_i fd hfd
      split at hf
      · cases hf
      · rename_i h0
        cases hf
        simp [Instr.fieldAt, run_underlying hu, hfd, Instr.sureAddr, fieldPlace, run_sizeOf_cells h0, h0, addr_add]
    · cases hf
  · cases hf
theorem field_ok {t : TypeId} {x : Operand} {f k : Nat} {v v' : AV} (hop : o.op = .fieldAddr t x f) (hf : fieldOf P t f = some k) (hx : A.ev x = .c v)
    (hv : ∀ γ y, AVrep γ w v y → ∃ blk off, y = .pointer (some ⟨blk, off, none⟩) ∧ AVrep γ w v' (.pointer (some ⟨blk, off + k, none⟩)))
    (hI : Inv γ0 w0 n A a w) (hd : ∀ t, o.dst = some t → t < n) : OpOk P γ0 w0 n o a w (A.dst o.dst (.c v')) := by
  obtain ⟨γ, hR, hH⟩ := hI.ex
  obtain ⟨blk, off, h1, h2⟩ := hv γ _ (ev_c hR hx)
  exact OpOk.val hI hd (by simp [execOp, hop, h1, run_field hf]) ⟨γ, hR, hH, h2⟩
theorem AVrep.addk {γ : Gh} {k : Nat} {y : Value} : ∀ {v v' : AV}, (match v with | .box b off => some (AV.box b (off + k)) | .adr p i off => some (.adr p i (off + k)) | .adn p i j off => some (.adn p i j (off + k)) | .rad s c => some (.rad s (c.drop k)) | _ => none) = some v' →
    AVrep γ w v y → ∃ blk off, y = .pointer (some ⟨blk, off, none⟩) ∧ AVrep γ w v' (.pointer (some ⟨blk, off + k, none⟩)) := by
  intro v v' h hy
  cases v <;> simp at h <;> subst h
  · exact ⟨_, _, hy, rfl⟩
  · obtain ⟨blk, off, len, cap, h1, h2⟩ := hy; exact ⟨_, _, h2, blk, off, len, cap, h1, by simp [Nat.add_assoc]⟩
  · obtain ⟨blk, off, len, cap, h1, h2⟩ := hy; exact ⟨_, _, h2, blk, off, len, cap, h1, by simp [Nat.add_assoc]⟩
  · obtain ⟨blk, off, h1, h2, h3⟩ := hy
    refine ⟨blk, off, h1, blk, off + k, rfl, fun h => h2 (fun e => h (by simp [e])), fun j x hj => ?_⟩
    rw [List.getElem?_drop] at hj
    rw [Nat.add_assoc]
    exact h3 (k + j) x hj

theorem nilCheck_ok {x : Operand} {v : AV} (hop : o.op = .nilCheck x) (hx : A.ev x = .c v) (hv : (∃ b f, v = .box b f) ∨ ∃ s c, v = .rad s c) (hI : Inv γ0 w0 n A a w) (hd : ∀ t, o.dst = some t → t < n) :
    OpOk P γ0 w0 n o a w (A.dst o.dst (.c v)) := by
  obtain ⟨γ, hR, hH⟩ := hI.ex
  have h1 := ev_c hR hx
  have : ∃ q, a.eval x = .pointer (some q) := by
    rcases hv with ⟨b, f, rfl⟩ | ⟨s, c, rfl⟩
    · exact ⟨_, h1⟩
    · obtain ⟨blk, off, h, _⟩ := h1; exact ⟨_, h⟩
  obtain ⟨q, hq⟩ := this
  refine OpOk.val hI hd (v := a.eval x) (by simp [execOp, hop, hq]) ⟨γ, hR, hH, h1⟩

theorem extract_ok {x : Operand} {i : Nat} {l : List (Bool × List AV)} {tv : TV} (hop : o.op = .extract x i) (hx : A.ev x = .tup l)
    (hi : (match l[i]? with | some (true, l) => some (TV.agg l) | some (false, [c]) => some (.c c) | _ => none) = some tv) (hI : Inv γ0 w0 n A a w) (hd : ∀ t, o.dst = some t → t < n) :
    OpOk P γ0 w0 n o a w (A.dst o.dst tv) := by
  obtain ⟨γ, hR, hH⟩ := hI.ex
  have h1 := hR.eval (d := a.defers) x
  rw [hx] at h1
  obtain ⟨vs, e, hF⟩ := h1
  have e : a.eval x = .tuple vs.toArray := e
  cases hl : l[i]? with
  | none => simp [hl] at hi
  | some p =>
    obtain ⟨u, hu, hr⟩ := hF.get hl
    refine OpOk.val hI hd (v := u) (by simp [execOp, hop, e, Instr.extract, hu]) ⟨γ, hR, hH, ?_⟩
    rw [hl] at hi
    obtain ⟨pb, pl⟩ := p
    rcases hr with ⟨r1, cs, r2, r3⟩ | ⟨r1, c, r2, r3⟩
    · simp at r1; subst r1
      simp at hi; subst hi
      exact ⟨cs, r2, r3⟩
    · simp at r1 r2; subst r1; subst r2
      simp at hi; subst hi
      exact r3

theorem makeFunc_ok {f : FuncId} {caps : Array Operand} {l : List Nat} (hop : o.op = .makeFunc (.func f) #[] caps) (hl : caps.toList.mapM (fun x => (match A.ev x with | .c (.box b 0) => some b | _ => none)) = some l)
    (hI : Inv γ0 w0 n A a w) (hd : ∀ t, o.dst = some t → t < n) : OpOk P γ0 w0 n o a w (A.dst o.dst (.c (.fn f l))) := by
  obtain ⟨γ, hR, hH⟩ := hI.ex
  have : ∀ (cl : List Operand) l, cl.mapM (fun x => (match A.ev x with | .c (.box b 0) => some b | _ => none)) = some l → cl.map a.eval = l.map fun b => Value.pointer (some ⟨γ.bb b, 0, none⟩) := by
    intro cl
    induction cl with
    | nil => intro l h; simp at h; subst h; rfl
    | cons x cl ih =>
      intro l h
      simp only [List.mapM_cons, Option.bind_eq_bind, Option.pure_def, Option.bind_eq_some_iff] at h
      obtain ⟨b, h1, r, h2, h3⟩ := h
      cases h3
      split at h1
      · rename_i b' hx
        cases h1
        simp only [List.map_cons, ih r h2]
        congr 1
        exact ev_c hR hx
      · cases h1
  have hm := this caps.toList l hl
  refine OpOk.val hI hd (v := .func (.func f) #[] (caps.map a.eval)) (by simp [execOp, hop, Instr.makeFunc]) ⟨γ, hR, hH, ?_⟩
  show Value.func _ _ _ = _
  congr 1
  apply Array.ext'
  simpa using hm

/- loads -/
theorem run_loadVar {t : TypeId} {blk off : Nat} {cs : List Value} {tv : TV} {γ : Gh} {l : List AV} (hc : ∀ j x, cs[j]? = some x → w.cell? ⟨blk, off + j, none⟩ = some x) (hlen : cs.length = P.cellsOf t) (hne : P.cellsOf t ≠ 0)
    (hl : Cells γ w l cs) (ht : cellsTV P t l = some tv) : ∃ v, (loadVar t ⟨blk, off, none⟩).run P w = .ok v w ∧ TVrep γ w tv v := by
  unfold cellsTV at ht
  have hlc := run_loadCells_list (P := P) w ⟨blk, off, none⟩ cs (fun j v hj => by rw [addr_add]; exact hc j v hj)
  cases hu : P.underlying t with
  | none => simp [hu] at ht
  | some d =>
    simp only [hu] at ht
    split at ht
    · rename_i ha
      cases ht
      refine ⟨.agg cs.toArray, ?_, cs, rfl, hl⟩
      have : (isAgg t).run P w = .ok true w := by
        unfold isAggT at ha
        rw [hu] at ha
        simp only [isAgg, Sem.run_bind, run_underlying hu, Result.andThen_ok]; cases d <;> simp_all
      rw [hlen] at hlc
      simp [loadVar, this, run_sizeOf_cells hne, hlc]
    · rename_i ha
      split at ht
      · rename_i x
        cases ht
        have hl1 := hl.length
        cases cs with
        | nil => simp at hl1
        | cons u cs =>
          obtain rfl : cs = [] := by simpa using hl1.symm
          have hcu := hc 0 u rfl
          refine ⟨u, ?_, ?_⟩
          · have : (isAgg t).run P w = .ok false w := by
              unfold isAggT at ha
              rw [hu] at ha
              simp only [isAgg, Sem.run_bind, run_underlying hu, Result.andThen_ok]
              cases d <;> simp_all
            simp at hcu
            simp [loadVar, this, hcu]
          · cases hl with
            | cons r _ => exact r.1
      · cases ht
/-- the cells at an address: they are there, and what is told of them holds -/
theorem at_rep {γ : Gh} {x : AV} {y : Value} {m : Nat} {l : List AV} (hR : Rel γ A a.tmps w) (hx : AVrep γ w x y) (h : A.at m x = some l) :
    ∃ blk off cs, y = .pointer (some ⟨blk, off, none⟩) ∧ cs.length = m ∧ (∀ j u, cs[j]? = some u → w.cell? ⟨blk, off + j, none⟩ = some u) ∧ Cells γ w l cs := by
  have sub : ∀ {α : Type} {l : List α} {off m : Nat} {l' : List α}, sub? l off m = some l' → l' = (l.drop off).take m ∧ off + m ≤ l.length := by
    intro α l off m l' h
    unfold sub? at h
    split at h
    · cases h; exact ⟨rfl, by assumption⟩
    · cases h
  cases x with
  | box b off =>
    simp only [St.at] at h
    split at h
    · rename_i bl hb
      obtain ⟨rfl, hle⟩ := sub h
      obtain ⟨cs, e, h1, h2, h3⟩ := hR.bx b bl hb
      refine ⟨γ.bb b, off, (cs.drop off).take m, hx, ?_, fun j u hj => ?_, (h3.drop off).take m⟩
      · have := h3.length; simp; omega
      · rw [cell_cells h1]
        rw [List.getElem?_take] at hj
        split at hj
        · rw [List.getElem?_drop] at hj; simpa using hj
        · cases hj
    · cases h
  | adr p i off =>
    simp only [St.at] at h
    split at h
    · rename_i b hb
      split at h
      · rename_i c hc
        simp only [Option.map_eq_some_iff] at h
        obtain ⟨l', hs, rfl⟩ := h
        obtain ⟨rfl, hle⟩ := sub hs
        obtain ⟨hrow, ho⟩ := hR.ob p b hb
        rcases ho with ⟨_, g3⟩ | ⟨g2, g3, blk, of, cap, cs, e, g4, g5, g6, g7, g8, g9⟩
        · rw [g3] at hc; simp at hc
        · obtain ⟨blk', of', len', cap', q1, q2⟩ := hx
          rw [g4] at q1; cases q1
          have hcl : c.length = b.sz := hrow c (List.mem_of_getElem? hc)
          have : ∀ j x, c[j]? = some x → ∃ u, cs[of + i * b.sz + j]? = some u ∧ COwn γ w p b.sz i x u := fun j x hj => g9 i c hc j x hj
          have key : ∀ (c' : List C) (k : Nat), (∀ j x, c'[j]? = some x → ∃ u, cs[of + i * b.sz + k + j]? = some u ∧ COwn γ w p b.sz i x u) →
              ∃ us : List Value, us.length = c'.length ∧ (∀ j u, us[j]? = some u → w.cell? ⟨blk, of + i * b.sz + k + j, none⟩ = some u) ∧ Cells γ w (c'.map (cAV p i)) us := by
            intro c'
            induction c' with
            | nil => intro k _; exact ⟨[], rfl, by simp, .nil⟩
            | cons x c' ih =>
              intro k hk
              obtain ⟨u, hu, hx⟩ := hk 0 x rfl
              obtain ⟨us, r1, r2, r3⟩ := ih (k + 1) fun j x hj => by
                have := hk (j + 1) x (by simpa using hj)
                rwa [show of + i * b.sz + k + (j + 1) = of + i * b.sz + (k + 1) + j by omega] at this
              refine ⟨u :: us, by simp [r1], fun j v hj => ?_, .cons ?_ r3⟩
              · cases j with
                | zero => simp at hj; subst hj; rw [cell_cells g7]; simpa using hu
                | succ j => simp at hj; rw [show of + i * b.sz + k + (j + 1) = of + i * b.sz + (k + 1) + j by omega]; exact r2 j v hj
              · cases x with
                | v z => exact ⟨by rw [show u = z from hx.1]; exact cellAV_rep z, by rw [hx.1]; exact hx.2⟩
                | x => exact ⟨trivial, hx⟩
                | s m' rows =>
                  obtain ⟨e1, e2, e3⟩ := hx
                  have : u.oneCell' = true := by rw [e2]; rcases e3.2 with ⟨⟨_, e4, _⟩, _⟩ | ⟨_, _, _, _, _, _, _, e4, _⟩ <;> rw [e4] <;> rfl
                  exact ⟨⟨e2, this⟩, this⟩
          obtain ⟨us, r1, r2, r3⟩ := key ((c.drop off).take m) off fun j x hj => by
            rw [List.getElem?_take] at hj
            split at hj
            · rw [List.getElem?_drop] at hj
              have := g9 i c hc (off + j) x hj
              rwa [← Nat.add_assoc] at this
            · cases hj
          refine ⟨blk, of + i * b.sz + off, us, by rw [q2, g3], ?_, r2, r3⟩
          rw [r1]; simp; omega
      · cases h
    · cases h
  | adn p i k off =>
    simp only [St.at] at h
    split at h
    · rename_i b hb
      split at h
      · rename_i m' rows hc
        split at h
        · rename_i r hr
          simp only [Option.map_eq_some_iff] at h
          obtain ⟨l', hs, rfl⟩ := h
          obtain ⟨rfl, hle⟩ := sub hs
          obtain ⟨hrow, ho⟩ := hR.ob p b hb
          rcases ho with ⟨_, g3⟩ | ⟨g2, g3, blk, of, cap, cs, e, g4, g5, g6, g7, g8, g9⟩
          · rw [g3] at hc; simp at hc
          · obtain ⟨u, hu, e1, e2, e3, e4⟩ := g9 i _ hc 0 _ rfl
            obtain ⟨blk', of', len', cap', q1, q2⟩ := hx
            rcases e4 with ⟨e4, e5⟩ | ⟨e4, e5, blk, of, cap, cs, e, e6, e7, e8, e9, e10, e11⟩
            · rw [e5] at hr; simp at hr
            · rw [e6] at q1; cases q1
              refine ⟨blk', of' + k * m' + off, (r.drop off).take m, by rw [q2, e5], ?_, fun j u hj => ?_, ?_⟩
              · simp; omega
              · rw [List.getElem?_take] at hj
                split at hj
                · rw [List.getElem?_drop] at hj
                  rw [cell_cells e9, Nat.add_assoc]
                  exact (e11 k r hr (off + j) u hj).1
                · cases hj
              · refine cells_vals _ ?_
                rw [List.all_eq_true]
                intro x hx
                have hx' : x ∈ r := List.mem_of_mem_drop (List.mem_of_mem_take hx)
                obtain ⟨j, hj⟩ := List.getElem?_of_mem hx'
                exact one_single (e11 k r hr j x hj).2
        · cases h
      · cases h
    · cases h
  | rad s c =>
    simp only [St.at, Option.map_eq_some_iff] at h
    obtain ⟨l', hs, rfl⟩ := h
    obtain ⟨rfl, hle⟩ := sub hs
    obtain ⟨blk, off, q1, q2, q3⟩ := hx
    have key : ∀ (c' : List C) (k : Nat), (∀ j x, c'[j]? = some x → ∃ u, w.cell? ⟨blk, off + k + j, none⟩ = some u ∧ CAt w (γ.inR s) x u) →
        ∃ us : List Value, us.length = c'.length ∧ (∀ j u, us[j]? = some u → w.cell? ⟨blk, off + k + j, none⟩ = some u) ∧ Cells γ w (c'.map (cRd s)) us := by
      intro c'
      induction c' with
      | nil => intro k _; exact ⟨[], rfl, by simp, .nil⟩
      | cons x c' ih =>
        intro k hk
        obtain ⟨u, hu, hx⟩ := hk 0 x rfl
        obtain ⟨us, r1, r2, r3⟩ := ih (k + 1) fun j x hj => by
          have := hk (j + 1) x (by simpa using hj)
          rwa [show off + k + (j + 1) = off + (k + 1) + j by omega] at this
        refine ⟨u :: us, by simp [r1], fun j v hj => ?_, .cons ?_ r3⟩
        · cases j with
          | zero => simp at hj; subst hj; simpa using hu
          | succ j => simp at hj; rw [show off + k + (j + 1) = off + (k + 1) + j by omega]; exact r2 j v hj
        · cases x with
          | v z => exact ⟨by rw [show u = z from hx.1]; exact cellAV_rep z, by rw [hx.1]; exact hx.2⟩
          | x => exact ⟨trivial, hx⟩
          | s m' rows =>
            refine ⟨RowsAt.sl hx, ?_⟩
            obtain ⟨_, b, cap, e4, _⟩ := hx
            rw [e4]; rfl
    obtain ⟨us, r1, r2, r3⟩ := key ((c.drop 0).take m) 0 fun j x hj => by
      rw [List.getElem?_take] at hj
      split at hj
      · simp at hj; exact q3 j x hj
      · cases hj
    refine ⟨blk, off, us, q1, ?_, by simpa using r2, r3⟩
    rw [r1]; simp at hle ⊢; omega
  | _ => simp [St.at] at h
theorem load_ok {t : TypeId} {x : Operand} {v : AV} {l : List AV} {tv : TV} (hop : o.op = .load t x) (hx : A.ev x = .c v) (hl : A.at (P.cellsOf t) v = some l) (ht : cellsTV P t l = some tv) (hne : P.cellsOf t ≠ 0)
    (hI : Inv γ0 w0 n A a w) (hd : ∀ t, o.dst = some t → t < n) : OpOk P γ0 w0 n o a w (A.dst o.dst tv) := by
  obtain ⟨γ, hR, hH⟩ := hI.ex
  obtain ⟨blk, off, cs, h1, h2, h3, h4⟩ := at_rep hR (ev_c hR hx) hl
  obtain ⟨u, h5, h6⟩ := run_loadVar h3 h2 hne h4 ht
  exact OpOk.val hI hd (v := u) (by simp [execOp, hop, h1, Instr.loadAt, Instr.sureAddr, h5]) ⟨γ, hR, hH, h6⟩
end
end Go.Tree
namespace Go.Tree
set_option linter.unusedVariables false
set_option linter.unusedSimpArgs false
set_option linter.constructorNameAsVariable false

def upd {α : Type} (f : Nat → α) (n : Nat) (x : α) : Nat → α := fun m => if m = n then x else f m
@[simp] theorem upd_same {α : Type} (f : Nat → α) (n : Nat) (x : α) : upd f n x n = x := by simp [upd]
theorem upd_ne {α : Type} (f : Nat → α) {n m : Nat} (x : α) (h : m ≠ n) : upd f n x m = f m := by simp [upd, h]

theorem heap_alloc (w : World) (o : Obj) (b : Nat) (h : b < w.heap.size) : (w.alloc o).heap[b]? = w.heap[b]? := by
  show (w.heap.push o)[b]? = _
  rw [Array.getElem?_push, if_neg (by omega)]
theorem heap_alloc_self (w : World) (o : Obj) : (w.alloc o).heap[w.heap.size]? = some o := by
  show (w.heap.push o)[w.heap.size]? = _
  simp

/-- A new object n, made out of new memory and of what the objects of X held. -/
theorem Rel.renew {γ γ' : Gh} {A : St} {tmps : Array Value} {w w' : World} {m : Nat} {l : Sl} (h : Rel γ A tmps w) (X : Nat → Prop)
    (hX : ∀ a ∈ A.avs, ∀ o, X o → o ∉ a.obs) (hXo : ∀ o, X o → look o A.ob = none) (hn : ∀ a ∈ A.avs, m ∉ a.obs) (hno : look m A.ob = none)
    (names : ∀ o, o ≠ m → γ'.hd o = γ.hd o ∧ γ'.sz o = γ.sz o ∧ ∀ i, γ'.nh o i = γ.nh o i ∧ γ'.ns o i = γ.ns o i) (bb : γ'.bb = γ.bb) (zz : γ'.z = γ.z)
    (blocks : ∀ b, b < w.heap.size → (∀ o, X o → ¬ γ.inOb o b) → w'.heap[b]? = w.heap[b]? ∧ γ'.tg b = γ.tg b)
    (lt : ∀ b, γ'.tg b ≠ none → b < w'.heap.size) (size : w.heap.size ≤ w'.heap.size) (hob : ObAt γ' w' m l) : Rel γ' { A with ob := (m, l) :: A.ob } tmps w' := by
  have one : ∀ {o p b}, γ.inOb o b → γ.inOb p b → o = p := fun h1 h2 => by
    rcases h1 with h1 | ⟨i, h1⟩ <;> rcases h2 with h2 | ⟨j, h2⟩ <;> rw [h1] at h2 <;> simp at h2 <;> first | exact h2 | exact h2.1
  have zfree : ∀ b, γ.z b → ∀ o, X o → ¬ γ.inOb o b := fun b hz o _ hi => by
    have := h.zt b hz
    rcases hi with hi | ⟨i, hi⟩ <;> rw [this] at hi <;> cases hi
  have L : ∀ a ∈ A.avs, Leans γ w γ' w' a := fun a ha =>
    ⟨fun b hb hlt => by
      have hf : ∀ o, X o → ¬ γ.inOb o b := fun o hXo' hi => by
        rcases hb with hz | ⟨p, hp, hpb⟩
        · exact zfree b hz o hXo' hi
        · have := one hi hpb
          subst this
          exact hX a ha _ hXo' (reads_obs hp)
      obtain ⟨e1, e2⟩ := blocks b hlt hf
      refine ⟨e1, ?_⟩
      rcases hb with hz | ⟨p, hp, hpb⟩
      · exact .inl (by rw [zz]; exact hz)
      · exact .inr ⟨p, hp, by unfold Gh.inOb; rw [e2]; exact hpb⟩,
    fun b hb hlt => ⟨(blocks b hlt (zfree b hb)).1, by rw [zz]; exact hb⟩,
    fun o ho => by
      have := names o (fun e => hn a ha (e ▸ ho))
      exact ⟨this.1, this.2.1⟩,
    fun o i ho => (names o (fun e => hn a ha (e ▸ nests_obs ho))).2.2 i,
    fun b _ => by rw [bb]⟩
  have R : Rel γ' A tmps w' := h.move L
    (fun b l' hb => by
      obtain ⟨cs, e, h1, h2, h3⟩ := h.bx b l' hb
      obtain ⟨e1, e2⟩ := blocks (γ.bb b) (heap_lt h1) fun o _ hi => by rcases hi with hi | ⟨i, hi⟩ <;> rw [h2] at hi <;> simp at hi
      exact ⟨e1, e2, by rw [bb]⟩)
    (fun o l' ho => by
      have hom : o ≠ m := fun e => by rw [e, hno] at ho; cases ho
      refine ⟨fun b hb hlt => blocks b hlt fun p hp hi => ?_, ⟨(names o hom).1, (names o hom).2.1⟩, (names o hom).2.2⟩
      have := one hi hb
      subst this
      rw [hXo _ hp] at ho
      cases ho)
    (fun b hz => by
      rw [zz] at hz
      rw [(blocks b (h.lt b (.inl hz)) (zfree b hz)).2]
      exact h.zt b hz)
    (fun b hb => by
      rcases hb with hb | hb
      · rw [zz] at hb; exact Nat.lt_of_lt_of_le (h.lt b (.inl hb)) size
      · exact lt b hb)
  refine ⟨R.tm, R.bx, fun o l' ho => ?_, R.zt, R.lt⟩
  simp only [look] at ho
  split at ho
  · rename_i e; cases ho; subst e; exact hob
  · exact R.ob o l' ho

/-- the same, as history -/
theorem Hist.renew {γ γ' : Gh} {w w' : World} (X : Nat → Prop) (zz : γ'.z = γ.z) (blocks : ∀ b, b < w.heap.size → (∀ o, X o → ¬ γ.inOb o b) → w'.heap[b]? = w.heap[b]? ∧ γ'.tg b = γ.tg b)
    (size : w.heap.size ≤ w'.heap.size) (os : w'.os = w.os) (tape : w'.tape = w.tape) (output : w'.output = w.output) : Hist γ w γ' w' :=
  ⟨size, os, tape, output, fun b hb ht => by
    obtain ⟨e1, e2⟩ := blocks b hb fun o _ hi => by rcases hi with hi | ⟨i, hi⟩ <;> rw [ht] at hi <;> cases hi
    exact ⟨e1, e2.trans ht⟩, fun b _ hz => .inl (by rw [← zz]; exact hz)⟩

theorem kill_look {A : St} {o : Nat} : look o (A.kill o).ob = none := by simp [St.kill, look_drop]
theorem kill_look_ne {A : St} {o p : Nat} : look p (A.kill o).ob = if p = o then none else look p A.ob := by simp [St.kill, look_drop]
theorem forgets_obs {f : AV → AV} (hf : Forgets f) {a : AV} {o : Nat} (h : o ∉ a.obs) : o ∉ (f a).obs := by
  rcases hf a with e | e <;> rw [e]
  · exact h
  · simp [AV.obs]
theorem mem_map_avs {A : St} {f : AV → AV} {a : AV} (ha : a ∈ (A.map f).avs) : ∃ b ∈ A.avs, a = f b := by
  simp only [St.avs, St.map, List.mem_append, List.mem_flatMap] at ha
  rcases ha with ⟨p, hp, ha⟩ | ⟨p, hp, ha⟩
  · simp only [mapTm, List.mem_map] at hp
    obtain ⟨q, hq, rfl⟩ := hp
    have : ∃ b ∈ q.2.avs, a = f b := by
      cases hx : q.2 with
      | c b => simp [hx, TV.map, TV.avs] at ha; exact ⟨b, by simp [TV.avs], ha⟩
      | agg l => simp [hx, TV.map, TV.avs] at ha; obtain ⟨b, hb, e⟩ := ha; exact ⟨b, by simpa [TV.avs] using hb, e.symm⟩
      | tup l =>
        simp only [hx, TV.map, TV.avs, List.mem_flatMap, List.mem_map] at ha
        obtain ⟨p, ⟨q', hq', rfl⟩, hp⟩ := ha
        simp only [List.mem_map] at hp
        obtain ⟨b, hb, e⟩ := hp
        exact ⟨b, by simp only [TV.avs, List.mem_flatMap]; exact ⟨q', hq', hb⟩, e.symm⟩
    obtain ⟨b, hb, e⟩ := this
    exact ⟨b, List.mem_append_left _ (List.mem_flatMap.2 ⟨q, hq, hb⟩), e⟩
  · simp only [mapBx, List.mem_map] at hp
    obtain ⟨q, hq, rfl⟩ := hp
    simp only [List.mem_map] at ha
    obtain ⟨b, hb, e⟩ := ha
    exact ⟨b, List.mem_append_right _ (List.mem_flatMap.2 ⟨q, hq, hb⟩), e.symm⟩
theorem map_obs {A : St} {f : AV → AV} (hf : Forgets f) {o : Nat} (h : ∀ a ∈ A.avs, o ∉ a.obs) : ∀ a ∈ (A.map f).avs, o ∉ a.obs := by
  intro a ha
  obtain ⟨b, hb, rfl⟩ := mem_map_avs ha
  exact forgets_obs hf (h b hb)
theorem kill_obs_ne {A : St} {o p : Nat} (h : ∀ a ∈ A.avs, o ∉ a.obs) : ∀ a ∈ (A.kill p).avs, o ∉ a.obs := map_obs (forgets_killIf _) h

/-- A new variable. -/
theorem Rel.newBox {γ : Gh} {A : St} {tmps : Array Value} {w : World} (h : Rel γ A tmps w) (t : Nat) (e : TypeId) {l : List AV} {cs : List Value} (hl : Cells γ w l cs) (hk : ∀ a ∈ l, t ∉ a.bxs) :
    let γ' := { γ with bb := upd γ.bb t w.heap.size, tg := upd γ.tg w.heap.size (some (.bx t)) }
    Rel γ' (A.newBox t l) tmps (w.alloc (.cells cs.toArray e)) ∧ Hist γ w γ' (w.alloc (.cells cs.toArray e)) := by
  intro γ'
  have tgo : ∀ b, b < w.heap.size → γ'.tg b = γ.tg b := fun b hb => upd_ne _ _ (by omega)
  have L : ∀ a : AV, t ∉ a.bxs → Leans γ w γ' (w.alloc (.cells cs.toArray e)) a := fun a ha =>
    ⟨fun b hb hlt => ⟨heap_alloc _ _ _ hlt, by
      rcases hb with hz | ⟨p, hp, hpb⟩
      · exact .inl hz
      · exact .inr ⟨p, hp, by unfold Gh.inOb; rw [tgo b hlt]; exact hpb⟩⟩,
    fun b hb hlt => ⟨heap_alloc _ _ _ hlt, hb⟩, fun o _ => ⟨rfl, rfl⟩, fun o i _ => ⟨rfl, rfl⟩, fun b hb => upd_ne _ _ (fun e => ha (e ▸ hb))⟩
  have hm := h.map (forgets_killIf fun a => a.bxs.contains t)
  have nb : ∀ a ∈ (A.map (killBox t)).avs, t ∉ a.bxs := fun a ha => by
    obtain ⟨b, rfl⟩ := forgets_avs (forgets_killIf _) A (a := a) ha
    have := killIf_not (p := fun a : AV => a.bxs.contains t) (b := b) (by simp [AV.bxs])
    simpa using this
  have zt : ∀ b, γ'.z b → γ'.tg b = none := fun b hz => by rw [tgo b (h.lt b (.inl hz))]; exact h.zt b hz
  have lt : ∀ b, γ'.z b ∨ γ'.tg b ≠ none → b < (w.alloc (.cells cs.toArray e)).heap.size := fun b hb => by
    simp only [World.size_alloc]
    by_cases hbs : b < w.heap.size
    · omega
    · rcases hb with hb | hb
      · have := h.lt b (.inl hb); omega
      · by_cases e : b = w.heap.size
        · omega
        · have : γ'.tg b = γ.tg b := upd_ne _ _ e
          rw [this] at hb
          have := h.lt b (.inr hb); omega
  refine ⟨⟨fun s x hx => ?_, fun b l' hb => ?_, fun o l' ho => ?_, zt, lt⟩, ⟨by simp, rfl, rfl, rfl, fun b hb ht => ⟨heap_alloc _ _ _ hb, (tgo b hb).trans ht⟩, fun b _ hz => .inl hz⟩⟩
  · exact (hm.tm s x hx).mono fun a y ha hy => hy.move (L a (nb a (List.mem_append_left _ (List.mem_flatMap.2 ⟨_, mem_of_look hx, ha⟩))))
  · simp only [St.newBox, look] at hb
    split at hb
    · rename_i e'
      cases hb
      subst e'
      refine ⟨cs, e, ?_, ?_, hl.mono fun a y ha hy => hy.move (L a (hk a ha))⟩
      · show (w.alloc _).heap[upd γ.bb t w.heap.size t]? = _
        rw [upd_same]; exact heap_alloc_self _ _
      · show upd γ.tg w.heap.size _ (upd γ.bb t w.heap.size t) = _
        rw [upd_same, upd_same]
    · rename_i e'
      rw [look_drop, if_neg (Ne.symm e')] at hb
      have hbx := hm.bx b l' hb
      refine hbx.move ?_ (upd_ne _ _ (Ne.symm e')) fun a ha => L a (nb a (List.mem_append_right _ (List.mem_flatMap.2 ⟨_, mem_of_look hb, ha⟩)))
      obtain ⟨cs', e2, h1, h2, h3⟩ := hbx
      exact ⟨heap_alloc _ _ _ (heap_lt h1), tgo _ (heap_lt h1)⟩
  · exact (h.ob o l' ho).move (fun b hb hlt => ⟨heap_alloc _ _ _ hlt, tgo b hlt⟩) ⟨rfl, rfl⟩ fun i => ⟨rfl, rfl⟩

section
variable {P : Program} {γ0 : Gh} {w0 : World} {n : Nat} {A : St} {a : Act} {w : World} {o : Oper}

theorem zero_info {t : TypeId} {z : List Value} (h : zeroCells P t = some z) : ∃ i v, P.info? t = some i ∧ i.zero = some v ∧ v.cells.toList = z ∧ z.all single = true := by
  unfold zeroCells at h
  cases hi : P.info? t with
  | none => simp [hi] at h
  | some i =>
    simp only [hi] at h
    cases hz : i.zero with
    | none => simp [hz] at h
    | some v =>
      simp only [hz] at h
      split at h
      · rename_i ha
        cases h
        exact ⟨i, v, rfl, hz, rfl, ha⟩
      · cases h

theorem run_newVar {t : TypeId} {v : Value} : (newVar t v).run P w = .ok ⟨w.heap.size, 0, none⟩ (w.alloc (.cells v.cells t)) := by
  simp [newVar, newRow]

theorem alloc_ok {e : TypeId} {t : Nat} {z : List Value} (hop : o.op = .alloc e) (hdst : o.dst = some t) (hz : zeroCells P e = some z) (hI : Inv γ0 w0 n A a w) (hd : ∀ t, o.dst = some t → t < n) :
    OpOk P γ0 w0 n o a w ((A.newBox t (z.map cellAV)).dst o.dst (.c (.box t 0))) := by
  obtain ⟨γ, hR, hH⟩ := hI.ex
  obtain ⟨i, v, h1, h2, h3, h4⟩ := zero_info hz
  have hk : ∀ x ∈ z.map cellAV, t ∉ x.bxs := fun x hx => by
    simp only [List.mem_map] at hx
    obtain ⟨y, _, rfl⟩ := hx
    unfold cellAV; split <;> simp [AV.bxs]
  obtain ⟨hR', hH'⟩ := hR.newBox t e (cells_vals (γ := γ) (w := w) z h4) hk
  have e1 : v.cells = z.toArray := by rw [← h3]
  refine OpOk.val (v := .pointer (some ⟨w.heap.size, 0, none⟩)) (w' := w.alloc (.cells z.toArray e)) hI hd ?_ ⟨_, hR', hH.trans hH', ?_⟩
  · simp [execOp, hop, Instr.alloc, zeroValue, typeInfo, h1, h2, run_newVar, e1]
  · show _ = Value.pointer (some ⟨upd γ.bb t w.heap.size t, 0, none⟩)
    rw [upd_same]

theorem parts_rep {γ : Gh} {x : TV} {y : Value} {l : List AV} (h : TVrep γ w x y) (hl : parts x = some l) : Cells γ w l y.cells.toList := by
  cases x with
  | c b =>
    simp only [parts] at hl
    split at hl
    · rename_i hs
      cases hl
      have hy : y.oneCell' = true := by
        cases b <;> simp only [AV.sure] at hs <;> simp only [TVrep, AVrep] at h
        · cases hs
        · rw [h]; exact single_one hs
        · rw [h]; rfl
        · obtain ⟨_, _, _, e, _⟩ := h; rw [e]; rfl
        · exact h.2
        · exact h.2
        · rw [h]; rfl
        · obtain ⟨_, _, _, _, _, e⟩ := h; rw [e]; rfl
        · obtain ⟨_, _, _, _, _, e⟩ := h; rw [e]; rfl
        · obtain ⟨_, _, e, _⟩ := h; rw [e]; rfl
        · rw [h]; rfl
        · obtain ⟨_, e, _⟩ := h; rw [e]; rfl
      have : y.cells.toList = [y] := by cases y <;> simp_all [Value.cells, Value.oneCell']
      rw [this]
      exact .cons ⟨h, hy⟩ .nil
    · cases hl
  | agg l' =>
    simp [parts] at hl; subst hl
    obtain ⟨cs, e, h⟩ := h
    subst e
    simpa [Value.cells] using h
  | tup l' => simp [parts] at hl

theorem box_ok {e : TypeId} {x : Operand} {t : Nat} {l : List AV} (hop : o.op = .box e x) (hdst : o.dst = some t) (hl : parts (A.ev x) = some l) (hI : Inv γ0 w0 n A a w) (hd : ∀ t, o.dst = some t → t < n) :
    OpOk P γ0 w0 n o a w ((A.newBox t (l.map (killBox t))).dst o.dst (.c (.box t 0))) := by
  obtain ⟨γ, hR, hH⟩ := hI.ex
  have h1 := parts_rep (hR.eval (d := a.defers) x) hl
  have h2 : Cells γ w (l.map (killBox t)) (a.eval x).cells.toList := h1.map fun b y _ hb => hb.forget (forgets_killIf _)
  have hk : ∀ x ∈ l.map (killBox t), t ∉ x.bxs := fun x hx => by
    simp only [List.mem_map] at hx
    obtain ⟨y, _, rfl⟩ := hx
    have := killIf_not (p := fun a : AV => a.bxs.contains t) (b := y) (by simp [AV.bxs])
    simpa [killBox] using this
  obtain ⟨hR', hH'⟩ := hR.newBox t e h2 hk
  refine OpOk.val (v := .pointer (some ⟨w.heap.size, 0, none⟩)) (w' := w.alloc (.cells (a.eval x).cells.toList.toArray e)) hI hd ?_ ⟨_, hR', hH.trans hH', ?_⟩
  · simp [execOp, hop, Instr.box, run_newVar]
  · show _ = Value.pointer (some ⟨upd γ.bb t w.heap.size t, 0, none⟩)
    rw [upd_same]
end
end Go.Tree
namespace Go.Tree
set_option linter.unusedVariables false
set_option linter.unusedSimpArgs false
set_option linter.constructorNameAsVariable false

theorem heap_setCells (b : Nat) : ∀ (vs : List Value) (o : Nat) (w : World), (∀ b', b' ≠ b → (w.setCells b o vs).heap[b']? = w.heap[b']?) ∧ (w.setCells b o vs).heap.size = w.heap.size ∧
    (w.setCells b o vs).os = w.os ∧ (w.setCells b o vs).tape = w.tape ∧ (w.setCells b o vs).output = w.output ∧
    ∀ cs e f, w.heap[b]? = some (.cells cs e f) → ∃ cs' : Array Value, (w.setCells b o vs).heap[b]? = some (.cells cs' e f) ∧ cs'.size = cs.size
  | [], o, w => ⟨fun _ _ => rfl, rfl, rfl, rfl, rfl, fun cs e f h => ⟨cs, h, rfl⟩⟩
  | v :: vs, o, w => by
    obtain ⟨h1, h2, h3, h4, h5, h6⟩ := heap_setCells b vs (o + 1) (w.setCell ⟨b, o, none⟩ v)
    refine ⟨fun b' hb => ?_, h2.trans (by simp), h3, h4, h5, fun cs e f h => ?_⟩
    · rw [World.setCells, h1 b' hb]
      simp only [World.setCell, Array.getElem?_modify]
      rw [if_neg (Ne.symm hb)]
    · obtain ⟨cs', h7, h8⟩ := h6 (cs.setIfInBounds o v) e f (by simp [World.setCell, Array.getElem?_modify, h])
      exact ⟨cs', h7, by simpa using h8⟩

section
variable {P : Program} {γ0 : Gh} {w0 : World} {n : Nat} {A : St} {a : Act} {w : World} {o : Oper}

theorem goodT_elim {t : TypeId} (h : goodT P t = true) : P.underlying t = some (.slice (elemT P t)) ∧ ∃ i z, P.info? (elemT P t) = some i ∧ i.zero = some z ∧ z.cells.size = i.size ∧ 0 < i.size ∧ i.size = elemSz P t := by
  unfold goodT at h
  simp only [Bool.and_eq_true] at h
  refine ⟨isSliceT_elim h.1, ?_⟩
  have h2 := h.2
  cases hi : P.info? (elemT P t) with
  | none => simp [hi] at h2
  | some i =>
    simp only [hi] at h2
    cases hz : i.zero with
    | none => simp [hz] at h2
    | some z =>
      simp [hz] at h2
      exact ⟨i, z, rfl, hz, h2.1, h2.2, by simp [elemSz, Program.cellsOf, hi]⟩

/-- cells that a readable slice consists of, one behind the other -/
theorem SlAt.cells {R : Nat → Prop} {y : Value} {l : Sl} (h : SlAt w R y l) (hne : l.d ≠ []) : ∃ (blk off cap : Nat) (us : List Value), y = .slice (some ⟨blk, off, none⟩) l.d.length cap ∧ R blk ∧ us.length = l.d.length * l.sz ∧ 0 < l.sz ∧
    (∀ k u, us[k]? = some u → w.cell? ⟨blk, off + k, none⟩ = some u) ∧ (∀ i r, l.d[i]? = some r → ∀ j x, r[j]? = some x → ∃ u, us[i * l.sz + j]? = some u ∧ CAt w R x u) ∧ ∀ u ∈ us, u.oneCell' = true := by
  obtain ⟨h1, b, cap, h2, h3, h4, h5⟩ := h
  obtain ⟨blk, off, rfl, h6, h7⟩ := h5 hne
  have hsz : 0 < l.sz := by
    rcases Nat.eq_zero_or_pos l.sz with e | e
    · have := h4 e; rw [h2] at this; simp at this
    · exact e
  have one : ∀ {x u}, CAt w R x u → u.oneCell' = true := fun {x u} hx => by
    cases x with
    | v z => rw [hx.1]; exact hx.2
    | x => exact hx
    | s m rows => obtain ⟨_, _, _, e, _⟩ := hx; rw [e]; rfl
  have ex : ∀ k, k < l.d.length * l.sz → ∃ u, w.cell? ⟨blk, off + k, none⟩ = some u ∧ u.oneCell' = true := fun k hk => by
    have hi : k / l.sz < l.d.length := Nat.div_lt_of_lt_mul (by rw [Nat.mul_comm]; exact hk)
    have hj : k % l.sz < l.sz := Nat.mod_lt _ hsz
    have hr : l.d[k / l.sz]? = some l.d[k / l.sz] := List.getElem?_eq_getElem hi
    have hrl : (l.d[k / l.sz]).length = l.sz := h1 _ (List.getElem_mem hi)
    obtain ⟨u, hu, hx⟩ := h7 (k / l.sz) _ hr (k % l.sz) _ (List.getElem?_eq_getElem (by omega))
    rw [Nat.add_assoc, Nat.mul_comm, Nat.div_add_mod] at hu
    exact ⟨u, hu, one hx⟩
  let f : Nat → Value := fun k => (w.cell? ⟨blk, off + k, none⟩).getD undef
  have hf : ∀ k, k < l.d.length * l.sz → w.cell? ⟨blk, off + k, none⟩ = some (f k) ∧ (f k).oneCell' = true := fun k hk => by
    obtain ⟨u, hu, h⟩ := ex k hk
    simp only [f, hu, Option.getD_some]
    exact ⟨trivial, h⟩
  refine ⟨blk, off, cap, (List.range (l.d.length * l.sz)).map f, h2, h6, by simp, hsz, ?_, ?_, ?_⟩
  · intro k u hk
    simp only [List.getElem?_map, Option.map_eq_some_iff] at hk
    obtain ⟨k', hk, rfl⟩ := hk
    have hlt := (List.getElem?_eq_some_iff.1 hk).1
    simp at hlt
    rw [List.getElem?_range hlt] at hk
    cases hk
    exact (hf k hlt).1
  · intro i r hi j x hj
    obtain ⟨u, hu, hx⟩ := h7 i r hi j x hj
    have hil : i < l.d.length := (List.getElem?_eq_some_iff.1 hi).1
    have hjl : j < l.sz := by rw [← h1 r (List.mem_of_getElem? hi)]; exact (List.getElem?_eq_some_iff.1 hj).1
    have hlt : i * l.sz + j < l.d.length * l.sz := by
      have : (i + 1) * l.sz ≤ l.d.length * l.sz := Nat.mul_le_mul_right _ hil
      rw [Nat.add_mul] at this; omega
    refine ⟨f (i * l.sz + j), by simp [List.getElem?_map, List.getElem?_range hlt], ?_⟩
    have := (hf _ hlt).1
    rw [← Nat.add_assoc, hu] at this
    rw [← Option.some.inj this]
    exact hx
  · intro u hu
    simp only [List.mem_map, List.mem_range] at hu
    obtain ⟨k, hk, rfl⟩ := hu
    exact (hf k hk).2

/-- an append of nothing -/
theorem run_append_none {t ty : TypeId} {b : Option Addr} {ls cap : Nat} {y : Value} {c : Nat} {d : Option Addr} (ht : goodT P t = true) (hy : y = .slice d 0 c) (hle : ls ≤ cap) :
    (Builtin.append_ #[t, t] ty #[.slice b ls cap, y]).run P w = .ok (.slice b ls cap) w := by
  obtain ⟨hu, i, z, h1, h2, h3, h4, h5⟩ := goodT_elim ht
  subst hy
  have hz : (loadCells = loadCells) := rfl
  cases b <;> cases d <;> simp [Builtin.append_, run_underlying hu, sizeOf, typeInfo, h1, Builtin.lenOf, Builtin.firstCells, hle, storeCells, loadCells, loadCellsFrom]

/-- what an append of something leaves: the old block with the new cells behind, or a new block -/
theorem run_append_some {t ty : TypeId} {S : Value} {ls cap : Nat} {olds : List Value} {blk2 off2 lr c2 : Nat} {news : List Value} (ht : goodT P t = true)
    (hS : ((∃ ad, S = .slice ad 0 0) ∧ ls = 0 ∧ cap = 0 ∧ olds = []) ∨ ∃ blk off cs e, S = .slice (some ⟨blk, off, none⟩) ls cap ∧ ls ≤ cap ∧ w.heap[blk]? = some (.cells cs e (0, 0)) ∧ off + cap * elemSz P t ≤ cs.size ∧
      olds.length = ls * elemSz P t ∧ ∀ k u, olds[k]? = some u → cs[off + k]? = some u)
    (hn : news.length = lr * elemSz P t) (hnews : ∀ k u, news[k]? = some u → w.cell? ⟨blk2, off2 + k, none⟩ = some u) (h1 : ∀ u ∈ news, u.oneCell' = true) (hpos : 0 < lr) (hsm : small P (ls + lr) t = true) :
    ∃ B O cap' cs' e' w', (Builtin.append_ #[t, t] ty #[S, .slice (some ⟨blk2, off2, none⟩) lr c2]).run P w = .ok (.slice (some ⟨B, O, none⟩) (ls + lr) cap') w' ∧ ls + lr ≤ cap' ∧ w'.heap[B]? = some (.cells cs' e' (0, 0)) ∧
      O + cap' * elemSz P t ≤ cs'.size ∧ (∀ k u, olds[k]? = some u → cs'[O + k]? = some u) ∧ (∀ k u, news[k]? = some u → cs'[O + ls * elemSz P t + k]? = some u) ∧
      (∀ b, b < w.heap.size → b ≠ B → w'.heap[b]? = w.heap[b]?) ∧ w.heap.size ≤ w'.heap.size ∧ w'.os = w.os ∧ w'.tape = w.tape ∧ w'.output = w.output ∧
      ((∃ o l c, S = .slice (some ⟨B, o, none⟩) l c ∧ 0 < c) ∨ w.heap.size ≤ B) := by
  obtain ⟨hu, i, z, g1, g2, g3, g4, g5⟩ := goodT_elim ht
  have hb : (ls + lr) * i.bytes ≤ 140737488355328 ∧ ls + lr ≤ maxLen := by
    simp only [small, Bool.and_eq_true, decide_eq_true_eq] at hsm
    have : P.bytesOf (elemT P t) = i.bytes := by simp [Program.bytesOf, g1]
    rw [this] at hsm
    exact ⟨hsm.1, by unfold maxLen; exact hsm.2⟩
  have grown : ∀ (v' : Value) (w' : World), w'.ownsRow w.heap.size (elemT P t) (elemSz P t) v' (ls + lr) (olds ++ news) → w.grownBy w' none → olds.length = ls * elemSz P t →
      ∃ B O cap' cs' e', v' = .slice (some ⟨B, O, none⟩) (ls + lr) cap' ∧ ls + lr ≤ cap' ∧ w'.heap[B]? = some (.cells cs' e' (0, 0)) ∧
      O + cap' * elemSz P t ≤ cs'.size ∧ (∀ k u, olds[k]? = some u → cs'[O + k]? = some u) ∧ (∀ k u, news[k]? = some u → cs'[O + ls * elemSz P t + k]? = some u) ∧
      (∀ b, b < w.heap.size → b ≠ B → w'.heap[b]? = w.heap[b]?) ∧ w.heap.size ≤ w'.heap.size ∧ w'.os = w.os ∧ w'.tape = w.tape ∧ w'.output = w.output ∧ w.heap.size ≤ B := by
    intro v' w' ho hg hol
    rcases ho.2 with ⟨_, e⟩ | ⟨g, cap', cur, e1, e2, e3, e4, e5, e6, e7⟩
    · omega
    · have key : ∀ k u, (olds ++ news)[k]? = some u → cur[k]? = some u := fun k u hk => by
        rw [← e7, List.getElem?_take] at hk
        split at hk
        · simpa using hk
        · cases hk
      refine ⟨g, 0, cap', cur, _, e1, e4, e3, by omega, fun k u hk => ?_, fun k u hk => ?_, fun b hb _ => hg.block b hb (by simp), hg.size, hg.os, hg.tape, hg.output, e2⟩
      · rw [Nat.zero_add]; exact key k u (by rw [List.getElem?_append_left (List.getElem?_eq_some_iff.1 hk).1]; exact hk)
      · rw [Nat.zero_add]; exact key _ u (by rw [List.getElem?_append_right (by omega), hol, Nat.add_sub_cancel_left]; exact hk)
  rcases hS with ⟨e1, e2, e3, e4⟩ | ⟨blk, off, cs, e, e1, e2, e3, e4, e5, e6⟩
  · obtain ⟨ad, e1⟩ := e1
    subst e1 e2 e3 e4
    cases ad with
    | some ad =>
      obtain ⟨v', w', r1, r2, r3⟩ := run_append_arg_grows (P := P) w t ty (elemT P t) i z (elemSz P t) i.bytes hu g1 g2 g5 rfl (by omega) (by omega) ad 0 0 [] (by simp)
        (fun j u hj => by simp at hj) ⟨blk2, off2, none⟩ lr c2 news hn (fun j u hj => by rw [addr_add]; exact hnews j u hj) (by omega) hb.2 hb.1
      obtain ⟨B, O, cap', cs', e', q1, q2, q3, q4, q5, q6, q7, q8, q9, q10, q11, q12⟩ := grown v' w' r2 r3 (by simp)
      subst q1
      exact ⟨B, O, cap', cs', e', w', r1, q2, q3, q4, q5, q6, q7, q8, q9, q10, q11, .inr q12⟩
    | none =>
    obtain ⟨v', w', r1, r2, r3, _⟩ := run_append_own (P := P) w w.heap.size t ty (elemT P t) i z (elemSz P t) i.bytes hu g1 g2 g5 rfl (by omega) (by omega) (.slice none 0 0) 0 [] (World.ownsRow_nil w _ _ _) ⟨blk2, off2, none⟩ lr c2 news hn
      (fun j u hj => by rw [addr_add]; exact hnews j u hj) h1 hb.2 hb.1 (Nat.le_refl _)
    obtain ⟨B, O, cap', cs', e', q1, q2, q3, q4, q5, q6, q7, q8, q9, q10, q11, q12⟩ := grown v' w' r2 r3 (by simp)
    subst q1
    exact ⟨B, O, cap', cs', e', w', r1, q2, q3, q4, q5, q6, q7, q8, q9, q10, q11, .inr q12⟩
  · subst e1
    by_cases hroom : ls + lr ≤ cap
    · have hmul : ls * elemSz P t + lr * elemSz P t ≤ cap * elemSz P t := by rw [← Nat.add_mul]; exact Nat.mul_le_mul_right _ hroom
      have hc : ∀ j, j < news.length → (w.cell? ⟨blk, off + ls * elemSz P t + j, none⟩).isSome = true := fun j hj => by
        rw [cell_cells e3, Array.getElem?_eq_getElem (by omega)]; rfl
      have hrun := run_append_room_cells (P := P) w t ty (elemT P t) i hu g1 blk off ls cap ⟨blk2, off2, none⟩ lr c2 news (by rw [g5]; exact hn) (fun j u hj => by rw [addr_add]; exact hnews j u hj) h1 hroom
        (fun j hj => by rw [g5]; exact hc j hj) (fun j _ => frozen_cells e3)
      rw [g5] at hrun
      obtain ⟨s1, s2, s3, s4, s5, s6⟩ := heap_setCells blk news (off + ls * elemSz P t) w
      obtain ⟨cs', s7, s8⟩ := s6 cs e (0, 0) e3
      have rd : ∀ k, cs'[k]? = (w.setCells blk (off + ls * elemSz P t) news).cell? ⟨blk, k, none⟩ := fun k => (cell_cells s7).symm
      refine ⟨blk, off, cap, cs', e, _, hrun, hroom, s7, by omega, fun k u hk => ?_, fun k u hk => ?_, fun b hb hne => s1 b hne, by omega, s3, s4, s5, .inl ⟨_, _, _, rfl, by omega⟩⟩
      · have hkl := (List.getElem?_eq_some_iff.1 hk).1
        rw [rd, World.cell?_setCells_out blk news _ w _ (fun _ _ => .inl (by simp; omega)), cell_cells e3]
        exact e6 k u hk
      · obtain ⟨hkl, hku⟩ := List.getElem?_eq_some_iff.1 hk
        rw [rd, World.cell?_setCells_in blk news _ w hc k hkl, hku]
    · obtain ⟨v', w', r1, r2, r3⟩ := run_append_arg_grows (P := P) w t ty (elemT P t) i z (elemSz P t) i.bytes hu g1 g2 g5 rfl (by omega) (by omega) ⟨blk, off, none⟩ ls cap olds e5
        (fun j u hj => by rw [addr_add, cell_cells e3]; exact e6 j u hj) ⟨blk2, off2, none⟩ lr c2 news hn (fun j u hj => by rw [addr_add]; exact hnews j u hj) (by omega) hb.2 hb.1
      obtain ⟨B, O, cap', cs', e', q1, q2, q3, q4, q5, q6, q7, q8, q9, q10, q11, q12⟩ := grown v' w' r2 r3 e5
      subst q1
      exact ⟨B, O, cap', cs', e', w', r1, q2, q3, q4, q5, q6, q7, q8, q9, q10, q11, .inr q12⟩
end
end Go.Tree
