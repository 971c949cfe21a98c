/- Part 5 of the tree calculus: symbolic execution of the model's code over typed lists, proved sound. No condition. -/
import Derived.Test.YtfgeijlcmepdlaaK4
namespace Go.Tree
set_option linter.unusedVariables false
set_option linter.constructorNameAsVariable false

/-- kinds of elements -/
inductive Ty where
  | i64 | u8 | bool | str | mat | mats
  deriving DecidableEq, Inhabited
abbrev Ty.den : Ty → Type
  | .i64 => Int | .u8 => Int | .bool => Bool | .str => ByteArray | .mat => Int × Int | .mats => List (Int × Int)
def Ty.sz : Ty → Nat | .mat => 2 | _ => 1
def Ty.row : (t : Ty) → t.den → Row
  | .i64, n => [.int .i64 n] | .u8, n => [.int .u8 n] | .bool, b => [.bool b] | .str, s => [.string s] | .mat, p => [.int .i64 p.1, .int .i64 p.2] | .mats, _ => []
def Ty.flat : Ty → Bool | .mats => false | _ => true
def Ty.enc : (t : Ty) → t.den → List C
  | .mats, l => [.s 2 (l.map (Ty.row .mat))]
  | .i64, x => (Ty.row .i64 x).map .v | .u8, x => (Ty.row .u8 x).map .v | .bool, x => (Ty.row .bool x).map .v | .str, x => (Ty.row .str x).map .v | .mat, x => (Ty.row .mat x).map .v
def Ty.dflt : (t : Ty) → t.den
  | .i64 => 0 | .u8 => 0 | .bool => false | .str => .empty | .mat => (0, 0) | .mats => []

structure TL where
  t : Ty
  l : List t.den
def TL.sl (x : TL) : Sl := ⟨x.t.sz, x.l.map x.t.enc⟩
def TL.rows (x : TL) : List Row := x.l.map x.t.row
def TL.at (x : TL) (i : Nat) : x.t.den := x.l.getD i x.t.dflt

inductive CW where
  | v (x : Value) | s (l : TL) | u
def CW.enc : CW → C
  | .v x => .v x | .s l => if l.t.flat then .s l.t.sz l.rows else .x | .u => .x
inductive AW where
  | unk | v (x : Value) | nil
  | rd (src : List Nat) (l : TL)
  | own (o : Nat) | nest (o i : Nat)
  | box (b off : Nat) | boxi (b i : Nat)
  | adr (o i off : Nat) | adn (o i j off : Nat)
  | rad (src : List Nat) (c : List CW)
  | fn (f : FuncId) (caps : List Nat)
  | fnr (f : FuncId) (caps : List (List CW))
def AW.enc : AW → AV
  | .unk => .unk | .v x => .v x | .nil => .nil | .rd s l => .rd s l.sl | .own o => .own o | .nest o i => .nest o i | .box b k => .box b k | .boxi b i => .box b i
  | .adr o i k => .adr o i k | .adn o i j k => .adn o i j k | .rad s c => .rad s (c.map CW.enc) | .fn f l => .fn f l | .fnr f l => .fnr f (l.map fun c => c.map CW.enc)
inductive TW where
  | c (a : AW) | agg (l : List AW) | tup (l : List (Bool × List AW))
def TW.enc : TW → TV
  | .c a => .c a.enc | .agg l => .agg (l.map AW.enc) | .tup l => .tup (l.map fun p => (p.1, p.2.map AW.enc))
/-- a variable: cells, or an array of bools -/
inductive BW where
  | cells (l : List AW) | arr (l : List Bool)
def BW.enc : BW → List AV
  | .cells l => l.map AW.enc | .arr l => l.map fun b => .v (.bool b)
/-- an object: a list; a list of lists with a hole -/
inductive OW where
  | f (l : TL) | h (l : List (List (Int × Int))) (k : Nat)
def OW.enc : OW → Sl
  | .f l => l.sl
  | .h l k => ⟨1, (l.map (Ty.enc .mats)).set k [.x]⟩
structure Wt where
  tm : List (Nat × TW)
  bx : List (Nat × BW)
  ob : List (Nat × OW)
def encL {α β : Type} (f : α → β) (l : List (Nat × α)) : List (Nat × β) := l.map fun p => (p.1, f p.2)
def Wt.enc (A : Wt) : St := { tm := encL TW.enc A.tm, bx := encL BW.enc A.bx, ob := encL OW.enc A.ob }

def TW.map (f : AW → AW) : TW → TW
  | .c a => .c (f a) | .agg l => .agg (l.map f) | .tup l => .tup (l.map fun p => (p.1, p.2.map f))
def BW.map (f : AW → AW) : BW → BW
  | .cells l => .cells (l.map f) | .arr l => .arr l
def Wt.map (f : AW → AW) (A : Wt) : Wt := { A with tm := encL (TW.map f) A.tm, bx := encL (BW.map f) A.bx }
def AW.obs : AW → List Nat
  | .own o => [o] | .nest o _ => [o] | .adr o _ _ => [o] | .adn o _ _ _ => [o] | .rd s _ => s | .rad s _ => s | _ => []
def AW.reads : AW → List Nat
  | .rd s _ => s | .rad s _ => s | _ => []
def AW.bxs : AW → List Nat
  | .box b _ => [b] | .boxi b _ => [b] | .fn _ l => l | _ => []
def killW (p : AW → Bool) (a : AW) : AW := if p a then .unk else a
def killWO (o : Nat) : AW → AW := killW fun a => a.obs.contains o
def staleWO (o : Nat) : AW → AW := killW fun a => a.reads.contains o
def killWB (b : Nat) : AW → AW := killW fun a => a.bxs.contains b
def AW.nests (o i : Nat) : AW → Bool
  | .nest p j => p == o && j == i | .adn p j _ _ => p == o && j == i | _ => false
def killNestW (o i : Nat) : AW → AW := killW fun a => a.reads.contains o || a.nests o i
def Wt.kill (o : Nat) (A : Wt) : Wt := { A.map (killWO o) with ob := drop o A.ob }
def Wt.get (A : Wt) (t : Nat) : TW := (look t A.tm).getD (.c .unk)
def Wt.dst (A : Wt) (d : Option Nat) (x : TW) : Wt := match d with | some t => { A with tm := put t x A.tm } | none => A
def Wt.newOb (n : Nat) (x : OW) (A : Wt) : Wt := { A.kill n with ob := (n, x) :: (A.kill n).ob }
def Wt.newBox (n : Nat) (x : BW) (A : Wt) : Wt := { A.map (killWB n) with bx := (n, x) :: drop n (encL (BW.map (killWB n)) A.bx) }

def cellAW : Value → AW
  | .slice none 0 0 => .nil
  | x => .v x
def valTW : Value → TW
  | .agg cs => .agg (cs.toList.map cellAW)
  | .tuple _ => .c .unk
  | x => .c (cellAW x)
def Wt.ev (A : Wt) : Operand → TW
  | .tmp t => A.get t
  | .const v => if flat v then valTW v else .c .unk
  | .global _ => .c .unk
  | .func f => .c (.fnr f [])
def awVal : AW → Option Value
  | .v x => some x | .nil => some (.slice none 0 0) | _ => none
def awVals : List AW → Option (List Value)
  | [] => some []
  | a :: l => match awVal a, awVals l with | some x, some y => some (x :: y) | _, _ => none
def twVal : TW → Option Value
  | .c a => awVal a | .agg l => (awVals l).map fun l => .agg l.toArray | .tup _ => none

/-- a condition that is not known -/
abbrev brA {α : Type} (b : Bool) (x y : α) : α := match b with | true => x | false => y
/-- the same, in what is printed -/
def br {α : Type} (b : Bool) (x y : α) : α := match b with | true => x | false => y
noncomputable def ck {α : Type} (p : Prop) [d : Decidable p] (x : Option α) : Option α := Decidable.rec (motive := fun _ : Decidable p => Option α) (fun _ : p → False => none) (fun _ : p => x) d
theorem ck_yes {α : Type} {p : Prop} [d : Decidable p] (h : p) (x : Option α) : ck p x = x := by
  unfold ck
  cases d with
  | isFalse hn => exact absurd h hn
  | isTrue e => rfl

/- words of the printed functions -/
def w64 (x : Int) : Int := IntKind.i64.wrap x
def bAnd (k : IntKind) (x y : Int) : Int := k.wrap ((BitVec.ofInt k.bits x &&& BitVec.ofInt k.bits y).toNat : Int)
def bOr (k : IntKind) (x y : Int) : Int := k.wrap ((BitVec.ofInt k.bits x ||| BitVec.ofInt k.bits y).toNat : Int)
def bXor (k : IntKind) (x y : Int) : Int := k.wrap ((BitVec.ofInt k.bits x ^^^ BitVec.ofInt k.bits y).toNat : Int)
def bAndNot (k : IntKind) (x y : Int) : Int := k.wrap ((BitVec.ofInt k.bits x &&& ~~~ BitVec.ofInt k.bits y).toNat : Int)
def strEq (a b : ByteArray) : Bool := a.toList == b.toList
def ofBytes (l : List Int) : ByteArray := ⟨(l.map fun n => UInt8.ofNat n.toNat).toArray⟩
def sumK {X Y α : Type} (z : X ⊕ Y) (f : X → α) (g : Y → α) : α := match z with | .inl x => f x | .inr y => g y
/-- the cells of an element -/
def cellsW (o i : Nat) : (t : Ty) → t.den → List AW
  | .mats, _ => [.nest o i]
  | .i64, n => [.v (.int .i64 n)] | .u8, n => [.v (.int .u8 n)] | .bool, b => [.v (.bool b)] | .str, s => [.v (.string s)] | .mat, p => [.v (.int .i64 p.1), .v (.int .i64 p.2)]
def cellsC : (t : Ty) → t.den → List CW
  | .mats, l => [.s ⟨.mat, l⟩]
  | .i64, n => [.v (.int .i64 n)] | .u8, n => [.v (.int .u8 n)] | .bool, b => [.v (.bool b)] | .str, s => [.v (.string s)] | .mat, p => [.v (.int .i64 p.1), .v (.int .i64 p.2)]
def cRdW (s : List Nat) : CW → AW
  | .v x => cellAW x | .s l => if l.t.flat then .rd s l else .unk | .u => .unk
/-- an element out of plain cells -/
def ofCells : (t : Ty) → List AW → Option t.den
  | .i64, [.v (.int .i64 n)] => some n | .u8, [.v (.int .u8 n)] => some n | .bool, [.v (.bool b)] => some b | .str, [.v (.string s)] => some s
  | .mat, [.v (.int .i64 a), .v (.int .i64 b)] => some (a, b) | .mats, [.nil] => some [] | _, _ => none
/-- an element with one cell changed -/
def setCell : (t : Ty) → t.den → Nat → Value → Option t.den
  | .i64, _, 0, .int .i64 n => some n | .u8, _, 0, .int .u8 n => some n | .bool, _, 0, .bool b => some b | .str, _, 0, .string s => some s
  | .mat, p, 0, .int .i64 n => some (n, p.2) | .mat, p, 1, .int .i64 n => some (p.1, n) | _, _, _, _ => none

section
variable (P : Program) {β : Type}
/-- the kind of the elements of a slice type -/
def tyOf (e : TypeId) : Option Ty := match P.underlying (elemT P e) with
  | some (.int .i64) => some .i64 | some (.int .u8) => some .u8 | some .bool => some .bool | some .string => some .str
  | some (.slice _) => some .mats
  | some (.struct _) => match zeroCells P (elemT P e) with | some [.int .i64 0, .int .i64 0] => some .mat | _ => none
  | _ => none

/-- the zero value of an element -/
def zeroIs (ty : Ty) (e : TypeId) : Bool := match ty, zeroCells P e with
  | .i64, some [.int .i64 0] => true | .u8, some [.int .u8 0] => true | .bool, some [.bool false] => true | .str, some [.string s] => s.data.isEmpty
  | .mat, some [.int .i64 0, .int .i64 0] => true | .mats, some [.slice none 0 0] => true | _, _ => false
/-- the elements of a slice -/
noncomputable def Wt.data (A : Wt) (a : AW) (K : TL → Option β) : Option β := match a with
  | .rd _ l => K l
  | .own o => match look o A.ob with | some (.f l) => K l | _ => none
  | .nest o i => match look o A.ob with
    | some (.f ⟨.mats, ll⟩) => ck (i < ll.length) (K ⟨.mat, ll.getD i []⟩)
    | _ => none
  | _ => none
def srcsW : AW → List Nat
  | .rd s _ => s | .own o => [o] | .nest o _ => [o] | _ => []

def AW.sure : AW → Bool
  | .unk => false | .v x => single x | _ => true
def partsW : TW → Option (List AW)
  | .c a => if a.sure then some [a] else none
  | .agg l => some l
  | .tup _ => none
def partsLW : List TW → Option (List (List AW))
  | [] => some []
  | x :: l => match partsW x, partsLW l with | some a, some r => some (a :: r) | _, _ => none
def cellsTW (t : TypeId) (l : List AW) : Option TW := match P.underlying t with
  | none => none
  | some _ => if isAggT P t then some (.agg l) else match l with | [a] => some (.c a) | _ => none

/-- the cells of a variable of n cells at an address -/
noncomputable def Wt.at (A : Wt) (n : Nat) (a : AW) (K : List AW → Option β) : Option β := match a with
  | .box b off => match look b A.bx with
    | some (.cells x) => match sub? x off n with | some l => K l | none => none
    | _ => none
  | .boxi b i => match look b A.bx with
    | some (.arr l) => if n = 1 then ck (i < l.length) (K [.v (.bool (l.getD i false))]) else none
    | _ => none
  | .adr o i off => match look o A.ob with
    | some (.f l) => ck (i < l.l.length) (match sub? (cellsW o i l.t (l.at i)) off n with | some l => K l | none => none)
    | _ => none
  | .adn o i j off => match look o A.ob with
    | some (.f ⟨.mats, ll⟩) => ck (i < ll.length ∧ j < (ll.getD i []).length) (match sub? (cellsW 0 0 .mat ((ll.getD i []).getD j (0, 0))) off n with | some l => K l | none => none)
    | _ => none
  | .rad s c => match sub? c 0 n with | some l => K (l.map (cRdW s)) | none => none
  | _ => none

/-- a store -/
noncomputable def Wt.store (A : Wt) (a : AW) (xs : List AW) (K : Wt → Option β) : Option β := match a with
  | .box b off => match look b A.bx with
    | some (.cells x) => if off + xs.length ≤ x.length then K { A with bx := put b (.cells (splice x off xs)) A.bx } else none
    | _ => none
  | .boxi b i => match look b A.bx, xs with
    | some (.arr l), [.v (.bool v)] => ck (i < l.length) (K { A with bx := put b (.arr (l.set i v)) A.bx })
    | _, _ => none
  | .adr o i off => match look o A.ob with
    | some (.f ⟨t, l⟩) => match xs with
      | [.v y] => match setCell t (l.getD i t.dflt) off y with
        | some z => ck (i < l.length) (K { A.map (killNestW o i) with ob := put o (.f ⟨t, l.set i z⟩) A.ob })
        | none => none
      | [.nil] => match t, l with
        | .mats, l => if off = 0 then ck (i < l.length) (K { A.map (killNestW o i) with ob := put o (.f ⟨.mats, l.set i []⟩) A.ob }) else none
        | _, _ => none
      | [.nest p j] => match t with
        | .mats => if p = o ∧ off = 0 then ck (j = i ∧ i < l.length) (K A) else none
        | _ => none
      | [.own q] => match t, l, look q A.ob with
        | .mats, l, some (.f ⟨.mat, z⟩) => if q ≠ o ∧ off = 0 then ck (i < l.length) (K { (A.kill q).map (killNestW o i) with ob := put o (.f ⟨.mats, l.set i z⟩) (A.kill q).ob }) else none
        | _, _, _ => none
      | xs => match ofCells t xs with
        | some z => if off = 0 then ck (i < l.length) (K { A.map (killNestW o i) with ob := put o (.f ⟨t, l.set i z⟩) A.ob }) else none
        | none => none
    | some (.h l k) => match xs with
      | [.own q] => match look q A.ob with
        | some (.f ⟨.mat, z⟩) => if q ≠ o ∧ off = 0 then ck (i = k ∧ i < l.length) (K { (A.kill q).map (killNestW o i) with ob := put o (.f ⟨.mats, l.set i z⟩) (A.kill q).ob }) else none
        | _ => none
      | _ => none
    | none => none
  | .adn o i j off => match look o A.ob, xs with
    | some (.f ⟨.mats, ll⟩), [.v y] => match setCell .mat ((ll.getD i []).getD j (0, 0)) off y with
      | some z => ck (i < ll.length ∧ j < (ll.getD i []).length) (K { A.map (staleWO o) with ob := put o (.f ⟨.mats, ll.set i ((ll.getD i []).set j z)⟩) A.ob })
      | none => none
    | _, _ => none
  | _ => none

def fillAW (place : Nat → Option (Nat × Nat)) : List AW → List (Nat × List AW) → Option (List AW)
  | cells, [] => some cells
  | cells, (i, v) :: rest => match place i with
    | none => none
    | some (off, size) => if v.length = size ∧ off + v.length ≤ cells.length then fillAW place (splice cells off v) rest else none

noncomputable def natK (x : TW) (K : Nat → Option β) : Option β := match x with
  | .c (.v (.int _ n)) => ck (0 ≤ n) (K n.toNat)
  | _ => none
noncomputable def boundK (A : Wt) (d : Nat) (x : Option Operand) (K : Nat → Option β) : Option β := match x with
  | none => K d
  | some x => natK (A.ev x) K

def allPlain (A : Wt) : List Operand → Bool
  | [] => true
  | x :: l => (twVal (A.ev x)).isSome && allPlain A l
/-- an operation upon plain values, as the model does it -/
def modelW (A : Wt) (o : Oper) (K : Wt → Option β) : Option β :=
  if allPlain A o.op.operands.toList && noSelect o.op then
    match asPure P (execOp (fun x => (twVal (A.ev x)).getD undef) o) with
    | some (.value v) => if flat v then K (A.dst o.dst (valTW v)) else none
    | _ => none
  else none

def rowOfCells (t : Ty) : List (List AW) → Option (List t.den)
  | [] => some []
  | l :: r => match ofCells t l, rowOfCells t r with | some x, some y => some (x :: y) | _, _ => none
def smallP (n : Nat) (e : TypeId) : Prop := n * P.bytesOf (elemT P e) ≤ 140737488355328 ∧ n ≤ 9223372036854775807
instance (n : Nat) (e : TypeId) : Decidable (smallP P n e) := inferInstanceAs (Decidable (_ ∧ _))

/-- element i of object p becomes an object by itself; a hole is left -/
noncomputable def Wt.extract (A : Wt) (p i m : Nat) (K : Wt → Option β) : Option β := if p = m then none else match look p A.ob with
  | some (.f ⟨.mats, ll⟩) => ck (i < ll.length) (K (Wt.newOb m (.f ⟨.mat, ll.getD i []⟩) { A.map (killNestW p i) with ob := put p (.h ll i) A.ob }))
  | _ => none

/-- an append to object p; the whole is object m -/
noncomputable def appendOwnW (A : Wt) (m p : Nat) (e : TypeId) (b : AW) (K : Wt → Option β) : Option β := match look p A.ob with
  | some (.f l) => if l.t.sz = elemSz P e ∧ goodT P e then
      match l.t.flat, b with
      | false, .own q => match look q A.ob with
        | some (.f r) => if h : r.t = l.t then (match h ▸ r.l with | [x] => if p = q then none else ck (smallP P (l.l.length + 1) e) (K (((A.kill q).kill p).newOb m (.f ⟨l.t, l.l ++ [x]⟩))) | _ => none) else none
        | _ => none
      | true, .nil => ck (smallP P (l.l.length + 0) e) (K ((A.kill p).newOb m (.f ⟨l.t, l.l ++ []⟩)))
      | true, b => if (srcsW b).contains p then none else A.data b fun r => if h : r.t = l.t then ck (smallP P (l.l.length + r.l.length) e) (K ((A.kill p).newOb m (.f ⟨l.t, l.l ++ (h ▸ r.l)⟩))) else none
      | _, _ => none
    else none
  | _ => none
noncomputable def appendNilW (A : Wt) (m : Nat) (e : TypeId) (b : AW) (K : Wt → Option β) : Option β :=
  if goodT P e then A.data b fun r => if r.t.sz = elemSz P e ∧ r.t.flat then ck (smallP P r.l.length e) (K (A.newOb m (.f r))) else none else none
noncomputable def appendW (A : Wt) (o : Oper) (t : Nat) (c : Call) (K : Wt → Option β) : Option β := match c.args.toList, c.argTypes.toList with
  | [x, y], [e, e'] => if e = e' then
      (match A.ev x, A.ev y with
      | .c .nil, .c b => appendNilW P A (nm t 0) e b fun A => K (A.dst o.dst (.c (.own (nm t 0))))
      | .c (.own p), .c b => appendOwnW P A (nm t 0) p e b fun A => K (A.dst o.dst (.c (.own (nm t 0))))
      | .c (.nest p i), _ => A.extract p i (nm t 1) fun A => (match A.ev y with
          | .c b => appendOwnW P A (nm t 0) (nm t 1) e b fun A => K (A.dst o.dst (.c (.own (nm t 0))))
          | _ => none)
      | _, _ => none)
    else none
  | _, _ => none
noncomputable def cutOwnW (A : Wt) (m p : Nat) (e : TypeId) (lo hi : Option Operand) (K : Wt → Option β) : Option β := match look p A.ob with
  | some (.f b) => if b.t.sz = elemSz P e ∧ goodT P e then boundK A 0 lo fun l => boundK A b.l.length hi fun r => ck (l ≤ r ∧ r ≤ b.l.length) (K ((A.kill p).newOb m (.f ⟨b.t, cut b.l l r⟩))) else none
  | _ => none
noncomputable def cutRdW (A : Wt) (e : TypeId) (v : AW) (lo hi : Option Operand) (K : AW → Option β) : Option β :=
  if goodT P e then A.data v fun b => if b.t.sz = elemSz P e then boundK A 0 lo fun l => boundK A b.l.length hi fun r => ck (l ≤ r ∧ r ≤ b.l.length) (K (.rd (srcsW v) ⟨b.t, cut b.l l r⟩)) else none else none
noncomputable def lenW (A : Wt) (o : Oper) (c : Call) (K : Wt → Option β) : Option β := match c.args.toList, c.argTypes.toList with
  | [x], [e] => match A.ev x with
    | .c (.v _) => modelW P A o K
    | .c .nil => if isSliceT P e then K (A.dst o.dst (.c (.v (.int .i64 0)))) else none
    | .c a => if isSliceT P e then A.data a fun l => K (A.dst o.dst (.c (.v (.int .i64 l.l.length)))) else none
    | _ => none
  | _, _ => none
noncomputable def lendW (A : Wt) : List (List AW) → (List (List (Int × Int)) → List Nat → Option β) → Option β
  | [], K => K [] []
  | l :: r, K => match l with
    | [a] => A.data a fun x => (match x with | ⟨.mat, l⟩ => lendW A r fun xs ss => K (l :: xs) (srcsW a ++ ss) | _ => none)
    | _ => none

/-- a string's byte -/
def byteAt (s : ByteArray) (i : Nat) : Int := ((s.data.toList.getD i 0).toNat : Int)
/-- structs of numbers -/
def intCells : List AW → Option (List Int)
  | [] => some []
  | .v (.int .i64 n) :: l => (intCells l).map (n :: ·)
  | _ :: _ => none
def eqInts : List Int → List Int → Bool
  | [], [] => true
  | [a], [b] => a == b
  | a :: l, b :: r => (a == b) && eqInts l r
  | _, _ => false
def intStruct (e : TypeId) (n : Nat) : Bool := match P.underlying e with
  | some (.struct fs) => fs.toList.map (·.offset) == List.range n && fs.toList.all (fun f => !(f.name == "_") && (match P.underlying f.type with | some (.int .i64) => true | _ => false) && (match P.info? f.type with | some i => i.size == 1 | none => false)) && !(P.stoodInHeld e) && !(P.eqGuardType P.depth e)
  | _ => false
/-- operations with conditions of their own -/
noncomputable def plainW (A : Wt) (o : Oper) (K : Wt → Option β) : Option β := match o.op with
  | .binOp op e x y _ => match A.ev x, A.ev y with
    | .c (.v (.int k a)), .c (.v (.int k' b)) => match op with
      | .quo => if k = k' then ck (b ≠ 0) (K (A.dst o.dst (.c (.v (.int k (k.wrap (a.tdiv b))))))) else none
      | .rem => if k = k' then ck (b ≠ 0) (K (A.dst o.dst (.c (.v (.int k (a.tmod b)))))) else none
      | .shl => ck (0 ≤ b) (K (A.dst o.dst (.c (.v (.int k (k.wrap (a * 2 ^ (min b.toNat k.bits))))))))
      | .shr => ck (0 ≤ b) (K (A.dst o.dst (.c (.v (.int k (a.fdiv (2 ^ (min b.toNat k.bits))))))))
      | _ => modelW P A o K
    | .c (.v (.string a)), .c (.v (.string b)) => match op with
      | .add => ck (((a.size + b.size : Nat) : Int) ≤ IntKind.i64.max) (K (A.dst o.dst (.c (.v (.string (a ++ b))))))
      | _ => modelW P A o K
    | .agg a, .agg b => match intCells a, intCells b with
      | some m, some n => if m.length = n.length ∧ intStruct P e m.length then (match op with
        | .eql => K (A.dst o.dst (.c (.v (.bool (eqInts m n)))))
        | .neq => K (A.dst o.dst (.c (.v (.bool (!eqInts m n)))))
        | _ => none) else none
      | _, _ => none
    | _, _ => modelW P A o K
  | .index e x ix => match A.ev x, A.ev ix with
    | .c (.v (.string s)), .c (.v (.int k i)) => match P.underlying e with
      | some .string => ck (0 ≤ i ∧ i.toNat < s.size) (K (A.dst o.dst (.c (.v (.int .u8 (byteAt s i.toNat))))))
      | _ => none
    | _, _ => none
  | .slice e x lo hi none => match A.ev x with
    | .c (.v (.string s)) => match P.underlying e with
      | some .string => boundK A 0 lo fun l => boundK A s.size hi fun h => ck (l ≤ h ∧ h ≤ s.size) (K (A.dst o.dst (.c (.v (.string (s.extract l h))))))
      | _ => none
    | _ => none
  | _ => modelW P A o K

def nilOk (n : Nat) (a : AW) (l : List AW) : Bool := match l, a with | [.nil], .adr _ _ _ => n == 2 | _, _ => true
/-- an operation that is no call of a Go function -/
noncomputable def aopW (h : Hint) (A : Wt) (o : Oper) (K : Wt → Option β) : Option β :=
  let t := o.dst.getD 0
  match o.op with
  | .move x => K (A.dst o.dst (A.ev x))
  | .assign x => K (A.dst o.dst (A.ev x))
  | .pick c a b => match A.ev c with
    | .c (.v (.bool u)) => brA u (K (A.dst o.dst (A.ev a))) (K (A.dst o.dst (A.ev b)))
    | _ => none
  | .alloc e => match o.dst, zeroCells P e with
    | some t, some z => match P.underlying e with
      | some (.array _ _) => if z.all (fun v => match v with | .bool false => true | _ => false) then K ((A.newBox t (.arr (List.replicate z.length false))).dst (some t) (.c (.box t 0))) else none
      | _ => K ((A.newBox t (.cells (z.map cellAW))).dst (some t) (.c (.box t 0)))
    | _, _ => none
  | .box _ x => match o.dst, partsW (A.ev x) with
    | some t, some l => K ((A.newBox t (.cells (l.map (killWB t)))).dst (some t) (.c (.box t 0)))
    | _, _ => none
  | .build e ps => match placesOf P e, zeroCells P e, partsLW (ps.toList.map fun p => A.ev p.2) with
    | some pl, some z, some l => match fillAW (pl[·]?) (z.map cellAW) ((ps.toList.map (·.1)).zip l) with
      | some cs => K (A.dst o.dst (.agg cs))
      | none => none
    | _, _, _ => none
  | .buildSlice e n ps => if ps.toList.map (·.1) = List.range n ∧ n * elemSz P e ≤ 16777216 ∧ goodT P e then
      match partsLW (ps.toList.map fun p => A.ev p.2) with
      | some l => if l.all (fun r => r.length == elemSz P e) then
          match tyOf P e with
          | some ty => if ty.sz = elemSz P e ∧ (ty = .mats → elemSz P (elemT P e) = 2) then
            (if h.lend.contains t then (match ty with
              | .mats => lendW A l fun cs ss => K (A.dst o.dst (.c (.rd ss ⟨.mats, cs⟩)))
              | _ => none)
            else match l with
              | [[.own q]] => (match ty, look q A.ob with
                | .mats, some (.f ⟨.mat, b⟩) => K (((A.kill q).newOb (nm t 0) (.f ⟨.mats, [b]⟩)).dst o.dst (.c (.own (nm t 0))))
                | _, _ => none)
              | l => match rowOfCells ty l with
                | some xs => K ((A.newOb (nm t 0) (.f ⟨ty, xs⟩)).dst o.dst (.c (.own (nm t 0))))
                | none => none) else none
          | none => none
        else none
      | none => none
    else none
  | .load e a => match A.ev a with
    | .c a => if P.cellsOf e = 0 then none else A.at (P.cellsOf e) a fun l => (match cellsTW P e l with
      | some x => K (A.dst o.dst x)
      | none => none)
    | _ => none
  | .store e a x => match A.ev a, partsW (A.ev x) with
    | .c a, some l => if l.length = P.cellsOf e ∧ P.cellsOf e ≠ 0 ∧ nilOk (elemSz P e) a l = true then A.store a l fun A => K (A.dst o.dst (.c .unk)) else none
    | _, _ => none
  | .nilCheck x => match A.ev x with
    | .c (.box b f) => K (A.dst o.dst (.c (.box b f)))
    | .c (.rad s c) => K (A.dst o.dst (.c (.rad s c)))
    | _ => none
  | .fieldAddr e x f => match A.ev x, fieldOf P e f with
    | .c (.box b off), some k => K (A.dst o.dst (.c (.box b (off + k))))
    | .c (.adr p i off), some k => K (A.dst o.dst (.c (.adr p i (off + k))))
    | .c (.adn p i j off), some k => K (A.dst o.dst (.c (.adn p i j (off + k))))
    | .c (.rad s c), some k => K (A.dst o.dst (.c (.rad s (c.drop k))))
    | _, _ => none
  | .indexAddr e x ix => match A.ev x with
    | .c (.own p) => match look p A.ob with
      | some (.f b) => if b.t.sz = elemSz P e ∧ isSliceT P e then natK (A.ev ix) fun i => ck (i < b.l.length) (K (A.dst o.dst (.c (.adr p i 0)))) else none
      | some (.h l k) => if 1 = elemSz P e ∧ isSliceT P e then natK (A.ev ix) fun i => ck (i < l.length) (K (A.dst o.dst (.c (.adr p i 0)))) else none
      | none => none
    | .c (.nest p k) => match look p A.ob with
      | some (.f ⟨.mats, ll⟩) => if 2 = elemSz P e ∧ isSliceT P e then natK (A.ev ix) fun i => ck (k < ll.length ∧ i < (ll.getD k []).length) (K (A.dst o.dst (.c (.adn p k i 0)))) else none
      | _ => none
    | .c (.rd s l) => if l.t.sz = elemSz P e ∧ isSliceT P e then natK (A.ev ix) fun i => ck (i < l.l.length) (K (A.dst o.dst (.c (.rad s (cellsC l.t (l.at i)))))) else none
    | .c (.box b off) => match look b A.bx with
      | some (.arr l) => (match P.underlying e with
        | some (.array n el) => if off = 0 ∧ 2 ≤ n ∧ P.cellsOf el = 1 then natK (A.ev ix) fun i => ck (i < n) (K (A.dst o.dst (.c (.boxi b i)))) else none
        | _ => none)
      | _ => none
    | _ => none
  | .slice e x lo hi none => match A.ev x with
    | .c (.v _) => plainW P A o K
    | .c (.own p) => if h.take.contains t then cutOwnW P A (nm t 0) p e lo hi fun A => K (A.dst o.dst (.c (.own (nm t 0))))
        else cutRdW P A e (.own p) lo hi fun x => K (A.dst o.dst (.c x))
    | .c (.nest p i) => if h.take.contains t then A.extract p i (nm t 1) fun A => cutOwnW P A (nm t 0) (nm t 1) e lo hi fun A => K (A.dst o.dst (.c (.own (nm t 0))))
        else cutRdW P A e (.nest p i) lo hi fun x => K (A.dst o.dst (.c x))
    | .c v => cutRdW P A e v lo hi fun x => K (A.dst o.dst (.c x))
    | _ => none
  | .makeSlice e l c => match tyOf P e with
    | some ty => if ty.sz = elemSz P e ∧ (ty = .mats → elemSz P (elemT P e) = 2) ∧ goodT P e ∧ zeroIs P ty (elemT P e) then natK (A.ev l) fun n => natK (A.ev c) fun m => ck (n = m ∧ smallP P n e) (K ((A.newOb (nm t 0) (.f ⟨ty, List.replicate n ty.dflt⟩)).dst o.dst (.c (.own (nm t 0))))) else none
    | none => none
  | .makeFunc fn first caps => match fn with
    | .func f => if first.size = 0 then (match caps.toList.mapM fun x => (match A.ev x with | .c (.box b 0) => some b | _ => none) with
      | some l => K (A.dst o.dst (.c (.fn f l)))
      | none => none) else none
    | _ => none
  | .extract x i => match A.ev x with
    | .tup l => match l[i]? with
      | some (true, l) => K (A.dst o.dst (.agg l))
      | some (false, [a]) => K (A.dst o.dst (.c a))
      | _ => none
    | _ => none
  | .convert e d x => match A.ev x with
    | .c (.v _) => plainW P A o K
    | .c .nil => none
    | .c a => match P.underlying e, P.underlying d with
      | some (.slice el), some .string => match P.underlying el with
        | some (.int .u8) => A.data a fun l => (match l with
          | ⟨.u8, bs⟩ => K (A.dst o.dst (.c (.v (.string ⟨(bs.map fun n => UInt8.ofNat n.toNat).toArray⟩))))
          | _ => none)
        | _ => none
      | _, _ => none
    | _ => none
  | .call c => match c.callee with
    | .builtin b => match b with
      | .append => appendW P A o t c K
      | .len => lenW P A o c K
      | _ => plainW P A o K
    | _ => none
  | _ => plainW P A o K
end
end Go.Tree
namespace Go.Tree
set_option linter.unusedVariables false
set_option linter.unusedSimpArgs false
set_option linter.constructorNameAsVariable false

theorem enc_v (x : Value) : (AW.v x).enc = .v x := rfl
theorem enc_nil : (AW.nil).enc = .nil := rfl
theorem enc_rd (s : List Nat) (l : TL) : (AW.rd s l).enc = .rd s l.sl := rfl
theorem enc_own (o : Nat) : (AW.own o).enc = .own o := rfl
theorem enc_nest (o i : Nat) : (AW.nest o i).enc = .nest o i := rfl
theorem enc_box (b k : Nat) : (AW.box b k).enc = .box b k := rfl
theorem enc_boxi (b k : Nat) : (AW.boxi b k).enc = .box b k := rfl
theorem enc_adr (o i k : Nat) : (AW.adr o i k).enc = .adr o i k := rfl
theorem enc_adn (o i j k : Nat) : (AW.adn o i j k).enc = .adn o i j k := rfl
theorem enc_rad (s : List Nat) (c : List CW) : (AW.rad s c).enc = .rad s (c.map CW.enc) := rfl
theorem enc_fn (f : FuncId) (l : List Nat) : (AW.fn f l).enc = .fn f l := rfl
theorem enc_fnr (f : FuncId) (l : List (List CW)) : (AW.fnr f l).enc = .fnr f (l.map fun c => c.map CW.enc) := rfl
theorem enc_obs (a : AW) : a.enc.obs = a.obs := by cases a <;> rfl
theorem enc_reads (a : AW) : a.enc.reads = a.reads := by cases a <;> rfl
theorem enc_bxs (a : AW) : a.enc.bxs = a.bxs := by cases a <;> rfl
theorem enc_nests (a : AW) (o i : Nat) : a.enc.nests o i = a.nests o i := by cases a <;> rfl
theorem killW_enc {p : AW → Bool} {q : AV → Bool} (h : ∀ a, q a.enc = p a) (a : AW) : (killW p a).enc = killIf q a.enc := by
  unfold killW killIf
  rw [h]
  split <;> rfl
theorem killWO_enc (o : Nat) (a : AW) : (killWO o a).enc = killAV o a.enc := killW_enc (fun a => by rw [enc_obs]) a
theorem staleWO_enc (o : Nat) (a : AW) : (staleWO o a).enc = staleAV o a.enc := killW_enc (fun a => by rw [enc_reads]) a
theorem killWB_enc (o : Nat) (a : AW) : (killWB o a).enc = killBox o a.enc := killW_enc (fun a => by rw [enc_bxs]) a
theorem killNestW_enc (o i : Nat) (a : AW) : (killNestW o i a).enc = killNest o i a.enc := killW_enc (fun a => by rw [enc_reads, enc_nests]) a

section
variable {α β γ : Type} {f : α → β}
theorem look_encL (n : Nat) : ∀ l : List (Nat × α), look n (encL f l) = (look n l).map f
  | [] => rfl
  | (m, a) :: l => by simp only [encL, List.map_cons, look]; split <;> simp [← look_encL n l, encL]
theorem put_encL (n : Nat) (x : α) : ∀ l : List (Nat × α), encL f (put n x l) = put n (f x) (encL f l)
  | [] => rfl
  | (m, a) :: l => by
    simp only [put, encL, List.map_cons]
    split
    · simp
    · simp only [List.map_cons]; exact congrArg (_ :: ·) (put_encL n x l)
theorem drop_encL (n : Nat) : ∀ l : List (Nat × α), encL f (drop n l) = drop n (encL f l)
  | [] => rfl
  | (m, a) :: l => by
    simp only [drop, encL, List.map_cons]
    split
    · exact drop_encL n l
    · simp only [List.map_cons]; exact congrArg (_ :: ·) (drop_encL n l)
theorem encL_encL {g : β → γ} (l : List (Nat × α)) : encL g (encL f l) = encL (fun x => g (f x)) l := by simp [encL]
theorem encL_congr {g : α → β} (h : ∀ x, f x = g x) (l : List (Nat × α)) : encL f l = encL g l := by simp [encL, h]
end

/-- a map of values that goes along -/
structure Goes (f : AW → AW) (g : AV → AV) : Prop where
  enc : ∀ a, (f a).enc = g a.enc
  v : ∀ x, g (.v x) = .v x
theorem goes_kill {p : AW → Bool} {q : AV → Bool} (h : ∀ a, q a.enc = p a) (hv : ∀ x, q (.v x) = false) : Goes (killW p) (killIf q) := ⟨killW_enc h, fun x => by simp [killIf, hv]⟩
theorem goesO (o : Nat) : Goes (killWO o) (killAV o) := goes_kill (fun a => by rw [enc_obs]) fun x => by simp [AV.obs]
theorem goesS (o : Nat) : Goes (staleWO o) (staleAV o) := goes_kill (fun a => by rw [enc_reads]) fun x => by simp [AV.reads]
theorem goesB (o : Nat) : Goes (killWB o) (killBox o) := goes_kill (fun a => by rw [enc_bxs]) fun x => by simp [AV.bxs]
theorem goesN (o i : Nat) : Goes (killNestW o i) (killNest o i) := goes_kill (fun a => by rw [enc_reads, enc_nests]) fun x => by simp [AV.reads, AV.nests]

section
variable {f : AW → AW} {g : AV → AV}
theorem TW.map_enc (h : Goes f g) (x : TW) : (x.map f).enc = x.enc.map g := by
  cases x <;> simp [TW.map, TW.enc, TV.map, h.enc]
theorem BW.map_enc (h : Goes f g) (x : BW) : (x.map f).enc = x.enc.map g := by
  cases x <;> simp [BW.map, BW.enc, h.enc, h.v]
theorem tm_enc (h : Goes f g) (l : List (Nat × TW)) : encL TW.enc (encL (TW.map f) l) = mapTm g (encL TW.enc l) := by
  simp [encL, mapTm, TW.map_enc h]
theorem bx_enc (h : Goes f g) (l : List (Nat × BW)) : encL BW.enc (encL (BW.map f) l) = mapBx g (encL BW.enc l) := by
  simp [encL, mapBx, BW.map_enc h]
theorem Wt.map_enc (h : Goes f g) (A : Wt) : (A.map f).enc = A.enc.map g := by
  simp only [Wt.map, Wt.enc, St.map, tm_enc h, bx_enc h]
end
theorem Wt.kill_enc (o : Nat) (A : Wt) : (A.kill o).enc = A.enc.kill o := by
  have := Wt.map_enc (goesO o) A
  simp only [Wt.kill, St.kill, Wt.enc, drop_encL] at *
  rw [← this]
theorem Wt.dst_enc (A : Wt) (d : Option Nat) (x : TW) : (A.dst d x).enc = A.enc.dst d x.enc := by
  cases d <;> simp [Wt.dst, St.dst, Wt.enc, put_encL]
theorem Wt.newOb_enc (n : Nat) (x : OW) (A : Wt) : (A.newOb n x).enc = A.enc.newOb n x.enc := by
  have := A.kill_enc n
  simp only [Wt.newOb, St.newOb, ← this]; rfl
theorem Wt.newBox_enc (n : Nat) (x : BW) (A : Wt) : (A.newBox n x).enc = A.enc.newBox n x.enc := by
  have := Wt.map_enc (goesB n) A
  simp only [Wt.newBox, St.newBox, ← this, ← bx_enc (goesB n), show A.enc.bx = encL BW.enc A.bx from rfl]
  simp only [Wt.enc, Wt.map, ← drop_encL]
  rfl
theorem Wt.get_enc (A : Wt) (t : Nat) : (A.get t).enc = A.enc.get t := by
  simp only [Wt.get, St.get, Wt.enc, look_encL]
  cases look t A.tm <;> rfl
theorem cellAW_enc (x : Value) : (cellAW x).enc = cellAV x := by
  unfold cellAW cellAV
  split
  · rfl
  · split
    · rename_i h; exact absurd rfl h
    · rfl
theorem valTW_enc (x : Value) : (valTW x).enc = valTV x := by
  unfold valTW valTV
  split <;> simp [TW.enc, cellAW_enc]; rfl
theorem Wt.ev_enc (A : Wt) (x : Operand) : (A.ev x).enc = A.enc.ev x := by
  cases x with
  | tmp t => exact A.get_enc t
  | const v => simp only [Wt.ev, St.ev]; split; exact valTW_enc v; rfl
  | global g => rfl
  | func f => simp [Wt.ev, St.ev, TW.enc, AW.enc]
theorem awVal_enc (a : AW) : avVal a.enc = awVal a := by cases a <;> rfl
theorem awVals_enc : ∀ l : List AW, avVals (l.map AW.enc) = awVals l
  | [] => rfl
  | a :: l => by
    simp only [List.map_cons, avVals, awVals, awVal_enc, awVals_enc l]
    cases awVal a <;> cases awVals l <;> rfl
theorem twVal_enc (x : TW) : tvVal x.enc = twVal x := by
  cases x <;> simp [TW.enc, tvVal, twVal, awVal_enc, awVals_enc]
theorem sure_enc (a : AW) : a.enc.sure = a.sure := by cases a <;> rfl
theorem partsW_enc (x : TW) : parts x.enc = (partsW x).map fun l => l.map AW.enc := by
  cases x with
  | c a => simp only [TW.enc, parts, partsW, sure_enc]; split <;> simp
  | agg l => simp [TW.enc, parts, partsW]
  | tup l => simp [TW.enc, parts, partsW]
theorem partsLW_enc : ∀ l : List TW, partsL (l.map TW.enc) = (partsLW l).map fun l => l.map fun l => l.map AW.enc
  | [] => rfl
  | x :: l => by
    simp only [List.map_cons, partsL, partsLW, partsW_enc, partsLW_enc l]
    cases partsW x <;> cases partsLW l <;> simp
theorem obEnc {A : Wt} {o : Nat} {x : OW} (h : look o A.ob = some x) : look o A.enc.ob = some x.enc := by
  simp [Wt.enc, look_encL, h]
theorem bxEnc {A : Wt} {o : Nat} {x : BW} (h : look o A.bx = some x) : look o A.enc.bx = some x.enc := by
  simp [Wt.enc, look_encL, h]

theorem ck_some {α : Type} {p : Prop} [d : Decidable p] {x : Option α} {r : α} (h : ck p x = some r) : p ∧ x = some r := by
  unfold ck at h
  cases d with
  | isFalse hn => cases h
  | isTrue e => exact ⟨e, h⟩
theorem br_some {α : Type} {b : Bool} {x y : Option α} {r : α} (h : brA b x y = some r) : (b = true ∧ x = some r) ∨ (b = false ∧ y = some r) := by
  cases b <;> simp_all [brA]

theorem TL.len (x : TL) : x.sl.d.length = x.l.length := by simp [TL.sl]
theorem getD_at (x : TL) {i : Nat} (h : i < x.l.length) : x.l[i]? = some (x.at i) := by
  simp [TL.at, List.getD_eq_getElem?_getD, h]
theorem TL.get (x : TL) {i : Nat} (h : i < x.l.length) : x.sl.d[i]? = some (x.t.enc (x.at i)) := by
  simp [TL.sl, getD_at x h]
theorem flat_enc {t : Ty} (h : t.flat = true) (x : t.den) : t.enc x = (t.row x).map .v := by cases t <;> first | rfl | cases h
theorem lower1_v : ∀ r : Row, lower1 (r.map .v) = some r
  | [] => rfl
  | a :: l => by simp [lower1, lower1_v l]
theorem lower_lift : ∀ rows : List Row, lower (rows.map fun r => r.map .v) = some rows
  | [] => rfl
  | a :: l => by simp [lower, lower1_v, lower_lift l]
theorem TL.lower (x : TL) (h : x.t.flat = true) : Tree.lower x.sl.d = some x.rows := by
  have : x.sl.d = x.rows.map fun r => r.map C.v := by
    simp only [TL.sl, TL.rows, List.map_map]
    exact List.map_congr_left fun a _ => flat_enc h a
  rw [this]
  exact lower_lift _
theorem TL.lift (x : TL) (h : x.t.flat = true) : Tree.lift x.rows = x.sl.d := by
  simp only [TL.sl, TL.rows, Tree.lift, List.map_map]
  exact List.map_congr_left fun a _ => (flat_enc h a).symm
theorem mats_lower {x : List (Int × Int)} {l : List (List (Int × Int))} : Tree.lower ((x :: l).map (Ty.enc .mats)) = none := by
  simp [Ty.enc, Tree.lower, lower1]
theorem enc_len (t : Ty) (x : t.den) : (t.enc x).length = t.sz := by cases t <;> rfl
theorem sz_pos (t : Ty) : 0 < t.sz := by cases t <;> decide

section
variable {A : Wt} {β : Type} {r : β}
theorem data_enc {a : AW} {K : TL → Option β} (h : A.data a K = some r) : ∃ l, A.enc.data a.enc = some l.sl ∧ K l = some r := by
  unfold Wt.data at h
  split at h
  · exact ⟨_, rfl, h⟩
  · rename_i o
    split at h
    · rename_i l hl; exact ⟨l, obEnc hl, h⟩
    · cases h
  · rename_i o i
    split at h
    · rename_i ll hl
      obtain ⟨h1, h2⟩ := ck_some h
      refine ⟨_, ?_, h2⟩
      have h3 : (TL.sl ⟨.mats, ll⟩).d[i]? = some (Ty.enc .mats (ll.getD i [])) := TL.get ⟨.mats, ll⟩ h1
      simp only [AW.enc, St.data, obEnc hl, OW.enc, h3, Ty.enc]
      exact congrArg some (congrArg (Sl.mk 2) (TL.lift ⟨.mat, ll.getD i []⟩ rfl))
    · cases h
  · cases h
theorem srcs_enc (a : AW) : srcs a.enc = srcsW a := by cases a <;> rfl
theorem sub_map {α γ : Type} (f : α → γ) (l : List α) (off n : Nat) : sub? (l.map f) off n = (sub? l off n).map fun l => l.map f := by
  simp only [sub?, List.length_map]; split <;> simp [List.map_drop, List.map_take]
theorem cellsW_enc (o i : Nat) (t : Ty) (x : t.den) : (cellsW o i t x).map AW.enc = (t.enc x).map (cAV o i) := by cases t <;> rfl
theorem cellsC_enc (t : Ty) (x : t.den) : (cellsC t x).map CW.enc = t.enc x := by cases t <;> rfl
theorem cRdW_enc (s : List Nat) (c : CW) : (cRdW s c).enc = cRd s c.enc := by
  cases c with
  | v x => exact cellAW_enc x
  | s l =>
    simp only [cRdW, CW.enc]
    split
    · rename_i h; simp only [AW.enc, cRd]; rw [TL.lift l h]; rfl
    · rfl
  | u => rfl
end
end Go.Tree
namespace Go.Tree
set_option linter.unusedVariables false
set_option linter.unusedSimpArgs false
set_option linter.constructorNameAsVariable false

section
variable {P : Program} {A : Wt} {β : Type} {r : β}
theorem at_enc {n : Nat} {a : AW} {K : List AW → Option β} (h : A.at n a K = some r) : ∃ l, A.enc.at n a.enc = some (l.map AW.enc) ∧ K l = some r := by
  unfold Wt.at at h
  split at h
  · rename_i b off
    split at h
    · rename_i x hx
      split at h
      · rename_i l hl
        exact ⟨l, by simp [AW.enc, St.at, bxEnc hx, BW.enc, sub_map, hl], h⟩
      · cases h
    · cases h
  · rename_i b i
    split at h
    · rename_i l hl
      split at h
      · rename_i hn
        subst hn
        obtain ⟨h1, h2⟩ := ck_some h
        refine ⟨_, ?_, h2⟩
        simp only [AW.enc, St.at, bxEnc hl, BW.enc, sub?, List.length_map]
        rw [if_pos (by omega), List.map_drop.symm, List.map_take.symm]
        have : (l.drop i).take 1 = [l.getD i false] := by
          rw [List.drop_eq_getElem_cons h1, List.take_succ_cons, List.take_zero]
          simp [h1]
        rw [this]; rfl
      · cases h
    · cases h
  · rename_i o i off
    split at h
    · rename_i l hl
      obtain ⟨h1, h2⟩ := ck_some h
      split at h2
      · rename_i l' hl'
        refine ⟨l', ?_, h2⟩
        have h3 := l.get h1
        simp only [AW.enc, St.at, obEnc hl, OW.enc, h3]
        rw [← sub_map, ← cellsW_enc, sub_map, hl']; rfl
      · cases h2
    · cases h
  · rename_i o i j off
    split at h
    · rename_i ll hl
      obtain ⟨⟨h1, h1'⟩, h2⟩ := ck_some h
      split at h2
      · rename_i l' hl'
        refine ⟨l', ?_, h2⟩
        have h3 : (TL.sl ⟨.mats, ll⟩).d[i]? = some (Ty.enc .mats (ll.getD i [])) := TL.get ⟨.mats, ll⟩ h1
        have h4 : (List.map (Ty.row .mat) (ll.getD i []))[j]? = some (Ty.row .mat ((ll.getD i []).getD j (0, 0))) := by
          rw [List.getElem?_map, List.getD_eq_getElem?_getD (l := ll.getD i []), List.getElem?_eq_getElem h1']; rfl
        simp only [AW.enc, St.at, obEnc hl, OW.enc, h3, Ty.enc, h4]
        have h5 : (cellsW 0 0 .mat ((ll.getD i []).getD j (0, 0))).map AW.enc = (Ty.row .mat ((ll.getD i []).getD j (0, 0))).map cellAV := rfl
        rw [← sub_map, ← h5, sub_map, hl']; rfl
      · cases h2
    · cases h
  · rename_i s c
    split at h
    · rename_i l hl
      refine ⟨_, ?_, h⟩
      simp only [AW.enc, St.at, sub_map, hl, Option.map_some, List.map_map]
      exact congrArg some (List.map_congr_left fun c _ => (cRdW_enc s c).symm)
    · cases h
  · cases h

theorem splice_map {α γ : Type} (f : α → γ) (l : List α) (off : Nat) (xs : List α) : (splice l off xs).map f = splice (l.map f) off (xs.map f) := by
  simp [splice, List.map_take, List.map_drop]
theorem put_ob (A : Wt) (o : Nat) (x : OW) : ({ A with ob := put o x A.ob } : Wt).enc = { A.enc with ob := put o x.enc A.enc.ob } := by
  simp [Wt.enc, put_encL]
theorem put_bx (A : Wt) (o : Nat) (x : BW) : ({ A with bx := put o x A.bx } : Wt).enc = { A.enc with bx := put o x.enc A.enc.bx } := by
  simp [Wt.enc, put_encL]
theorem setCell_enc {t : Ty} {x z : t.den} {off : Nat} {y : Value} (h : setCell t x off y = some z) : off < (t.enc x).length ∧ single y = true ∧ (t.enc x).set off (.v y) = t.enc z := by
  unfold setCell at h
  split at h <;> first | (cases h; simp [Ty.enc, Ty.row, single]) | cases h
theorem set_map {t : Ty} (l : List t.den) (i : Nat) (z : t.den) : (l.set i z).map t.enc = (l.map t.enc).set i (t.enc z) := by rw [List.map_set]
theorem tl_set {t : Ty} (l : List t.den) (i : Nat) (z : t.den) : (TL.sl ⟨t, l.set i z⟩) = ⟨(TL.sl ⟨t, l⟩).sz, (TL.sl ⟨t, l⟩).d.set i (t.enc z)⟩ := by
  simp only [TL.sl, List.map_set]

theorem store_enc {n : Nat} {a : AW} {xs : List AW} {K : Wt → Option β} (hn : nilOk n a xs = true) (h : A.store a xs K = some r) : ∃ A', A.enc.store n a.enc (xs.map AW.enc) = some A'.enc ∧ K A' = some r := by
  unfold Wt.store at h
  split at h
  · rename_i b off
    split at h
    · rename_i x hx
      split at h
      · rename_i hle
        refine ⟨_, ?_, h⟩
        simp only [AW.enc, St.store, bxEnc hx, BW.enc, List.length_map, hle, if_true, put_bx, splice_map]
      · cases h
    · cases h
  · rename_i b i
    split at h
    · rename_i l v hl
      obtain ⟨h1, h2⟩ := ck_some h
      refine ⟨_, ?_, h2⟩
      simp only [AW.enc, St.store, bxEnc hl, BW.enc, List.length_map, List.map_cons, List.map_nil, List.length_cons, List.length_nil, put_bx]
      rw [if_pos (by omega)]
      congr 3
      simp only [splice, List.length_cons, List.length_nil, List.map_set]
      rw [List.set_eq_take_append_cons_drop, if_pos (by simpa using h1)]
      simp
    · cases h
  · rename_i o i off
    split at h
    · rename_i t l hl
      have hsl : look o A.enc.ob = some (TL.sl ⟨t, l⟩) := obEnc hl
      split at h
      · rename_i y
        split at h
        · rename_i z hz
          obtain ⟨h1, h2⟩ := ck_some h
          refine ⟨_, ?_, h2⟩
          obtain ⟨e1, e2, e3⟩ := setCell_enc hz
          have h3 : (TL.sl ⟨t, l⟩).d[i]? = some (t.enc (l.getD i t.dflt)) := TL.get ⟨t, l⟩ h1
          simp only [AW.enc, St.store, List.map_cons, List.map_nil, hsl, h3]
          rw [if_pos ⟨e1, e2⟩, put_ob { A.map (killNestW o i) with ob := A.ob }, e3, ← tl_set]
          congr 1
          have := Wt.map_enc (goesN o i) A
          simp only [Wt.enc] at this ⊢
          simp only [← this, OW.enc]
          try rfl
        · cases h
      · split at h
        · rename_i l2
          split at h
          · rename_i hoff
            obtain ⟨h1, h2⟩ := ck_some h
            refine ⟨_, ?_, h2⟩
            have hn2 : n = 2 := by simpa [nilOk] using hn
            subst hn2
            simp only [AW.enc, St.store, List.map_cons, List.map_nil, hsl]
            rw [if_pos ⟨rfl, by simpa [TL.sl] using h1, hoff⟩, put_ob { A.map (killNestW o i) with ob := A.ob }]
            congr 1
            have := Wt.map_enc (goesN o i) A
            simp only [Wt.enc] at this ⊢
            simp only [← this, OW.enc, show (TL.sl ⟨.mats, l2.set i []⟩) = _ from tl_set (t := .mats) l2 i []]
            rfl
          · cases h
        · cases h
      · rename_i p j
        split at h
        · rename_i l2
          split at h
          · rename_i hc
            obtain ⟨h1, h2⟩ := ck_some h
            refine ⟨A, ?_, h2⟩
            have h3 : (TL.sl ⟨.mats, l2⟩).d[i]? = some (Ty.enc .mats (l2.getD i [])) := TL.get ⟨.mats, l2⟩ h1.2
            simp only [AW.enc, St.store, List.map_cons, List.map_nil, hsl, h3, Ty.enc]
            rw [if_pos ⟨hc.1, h1.1, hc.2⟩]
          · cases h
        · cases h
      · rename_i q
        split at h
        · rename_i l2 z hq
          split at h
          · rename_i hc
            obtain ⟨h1, h2⟩ := ck_some h
            refine ⟨_, ?_, h2⟩
            have hqe : look q A.enc.ob = some (TL.sl ⟨.mat, z⟩) := obEnc hq
            simp only [AW.enc, St.store, List.map_cons, List.map_nil, hsl, hqe, TL.lower ⟨.mat, z⟩ rfl]
            rw [if_neg hc.1, if_pos ⟨rfl, by simpa [TL.sl] using h1, hc.2⟩, put_ob { (A.kill q).map (killNestW o i) with ob := (A.kill q).ob }]
            congr 1
            rw [← A.kill_enc q]
            have := Wt.map_enc (goesN o i) (A.kill q)
            simp only [Wt.enc] at this ⊢
            simp only [← this, OW.enc, show (TL.sl ⟨.mats, l2.set i z⟩) = _ from tl_set (t := .mats) l2 i z]
            rfl
          · cases h
        · cases h
      · rename_i hn1 hn2 hn3 hn4
        split at h
        · rename_i z hz
          split at h
          · rename_i hoff
            obtain ⟨h1, h2⟩ := ck_some h
            refine ⟨_, ?_, h2⟩
            unfold ofCells at hz
            split at hz <;> first | exact absurd rfl (hn1 _) | exact absurd rfl hn2 | skip
            · rename_i a b _
              cases hz
              have h3 : (TL.sl ⟨.mat, l⟩).d[i]? = some (Ty.enc .mat (l.getD i (0, 0))) := TL.get ⟨.mat, l⟩ h1
              simp only [AW.enc, St.store, List.map_cons, List.map_nil, hsl, vVals, single, if_true, Option.map_some, h3]
              rw [if_pos ⟨hoff, rfl, by simp⟩, put_ob { A.map (killNestW o i) with ob := A.ob }]
              congr 1
              have := Wt.map_enc (goesN o i) A
              simp only [Wt.enc] at this ⊢
              simp only [← this, OW.enc, show (TL.sl ⟨.mat, l.set i (a, b)⟩) = _ from tl_set (t := .mat) l i (a, b)]
              rfl
            · cases hz
          · cases h
        · cases h
    · rename_i l k hl
      have hsl : look o A.enc.ob = some ⟨1, (l.map (Ty.enc .mats)).set k [.x]⟩ := obEnc hl
      split at h
      · rename_i q
        split at h
        · rename_i z hq
          split at h
          · rename_i hc
            obtain ⟨⟨rfl, h1⟩, h2⟩ := ck_some h
            refine ⟨_, ?_, h2⟩
            have hqe : look q A.enc.ob = some (TL.sl ⟨.mat, z⟩) := obEnc hq
            simp only [AW.enc, St.store, List.map_cons, List.map_nil, hsl, hqe, TL.lower ⟨.mat, z⟩ rfl]
            rw [if_neg hc.1, if_pos ⟨trivial, by simpa using h1, hc.2⟩, put_ob { (A.kill q).map (killNestW o i) with ob := (A.kill q).ob }]
            congr 1
            rw [← A.kill_enc q]
            have := Wt.map_enc (goesN o i) (A.kill q)
            simp only [Wt.enc] at this ⊢
            simp only [← this, OW.enc, List.set_set, show (TL.sl ⟨.mats, l.set i z⟩) = _ from tl_set (t := .mats) l i z]
            rfl
          · cases h
        · cases h
      · cases h
    · cases h
  · rename_i o i j off
    split at h
    · rename_i ll y hl
      have hsl : look o A.enc.ob = some (TL.sl ⟨.mats, ll⟩) := obEnc hl
      split at h
      · rename_i z hz
        obtain ⟨⟨h1, h1'⟩, h2⟩ := ck_some h
        refine ⟨_, ?_, h2⟩
        obtain ⟨e1, e2, e3⟩ := setCell_enc hz
        have h3 : (TL.sl ⟨.mats, ll⟩).d[i]? = some (Ty.enc .mats (ll.getD i [])) := TL.get ⟨.mats, ll⟩ h1
        have h4 : (List.map (Ty.row .mat) (ll.getD i []))[j]? = some (Ty.row .mat ((ll.getD i []).getD j (0, 0))) := by
          rw [List.getElem?_map, List.getD_eq_getElem?_getD (l := ll.getD i []), List.getElem?_eq_getElem h1']; rfl
        simp only [AW.enc, St.store, List.map_cons, List.map_nil, hsl, h3, Ty.enc, h4]
        have e4 : (Ty.row .mat ((ll.getD i []).getD j (0, 0))).set off y = Ty.row .mat z := by
          have h5 : ((Ty.row .mat ((ll.getD i []).getD j (0, 0))).map C.v).set off (C.v y) = (Ty.row .mat z).map C.v := e3
          rw [← List.map_set] at h5
          exact (List.map_inj_right (fun _ _ h => by cases h; rfl)).1 h5
        rw [if_pos ⟨e1, e2⟩, put_ob { A.map (staleWO o) with ob := A.ob }, e4]
        congr 1
        have := Wt.map_enc (goesS o) A
        simp only [Wt.enc] at this ⊢
        simp only [St.stale, ← this, OW.enc, show (TL.sl ⟨.mats, ll.set i ((ll.getD i []).set j z)⟩) = _ from tl_set (t := .mats) ll i _, Ty.enc, List.map_set]
        try rfl
      · cases h
    · cases h
  · cases h
end
end Go.Tree
namespace Go.Tree
set_option linter.unusedVariables false
set_option linter.unusedSimpArgs false
set_option linter.constructorNameAsVariable false

section
variable {P : Program} {A : Wt} {β : Type} {r : β} {o : Oper}
theorem fillAW_enc {pl : Nat → Option (Nat × Nat)} : ∀ (ps : List (Nat × List AW)) (cells : List AW), fillAV pl (cells.map AW.enc) (ps.map fun p => (p.1, p.2.map AW.enc)) = (fillAW pl cells ps).map fun l => l.map AW.enc
  | [], cells => rfl
  | (i, v) :: ps, cells => by
    simp only [List.map_cons, fillAV, fillAW]
    cases pl i with
    | none => rfl
    | some q =>
      simp only [List.length_map]
      split
      · rw [← splice_map]; exact fillAW_enc ps _
      · rfl
theorem natK_enc {x : TW} {K : Nat → Option β} (h : natK x K = some r) : ∃ n, natOf x.enc = some n ∧ K n = some r := by
  unfold natK at h
  split at h
  · rename_i k n
    obtain ⟨h1, h2⟩ := ck_some h
    exact ⟨n.toNat, by simp [TW.enc, AW.enc, natOf, h1], h2⟩
  · cases h
theorem boundK_enc {d : Nat} {x : Option Operand} {K : Nat → Option β} (h : boundK A d x K = some r) : ∃ n, boundOf A.enc d x = some n ∧ K n = some r := by
  unfold boundK at h
  split at h
  · exact ⟨d, rfl, h⟩
  · rename_i x
    obtain ⟨n, h1, h2⟩ := natK_enc h
    exact ⟨n, by simp only [boundOf, ← A.ev_enc]; exact h1, h2⟩
theorem allPlain_enc : ∀ l : List Operand, valsOf A.enc l = allPlain A l
  | [] => rfl
  | x :: l => by simp only [valsOf, allPlain, ← A.ev_enc, twVal_enc, allPlain_enc l]
theorem modelW_enc {K : Wt → Option β} (h : modelW P A o K = some r) : ∃ A', plainOp P A.enc o = some A'.enc ∧ K A' = some r := by
  unfold modelW at h
  split at h
  · rename_i hv
    split at h
    · rename_i v hp
      split at h
      · rename_i hf
        refine ⟨_, ?_, h⟩
        unfold plainOp
        rw [allPlain_enc, if_pos hv]
        have : (fun x => (tvVal (A.enc.ev x)).getD undef) = fun x => (twVal (A.ev x)).getD undef := by
          funext x
          rw [← A.ev_enc, twVal_enc]
        rw [this, hp]
        simp only [hf, if_true, Wt.dst_enc, valTW_enc]
      · cases h
    · cases h
  · cases h

theorem ofCells_plain {t : Ty} {l : List AW} {x : t.den} (h : ofCells t l = some x) {n sz : Nat} (hs : sz = t.sz) (hn : t = .mats → n = 2) : plainRow n sz (l.map AW.enc) = some (t.enc x) := by
  unfold ofCells at h
  split at h <;> first | (cases h; simp [plainRow, AW.enc, avVals, avVal, single, Ty.enc, Ty.row]; done) | (cases h; have := hn rfl; subst this hs; rfl) | cases h
theorem rowOfCells_plain {t : Ty} {n sz : Nat} (hs : sz = t.sz) (hn : t = .mats → n = 2) : ∀ {l : List (List AW)} {xs : List t.den}, rowOfCells t l = some xs → plainRows n sz (l.map fun l => l.map AW.enc) = some (xs.map t.enc)
  | [], xs, h => by simp only [rowOfCells] at h; cases h; rfl
  | a :: l, xs, h => by
    simp only [rowOfCells] at h
    split at h
    · rename_i x ys h1 h2
      cases h
      simp only [List.map_cons, plainRows, ofCells_plain h1 hs hn, rowOfCells_plain hs hn h2]
    · cases h

theorem goodT_pos {e : TypeId} (h : goodT P e = true) : 0 < elemSz P e := by
  obtain ⟨_, i, z, _, _, _, h4, h5⟩ := goodT_elim h
  omega
theorem small_of {n : Nat} {e : TypeId} (h : smallP P n e) : small P n e = true := by
  unfold smallP at h
  simp [small, h]

theorem extract_enc {p i m : Nat} {K : Wt → Option β} (h : A.extract p i m K = some r) : ∃ A', A.enc.extract p i m = some A'.enc ∧ K A' = some r := by
  unfold Wt.extract at h
  split at h
  · cases h
  · rename_i hne
    split at h
    · rename_i ll hl
      obtain ⟨h1, h2⟩ := ck_some h
      refine ⟨_, ?_, h2⟩
      have h3 : (TL.sl ⟨.mats, ll⟩).d[i]? = some (Ty.enc .mats (ll.getD i [])) := TL.get ⟨.mats, ll⟩ h1
      simp only [St.extract, if_neg hne, obEnc hl, OW.enc, h3, Ty.enc, Wt.newOb_enc]
      have e1 := Wt.map_enc (goesN p i) A
      have e2 : (⟨2, lift ((ll.getD i []).map (Ty.row .mat))⟩ : Sl) = TL.sl ⟨.mat, ll.getD i []⟩ := congrArg (Sl.mk 2) (TL.lift ⟨.mat, ll.getD i []⟩ rfl)
      rw [put_ob { A.map (killNestW p i) with ob := A.ob }, e2]
      simp only [Wt.enc] at e1 ⊢
      simp only [← e1]
      rfl
    · cases h

theorem tl_append (t : Ty) (a b : List t.den) : (TL.sl ⟨t, a ++ b⟩) = ⟨t.sz, (TL.sl ⟨t, a⟩).d ++ (TL.sl ⟨t, b⟩).d⟩ := by simp [TL.sl]
theorem cast_sl {t : Ty} {x : TL} (h : x.t = t) : x.sl = (TL.sl ⟨t, h ▸ x.l⟩) ∧ x.l.length = (h ▸ x.l : List t.den).length := by subst h; exact ⟨rfl, rfl⟩

theorem appendOwnW_enc {m p : Nat} {e : TypeId} {b : AW} {K : Wt → Option β} (h : appendOwnW P A m p e b K = some r) : ∃ A', appendOwn P A.enc m p e b.enc = some A'.enc ∧ K A' = some r := by
  unfold appendOwnW at h
  split at h
  · rename_i l hl
    split at h
    · rename_i hc
      have hle : look p A.enc.ob = some l.sl := obEnc hl
      have hsz : l.sl.sz = elemSz P e := hc.1
      split at h
      · rename_i q hfl
        split at h
        · rename_i z hq
          split at h
          · rename_i ht
            split at h
            · rename_i x hx
              split at h
              · cases h
              · rename_i hpq
                obtain ⟨h1, h2⟩ := ck_some h
                refine ⟨_, ?_, h2⟩
                have hqe : look q A.enc.ob = some z.sl := obEnc hq
                obtain ⟨c1, c2⟩ := cast_sl ht
                rw [hx] at c1 c2
                obtain ⟨t, l⟩ := l
                have htm : t = .mats := by revert hfl; cases t <;> simp [Ty.flat]
                subst htm
                have hr : z.sl.d = [Ty.enc .mats x] := by rw [c1]; rfl
                have hlow : lower z.sl.d = none := by rw [hr]; rfl
                unfold appendOwn
                simp only [AW.enc, hle, St.data, hqe]
                rw [if_pos ⟨.inl hsz, .inl (by rw [c1]; exact hsz), by rw [hr]; simp only [TL.len, List.length_singleton]; exact small_of h1, hc.2⟩, hlow]
                simp only [if_neg hpq, Wt.newOb_enc, Wt.kill_enc]
                refine congrArg (fun x => some (St.newOb m x _)) ?_
                rw [hr, ← hsz]
                exact (tl_append .mats l [x]).symm
            · cases h
          · cases h
        · cases h
      · rename_i hfl
        obtain ⟨h1, h2⟩ := ck_some h
        refine ⟨_, ?_, h2⟩
        unfold appendOwn
        simp only [AW.enc, hle, St.data]
        rw [if_pos ⟨.inl hsz, .inr rfl, by simp only [TL.len, List.length_nil]; exact small_of h1, hc.2⟩]
        simp only [lower, srcs, List.contains_nil, Bool.false_eq_true, if_false, Wt.newOb_enc, Wt.kill_enc]
        refine congrArg (fun x => some (St.newOb m x _)) ?_
        rw [← hsz]
        simp [OW.enc, TL.sl]
      · rename_i hfl _
        split at h
        · cases h
        · rename_i hns
          obtain ⟨z, h1, h2⟩ := data_enc h
          split at h2
          · rename_i ht
            obtain ⟨h3, h4⟩ := ck_some h2
            refine ⟨_, ?_, h4⟩
            obtain ⟨c1, c2⟩ := cast_sl ht
            unfold appendOwn
            simp only [hle, h1]
            rw [if_pos ⟨.inl hsz, .inl (by show z.t.sz = _; rw [ht]; exact hsz), by simp only [TL.len]; exact small_of h3, hc.2⟩, TL.lower z (by rw [ht]; exact hfl)]
            simp only [srcs_enc, if_neg hns, Wt.newOb_enc, Wt.kill_enc]
            refine congrArg (fun x => some (St.newOb m x _)) ?_
            rw [c1, ← hsz]
            exact (tl_append l.t l.l _).symm
          · cases h2
      · cases h
    · cases h
  · cases h
theorem appendNilW_enc {m : Nat} {e : TypeId} {b : AW} {K : Wt → Option β} (h : appendNilW P A m e b K = some r) : ∃ A', appendNil P A.enc m e b.enc = some A'.enc ∧ K A' = some r := by
  unfold appendNilW at h
  split at h
  · rename_i hg
    obtain ⟨z, h1, h2⟩ := data_enc h
    split at h2
    · rename_i hc
      obtain ⟨h3, h4⟩ := ck_some h2
      refine ⟨_, ?_, h4⟩
      unfold appendNil
      simp only [h1]
      rw [if_pos ⟨.inl hc.1, by rw [TL.len]; exact small_of h3, hg⟩, TL.lower z hc.2]
      simp only [Wt.newOb_enc]
      refine congrArg (fun x => some (St.newOb m x _)) ?_
      rw [← hc.1]; rfl
    · cases h2
  · cases h
theorem ev_c_enc {x : Operand} {a : AW} (h : A.ev x = .c a) : A.enc.ev x = .c a.enc := by rw [← A.ev_enc, h]; rfl
theorem dstc_enc (B : Wt) (d : Option Nat) (a : AW) : (B.dst d (.c a)).enc = B.enc.dst d (.c a.enc) := B.dst_enc d _

theorem appendW_enc {t : Nat} {c : Call} {K : Wt → Option β} (h : appendW P A o t c K = some r) : ∃ A', appendOp P A.enc o t c = some A'.enc ∧ K A' = some r := by
  unfold appendW at h
  split at h
  · rename_i x y e e' ha hts
    split at h
    · rename_i he
      unfold appendOp
      rw [ha, hts]
      dsimp only
      rw [if_pos he]
      split at h
      · rename_i b hx hy
        obtain ⟨B, h1, h2⟩ := appendNilW_enc h
        refine ⟨_, ?_, h2⟩
        simp only [ev_c_enc hx, ev_c_enc hy, enc_nil, enc_own, h1, dstc_enc]
      · rename_i p b hx hy
        obtain ⟨B, h1, h2⟩ := appendOwnW_enc h
        refine ⟨_, ?_, h2⟩
        simp only [ev_c_enc hx, ev_c_enc hy, enc_nil, enc_own, h1, dstc_enc]
      · rename_i _ p i hx
        obtain ⟨B, h1, h2⟩ := extract_enc h
        split at h2
        · rename_i b hy
          obtain ⟨C, h3, h4⟩ := appendOwnW_enc h2
          refine ⟨_, ?_, h4⟩
          simp only [ev_c_enc hx, enc_nest, enc_own, h1, ev_c_enc hy, h3, dstc_enc]
        · cases h2
      · cases h
    · cases h
  · cases h
theorem tl_cut (b : TL) (l r : Nat) : (TL.sl ⟨b.t, cut b.l l r⟩) = ⟨b.sl.sz, cut b.sl.d l r⟩ := by simp [TL.sl, cut, List.map_take, List.map_drop]
theorem cutOwnW_enc {m p : Nat} {e : TypeId} {lo hi : Option Operand} {K : Wt → Option β} (h : cutOwnW P A m p e lo hi K = some r) : ∃ A', cutOwn P A.enc m p e lo hi = some A'.enc ∧ K A' = some r := by
  unfold cutOwnW at h
  split at h
  · rename_i b hb
    split at h
    · rename_i hc
      obtain ⟨l, h1, h2⟩ := boundK_enc h
      obtain ⟨n, h3, h4⟩ := boundK_enc h2
      obtain ⟨h5, h6⟩ := ck_some h4
      refine ⟨_, ?_, h6⟩
      have hbe : look p A.enc.ob = some b.sl := obEnc hb
      unfold cutOwn
      simp only [hbe, h1, TL.len, h3]
      rw [if_pos ⟨h5.1, h5.2, hc.1, hc.2⟩, Wt.newOb_enc, Wt.kill_enc]
      simp only [OW.enc, tl_cut]
    · cases h
  · cases h
theorem cutRdW_enc {v : AW} {e : TypeId} {lo hi : Option Operand} {K : AW → Option β} (h : cutRdW P A e v lo hi K = some r) : ∃ x, cutRd P A.enc e v.enc lo hi = some x.enc ∧ K x = some r := by
  unfold cutRdW at h
  split at h
  · rename_i hg
    obtain ⟨b, h1, h2⟩ := data_enc h
    split at h2
    · rename_i hc
      obtain ⟨l, h3, h4⟩ := boundK_enc h2
      obtain ⟨n, h5, h6⟩ := boundK_enc h4
      obtain ⟨h7, h8⟩ := ck_some h6
      refine ⟨_, ?_, h8⟩
      unfold cutRd
      simp only [h1, h3, TL.len, h5]
      rw [if_pos ⟨h7.1, h7.2, .inl hc, hg⟩]
      simp only [enc_rd, tl_cut, srcs_enc]
    · cases h2
  · cases h
theorem lenW_enc {c : Call} {K : Wt → Option β} (h : lenW P A o c K = some r) : ∃ A', lenOp P A.enc o c = some A'.enc ∧ K A' = some r := by
  unfold lenW at h
  split at h
  · rename_i x e ha hts
    unfold lenOp
    rw [ha, hts]
    dsimp only
    split at h
    · rename_i v hx
      obtain ⟨B, h1, h2⟩ := modelW_enc h
      refine ⟨B, ?_, h2⟩
      simp only [ev_c_enc hx, enc_v, h1]
    · rename_i hx
      split at h
      · rename_i ht
        refine ⟨_, ?_, h⟩
        simp only [ev_c_enc hx, enc_nil, St.data, ht, List.length_nil, dstc_enc, enc_v]
        rfl
      · cases h
    · rename_i a hv hnil hx
      split at h
      · rename_i ht
        obtain ⟨l, h1, h2⟩ := data_enc h
        refine ⟨_, ?_, h2⟩
        rw [ev_c_enc hx]
        have key : ∀ y : AV, (∀ v, y ≠ .v v) → (match TV.c y with
            | .c (.v _) => plainOp P A.enc o
            | .c a => match A.enc.data a, isSliceT P e with
              | some l, true => some (A.enc.dst o.dst (.c (.v (.int .i64 l.d.length))))
              | _, _ => none
            | _ => none) = (match A.enc.data y, isSliceT P e with
              | some l, true => some (A.enc.dst o.dst (.c (.v (.int .i64 l.d.length))))
              | _, _ => none) := fun y hy => by cases y <;> first | rfl | exact absurd rfl (hy _)
        refine (key a.enc fun v e => by
          cases a with
          | v x => exact hv _ rfl
          | _ => cases e).trans ?_
        simp only [h1, ht, TL.len, dstc_enc, enc_v]
      · cases h
    · cases h
  · cases h
theorem lendW_enc : ∀ {l : List (List AW)} {K : List (List (Int × Int)) → List Nat → Option β}, lendW A l K = some r → ∃ xs ss, lendRows A.enc (l.map fun l => l.map AW.enc) = some (xs.map (Ty.enc .mats), ss) ∧ K xs ss = some r
  | [], K, h => ⟨[], [], rfl, h⟩
  | a :: l, K, h => by
    unfold lendW at h
    split at h
    · rename_i v
      obtain ⟨x, h1, h2⟩ := data_enc h
      split at h2
      · rename_i z
        obtain ⟨xs, ss, h3, h4⟩ := lendW_enc h2
        refine ⟨_, _, ?_, h4⟩
        simp only [List.map_cons, List.map_nil, lendRows, lendRow, h1, TL.lower ⟨.mat, z⟩ rfl, h3, srcs_enc]
        rfl
      · cases h2
    · cases h
end
end Go.Tree
namespace Go.Tree
set_option linter.unusedVariables false
set_option linter.unusedSimpArgs false
set_option linter.constructorNameAsVariable false

section
variable (P : Program)
theorem asPure_bindS {α β : Type} : ∀ (s : Sem α) (f : α → Sem β), asPure P (s.bind f) = (asPure P s).bind fun a => asPure P (f a)
  | .pure a, f => rfl
  | .program k, f => asPure_bindS (k P) f
  | .load .., f => rfl | .store .., f => rfl | .new .., f => rfl | .shape .., f => rfl | .freeze .., f => rfl | .frozen .., f => rfl
  | .getObj .., f => rfl | .setObj .., f => rfl | .choose .., f => rfl | .sys .., f => rfl | .mark .., f => rfl | .halt .., f => rfl
theorem asPure_bind {α β : Type} (s : Sem α) (f : α → Sem β) : asPure P (s >>= f) = (asPure P s).bind fun a => asPure P (f a) := asPure_bindS P s f
theorem asPure_pure {α : Type} (a : α) : asPure P (pure a : Sem α) = some a := rfl
theorem asPure_program : asPure P program = some P := rfl
theorem asPure_underlying {t : TypeId} {d : TypeDesc} (h : P.underlying t = some d) : asPure P (underlying t) = some d := by
  unfold underlying
  rw [asPure_bind]
  simp only [asPure_program, Option.bind_some, h]
  rfl
end

section
variable {P : Program} {A : Wt} {β : Type} {r : β} {o : Oper}
/-- an operation upon plain values -/
theorem plainOp_of {v : Value} (hv : ∀ x ∈ o.op.operands.toList, ∃ u, tvVal (A.enc.ev x) = some u) (hs : noSelect o.op = true) (hp : asPure P (execOp (fun x => (tvVal (A.enc.ev x)).getD undef) o) = some (.value v)) (hf : flat v = true) :
    plainOp P A.enc o = some (A.enc.dst o.dst (valTV v)) := by
  have all : ∀ l : List Operand, (∀ x ∈ l, ∃ u, tvVal (A.enc.ev x) = some u) → valsOf A.enc l = true := fun l => by
    induction l with
    | nil => intro _; rfl
    | cons a l ih =>
      intro h
      obtain ⟨u, hu⟩ := h a (by simp)
      simp only [valsOf, hu, Option.isSome_some, Bool.true_and]
      exact ih fun x hx => h x (by simp [hx])
  unfold plainOp
  rw [all _ hv, hs, hp]
  simp only [Bool.and_self, if_true, hf]
theorem binOp_eval {op : BinOp} {e e' : TypeId} {x y : Operand} {u u' : Value} (hop : o.op = .binOp op e x y e') (hx : A.ev x = .c (.v u)) (hy : A.ev y = .c (.v u')) {v : Value}
    (hp : asPure P (binOp op e u u') = some v) (hg : asPure P (eqGuard op e x y u u') = some ()) (hf : flat v = true) : plainOp P A.enc o = some (A.enc.dst o.dst (valTV v)) := by
  have hx' : tvVal (A.enc.ev x) = some u := by rw [ev_c_enc hx]; rfl
  have hy' : tvVal (A.enc.ev y) = some u' := by rw [ev_c_enc hy]; rfl
  refine plainOp_of (fun z hz => ?_) (by rw [hop]; rfl) ?_ hf
  · rw [hop] at hz
    simp only [Op.operands, List.mem_cons, List.not_mem_nil, or_false] at hz
    rcases hz with rfl | rfl
    · exact ⟨_, hx'⟩
    · exact ⟨_, hy'⟩
  · unfold execOp
    rw [hop]
    dsimp only
    simp only [hx', hy', Option.getD_some, asPure_bind, hg, hp, Option.bind_some, asPure_pure]
theorem noGuard {op : BinOp} {e : TypeId} {x y : Operand} {u u' : Value} (h : ∀ l m, ¬ (u = .agg l ∧ u' = .agg m)) (h2 : ¬ (u = .nilIface ∧ u' = .nilIface)) : asPure P (eqGuard op e x y u u') = some () := by
  unfold eqGuard
  cases u with
  | nilIface => cases u' with
    | nilIface => exact absurd ⟨rfl, rfl⟩ h2
    | _ => dsimp only; rw [ite_self]; rfl
  | agg l => cases u' with
    | agg m => exact absurd ⟨rfl, rfl⟩ (h _ _)
    | _ => dsimp only; rw [ite_self]; rfl
  | _ => dsimp only; rw [ite_self]; rfl

/- equality of structs of numbers -/
def Fits (P : Program) (xs ys : Array Value) : List Field → List Int → List Int → Prop
  | [], [], [] => True
  | f :: fl, a :: m, b :: n => f.name ≠ "_" ∧ P.underlying f.type = some (.int .i64) ∧ xs[f.offset]? = some (.int .i64 a) ∧ ys[f.offset]? = some (.int .i64 b) ∧ Fits P xs ys fl m n
  | _, _, _ => False
theorem part_int {t : TypeId} {xs : Array Value} {i : Nat} {n : Int} (hu : P.underlying t = some (.int .i64)) (hx : xs[i]? = some (.int .i64 n)) : asPure P (part t xs i) = some (.int .i64 n) := by
  unfold part isAgg
  simp only [asPure_bind, asPure_underlying P hu, Option.bind_some, asPure_pure, Bool.false_eq_true, if_false, hx]
theorem eqInts_cons (a b : Int) (m n : List Int) (h : m.length = n.length) : eqInts (a :: m) (b :: n) = ((a == b) && eqInts m n) := by
  cases m with
  | nil => cases n with
    | nil => simp [eqInts]
    | cons => simp at h
  | cons c m => cases n with
    | nil => simp at h
    | cons d n => rfl
theorem Fits.len {xs ys : Array Value} : ∀ {fl : List Field} {m n : List Int}, Fits P xs ys fl m n → m.length = n.length
  | [], [], [], _ => rfl
  | _ :: _, _ :: _, _ :: _, h => by simp [Fits.len h.2.2.2.2]
  | [], _ :: _, _, h => h.elim
  | [], [], _ :: _, h => h.elim
  | _ :: _, [], _, h => h.elim
  | _ :: _, _ :: _, [], h => h.elim
theorem eqLoop {d : Nat} {xs ys : Array Value} : ∀ {fl : List Field} {m n : List Int}, Fits P xs ys fl m n →
    asPure P (forIn fl ((none, ()) : Option Bool × Unit) fun f __s =>
      if f.name ≠ "_" then do
        let __do_lift ← part f.type xs f.offset
        let __do_lift_1 ← part f.type ys f.offset
        let __do_lift ← Op.equalIn (d + 1) f.type __do_lift __do_lift_1
        if (!__do_lift) = true then pure (ForInStep.done (some false, ())) else pure (ForInStep.yield (none, ()))
      else pure (ForInStep.yield (none, ()))) = some (if eqInts m n then (none, ()) else (some false, ()))
  | [], [], [], _ => rfl
  | f :: fl, a :: m, b :: n, h => by
    obtain ⟨h1, h2, h3, h4, h5⟩ := h
    have he : asPure P (Op.equalIn (d + 1) f.type (.int .i64 a) (.int .i64 b)) = some (a == b) := by
      unfold Op.equalIn
      rw [asPure_bind, asPure_underlying P h2]; rfl
    rw [List.forIn_cons, asPure_bind, if_pos h1]
    simp only [asPure_bind, part_int h2 h3, part_int h2 h4, Option.bind_some, he]
    rw [eqInts_cons a b m n h5.len]
    cases hab : (a == b)
    · simp [asPure_pure]
    · simp only [Bool.not_true, Bool.false_eq_true, if_false, asPure_pure, Option.bind_some, Bool.true_and]
      exact eqLoop h5
  | [], _ :: _, _, h => h.elim
  | [], [], _ :: _, h => h.elim
  | _ :: _, [], _, h => h.elim
  | _ :: _, _ :: _, [], h => h.elim
theorem eqStruct {e : TypeId} {xs ys : Array Value} {fs : Array Field} {m n : List Int} (hu : P.underlying e = some (.struct fs)) (hst : P.stoodInHeld e = false) (hf : Fits P xs ys fs.toList m n) :
    asPure P (Op.equal e (.agg xs) (.agg ys)) = some (eqInts m n) := by
  unfold Op.equal Op.maxDepth Op.equalIn
  rw [asPure_bind, asPure_underlying P hu]
  dsimp only [Option.bind_some]
  simp only [asPure_bind, asPure_program, Option.bind_some, hst, Bool.false_eq_true, if_false, ← Array.forIn_toList]
  have := eqLoop (d := 9998) hf
  rw [this]
  cases eqInts m n <;> rfl
theorem intCells_val : ∀ {a : List AW} {m : List Int}, intCells a = some m → awVals a = some (m.map fun n => .int .i64 n)
  | [], m, h => by simp only [intCells] at h; cases h; rfl
  | x :: a, m, h => by
    unfold intCells at h
    split at h
    · rename_i e; cases e
    · rename_i n l e
      cases e
      simp only [Option.map_eq_some_iff] at h
      obtain ⟨l', h1, rfl⟩ := h
      simp [awVals, awVal, intCells_val h1]
    · cases h
theorem intStruct_fits {e : TypeId} {m n : List Int} (hl : m.length = n.length) (h : intStruct P e m.length = true) : ∃ fs, P.underlying e = some (.struct fs) ∧ P.stoodInHeld e = false ∧ P.eqGuardType P.depth e = false ∧
    Fits P (m.map fun n => Value.int .i64 n).toArray (n.map fun n => Value.int .i64 n).toArray fs.toList m n := by
  unfold intStruct at h
  split at h
  · rename_i fs hu
    simp only [Bool.and_eq_true, Bool.not_eq_true', beq_iff_eq] at h
    obtain ⟨⟨⟨h1, h2⟩, h3⟩, h4⟩ := h
    refine ⟨fs, hu, h3, h4, ?_⟩
    have gen : ∀ (fl : List Field) (k : Nat) (m' n' : List Int), m'.length = n'.length → fl.map (·.offset) = (List.range m.length).drop k → (∀ f ∈ fl, f ∈ fs.toList) → m' = m.drop k → n' = n.drop k →
        Fits P (m.map fun n => Value.int .i64 n).toArray (n.map fun n => Value.int .i64 n).toArray fl m' n' := fun fl => by
      induction fl with
      | nil =>
        intro k m' n' hl' ho _ hm hn
        have h5 : m.length - k = 0 := by simpa using (congrArg List.length ho).symm
        have : m' = [] := by rw [hm]; exact List.drop_eq_nil_of_le (by omega)
        subst this
        have : n' = [] := by cases n' with | nil => rfl | cons => simp at hl'
        subst this
        trivial
      | cons f fl ih =>
        intro k m' n' hl' ho hmem hm hn
        have hk : k < m.length := by
          have := congrArg List.length ho
          simp at this
          omega
        rw [List.drop_eq_getElem_cons (by simpa using hk)] at ho
        simp only [List.map_cons, List.cons.injEq, List.getElem_range] at ho
        rw [List.drop_eq_getElem_cons hk] at hm
        rw [List.drop_eq_getElem_cons (hl ▸ hk)] at hn
        subst hm hn
        have h6 := List.all_eq_true.1 h2 f (hmem f (by simp))
        simp only [Bool.and_eq_true, Bool.not_eq_true', beq_eq_false_iff_ne] at h6
        obtain ⟨⟨h7, h8⟩, _⟩ := h6
        refine ⟨h7, ?_, ?_, ?_, ih (k + 1) _ _ (by simp; omega) ho.2 (fun f hf => hmem f (by simp [hf])) rfl rfl⟩
        · split at h8
          · rename_i hh; exact hh
          · cases h8
        · rw [ho.1]; simp [hk]
        · rw [ho.1]; simp [hl ▸ hk]
    exact gen fs.toList 0 m n hl (by simpa using h1) (fun f hf => hf) rfl rfl
  · cases h

theorem dstv_enc (B : Wt) (d : Option Nat) (v : Value) : (B.dst d (.c (.v v))).enc = B.enc.dst d (.c (.v v)) := B.dst_enc d _
theorem valTV_int (k : IntKind) (n : Int) : valTV (.int k n) = .c (.v (.int k n)) := rfl

theorem plainW_enc {K : Wt → Option β} (h : plainW P A o K = some r) : ∃ A', plainOp P A.enc o = some A'.enc ∧ K A' = some r := by
  unfold plainW at h
  split at h
  · rename_i op e x y e' hop
    split at h
    · rename_i k a k' b hx hy
      split at h
      · split at h
        · rename_i hk
          subst hk
          obtain ⟨h1, h2⟩ := ck_some h
          refine ⟨_, ?_, h2⟩
          rw [dstv_enc]
          refine binOp_eval hop hx hy (v := .int k (k.wrap (a.tdiv b))) ?_ (noGuard (fun l m h => by cases h.1) fun h => by cases h.1) rfl
          simp [binOp, Op.intDiv, h1, asPure]; rfl
        · cases h
      · split at h
        · rename_i hk
          subst hk
          obtain ⟨h1, h2⟩ := ck_some h
          refine ⟨_, ?_, h2⟩
          rw [dstv_enc]
          refine binOp_eval hop hx hy (v := .int k (a.tmod b)) ?_ (noGuard (fun l m h => by cases h.1) fun h => by cases h.1) rfl
          simp [binOp, Op.intDiv, h1, asPure]; rfl
        · cases h
      · obtain ⟨h1, h2⟩ := ck_some h
        refine ⟨_, ?_, h2⟩
        rw [dstv_enc]
        refine binOp_eval hop hx hy (v := .int k (k.wrap (a * 2 ^ (min b.toNat k.bits)))) ?_ (noGuard (fun l m h => by cases h.1) fun h => by cases h.1) rfl
        have : ¬ b < 0 := by omega
        simp [binOp, Op.shift, this, asPure]; rfl
      · obtain ⟨h1, h2⟩ := ck_some h
        refine ⟨_, ?_, h2⟩
        rw [dstv_enc]
        refine binOp_eval hop hx hy (v := .int k (a.fdiv (2 ^ (min b.toNat k.bits)))) ?_ (noGuard (fun l m h => by cases h.1) fun h => by cases h.1) rfl
        have : ¬ b < 0 := by omega
        simp [binOp, Op.shift, this, asPure]; rfl
      · exact modelW_enc h
    · rename_i a b hx hy
      split at h
      · obtain ⟨h1, h2⟩ := ck_some h
        refine ⟨_, ?_, h2⟩
        rw [dstv_enc]
        refine binOp_eval hop hx hy (v := .string (a ++ b)) ?_ (noGuard (fun l m h => by cases h.1) fun h => by cases h.1) rfl
        have : ¬ (((a.size + b.size : Nat) : Int) > IntKind.i64.max) := by omega
        simp only [binOp, Op.stringOp]
        rw [if_neg this]; rfl
      · exact modelW_enc h
    · rename_i a b hx hy
      split at h
      · rename_i m n hm hn
        split at h
        · rename_i hc
          obtain ⟨fs, hu, hst, hg, hf⟩ := intStruct_fits hc.1 hc.2
          have hx' : tvVal (A.enc.ev x) = some (.agg (m.map fun n => Value.int .i64 n).toArray) := by rw [← A.ev_enc, hx, twVal_enc]; simp [twVal, intCells_val hm]
          have hy' : tvVal (A.enc.ev y) = some (.agg (n.map fun n => Value.int .i64 n).toArray) := by rw [← A.ev_enc, hy, twVal_enc]; simp [twVal, intCells_val hn]
          have hgd : ∀ op, asPure P (eqGuard op e x y (.agg (m.map fun n => Value.int .i64 n).toArray) (.agg (n.map fun n => Value.int .i64 n).toArray)) = some () := fun op => by
            unfold eqGuard
            dsimp only
            cases op <;> simp [asPure_bind, asPure_program, asPure_pure, hg]
          have vals : ∀ z ∈ o.op.operands.toList, ∃ u, tvVal (A.enc.ev z) = some u := fun z hz => by
            rw [hop] at hz
            simp only [Op.operands, List.mem_cons, List.not_mem_nil, or_false] at hz
            rcases hz with rfl | rfl
            · exact ⟨_, hx'⟩
            · exact ⟨_, hy'⟩
          split at h
          · refine ⟨_, ?_, h⟩
            rw [dstv_enc]
            refine plainOp_of (v := .bool (eqInts m n)) vals (by rw [hop]; rfl) ?_ rfl
            unfold execOp
            rw [hop]
            dsimp only
            simp only [hx', hy', Option.getD_some, asPure_bind, hgd, binOp, eqStruct hu hst hf, Option.bind_some, asPure_pure]
          · refine ⟨_, ?_, h⟩
            rw [dstv_enc]
            refine plainOp_of (v := .bool (!eqInts m n)) vals (by rw [hop]; rfl) ?_ rfl
            unfold execOp
            rw [hop]
            dsimp only
            simp only [hx', hy', Option.getD_some, asPure_bind, hgd, binOp, eqStruct hu hst hf, Option.bind_some, asPure_pure]
          · cases h
        · cases h
      · cases h
    · exact modelW_enc h
  · rename_i e x ix hop
    split at h
    · rename_i s k i hx hi
      split at h
      · rename_i hu
        obtain ⟨⟨h0, h1⟩, h2⟩ := ck_some h
        refine ⟨_, ?_, h2⟩
        rw [dstv_enc]
        have hx' : tvVal (A.enc.ev x) = some (.string s) := by rw [ev_c_enc hx]; rfl
        have hy' : tvVal (A.enc.ev ix) = some (.int k i) := by rw [ev_c_enc hi]; rfl
        refine plainOp_of (v := .int .u8 (byteAt s i.toNat)) (fun z hz => ?_) (by rw [hop]; rfl) ?_ rfl
        · rw [hop] at hz
          simp only [Op.operands, List.mem_cons, List.not_mem_nil, or_false] at hz
          rcases hz with rfl | rfl
          · exact ⟨_, hx'⟩
          · exact ⟨_, hy'⟩
        · unfold execOp
          rw [hop]
          dsimp only
          have hb : s[i.toNat]? = some s[i.toNat] := by simp [h1]
          have he : (s[i.toNat].toNat : Int) = byteAt s i.toNat := by
            unfold byteAt
            rw [List.getD_eq_getElem?_getD, List.getElem?_eq_getElem (by simpa using h1)]; rfl
          simp only [hx', hy', Option.getD_some, asPure_bind, Instr.index, asIntOf, asPure_pure, Option.bind_some, asPure_underlying P hu, h0, if_true, hb, he]
      · cases h
    · cases h
  · rename_i e x lo hi hop
    split at h
    · rename_i s hx
      split at h
      · rename_i hu
        obtain ⟨l, h1, h2⟩ := boundK_enc h
        obtain ⟨m, h3, h4⟩ := boundK_enc h2
        obtain ⟨h5, h6⟩ := ck_some h4
        refine ⟨_, ?_, h6⟩
        rw [dstv_enc]
        have hx' : tvVal (A.enc.ev x) = some (.string s) := by rw [ev_c_enc hx]; rfl
        have bnd : ∀ {d n : Nat} {z : Option Operand}, boundOf A.enc d z = some n → (z = none ∧ n = d) ∨ ∃ y k, z = some y ∧ tvVal (A.enc.ev y) = some (.int k (n : Int)) := fun {d n z} hb => by
          cases z with
          | none => simp only [boundOf] at hb; exact .inl ⟨rfl, (Option.some.inj hb).symm⟩
          | some y =>
            refine .inr ⟨y, ?_⟩
            simp only [boundOf] at hb
            unfold natOf at hb
            split at hb
            · rename_i k q he
              split at hb
              · cases hb
                refine ⟨k, rfl, ?_⟩
                rw [he]
                simp only [tvVal, avVal]
                congr 2
                omega
              · cases hb
            · cases hb
        refine plainOp_of (v := .string (s.extract l m)) (fun z hz => ?_) (by rw [hop]; rfl) ?_ rfl
        · rw [hop] at hz
          simp only [Op.operands, Option.toArray_none, Array.append_empty, Array.toList_append, List.mem_append, List.mem_cons, List.not_mem_nil, or_false] at hz
          rcases hz with (rfl | hz) | hz
          · exact ⟨_, hx'⟩
          · rcases bnd h1 with ⟨rfl, _⟩ | ⟨y, k, rfl, hy⟩
            · simp at hz
            · simp at hz; subst hz; exact ⟨_, hy⟩
          · rcases bnd h3 with ⟨rfl, _⟩ | ⟨y, k, rfl, hy⟩
            · simp at hz
            · simp at hz; subst hz; exact ⟨_, hy⟩
        · unfold execOp
          rw [hop]
          dsimp only
          have core : ∀ (L H : Option Value), (L = none ∧ l = 0 ∨ ∃ k, L = some (.int k (l : Int))) → (H = none ∧ m = s.size ∨ ∃ k, H = some (.int k (m : Int))) →
              asPure P (Instr.slice e (.string s) L H none) = some (.string (s.extract l m)) := fun L H hL hH => by
            have c1 : (0 : Int) ≤ (m : Int) ∧ (m : Int) ≤ (s.size : Nat) := by omega
            have c2 : (0 : Int) ≤ (l : Int) ∧ (l : Int) ≤ (m : Nat) := by omega
            have c3 : (0 : Int) ≤ ((s.size : Nat) : Int) := by omega
            unfold Instr.slice
            rw [asPure_bind, asPure_underlying P hu]
            rcases hL with ⟨rfl, rfl⟩ | ⟨k, rfl⟩ <;> rcases hH with ⟨rfl, rfl⟩ | ⟨k', rfl⟩
            all_goals
              simp [asPure_bind, asPure_pure, Instr.sliceBounds, Instr.sliceBound, asIntOf, c1, c2, h5.1, h5.2]
              try rfl
          have hs2 : ∀ L H : Option Value, asPure P (Instr.sliceAt e (.string s) L H none) = asPure P (Instr.slice e (.string s) L H none) := fun L H => by
            unfold Instr.sliceAt
            rw [asPure_bind, asPure_underlying P hu]; rfl
          have hc := core (lo.map fun x => (tvVal (A.enc.ev x)).getD undef) (hi.map fun x => (tvVal (A.enc.ev x)).getD undef) ?_ ?_
          · simp only [hx', Option.getD_some, Option.map_none, asPure_bind, hs2, hc, Option.bind_some, asPure_pure]
          · rcases bnd h1 with ⟨rfl, hb⟩ | ⟨y, k, rfl, hy⟩
            · exact .inl ⟨rfl, hb⟩
            · exact .inr ⟨k, by simp [hy]⟩
          · rcases bnd h3 with ⟨rfl, hb⟩ | ⟨y, k, rfl, hy⟩
            · exact .inl ⟨rfl, hb⟩
            · exact .inr ⟨k, by simp [hy]⟩
      · cases h
    · cases h
  · exact modelW_enc h
end
end Go.Tree
namespace Go.Tree
set_option linter.unusedVariables false
set_option linter.unusedSimpArgs false
set_option linter.constructorNameAsVariable false

section
variable {P : Program} {A : Wt} {β : Type} {r : β} {o : Oper} {h : Hint} {K : Wt → Option β}

theorem tyOf_mats {e : TypeId} {ty : Ty} (h : tyOf P e = some ty) (hz : ∀ z, zeroCells P (elemT P e) = some z → goodT P e = true → z.map (zeroC (elemSz P e) (elemSz P (elemT P e))) = ty.enc ty.dflt) : True := trivial

theorem zero_enc {e : TypeId} {ty : Ty} {z : List Value} (h : tyOf P e = some ty) (hs : ty.sz = elemSz P e) (hm : ty = .mats → elemSz P (elemT P e) = 2) (hz : zeroCells P (elemT P e) = some z) (hg : zeroIs P ty (elemT P e) = true) :
    z.map (zeroC (elemSz P e) (elemSz P (elemT P e))) = ty.enc ty.dflt := by
  unfold zeroIs at hg
  rw [hz] at hg
  cases ty <;> split at hg <;> first | (cases hg; done) | skip
  all_goals first | (rename_i he _; cases he; done) | (rename_i he1 he2; cases he1; cases he2) | skip
  · rfl
  · rfl
  · rfl
  · rename_i s
    obtain ⟨d⟩ := s
    have : d = #[] := by simpa using hg
    subst this; rfl
  · rfl
  · have := hm rfl
    simp only [List.map_cons, List.map_nil, zeroC, ← hs, this, Ty.enc, Ty.dflt]
    rfl

theorem zeroIs_some {ty : Ty} {e : TypeId} (h : zeroIs P ty e = true) : ∃ z, zeroCells P e = some z := by
  unfold zeroIs at h
  cases hz : zeroCells P e with
  | none => rw [hz] at h; cases ty <;> cases h
  | some z => exact ⟨z, rfl⟩
theorem mapM_imp {α β : Type} {f g : α → Option β} (h : ∀ a b, f a = some b → g a = some b) : ∀ {l : List α} {r : List β}, l.mapM f = some r → l.mapM g = some r
  | [], r, e => by simpa using e
  | a :: l, r, e => by
    simp only [List.mapM_cons, Option.bind_eq_bind, Option.bind_eq_some_iff, Option.pure_def] at e ⊢
    obtain ⟨b, h1, c, h2, h3⟩ := e
    exact ⟨b, h _ _ h1, c, mapM_imp h h2, h3⟩
theorem aopW_sound (hr : aopW P h A o K = some r) : ∃ A', aop P h A.enc o = some A'.enc ∧ K A' = some r := by
  unfold aopW at hr
  dsimp only at hr
  split at hr
  · rename_i x hop
    exact ⟨_, by unfold aop; rw [hop]; dsimp only; rw [Wt.dst_enc, Wt.ev_enc], hr⟩
  · rename_i x hop
    exact ⟨_, by unfold aop; rw [hop]; dsimp only; rw [Wt.dst_enc, Wt.ev_enc], hr⟩
  · -- pick
    rename_i c x y hop
    split at hr
    · rename_i u hc
      rcases br_some hr with ⟨rfl, hr⟩ | ⟨rfl, hr⟩
      · exact ⟨_, by unfold aop; rw [hop]; dsimp only; rw [ev_c_enc hc]; simp only [enc_v, if_true, Wt.dst_enc, Wt.ev_enc], hr⟩
      · exact ⟨_, by unfold aop; rw [hop]; dsimp only; rw [ev_c_enc hc]; simp only [enc_v, Bool.false_eq_true, if_false, Wt.dst_enc, Wt.ev_enc], hr⟩
    · cases hr
  · -- alloc
    rename_i e hop
    split at hr
    · rename_i t z ht hz
      split at hr
      · split at hr
        · rename_i hall
          refine ⟨_, ?_, hr⟩
          unfold aop
          rw [hop]
          dsimp only
          rw [hz, ht]
          dsimp only
          rw [dstc_enc, Wt.newBox_enc]
          have : z.map cellAV = BW.enc (.arr (List.replicate z.length false)) := by
            have hz' : z = List.replicate z.length (.bool false) := by
              refine List.eq_replicate_iff.2 ⟨rfl, fun b hb => ?_⟩
              have := List.all_eq_true.1 hall b hb
              split at this
              · rfl
              · cases this
            rw [hz']
            simp [BW.enc, cellAV]
          rw [← this]; rfl
        · cases hr
      · refine ⟨_, ?_, hr⟩
        unfold aop
        rw [hop]
        dsimp only
        rw [hz, ht]
        dsimp only
        rw [dstc_enc, Wt.newBox_enc]
        have : z.map cellAV = BW.enc (.cells (z.map cellAW)) := by
          simp only [BW.enc, List.map_map]
          exact List.map_congr_left fun a _ => (cellAW_enc a).symm
        rw [← this]; rfl
    · cases hr
  · -- box
    rename_i e x hop
    split at hr
    · rename_i t l ht hl
      refine ⟨_, ?_, hr⟩
      unfold aop
      rw [hop]
      dsimp only
      have hp : parts (A.enc.ev x) = some (l.map AW.enc) := by rw [← A.ev_enc, partsW_enc, hl]; rfl
      rw [ht, hp]
      dsimp only
      rw [dstc_enc, Wt.newBox_enc]
      have : (l.map AW.enc).map (killBox t) = BW.enc (.cells (l.map (killWB t))) := by
        simp only [BW.enc, List.map_map]
        exact List.map_congr_left fun a _ => (killWB_enc t a).symm
      rw [← this]; rfl
    · cases hr
  · -- build
    rename_i e ps hop
    split at hr
    · rename_i pl z l h1 h2 h3
      split at hr
      · rename_i cs hcs
        refine ⟨_, ?_, hr⟩
        unfold aop
        rw [hop]
        dsimp only
        have hp : partsL (ps.toList.map fun p => A.enc.ev p.2) = some (l.map fun l => l.map AW.enc) := by
          have : (ps.toList.map fun p => A.enc.ev p.2) = (ps.toList.map fun p => A.ev p.2).map TW.enc := by
            rw [List.map_map]
            exact List.map_congr_left fun p _ => (A.ev_enc p.2).symm
          rw [this, partsLW_enc, h3]; rfl
        rw [h1, h2, hp]
        dsimp only
        have hz : z.map cellAV = (z.map cellAW).map AW.enc := by
          rw [List.map_map]
          exact List.map_congr_left fun a _ => (cellAW_enc a).symm
        have hzip : (ps.toList.map (·.1)).zip (l.map fun l => l.map AW.enc) = ((ps.toList.map (·.1)).zip l).map fun p => (p.1, p.2.map AW.enc) := by
          rw [List.zip_map_right]; rfl
        rw [hz, hzip, fillAW_enc, hcs]
        simp only [Option.map_some, Wt.dst_enc, TW.enc]
      · cases hr
    · cases hr
  · -- buildSlice
    rename_i e n ps hop
    split at hr
    · rename_i hc
      split at hr
      · rename_i l hl
        split at hr
        · rename_i hall
          split at hr
          · rename_i ty hty
            split at hr
            · rename_i hsz
              have hp : partsL (ps.toList.map fun p => A.enc.ev p.2) = some (l.map fun l => l.map AW.enc) := by
                have : (ps.toList.map fun p => A.enc.ev p.2) = (ps.toList.map fun p => A.ev p.2).map TW.enc := by
                  rw [List.map_map]
                  exact List.map_congr_left fun p _ => (A.ev_enc p.2).symm
                rw [this, partsLW_enc, hl]; rfl
              have hall' : (l.map fun l => l.map AW.enc).all (fun r => r.length == elemSz P e) = true := by
                simpa [List.all_map, Function.comp_def] using hall
              unfold aop
              rw [hop]
              dsimp only
              rw [if_pos hc, hp]
              dsimp only
              rw [if_pos hall']
              split at hr
              · rename_i hlend
                rw [if_pos hlend]
                split at hr
                · obtain ⟨xs, ss, k1, k2⟩ := lendW_enc hr
                  refine ⟨_, ?_, k2⟩
                  rw [k1]
                  dsimp only
                  rw [dstc_enc, enc_rd, ← hsz.1]; rfl
                · cases hr
              · rename_i hlend
                rw [if_neg hlend]
                split at hr
                · rename_i q
                  split at hr
                  · rename_i b hq
                    refine ⟨_, ?_, hr⟩
                    have hqe : look q A.enc.ob = some (TL.sl ⟨.mat, b⟩) := obEnc hq
                    simp only [List.map_cons, List.map_nil, enc_own, hqe, TL.lower ⟨.mat, b⟩ rfl]
                    rw [dstc_enc, enc_own, Wt.newOb_enc, Wt.kill_enc, ← hsz.1]; rfl
                  · cases hr
                · rename_i hne
                  split at hr
                  · rename_i xs hxs
                    refine ⟨_, ?_, hr⟩
                    have hpr := rowOfCells_plain hsz.1.symm hsz.2 hxs
                    have key : ∀ (L : List (List AV)), (∀ q, L ≠ [[.own q]]) → plainRows (elemSz P (elemT P e)) (elemSz P e) L = some (xs.map ty.enc) →
                        (match L with
                        | [[.own q]] => (match look q A.enc.ob with
                          | some b => match lower b.d with
                            | some rows => some (((A.enc.kill q).newOb (nm (o.dst.getD 0) 0) ⟨elemSz P e, [[.s b.sz rows]]⟩).dst o.dst (.c (.own (nm (o.dst.getD 0) 0))))
                            | none => none
                          | none => none)
                        | l => match plainRows (elemSz P (elemT P e)) (elemSz P e) l with
                          | some cs => some ((A.enc.newOb (nm (o.dst.getD 0) 0) ⟨elemSz P e, cs⟩).dst o.dst (.c (.own (nm (o.dst.getD 0) 0))))
                          | none => none) = some ((A.enc.newOb (nm (o.dst.getD 0) 0) ⟨elemSz P e, xs.map ty.enc⟩).dst o.dst (.c (.own (nm (o.dst.getD 0) 0)))) := fun L hL hp => by
                      split
                      · exact absurd rfl (hL _)
                      · rw [hp]
                    refine (key _ (fun q e => ?_) hpr).trans ?_
                    · cases l with
                      | nil => cases e
                      | cons a l => cases l with
                        | cons b l => simp at e
                        | nil => cases a with
                          | nil => simp at e
                          | cons x a => cases a with
                            | cons y a => simp at e
                            | nil =>
                              simp only [List.map_cons, List.map_nil, List.cons.injEq, and_true] at e
                              cases x <;> simp [AW.enc] at e
                              exact hne _ rfl
                    · rw [dstc_enc, enc_own, Wt.newOb_enc, ← hsz.1]; rfl
                  · cases hr
            · cases hr
          · cases hr
        · cases hr
      · cases hr
    · cases hr
  · -- load
    rename_i e a hop
    split at hr
    · rename_i x hx
      split at hr
      · cases hr
      · rename_i hne
        obtain ⟨l, h1, h2⟩ := at_enc hr
        split at h2
        · rename_i y hy
          refine ⟨_, ?_, h2⟩
          unfold aop
          rw [hop]
          dsimp only
          rw [ev_c_enc hx]
          dsimp only
          rw [if_neg hne, h1]
          dsimp only
          have : cellsTV P e (l.map AW.enc) = some y.enc := by
            unfold cellsTW at hy
            unfold cellsTV
            split at hy
            · cases hy
            · rename_i d hd
              rw [hd]
              dsimp only
              split at hy
              · rename_i ha; rw [if_pos ha]; cases hy; rfl
              · rename_i ha
                rw [if_neg ha]
                split at hy
                · cases hy; rfl
                · cases hy
          rw [this, Wt.dst_enc]
        · cases h2
    · cases hr
  · -- store
    rename_i e a x hop
    split at hr
    · rename_i y l hy hl
      split at hr
      · rename_i hc
        obtain ⟨B, h1, h2⟩ := store_enc hc.2.2 hr
        refine ⟨_, ?_, h2⟩
        unfold aop
        rw [hop]
        dsimp only
        have hp : parts (A.enc.ev x) = some (l.map AW.enc) := by rw [← A.ev_enc, partsW_enc, hl]; rfl
        rw [ev_c_enc hy, hp]
        dsimp only
        rw [if_pos ⟨by rw [List.length_map]; exact hc.1, hc.2.1⟩, h1, dstc_enc]; rfl
      · cases hr
    · cases hr
  · -- nilCheck
    rename_i x hop
    split at hr
    · rename_i b f hx
      exact ⟨_, by unfold aop; rw [hop]; dsimp only; rw [ev_c_enc hx, dstc_enc]; rfl, hr⟩
    · rename_i s c hx
      exact ⟨_, by unfold aop; rw [hop]; dsimp only; rw [ev_c_enc hx, dstc_enc]; rfl, hr⟩
    · cases hr
  · -- fieldAddr
    rename_i e x f hop
    split at hr
    · rename_i b off k hx hf
      exact ⟨_, by unfold aop; rw [hop]; dsimp only; rw [ev_c_enc hx, hf, dstc_enc]; rfl, hr⟩
    · rename_i p i off k hx hf
      exact ⟨_, by unfold aop; rw [hop]; dsimp only; rw [ev_c_enc hx, hf, dstc_enc]; rfl, hr⟩
    · rename_i p i j off k hx hf
      exact ⟨_, by unfold aop; rw [hop]; dsimp only; rw [ev_c_enc hx, hf, dstc_enc]; rfl, hr⟩
    · rename_i s c k hx hf
      exact ⟨_, by unfold aop; rw [hop]; dsimp only; rw [ev_c_enc hx, hf, dstc_enc, enc_rad, enc_rad, List.map_drop], hr⟩
    · cases hr
  · -- indexAddr
    rename_i e x ix hop
    split at hr
    · rename_i p hx
      split at hr
      · rename_i b hb
        split at hr
        · rename_i hc
          obtain ⟨i, h1, h2⟩ := natK_enc hr
          obtain ⟨h3, h4⟩ := ck_some h2
          refine ⟨_, ?_, h4⟩
          have hbe : look p A.enc.ob = some b.sl := obEnc hb
          unfold aop
          rw [hop]
          dsimp only
          rw [ev_c_enc hx, ← A.ev_enc, h1]
          simp only [enc_own, hbe]
          rw [if_pos ⟨by rw [TL.len]; exact h3, hc.1, hc.2⟩, dstc_enc]; rfl
        · cases hr
      · rename_i l k hb
        split at hr
        · rename_i hc
          obtain ⟨i, h1, h2⟩ := natK_enc hr
          obtain ⟨h3, h4⟩ := ck_some h2
          refine ⟨_, ?_, h4⟩
          have hbe : look p A.enc.ob = some ⟨1, (l.map (Ty.enc .mats)).set k [.x]⟩ := obEnc hb
          unfold aop
          rw [hop]
          dsimp only
          rw [ev_c_enc hx, ← A.ev_enc, h1]
          simp only [enc_own, hbe]
          rw [if_pos ⟨by simpa using h3, hc.1, hc.2⟩, dstc_enc]; rfl
        · cases hr
      · cases hr
    · rename_i p k hx
      split at hr
      · rename_i ll hb
        split at hr
        · rename_i hc
          obtain ⟨i, h1, h2⟩ := natK_enc hr
          obtain ⟨⟨h3, h3'⟩, h4⟩ := ck_some h2
          refine ⟨_, ?_, h4⟩
          have hd : A.enc.data (.nest p k) = some (TL.sl ⟨.mat, ll.getD k []⟩) := by
            have : A.data (.nest p k) (fun l => some l) = some ⟨.mat, ll.getD k []⟩ := by
              simp only [Wt.data, hb]
              rw [ck_yes h3]
            obtain ⟨l, g1, g2⟩ := data_enc this
            cases g2
            exact g1
          unfold aop
          rw [hop]
          dsimp only
          rw [ev_c_enc hx, ← A.ev_enc, h1]
          simp only [enc_nest, hd]
          rw [if_pos ⟨by rw [TL.len]; exact h3', hc.1, hc.2⟩, dstc_enc]; rfl
        · cases hr
      · cases hr
    · rename_i s l hx
      split at hr
      · rename_i hc
        obtain ⟨i, h1, h2⟩ := natK_enc hr
        obtain ⟨h3, h4⟩ := ck_some h2
        refine ⟨_, ?_, h4⟩
        unfold aop
        rw [hop]
        dsimp only
        rw [ev_c_enc hx, ← A.ev_enc, h1]
        simp only [enc_rd, l.get h3]
        rw [if_pos ⟨hc.1, hc.2⟩, dstc_enc, enc_rad, cellsC_enc]
      · cases hr
    · rename_i b off hx
      split at hr
      · rename_i l hb
        split at hr
        · rename_i n el hu
          split at hr
          · rename_i hc
            obtain ⟨i, h1, h2⟩ := natK_enc hr
            obtain ⟨h3, h4⟩ := ck_some h2
            refine ⟨_, ?_, h4⟩
            unfold aop
            rw [hop]
            dsimp only
            rw [ev_c_enc hx, ← A.ev_enc, h1]
            simp only [enc_box, hu]
            rw [if_pos ⟨h3, hc.2.1, hc.2.2⟩, dstc_enc, hc.1, Nat.zero_add]; rfl
          · cases hr
        · cases hr
      · cases hr
    · cases hr
  · -- slice
    rename_i e x lo hi hop
    split at hr
    · rename_i v hx
      obtain ⟨B, h1, h2⟩ := plainW_enc hr
      exact ⟨B, by unfold aop; rw [hop]; dsimp only; rw [ev_c_enc hx]; exact h1, h2⟩
    · rename_i p hx
      split at hr
      · rename_i ht
        obtain ⟨B, h1, h2⟩ := cutOwnW_enc hr
        refine ⟨_, ?_, h2⟩
        unfold aop
        rw [hop]
        dsimp only
        rw [ev_c_enc hx]
        simp only [enc_own]
        rw [if_pos ht, h1, dstc_enc]; rfl
      · rename_i ht
        obtain ⟨B, h1, h2⟩ := cutRdW_enc hr
        refine ⟨_, ?_, h2⟩
        unfold aop
        rw [hop]
        dsimp only
        rw [ev_c_enc hx]
        simp only [enc_own] at h1 ⊢
        rw [if_neg ht, h1, dstc_enc]
    · rename_i p i hx
      split at hr
      · rename_i ht
        obtain ⟨B, h1, h2⟩ := extract_enc hr
        obtain ⟨C, h3, h4⟩ := cutOwnW_enc h2
        refine ⟨_, ?_, h4⟩
        unfold aop
        rw [hop]
        dsimp only
        rw [ev_c_enc hx]
        simp only [enc_nest]
        rw [if_pos ht, h1]
        dsimp only
        rw [h3, dstc_enc]; rfl
      · rename_i ht
        obtain ⟨B, h1, h2⟩ := cutRdW_enc hr
        refine ⟨_, ?_, h2⟩
        unfold aop
        rw [hop]
        dsimp only
        rw [ev_c_enc hx]
        simp only [enc_nest] at h1 ⊢
        rw [if_neg ht, h1, dstc_enc]
    · rename_i v h1 h2 h3 hx
      obtain ⟨B, k1, k2⟩ := cutRdW_enc hr
      refine ⟨_, ?_, k2⟩
      unfold aop
      rw [hop]
      dsimp only
      rw [ev_c_enc hx]
      have key : ∀ y : AV, (∀ v, y ≠ .v v) → (∀ p, y ≠ .own p) → (∀ p i, y ≠ .nest p i) → ∀ (X : Option St) (Y : Nat → Option St) (Z : Nat → Nat → Option St) (W : Option St), (match y with | .v _ => X | .own p => Y p | .nest p i => Z p i | _ => W) = W := fun y a b c X Y Z W => by
        cases y <;> first | rfl | exact absurd rfl (a _) | exact absurd rfl (b _) | exact absurd rfl (c _ _)
      refine (key v.enc (fun u e => ?_) (fun u e => ?_) (fun u i e => ?_) _ _ _ _).trans ?_
      · cases v with
        | v u => exact h1 _ rfl
        | _ => cases e
      · cases v with
        | own u => exact h2 _ rfl
        | _ => cases e
      · cases v with
        | nest u => exact h3 _ _ rfl
        | _ => cases e
      · rw [k1, dstc_enc]
    · cases hr
  · -- makeSlice
    rename_i e l c hop
    split at hr
    · rename_i ty hty
      split at hr
      · rename_i hc
        obtain ⟨n, h1, h2⟩ := natK_enc hr
        obtain ⟨m, h3, h4⟩ := natK_enc h2
        obtain ⟨⟨rfl, h5⟩, h6⟩ := ck_some h4
        refine ⟨_, ?_, h6⟩
        unfold aop
        rw [hop]
        dsimp only
        rw [← A.ev_enc, h1, ← A.ev_enc, h3]
        obtain ⟨z, hz⟩ := zeroIs_some hc.2.2.2
        rw [hz]
        dsimp only
        rw [if_pos ⟨rfl, small_of h5, hc.2.2.1⟩, dstc_enc, Wt.newOb_enc, zero_enc hty hc.1 hc.2.1 hz hc.2.2.2, ← hc.1]
        simp only [OW.enc, TL.sl, List.map_replicate]; rfl
      · cases hr
    · cases hr
  · -- makeFunc
    rename_i fn first caps hop
    split at hr
    · rename_i f
      split at hr
      · rename_i hfirst
        split at hr
        · rename_i l hl
          refine ⟨_, ?_, hr⟩
          unfold aop
          rw [hop]
          dsimp only
          rw [if_pos hfirst]
          have : (caps.toList.mapM fun x => (match A.enc.ev x with | .c (.box b 0) => some b | _ => none)) = some l := by
            refine mapM_imp (fun x b hx => ?_) hl
            rw [← A.ev_enc]
            split at hx
            · rename_i he; rw [he]; exact hx
            · cases hx
          refine Eq.trans (congrArg (fun z => match z with | some l => some (A.enc.dst o.dst (.c (.fn f l))) | none => none) this) ?_
          dsimp only
          rw [dstc_enc]; rfl
        · cases hr
      · cases hr
    · cases hr
  · -- extract
    rename_i x i hop
    split at hr
    · rename_i l hx
      have hxe : A.enc.ev x = .tup (l.map fun p => (p.1, p.2.map AW.enc)) := by rw [← A.ev_enc, hx]; rfl
      split at hr
      · rename_i l' hl'
        refine ⟨_, ?_, hr⟩
        unfold aop
        rw [hop]
        dsimp only
        rw [hxe]
        simp only [List.getElem?_map, hl', Option.map_some, Wt.dst_enc, TW.enc]
      · rename_i a hl'
        refine ⟨_, ?_, hr⟩
        unfold aop
        rw [hop]
        dsimp only
        rw [hxe]
        simp only [List.getElem?_map, hl', Option.map_some, List.map_cons, List.map_nil, dstc_enc]
      · cases hr
    · cases hr
  · -- convert
    rename_i e d x hop
    split at hr
    · rename_i v hx
      obtain ⟨B, h1, h2⟩ := plainW_enc hr
      exact ⟨B, by unfold aop; rw [hop]; dsimp only; rw [ev_c_enc hx]; exact h1, h2⟩
    · cases hr
    · rename_i a h1 h2 hx
      split at hr
      · rename_i el hu hd
        split at hr
        · rename_i hel
          obtain ⟨l, k1, k2⟩ := data_enc hr
          split at k2
          · rename_i bs
            refine ⟨_, ?_, k2⟩
            unfold aop
            rw [hop]
            dsimp only
            rw [ev_c_enc hx]
            have rb : ∀ l : List Int, rowBytes (l.map (Ty.enc .u8)) = some (l.map fun n => UInt8.ofNat n.toNat) := fun l => by
              induction l with
              | nil => rfl
              | cons n l ih => simp only [List.map_cons, Ty.enc, Ty.row, List.map_nil, rowBytes, ih, Option.map_some]
            have key : ∀ y : AV, (∀ v, y ≠ .v v) → (match TV.c y with
                | .c (.v _) => plainOp P A.enc o
                | .c a => match A.enc.data a, P.underlying e, P.underlying d with
                  | some l, some (.slice el), some .string => match P.underlying el, rowBytes l.d with
                    | some (.int .u8), some bs => some (A.enc.dst o.dst (.c (.v (.string ⟨bs.toArray⟩))))
                    | _, _ => none
                  | _, _, _ => none
                | _ => none) = (match A.enc.data y, P.underlying e, P.underlying d with
                  | some l, some (.slice el), some .string => match P.underlying el, rowBytes l.d with
                    | some (.int .u8), some bs => some (A.enc.dst o.dst (.c (.v (.string ⟨bs.toArray⟩))))
                    | _, _ => none
                  | _, _, _ => none) := fun y hy => by cases y <;> first | rfl | exact absurd rfl (hy _)
            refine (key a.enc fun v e => ?_).trans ?_
            · cases a with
              | v u => exact h1 _ rfl
              | _ => cases e
            · rw [k1, hu, hd]
              dsimp only
              rw [hel, show (TL.sl ⟨.u8, bs⟩).d = bs.map (Ty.enc .u8) from rfl, rb]
              dsimp only
              rw [dstv_enc]
          · cases k2
        · cases hr
      · cases hr
    · cases hr
  · -- call
    rename_i c hop
    split at hr
    · rename_i b hcal
      split at hr
      · obtain ⟨B, h1, h2⟩ := appendW_enc hr
        exact ⟨B, by unfold aop; rw [hop]; dsimp only; rw [hcal]; exact h1, h2⟩
      · obtain ⟨B, h1, h2⟩ := lenW_enc hr
        exact ⟨B, by unfold aop; rw [hop]; dsimp only; rw [hcal]; exact h1, h2⟩
      · rename_i hna hnl
        obtain ⟨B, h1, h2⟩ := plainW_enc hr
        refine ⟨B, ?_, h2⟩
        unfold aop
        rw [hop]
        dsimp only
        rw [hcal]
        dsimp only
        cases b <;> first | exact h1 | exact absurd rfl hna | exact absurd rfl hnl
    · cases hr
  · -- the others
    obtain ⟨B, h1, h2⟩ := plainW_enc hr
    refine ⟨B, ?_, h2⟩
    unfold aop
    dsimp only
    split <;> first | exact h1 | (rename_i hq; exact (‹∀ (e : TypeId) (x : Operand) (lo hi : Option Operand), o.op = Op.slice e x lo hi none → False› _ _ _ _ hq).elim) | (exfalso; simp_all; done)
end
end Go.Tree
