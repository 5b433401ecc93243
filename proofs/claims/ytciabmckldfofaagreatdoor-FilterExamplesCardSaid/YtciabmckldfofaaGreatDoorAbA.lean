/- An abstract interpreter over the model's code, and the first part of the proof that it is sound: no condition. -/
import Derived.Calls
import Derived.Orders
import Derived.WalkKit
import Derived.Deep.AppendSrc
import Derived.Laws.IdiomStrings
import Derived.Laws.MakeOwn
set_option linter.unusedSimpArgs false
set_option linter.unusedVariables false
namespace Go.Ab
open Go

/-- Abstract values: what is known of a Go value, memory read through where it is not written any more. -/
inductive PV where
  | any
  | sc (v : Value)
  | agg (cs : List PV)
  | imm (len : Nat) (x : Bool) (cs : List PV)
  | own (id s off len : Nat) (x : Bool)
  | ptr (id off : Nat)
  | iptr (cs : List PV)
  | clos (f : FuncId) (caps : List PV)
  | bmet (f : FuncId) (firsts : List PV)
  | tup (cs : List PV)
  | mp (id : Nat)
  deriving Inhabited

inductive BSt where
  | live | ro | dead
  deriving DecidableEq, Inhabited

structure Blk where
  st : BSt
  cs : List PV
  deriving Inhabited

/-- what an operation touches: the blocks that it reads (all: every one), that it writes or makes, whether it makes any -/
structure FP where
  rd : List Nat
  wr : List Nat
  al : Bool
  all : Bool := false

def FP.none : FP := ⟨[], [], false, false⟩

structure St where
  fr : List PV
  hp : List Blk
  /-- the blocks that were written -/
  wr : List Nat

inductive Ex where
  | normal | ret
  | exit (id : Nat)

/-! lists -/
def nth : List PV → Nat → PV
  | [], _ => .any
  | a :: _, 0 => a
  | _ :: l, n + 1 => nth l n
def setN : List PV → Nat → PV → List PV
  | [], _, _ => []
  | _ :: l, 0, v => v :: l
  | a :: l, n + 1, v => a :: setN l n v
def nthB : List Blk → Nat → Option Blk
  | [], _ => none
  | a :: _, 0 => some a
  | _ :: l, n + 1 => nthB l n
def setB : List Blk → Nat → Blk → List Blk
  | [], _, _ => []
  | _ :: l, 0, v => v :: l
  | a :: l, n + 1, v => a :: setB l n v
def dropN : List PV → Nat → List PV
  | l, 0 => l
  | [], _ + 1 => []
  | _ :: l, n + 1 => dropN l n
/-- the first n, if there are so many -/
def takeN? : List PV → Nat → Option (List PV)
  | _, 0 => some []
  | [], _ + 1 => none
  | a :: l, n + 1 => match takeN? l n with
    | some r => some (a :: r)
    | none => none
/-- writes a list over another from a place on, if it fits -/
def over? : List PV → Nat → List PV → Option (List PV)
  | l, 0, [] => some l
  | [], 0, _ :: _ => none
  | _ :: l, 0, v :: vs => match over? l 0 vs with
    | some r => some (v :: r)
    | none => none
  | [], _ + 1, _ => none
  | a :: l, n + 1, vs => match over? l n vs with
    | some r => some (a :: r)
    | none => none
/-- l repeated n times -/
def rep : Nat → List PV → List PV
  | 0, _ => []
  | n + 1, l => l ++ rep n l

/-! types -/
abbrev Tab := TypeId → Option TypeInfo
def und (T : Tab) (t : TypeId) : Option TypeDesc :=
  match T t with
  | some { desc := .named _ u, .. } => (T u).map (·.desc)
  | some i => some i.desc
  | none => none
def isAggT (T : Tab) (t : TypeId) : Option Bool :=
  match und T t with
  | some (.struct _) => some true
  | some (.array _ _) => some true
  | some _ => some false
  | none => none
def sizeT (T : Tab) (t : TypeId) : Option Nat := (T t).map (·.size)
def bytesT (T : Tab) (t : TypeId) : Option Nat := (T t).map (·.bytes)
def ofVal : Value → PV
  | .agg cs => .agg (cs.toList.map .sc)
  | v => .sc v
def zeroT (T : Tab) (t : TypeId) : Option (List PV) :=
  match T t with
  | some { zero := some z, .. } => some (z.cells.toList.map .sc)
  | _ => none
def PV.cells? : PV → Option (List PV)
  | .agg cs => some cs
  | .any => none
  | .tup _ => none
  | .sc (.agg _) => none
  | v => some [v]
/-- the value of type t that begins at the head of some cells -/
def partOf (T : Tab) (t : TypeId) (cs : List PV) : Option PV :=
  match isAggT T t, sizeT T t with
  | some true, some n => (takeN? cs n).map .agg
  | some false, some _ => cs.head?
  | _, _ => none

mutual
def PV.idfree : PV → Bool
  | .any => true
  | .sc _ => true
  | .imm _ _ _ => true
  | .iptr _ => true
  | .agg cs => idfreeL cs
  | .tup cs => idfreeL cs
  | .clos _ caps => idfreeL caps
  | .bmet .. => false
  | .own .. => false
  | .ptr .. => false
  | .mp _ => false
def idfreeL : List PV → Bool
  | [] => true
  | c :: cs => c.idfree && idfreeL cs
end

/-- surely the value of one cell -/
def okCell : PV → Bool
  | .any => false
  | .agg _ => false
  | .tup _ => false
  | .sc (.agg _) => false
  | .sc (.tuple _) => false
  | _ => true
def okCells : List PV → Bool
  | [] => true
  | c :: cs => okCell c && okCells cs

/-! scalars -/
def pureRun (P : Program) {α : Type} : Sem α → Option α
  | .pure a => some a
  | .program k => pureRun P (k P)
  | .mark _ k => pureRun P k
  | _ => none

def loK : IntKind → Int
  | .i8 => -128 | .i16 => -32768 | .i32 => -2147483648 | .i64 => -9223372036854775808
  | _ => 0
def hiK : IntKind → Int
  | .i8 => 127 | .i16 => 32767 | .i32 => 2147483647 | .i64 => 9223372036854775807
  | .u8 => 255 | .u16 => 65535 | .u32 => 4294967295 | .u64 => 18446744073709551615
def wrapK (k : IntKind) (n : Int) : Int := bif decide (loK k ≤ n) && decide (n ≤ hiK k) then n else k.wrap n

/-- two integers of one kind -/
def binI (op : BinOp) (k : IntKind) (a b : Int) : Option Value :=
  match op with
  | .add => some (.int k (wrapK k (a + b)))
  | .sub => some (.int k (wrapK k (a - b)))
  | .mul => some (.int k (wrapK k (a * b)))
  | .quo => if b = 0 then none else some (.int k (wrapK k (a.tdiv b)))
  | .rem => if b = 0 then none else some (.int k (a.tmod b))
  | .eql => some (.bool (a == b))
  | .neq => some (.bool (a != b))
  | .lss => some (.bool (decide (a < b)))
  | .leq => some (.bool (decide (a ≤ b)))
  | .gtr => some (.bool (decide (a > b)))
  | .geq => some (.bool (decide (a ≥ b)))
  | _ => none

def mkStr (l : List UInt8) : ByteArray := ⟨l.toArray⟩
def strL (s : ByteArray) : List UInt8 := s.data.toList
def ltL : List UInt8 → List UInt8 → Bool
  | _, [] => false
  | [], _ :: _ => true
  | a :: x, b :: y => bif a.toNat.blt b.toNat then true else (a.toNat == b.toNat) && ltL x y
def eqL : List UInt8 → List UInt8 → Bool
  | [], [] => true
  | a :: x, b :: y => (a.toNat == b.toNat) && eqL x y
  | _, _ => false
def binS (op : BinOp) (a b : ByteArray) : Option Value :=
  match op with
  | .add => if (((strL a).length + (strL b).length : Nat) : Int) > 9223372036854775807 then none else some (.string (mkStr (strL a ++ strL b)))
  | .eql => some (.bool (eqL (strL a) (strL b)))
  | .neq => some (.bool !(eqL (strL a) (strL b)))
  | .lss => some (.bool (ltL (strL a) (strL b)))
  | .leq => some (.bool (ltL (strL a) (strL b) || eqL (strL a) (strL b)))
  | .gtr => some (.bool !(ltL (strL a) (strL b) || eqL (strL a) (strL b)))
  | .geq => some (.bool !(ltL (strL a) (strL b)))
  | _ => none

def toVals? : List PV → Option (List Value)
  | [] => some []
  | .sc v :: r => match toVals? r with
    | some l => some (v :: l)
    | none => none
  | _ => none
/-- is it surely not nil, a slice? -/
def someSl : PV → Bool
  | .imm len _ _ => len != 0
  | .own .. => true
  | _ => false

def isNilSl : PV → Bool
  | .sc (.slice none 0 0) => true
  | _ => false

def binInt (P : Program) (op : BinOp) (t : TypeId) (k : IntKind) (m : Int) (k' : IntKind) (n : Int) : Option PV :=
  match (if k = k' then binI op k m n else none) with
  | some v => some (.sc v)
  | none => (pureRun P (binOp op t (.int k m) (.int k' n))).map ofVal
def binBool (T : Tab) (op : BinOp) (t : TypeId) (m n : Bool) : Option PV :=
  match op, und T t with
  | .eql, some .bool => some (.sc (.bool (m == n)))
  | .neq, some .bool => some (.sc (.bool (m != n)))
  | _, _ => none
def binNil (T : Tab) (op : BinOp) (t : TypeId) (x : PV) : Option PV :=
  match op, und T t, someSl x, isNilSl x with
  | .eql, some (.slice _), true, _ => some (.sc (.bool false))
  | .neq, some (.slice _), true, _ => some (.sc (.bool true))
  | .eql, some (.slice _), false, true => some (.sc (.bool true))
  | .neq, some (.slice _), false, true => some (.sc (.bool false))
  | _, _, _, _ => none
def binAgg (P : Program) (op : BinOp) (t : TypeId) (m n : List PV) : Option PV :=
  match toVals? m, toVals? n with
  | some u, some v => (pureRun P (do eqGuard op t (.const undef) (.const undef) (.agg u.toArray) (.agg v.toArray); binOp op t (.agg u.toArray) (.agg v.toArray))).map ofVal
  | _, _ => none
def binP (P : Program) (T : Tab) (op : BinOp) (t : TypeId) (a b : PV) : Option PV :=
  match a, b with
  | .sc (.int k m), .sc (.int k' n) => binInt P op t k m k' n
  | .sc (.string m), .sc (.string n) => (binS op m n).map .sc
  | .sc (.bool m), .sc (.bool n) => binBool T op t m n
  | x, .sc (.slice none 0 0) => binNil T op t x
  | .agg m, .agg n => binAgg P op t m n
  | _, _ => none

def unP (op : UnOp) (a : PV) : Option PV :=
  match op, a with
  | .neg, .sc (.int k n) => some (.sc (.int k (wrapK k (0 - n))))
  | .not, .sc (.bool b) => some (.sc (.bool !b))
  | _, _ => none

/-- the bytes of cells -/
def bytesOf? : List PV → Option (List UInt8)
  | [] => some []
  | .sc (.int .u8 n) :: r => match bytesOf? r with
    | some l => some (UInt8.ofNat n.toNat :: l)
    | none => none
  | _ => none

/-- the cells of a slice, read; its element's size s -/
def rdSl (hp : List Blk) (s : Nat) : PV → Option (Nat × List PV × List Nat)
  | .sc (.slice none 0 0) => some (0, [], [])
  | .imm len _ cs => if cs.length = len * s then some (len, cs, []) else none
  | .own id s' off len _ =>
    match nthB hp id with
    | some ⟨st, cs⟩ =>
      if st = .dead ∨ s' ≠ s then none
      else match takeN? (dropN cs off) (len * s) with
        | some l => some (len, l, [id])
        | none => none
    | none => none
  | _ => none
def lenSl : PV → Option Nat
  | .sc (.slice none 0 0) => some 0
  | .imm len _ _ => some len
  | .own _ _ _ len _ => some len
  | _ => none

def convP (T : Tab) (hp : List Blk) (src dst : TypeId) (a : PV) : Option (PV × List Nat) :=
  match und T src, und T dst, a with
  | some _, some (.int k), .sc (.int _ n) => some (.sc (.int k (wrapK k n)), [])
  | some _, some .string, .sc (.string s) => some (.sc (.string s), [])
  | some .string, some (.slice e), .sc (.string s) =>
    match und T e with
    | some (.int .u8) => some (.imm (strL s).length false ((strL s).map fun b => PV.sc (.int .u8 b.toNat)), [])
    | _ => none
  | some (.slice e), some .string, x =>
    match und T e with
    | some (.int .u8) =>
      match rdSl hp 1 x with
      | some (_, cs, ids) => match bytesOf? cs with
        | some l => some (PV.sc (.string (mkStr l)), ids)
        | none => none
      | none => none
    | _ => none
  | _, _, _ => none

def maxLenA : Nat := 1099511627776   -- 2^40
def maxBytes : Nat := 128

/-! memory -/
def allocB (hp : List Blk) (cs : List PV) : List Blk := hp ++ [⟨.live, cs⟩]

/-- the cells that an address leads to, from it on -/
def atAddr (hp : List Blk) : PV → Option (List PV × List Nat)
  | .ptr id off =>
    match nthB hp id with
    | some ⟨st, cs⟩ => if st = .dead then none else some (dropN cs off, [id])
    | none => none
  | .iptr cs => some (cs, [])
  | _ => none

def fillL (place : Nat → Option (Nat × Nat)) (cells : List PV) : List (Nat × PV) → Option (List PV)
  | [] => some cells
  | (i, v) :: rest =>
    match place i, v.cells? with
    | some (off, size), some cs =>
      if cs.length = size then
        match over? cells off cs with
        | some l => fillL place l rest
        | none => none
      else none
    | _, _ => none

def placeP (T : Tab) (fields : Array Field) (i : Nat) : Option (Nat × Nat) :=
  match fields[i]? with
  | some f => (sizeT T f.type).map fun n => (f.offset, n)
  | none => none
def buildP (T : Tab) (t : TypeId) (parts : List (Nat × PV)) : Option PV :=
  match zeroT T t, und T t with
  | some zs, some (.struct fields) =>
    if fields.toList.all (fun f => (sizeT T f.type).isSome) then (fillL (placeP T fields) zs parts).map .agg else none
  | some zs, some (.array _ e) =>
    match sizeT T e with
    | some s => (fillL (fun i => some (i * s, s)) zs parts).map .agg
    | none => none
  | _, _ => none

/-- a slice literal: its cells -/
def litP (T : Tab) (t : TypeId) (len : Nat) (parts : List (Nat × PV)) : Option (Nat × List PV) :=
  match und T t with
  | some (.slice e) =>
    match sizeT T e, zeroT T e with
    | some s, some zs =>
      if len * s ≤ 16777216 ∧ zs.length = s then (fillL (fun i => some (i * s, s)) (rep len zs) parts).map fun l => (s, l) else none
    | _, _ => none
  | _ => none

def asInt? : PV → Option Int
  | .sc (.int _ n) => some n
  | _ => none
def asNat? : PV → Option Nat
  | .sc (.int _ (.ofNat n)) => some n
  | _ => none
/-- a bound of a slice expression; what is not there -/
def bound? (d : Nat) : Option PV → Option Nat
  | none => some d
  | some v => asNat? v

/-- the bounds of a slice expression, where they fit: the third one where it is typed -/
def bnd (len : Nat) (lo hi mx : Option PV) : Option (Nat × Nat × Option Nat) :=
  match bound? 0 lo, bound? len hi, mx, hi with
  | some l, some h, none, _ => if l ≤ h ∧ h ≤ len then some (l, h, none) else none
  | some l, some h, some m, some _ => match asNat? m with
    | some m => if l ≤ h ∧ h ≤ m ∧ m ≤ len then some (l, h, some m) else none
    | none => none
  | _, _, _, _ => none
def fullB (x : Bool) (len h : Nat) : Option Nat → Bool
  | none => x && h == len
  | some m => h == m

def sliceStr (s : ByteArray) (lo hi mx : Option PV) : Option PV :=
  match bnd (strL s).length lo hi mx with
  | some (l, h, none) => some (.sc (.string (mkStr (((strL s).take h).drop l))))
  | _ => none
def sliceSl (T : Tab) (e : TypeId) (x : PV) (lo hi mx : Option PV) : Option PV :=
  match sizeT T e with
  | none => none
  | some s =>
    match x with
    | .sc (.slice none 0 0) => match bnd 0 lo hi mx with
      | some _ => some (.sc (.slice none 0 0))
      | none => none
    | .imm len x cs => match bnd len lo hi mx with
      | some (l, h, m) => if cs.length = len * s then (takeN? (dropN cs (l * s)) ((h - l) * s)).map fun c => .imm (h - l) (fullB x len h m) c else none
      | none => none
    | .own id s' off len x => match bnd len lo hi mx with
      | some (l, h, m) => if s = s' then some (.own id s (off + l * s) (h - l) (fullB x len h m)) else none
      | none => none
    | _ => none
def sliceArr (T : Tab) (hp : List Blk) (n : Nat) (e : TypeId) (x : PV) (lo hi mx : Option PV) : Option PV :=
  match sizeT T e, bnd n lo hi mx with
  | some s, some (l, h, m) =>
    match x with
    | .ptr id off => match nthB hp id with
      | some ⟨.live, cs⟩ => if off + n * s ≤ cs.length then some (.own id s (off + l * s) (h - l) (fullB true n h m)) else none
      | _ => none
    | .iptr cs => (takeN? (dropN cs (l * s)) ((h - l) * s)).map fun c => .imm (h - l) (fullB true n h m) c
    | _ => none
  | _, _ => none
def sliceP (T : Tab) (hp : List Blk) (t : TypeId) (x : PV) (lo hi mx : Option PV) : Option PV :=
  match und T t with
  | some .string => match x with
    | .sc (.string s) => sliceStr s lo hi mx
    | _ => none
  | some (.slice e) => sliceSl T e x lo hi mx
  | some (.array n e) => sliceArr T hp n e x lo hi mx
  | _ => none

def fieldAddrP (T : Tab) (t : TypeId) (x : PV) (i : Nat) : Option PV :=
  match und T t with
  | some (.struct fields) =>
    match fields[i]? with
    | some f =>
      match sizeT T f.type, x with
      | some (_ + 1), .ptr id off => some (.ptr id (off + f.offset))
      | some (_ + 1), .iptr cs => some (.iptr (dropN cs f.offset))
      | _, _ => none
    | none => none
  | _ => none
def fieldP (T : Tab) (t : TypeId) (x : PV) (i : Nat) : Option PV :=
  match und T t, x with
  | some (.struct fields), .agg cs =>
    match fields[i]? with
    | some f => partOf T f.type (dropN cs f.offset)
    | none => none
  | _, _ => none
def indexAddrP (T : Tab) (t : TypeId) (x ix : PV) : Option PV :=
  match und T t, asNat? ix with
  | some (.slice e), some i =>
    match sizeT T e, x with
    | some s, .imm len _ cs => if i < len then some (.iptr (dropN cs (i * s))) else none
    | some s, .own id s' off len _ => if i < len ∧ s = s' then some (.ptr id (off + i * s)) else none
    | _, _ => none
  | some (.array n e), some i =>
    match sizeT T e, x with
    | some s, .ptr id off => if i < n then some (.ptr id (off + i * s)) else none
    | some s, .iptr cs => if i < n then some (.iptr (dropN cs (i * s))) else none
    | _, _ => none
  | _, _ => none
def nthL : List UInt8 → Nat → Option UInt8
  | [], _ => none
  | a :: _, 0 => some a
  | _ :: l, n + 1 => nthL l n
def indexP (T : Tab) (t : TypeId) (x ix : PV) : Option PV :=
  match und T t, x, asNat? ix with
  | some (.array n e), .agg cs, some i =>
    match sizeT T e with
    | some s => if i < n then partOf T e (dropN cs (i * s)) else none
    | none => none
  | some .string, .sc (.string s), some i => (nthL (strL s) i).map fun b => .sc (.int .u8 b.toNat)
  | _, _, _ => none

def lenP (T : Tab) (t : TypeId) (x : PV) : Option PV :=
  match und T t, x with
  | some .string, .sc (.string s) => some (.sc (.int .i64 ((strL s).length : Nat)))
  | some (.array n _), _ => some (.sc (.int .i64 (n : Nat)))
  | some (.slice _), x => (lenSl x).map fun n => .sc (.int .i64 (n : Nat))
  | _, _ => none

/-- append of cells onto a slice: the new slice, the new heap, what was read and written, whether there is a new block -/
def appendP (hp : List Blk) (s : Nat) (x : PV) (n : Nat) (new : List PV) : Option (PV × List Blk × FP) :=
  match x with
  | .sc (.slice none 0 0) =>
    if n = 0 then some (x, hp, FP.none)
    else if n ≤ maxLenA then some (.own hp.length s 0 n false, allocB hp new, ⟨[], [hp.length], true, false⟩) else none
  | .imm len true cs =>
    if n = 0 then some (x, hp, FP.none)
    else if len + n ≤ maxLenA ∧ cs.length = len * s then some (.own hp.length s 0 (len + n) false, allocB hp (cs ++ new), ⟨[], [hp.length], true, false⟩) else none
  | .own id s' off len true =>
    if s ≠ s' then none
    else if n = 0 then some (x, hp, FP.none)
    else match nthB hp id with
      | some ⟨st, cs⟩ =>
        if st = .dead then none
        else match takeN? (dropN cs off) (len * s) with
          | some l => if len + n ≤ maxLenA then some (.own hp.length s 0 (len + n) false, allocB hp (l ++ new), ⟨[id], [hp.length], true, false⟩) else none
          | none => none
      | none => none
  | .own id s' off len false =>
    if s ≠ s' then none
    else match nthB hp id with
      | some ⟨.live, cs⟩ =>
        match takeN? (dropN cs off) (len * s) with
        | some l => if len + n ≤ maxLenA then some (.own hp.length s 0 (len + n) false, allocB (setB hp id ⟨.dead, []⟩) (l ++ new), ⟨[], [id, hp.length], true, false⟩) else none
        | none => none
      | _ => none
  | _ => none

def minmax (isMax : Bool) : List PV → Option PV
  | [x] => some x
  | .sc (.int k a) :: .sc (.int k' b) :: r =>
    if k = k' then
      match r with
      | [] => some (.sc (.int k (if isMax then (if b > a then b else a) else (if b < a then b else a))))
      | _ => none
    else none
  | _ => none

def evalP (fr : List PV) : Operand → PV
  | .tmp t => nth fr t
  | .const v => ofVal v
  | .global _ => .any
  | .func f => .sc (.func (.func f) #[] #[])

def putP (fr : List PV) (dst : Option Tmp) (v : PV) : List PV :=
  match dst with
  | some d => setN fr d v
  | none => fr

/-! maps: their keys are integers, strings or booleans -/
def isKeyP : TypeDesc → PV → Bool
  | .int k, .sc (.int k' _) => decide (k = k')
  | .string, .sc (.string _) => true
  | .bool, .sc (.bool _) => true
  | _, _ => false
/-- are the integers of two cell lists equal? -/
def eqInts : List PV → List PV → Option Bool
  | [], [] => some true
  | .sc (.int i m) :: a, .sc (.int j n) :: b => if i = j then (match m == n with
    | true => eqInts a b
    | false => some false) else none
  | _, _ => none
def intsP (q : IntKind) : List PV → Bool
  | [] => true
  | .sc (.int k _) :: l => decide (k = q) && intsP q l
  | _ => false
/-- are two keys equal? -/
def eqKey : PV → PV → Option Bool
  | .sc (.int i m), .sc (.int j n) => if i = j then some (m == n) else none
  | .sc (.string s), .sc (.string t) => some (eqL (strL s) (strL t))
  | .sc (.bool a), .sc (.bool b) => some (a == b)
  | .agg a, .agg b => eqInts a b
  | _, _ => none
def findP (k : PV) : List PV → Option (Option PV)
  | [] => some none
  | [_] => none
  | a :: v :: r => match eqKey k a with
    | some true => some (some v)
    | some false => findP k r
    | none => none
def putKV (k v : PV) : List PV → Option (List PV)
  | [] => some [k, v]
  | [_] => none
  | a :: x :: r => match eqKey k a with
    | some true => some (k :: v :: r)
    | some false => match putKV k v r with
      | some l => some (a :: x :: l)
      | none => none
    | none => none
def delKV (k : PV) : List PV → Option (List PV)
  | [] => some []
  | [_] => none
  | a :: x :: r => match eqKey k a with
    | some true => some r
    | some false => match delKV k r with
      | some l => some (a :: x :: l)
      | none => none
    | none => none
/-- the entries of a map -/
def mapOf (hp : List Blk) : PV → Option (List PV × List Nat)
  | .sc (.map none) => some ([], [])
  | .mp id => match nthB hp id with
    | some ⟨.dead, .any :: kvs⟩ => some (kvs, [id])
    | _ => none
  | _ => none
def zeroV (T : Tab) (t : TypeId) : Option PV := match T t with
  | some { zero := some z, .. } => some (ofVal z)
  | _ => none
def arrKey (T : Tab) (n : Nat) (e : TypeId) (k : PV) : Bool := match und T e, sizeT T e, k with
  | some (.int q), some s, .agg cs => s == 1 && cs.length == n && intsP q cs
  | _, _, _ => false
def keyOk (T : Tab) (kt : TypeId) (k : PV) : Bool := match und T kt with
  | some (.array n e) => arrKey T n e k
  | some d => isKeyP d k
  | none => false
def lookP (T : Tab) (hp : List Blk) (t : TypeId) (m k : PV) (ok : Bool) : Option (PV × List Nat) :=
  match und T t, mapOf hp m with
  | some (.map kt e), some (kvs, ids) => if keyOk T kt k then
      (match findP k kvs, zeroV T e with
      | some (some v), _ => some (if ok then .tup [v, .sc (.bool true)] else v, ids)
      | some none, some z => some (if ok then .tup [z, .sc (.bool false)] else z, ids)
      | _, _ => none) else none
  | _, _ => none
def updP (T : Tab) (hp : List Blk) (t : TypeId) (m k x : PV) : Option (List Blk × Nat) :=
  match und T t, m with
  | some (.map kt _), .mp id => if keyOk T kt k then
      (match nthB hp id with
      | some ⟨.dead, .any :: kvs⟩ => match putKV k x kvs with
        | some l => some (setB hp id ⟨.dead, .any :: l⟩, id)
        | none => none
      | _ => none) else none
  | _, _ => none

def delP (T : Tab) (hp : List Blk) (t : TypeId) (m k : PV) : Option (List Blk × Nat) :=
  match und T t, m with
  | some (.map kt _), .mp id => if keyOk T kt k then
      (match nthB hp id with
      | some ⟨.dead, .any :: kvs⟩ => match delKV k kvs with
        | some l => some (setB hp id ⟨.dead, .any :: l⟩, id)
        | none => none
      | _ => none) else none
  | _, _ => none
def halfL : List PV → Nat
  | _ :: _ :: r => halfL r + 1
  | _ => 0
def lenM (T : Tab) (hp : List Blk) (t : TypeId) (m : PV) : Option (PV × List Nat) :=
  match und T t, mapOf hp m with
  | some (.map _ _), some (kvs, ids) => some (.sc (.int .i64 (halfL kvs : Nat)), ids)
  | _, _ => none

/-- what an operation that is no call of a function yields: a value, the heap behind it, its footprint -/
def stepP (P : Program) (T : Tab) (fr : List PV) (hp : List Blk) (o : Op) : Option (PV × List Blk × FP) :=
  let ρ := evalP fr
  let v (x : Option PV) : Option (PV × List Blk × FP) := match x with | some x => some (x, hp, FP.none) | none => none
  let undefP : PV := .sc undef
  match o with
  | .move x | .assign x => some (ρ x, hp, FP.none)
  | .pick c a b => match ρ c with
    | .sc (.bool true) => some (ρ a, hp, FP.none)
    | .sc (.bool false) => some (ρ b, hp, FP.none)
    | _ => none
  | .alloc e => match zeroT T e with
    | some zs => some (.ptr hp.length 0, allocB hp zs, ⟨[], [hp.length], true, false⟩)
    | none => none
  | .box _ x => match (ρ x).cells? with
    | some cs => some (.ptr hp.length 0, allocB hp cs, ⟨[], [hp.length], true, false⟩)
    | none => none
  | .build t parts => v (buildP T t (parts.toList.map fun (i, x) => (i, ρ x)))
  | .buildSlice t len parts => match litP T t len (parts.toList.map fun (i, x) => (i, ρ x)) with
    | some (s, cs) =>
      if idfreeL cs then some (.imm len true cs, hp, FP.none)
      else some (.own hp.length s 0 len true, allocB hp cs, ⟨[], [hp.length], true, false⟩)
    | none => none
  | .load t a => match atAddr hp (ρ a) with
    | some (cs, ids) => match partOf T t cs with
      | some x => some (x, hp, ⟨ids, [], false, false⟩)
      | none => none
    | none => none
  | .store t a x => match ρ a, (ρ x).cells?, sizeT T t with
    | .ptr id off, some cs, some n =>
      if cs.length = n ∧ okCells cs then
        match nthB hp id with
        | some ⟨.live, old⟩ => match over? old off cs with
          | some l => some (undefP, setB hp id ⟨.live, l⟩, ⟨[], [id], false, false⟩)
          | none => none
        | _ => none
      else none
    | _, _, _ => none
  | .nilCheck x => match ρ x with
    | .ptr id off => some (.ptr id off, hp, FP.none)
    | .iptr cs => some (.iptr cs, hp, FP.none)
    | .clos f cs => some (.clos f cs, hp, FP.none)
    | .bmet f cs => some (.bmet f cs, hp, FP.none)
    | .sc (.func (.func f) a b) => some (.sc (.func (.func f) a b), hp, FP.none)
    | _ => none
  | .binOp op t x y _ => v (binP P T op t (ρ x) (ρ y))
  | .unOp op _ x => v (unP op (ρ x))
  | .convert src dst x => match convP T hp src dst (ρ x) with
    | some (r, ids) => some (r, hp, ⟨ids, [], false, false⟩)
    | none => none
  | .makeFunc (.func f) first captured => if first.size = 0 then some (.clos f (captured.toList.map ρ), hp, FP.none) else if captured.size = 0 then some (.bmet f (first.toList.map ρ), hp, FP.none) else none
  | .makeSlice t l c => match und T t, asNat? (ρ l), asNat? (ρ c) with
    | some (.slice e), some l, some c =>
      match zeroT T e, sizeT T e, bytesT T e with
      | some zs, some s, some by_ =>
        if l ≤ c ∧ c ≤ maxLenA ∧ by_ ≤ maxBytes ∧ zs.length = s then some (.own hp.length s 0 l (l == c), allocB hp (rep l zs), ⟨[], [hp.length], true, false⟩) else none
      | _, _, _ => none
    | _, _, _ => none
  | .slice t x lo hi mx => match sliceP T hp t (ρ x) (lo.map ρ) (hi.map ρ) (mx.map ρ) with
    | some r => some (r, hp, match ρ x with | .ptr id _ => ⟨[id], [], false, false⟩ | _ => FP.none)
    | none => none
  | .fieldAddr t x i => v (fieldAddrP T t (ρ x) i)
  | .field t x i => v (fieldP T t (ρ x) i)
  | .indexAddr t x i => v (indexAddrP T t (ρ x) (ρ i))
  | .index t x i => v (indexP T t (ρ x) (ρ i))
  | .extract x i => match ρ x with
    | .tup cs => match cs[i]? with
      | some c => some (c, hp, FP.none)
      | none => none
    | _ => none
  | .makeMap _ none => some (.mp hp.length, hp ++ [⟨.dead, [.any]⟩], ⟨[], [hp.length], true, false⟩)
  | .lookup t x k ok => match lookP T hp t (ρ x) (ρ k) ok with
    | some (v, ids) => some (v, hp, ⟨ids, [], false, false⟩)
    | none => none
  | .mapUpdate t m k x => match updP T hp t (ρ m) (ρ k) (ρ x) with
    | some (hp', id) => some (undefP, hp', ⟨[], [id], false, false⟩)
    | none => none
  | .insert t m k x => match updP T hp t (ρ m) (ρ k) (ρ x) with
    | some (hp', id) => some (undefP, hp', ⟨[], [id], false, false⟩)
    | none => none
  | .call { callee := .builtin b, args, argTypes } =>
    match b, args.toList.map ρ, argTypes.toList with
    | .len, [x], [t] => match lenP T t x with
      | some r => some (r, hp, FP.none)
      | none => match lenM T hp t x with
        | some (r, ids) => some (r, hp, ⟨ids, [], false, false⟩)
        | none => none
    | .delete, [m, k], [t, _] => match delP T hp t m k with
      | some (hp', id) => some (.tup [], hp', ⟨[], [id], false, false⟩)
      | none => none
    | .max, l, _ => v (minmax true l)
    | .min, l, _ => v (minmax false l)
    | .append, [x, y], [t, t'] =>
      match und T t, und T t' with
      | some (.slice e), some (.slice _) =>
        match sizeT T e, bytesT T e, zeroT T e with
        | some s, some by_, some zs =>
          if by_ ≤ maxBytes ∧ zs.length = s then
            match rdSl hp s y with
            | some (n, new, ids) =>
              if okCells new then match appendP hp s x n new with
                | some (r, hp', fp) => some (r, hp', ⟨ids ++ fp.rd, fp.wr, fp.al, false⟩)
                | none => none
              else none
            | none => none
          else none
        | _, _, _ => none
      | some (.slice e), some .string =>
        match y with
        | .sc (.string str) => match und T e, sizeT T e, bytesT T e, zeroT T e with
          | some (.int .u8), some 1, some 1, some [_] => match appendP hp 1 x (strL str).length ((strL str).map fun b => .sc (.int .u8 b.toNat)) with
            | some (r, hp', fp) => some (r, hp', fp)
            | none => none
          | _, _, _, _ => none
        | _ => none
      | _, _ => none
    | .copy, [x, y], [t, _] =>
      match und T t, x with
      | some (.slice e), .own id s' off len _ =>
        match sizeT T e with
        | some s =>
          if s = s' then
            match rdSl hp s y with
            | some (n, src, ids) =>
              match nthB hp id with
              | some ⟨.live, old⟩ =>
                match takeN? src (Nat.min n len * s) with
                | some new => if !okCells new then none else match over? old off new with
                  | some l => some (.sc (.int .i64 (Nat.min n len : Nat)), setB hp id ⟨.live, l⟩, ⟨ids, [id], false, false⟩)
                  | none => none
                | none => none
              | _ => none
            | none => none
          else none
        | none => none
      | _, _ => none
    | .clear, [x], [t] =>
      match und T t, x with
      | some (.slice e), .own id s' off len _ =>
        match sizeT T e, zeroT T e with
        | some s, some zs =>
          if s = s' ∧ zs.length = s ∧ okCells zs then
            match nthB hp id with
            | some ⟨.live, old⟩ => match over? old off (rep len zs) with
              | some l => some (.tup [], setB hp id ⟨.live, l⟩, ⟨[], [id], false, false⟩)
              | none => none
            | _ => none
          else none
        | _, _ => none
      | _, _ => none
    | _, _, _ => none
  | _ => none

/-! snapshots: a value with all memory that it leads to read -/
def mapIds (f : PV → Option (PV × List Nat)) : List PV → Option (List PV × List Nat)
  | [] => some ([], [])
  | c :: cs => match f c with
    | some (c', ids) => match mapIds f cs with
      | some (l, ids') => some (c' :: l, ids ++ ids')
      | none => none
    | none => none
def snap (hp : List Blk) : (depth : Nat) → PV → Option (PV × List Nat)
  | 0, _ => none
  | d + 1, pv =>
    match pv with
    | .own id s off len x =>
      match nthB hp id with
      | some ⟨st, cs⟩ =>
        if st = .dead then none
        else match takeN? (dropN cs off) (len * s) with
          | some l => match mapIds (snap hp d) l with
            | some (l', ids) => some (.imm len x l', id :: ids)
            | none => none
          | none => none
      | none => none
    | .agg cs => match mapIds (snap hp d) cs with
      | some (l, ids) => some (.agg l, ids)
      | none => none
    | .ptr .. => none
    | .mp _ => none
    | .clos f caps => if idfreeL caps then some (.clos f caps, []) else none
    | .bmet .. => none
    | .tup _ => none
    | v => some (v, [])
def snapDepth : Nat := 12

def scalarL : List PV → Bool
  | [] => true
  | .sc _ :: r => scalarL r
  | _ => false
def scalarP : PV → Bool
  | .sc _ => true
  | .agg cs => scalarL cs
  | _ => false
def roB (hp : List Blk) : List Nat → List Blk
  | [] => hp
  | i :: r => match nthB hp i with
    | some ⟨.live, cs⟩ => roB (setB hp i ⟨.ro, cs⟩) r
    | _ => roB hp r

/-- what a called function hands back: its results, read; of a slice of its own that lies at the top of a result the block goes along. K: the blocks that go along, F: those that were read. -/
def finishL (hp : List Blk) : (kept : List Blk) → (K F : List Nat) → List PV → Option (List PV × List Blk)
  | kept, _, _, [] => some ([], kept)
  | kept, K, F, r :: rs =>
    match r with
    | .own id s off len x =>
      match nthB hp id with
      | some ⟨.live, cs⟩ =>
        match mapIds (snap hp snapDepth) cs with
        | some (cs', ids) =>
          if K.contains id || F.contains id || ids.contains id || ids.any K.contains then none
          else match finishL hp (kept ++ [⟨.live, cs'⟩]) (id :: K) (ids ++ F) rs with
            | some (rs', k) => some (.own kept.length s off len x :: rs', k)
            | none => none
        | none => none
      | _ => match snap hp snapDepth r with
        | some (r', ids) =>
          if ids.any K.contains then none
          else match finishL hp kept K (ids ++ F) rs with
            | some (rs', k) => some (r' :: rs', k)
            | none => none
        | none => none
    | _ => match snap hp snapDepth r with
      | some (r', ids) =>
        if ids.any K.contains then none
        else match finishL hp kept K (ids ++ F) rs with
          | some (rs', k) => some (r' :: rs', k)
          | none => none
      | none => none

/-- the results of a call, out of the frame -/
def resP (T : Tab) (fr : List PV) (hp : List Blk) : List ResultVar → Option (List PV)
  | [] => some []
  | .tmp t :: r => match resP T fr hp r with
    | some l => some (nth fr t :: l)
    | none => none
  | .cell a t :: r => match atAddr hp (nth fr a) with
    | some (cs, _) => match partOf T t cs, resP T fr hp r with
      | some x, some l => some (x :: l)
      | _, _ => none
    | none => none

def shiftP (n : Nat) : PV → PV
  | .own id s off len x => .own (n + id) s off len x
  | v => v

structure Cfg where
  P : Program
  T : Tab
  F : FuncId → Option Func
  /-- functions that work on the caller's memory -/
  shared : FuncId → Bool
  /-- functions known by a contract: the results, if the arguments are met -/
  orc : FuncId → List PV → Option (List PV)
  /-- functions on the caller's memory that are known by a contract: results, and the one block that is changed -/
  sorc : FuncId → Option (List PV → (Nat → Option Blk) → Option (List PV × Option (Nat × Blk))) := fun _ => none

def retP : List PV → PV
  | [r] => r
  | rs => .tup rs

/-- how a function is run: on its own (no heap), on the caller's heap -/
abbrev Runs := FuncId → List PV → List Blk → Option (List PV × List Blk × List Nat)

def addW : List Nat → List Nat → List Nat
  | [], l => l
  | i :: r, l => bif l.contains i then addW r l else addW r (i :: l)

mutual
/-- no block from n on is named -/
def PV.idsLt (n : Nat) : PV → Bool
  | .own id .. => id.blt n
  | .ptr id _ => id.blt n
  | .mp id => id.blt n
  | .agg cs => idsLtL n cs
  | .tup cs => idsLtL n cs
  | .clos _ cs => idsLtL n cs
  | .bmet _ cs => idsLtL n cs
  | _ => true
def idsLtL (n : Nat) : List PV → Bool
  | [] => true
  | c :: cs => c.idsLt n && idsLtL n cs
end
def wrBelow (hp : List Blk) (n : Nat) : List Nat → Bool
  | [] => true
  | i :: r => (match nthB hp i with
    | some b => idsLtL n b.cs
    | none => true) && wrBelow hp n r
def takeB : Nat → List Blk → List Blk
  | 0, _ => []
  | _ + 1, [] => []
  | n + 1, a :: l => a :: takeB n l
def oldW (n : Nat) : List Nat → List Nat
  | [] => []
  | i :: r => bif i.blt n then i :: oldW n r else oldW n r

def upto : Nat → Nat → List Nat
  | _, 0 => []
  | a, n + 1 => a :: upto (a + 1) n

def calleeP (fr : List PV) (c : Call) : Option (FuncId × List PV) :=
  match c.callee with
  | .value f => match evalP fr f with
    | .sc (.func (.func g) ⟨[]⟩ ⟨[]⟩) => some (g, c.args.toList.map (evalP fr))
    | .clos g caps => some (g, c.args.toList.map (evalP fr) ++ caps)
    | .bmet g fs => some (g, fs ++ c.args.toList.map (evalP fr))
    | _ => none
  | _ => none

def callP (C : Cfg) (run : Runs) (dr : Bool) (hp : List Blk) (g : FuncId) (args : List PV) : Option (PV × List Blk × FP) :=
  if C.shared g then
    match run g args hp with
    | some (rs, hp', w) =>
      bif idfreeL rs && wrBelow hp' hp.length (oldW hp.length w) then some (retP rs, takeB hp.length hp', ⟨[], oldW hp.length w, true, true⟩)
      else some (retP rs, hp', ⟨[], oldW hp.length w ++ upto hp.length (hp'.length - hp.length), true, true⟩)
    | none => none
  else match mapIds (snap hp snapDepth) args with
    | none => none
    | some (args', ids) =>
      match C.orc g args' with
      | some rs =>
        bif rs.all scalarP then some (retP rs, hp, ⟨ids, [], false, false⟩)
        else some (retP rs, roB hp ids, ⟨ids, ids, false, false⟩)
      | none => match run g args' [] with
        | none => none
        | some (rs, hp1, _) => match finishL hp1 [] [] [] rs with
          | none => none
          | some (rs', kept) =>
            bif rs'.all scalarP then some (retP rs', hp, ⟨ids, [], false, false⟩)
            else some (retP (rs'.map (shiftP hp.length)), roB hp ids ++ kept, ⟨ids, ids ++ upto hp.length kept.length, !kept.isEmpty, false⟩)

def isCall : Op → Option Call
  | .call c => match c.callee with
    | .value _ => some c
    | _ => none
  | _ => none

def wantedP (ops : Array Oper) (fr : List PV) (o : Oper) : Option Bool :=
  match o.guard with
  | none => some true
  | some (j, want) =>
    match (ops[j]?).bind (·.dst) with
    | some d => match nth fr d with
      | .sc (.bool b) => some (b == want)
      | .any => none
      | _ => some false
    | none => none

/-- what an operation yields: a value, the heap, its footprint -/
def valP (C : Cfg) (run : Runs) (dr : Bool) (ops : Array Oper) (o : Oper) (fr : List PV) (hp : List Blk) : Option (PV × List Blk × FP) :=
  match wantedP ops fr o with
  | none => none
  | some false => some (.sc undef, hp, FP.none)
  | some true =>
    match isCall o.op with
    | some c => match calleeP fr c with
      | some (g, args) => callP C run dr hp g args
      | none => none
    | none => stepP C.P C.T fr hp o.op

def operP (C : Cfg) (run : Runs) (dr : Bool) (ops : Array Oper) (o : Oper) (st : St) : Option (St × FP) :=
  match valP C run dr ops o st.fr st.hp with
  | some (v, hp, fp) => some (⟨putP st.fr o.dst v, hp, addW fp.wr st.wr⟩, fp)
  | none => none

def goOps (C : Cfg) (run : Runs) (dr : Bool) (ops : Array Oper) : List Oper → St → Option (St × List FP)
  | [], st => some (st, [])
  | o :: r, st => match operP C run dr ops o st with
    | some (st', fp) => match goOps C run dr ops r st' with
      | some (st'', fps) => some (st'', fp :: fps)
      | none => none
    | none => none

def FP.free (a : FP) : Bool := a.rd.isEmpty && a.wr.isEmpty && !a.al && !a.all
def FP.apart (a b : FP) : Bool :=
  !(a.wr.any fun i => b.rd.contains i || b.wr.contains i) && !(b.wr.any fun i => a.rd.contains i) && !(a.al && b.al) && !(a.all && !b.wr.isEmpty) && !(b.all && !a.wr.isEmpty)

def pairsOk (bs : Array Nat) (l : List (Nat × FP)) : Bool :=
  match l with
  | [] => true
  | (i, a) :: r => r.all (fun (j, b) => a.apart b || (bs.getD j 0).testBit i) && pairsOk bs r

def number : Nat → List FP → List (Nat × FP)
  | _, [] => []
  | n, a :: r => bif a.free then number (n + 1) r else (n, a) :: number (n + 1) r

def regP (C : Cfg) (run : Runs) (ops : Array Oper) (dr : Bool) (st : St) : Option St :=
  match goOps C run dr ops ops.toList st with
  | some (st', fps) =>
    bif dr then (match number 0 fps with
      | [] => some st'
      | [_] => some st'
      | l => bif pairsOk (Region.before ops) l then some st' else none)
    else some st'
  | none => none

def iterL (f : St → Option (Ex × St)) : Nat → St → Option (Ex × St)
  | 0, _ => none
  | n + 1, st => match f st with
    | some (.normal, st') => iterL f n st'
    | r => r

def execC (C : Cfg) (run : Runs) (n : Nat) : Code → St → Option (Ex × St)
  | .skip, st => some (.normal, st)
  | .label _, st => some (.normal, st)
  | .region _ ops dr, st => match regP C run ops dr st with
    | some st' => some (.normal, st')
    | none => none
  | .seq a b, st => match execC C run n a st with
    | some (.normal, st') => execC C run n b st'
    | r => r
  | .cond c a b, st => match evalP st.fr c with
    | .sc (.bool true) => execC C run n a st
    | .sc (.bool false) => execC C run n b st
    | _ => none
  | .block id b, st => match execC C run n b st with
    | some (.exit i, st') => if i = id then some (.normal, st') else some (.exit i, st')
    | r => r
  | .loop b, st => iterL (execC C run n b) n st
  | .scope b, st => execC C run n b st
  | .exit id, st => some (.exit id, st)
  | .ret, st => some (.ret, st)
  | _, _ => none

def entry : Nat → List PV → List PV
  | 0, l => l
  | n + 1, [] => .sc undef :: entry n []
  | n + 1, a :: l => a :: entry n l

def bodyP (C : Cfg) (run : Runs) (n : Nat) : Runs := fun g args hp =>
  match C.F g with
  | some fn => match fn.body with
    | some c => match execC C run n c ⟨entry fn.ntmps args, hp, []⟩ with
      | some (.normal, st) | some (.ret, st) => match resP C.T st.fr st.hp fn.results.toList with
        | some rs => some (rs, st.hp, st.wr)
        | none => none
      | _ => none
    | none => none
  | none => none

def sorcRun (f : List PV → (Nat → Option Blk) → Option (List PV × Option (Nat × Blk))) (args : List PV) (hp : List Blk) : Option (List PV × List Blk × List Nat) :=
  match f args (nthB hp) with
  | some (rs, none) => some (rs, hp, [])
  | some (rs, some (id, b)) => bif id.blt hp.length then some (rs, setB hp id b, [id]) else none
  | none => none
def runK (C : Cfg) : Nat → Runs
  | 0 => fun _ _ _ => none
  | k + 1 => fun g args hp => match C.sorc g with
    | some f => sorcRun f args hp
    | none => bodyP C (runK C k) k g args hp

/-! what a drawn region must fulfil, told from its text -/
def apartOf (ops : Array Oper) (oj : Oper) (i : Nat) : Bool :=
  match ops[i]? with
  | some oi => oi.apart ops oj
  | none => true
def statOk (ops : Array Oper) : Bool :=
  (List.range ops.size).all fun j => match ops[j]? with
    | none => true
    | some oj => oj.after.all (fun e => !Region.binds .any e || e.on.blt j) && (List.range j).all fun i => ((Region.before ops).getD j 0).testBit i || apartOf ops oj i
def drawsOk : Code → Bool
  | .region _ ops dr => !dr || statOk ops
  | .seq a b => drawsOk a && drawsOk b
  | .cond _ a b => drawsOk a && drawsOk b
  | .block _ b => drawsOk b
  | .loop b => drawsOk b
  | .scope b => drawsOk b
  | _ => true

end Go.Ab
namespace Go.Ab
open Go

/-! ### lists -/
theorem nth_eq (l : List PV) (k : Nat) : nth l k = (l[k]?).getD .any := by
  induction l generalizing k with
  | nil => simp [nth]
  | cons a l ih => cases k <;> simp [nth, ih]
theorem setN_eq (l : List PV) (k : Nat) (v : PV) : setN l k v = l.set k v := by
  induction l generalizing k with
  | nil => simp [setN]
  | cons a l ih => cases k <;> simp [setN, ih]
theorem nthB_eq (l : List Blk) (k : Nat) : nthB l k = l[k]? := by
  induction l generalizing k with
  | nil => simp [nthB]
  | cons a l ih => cases k <;> simp [nthB, ih]
theorem setB_eq (l : List Blk) (k : Nat) (v : Blk) : setB l k v = l.set k v := by
  induction l generalizing k with
  | nil => simp [setB]
  | cons a l ih => cases k <;> simp [setB, ih]
theorem dropN_eq (l : List PV) (k : Nat) : dropN l k = l.drop k := by
  induction k generalizing l with
  | zero => simp [dropN]
  | succ k ih => cases l <;> simp [dropN, ih]
theorem takeB_eq (l : List Blk) (k : Nat) : takeB k l = l.take k := by
  induction k generalizing l with
  | zero => simp [takeB]
  | succ k ih => cases l <;> simp [takeB, ih]
theorem takeN?_some {l r : List PV} {n : Nat} (h : takeN? l n = some r) : n ≤ l.length ∧ r = l.take n := by
  induction n generalizing l r with
  | zero => simp [takeN?] at h; simp [← h]
  | succ n ih =>
    cases l with
    | nil => simp [takeN?] at h
    | cons a l =>
      simp only [takeN?] at h
      cases h' : takeN? l n with
      | none => simp [h'] at h
      | some r' =>
        simp [h'] at h
        obtain ⟨h1, h2⟩ := ih h'
        subst h
        exact ⟨by simp; omega, by simp [h2]⟩
theorem takeN?_of {l : List PV} {n : Nat} (h : n ≤ l.length) : takeN? l n = some (l.take n) := by
  induction n generalizing l with
  | zero => simp [takeN?]
  | succ n ih =>
    cases l with
    | nil => simp at h
    | cons a l => simp at h; simp [takeN?, ih h]
theorem over?_some {l r vs : List PV} {n : Nat} (h : over? l n vs = some r) :
    n + vs.length ≤ l.length ∧ r.length = l.length ∧ ∀ k, r[k]? = if n ≤ k ∧ k < n + vs.length then vs[k - n]? else l[k]? := by
  induction l generalizing r vs n with
  | nil =>
    cases n with
    | succ n => simp [over?] at h
    | zero =>
      cases vs with
      | nil => simp [over?] at h; subst h; simp
      | cons v vs => simp [over?] at h
  | cons a l ih =>
    cases n with
    | zero =>
      cases vs with
      | nil => simp [over?] at h; subst h; simp
      | cons v vs =>
        simp only [over?] at h
        cases h' : over? l 0 vs with
        | none => simp [h'] at h
        | some r' =>
          simp [h'] at h; subst h
          obtain ⟨h1, h2, h3⟩ := ih h'
          refine ⟨by simp; omega, by simp [h2], fun k => ?_⟩
          cases k with
          | zero => simp
          | succ k => simp [h3 k]
    | succ n =>
      simp only [over?] at h
      cases h' : over? l n vs with
      | none => simp [h'] at h
      | some r' =>
        simp [h'] at h; subst h
        obtain ⟨h1, h2, h3⟩ := ih h'
        refine ⟨by simp; omega, by simp [h2], fun k => ?_⟩
        cases k with
        | zero => simp
        | succ k =>
          simp only [List.getElem?_cons_succ, h3 k]
          by_cases hc : n ≤ k ∧ k < n + vs.length
          · rw [if_pos hc, if_pos (by omega)]; congr 1; omega
          · rw [if_neg hc, if_neg (by omega)]
theorem rep_length (n : Nat) (l : List PV) : (rep n l).length = n * l.length := by
  induction n with
  | zero => simp [rep]
  | succ n ih => simp [rep, ih, Nat.succ_mul]; omega
theorem rep_get (n : Nat) (l : List PV) (k : Nat) (h : k < n * l.length) : (rep n l)[k]? = l[k % l.length]? := by
  induction n generalizing k with
  | zero => simp at h
  | succ n ih =>
    simp only [rep]
    rcases Nat.lt_or_ge k l.length with hk | hk
    · rw [List.getElem?_append_left hk, Nat.mod_eq_of_lt hk]
    · rw [List.getElem?_append_right hk, ih (k - l.length) (by rw [Nat.succ_mul] at h; omega), Nat.mod_eq_sub_mod hk]

/-! ### the relation -/
/-- an abstract value, and a value in a world. M: the blocks that may be written; σ: where the abstract blocks lie; L: which of them are live. -/
inductive V (w : World) (M : Nat → Prop) (σ : List Addr) (L : Nat → Prop) : PV → Value → Prop
  | any (v : Value) : V w M σ L .any v
  | sc (v : Value) : V w M σ L (.sc v) v
  | agg (cs : List PV) (vs : Array Value) : cs.length = vs.size → (∀ (k : Nat) c v, cs[k]? = some c → vs[k]? = some v → V w M σ L c v) → V w M σ L (.agg cs) (.agg vs)
  | tup (cs : List PV) (vs : Array Value) : cs.length = vs.size → (∀ (k : Nat) c v, cs[k]? = some c → vs[k]? = some v → V w M σ L c v) → V w M σ L (.tup cs) (.tuple vs)
  | nil (x : Bool) : V w M σ L (.imm 0 x []) (.slice none 0 0)
  | imm (len : Nat) (x : Bool) (cs : List PV) (a : Addr) (cap : Nat) (g : Nat → Value) : len ≤ cap → (x = true → cap = len) →
      (∀ (k : Nat) c, cs[k]? = some c → a.spot = none ∧ c.idfree = true ∧ ¬ M a.block ∧ w.cell? ⟨a.block, a.off + k, none⟩ = some (g k)) →
      (∀ (k : Nat) c, cs[k]? = some c → V w M σ L c (g k)) → V w M σ L (.imm len x cs) (.slice (some a) len cap)
  | own (id s off len : Nat) (x : Bool) (a b : Addr) (cap : Nat) : σ[id]? = some a → len ≤ cap → (x = true → cap = len) →
      (0 < cap → b = ⟨a.block, a.off + off, none⟩) → (L id → ∃ c e, w.heap[a.block]? = some (.cells c e (0, 0)) ∧ a.off + off + cap * s ≤ c.size) →
      V w M σ L (.own id s off len x) (.slice (some b) len cap)
  | ptr (id off : Nat) (a : Addr) : σ[id]? = some a → V w M σ L (.ptr id off) (.pointer (some ⟨a.block, a.off + off, none⟩))
  | iptr (cs : List PV) (a : Addr) (g : Nat → Value) :
      (∀ (k : Nat) c, cs[k]? = some c → a.spot = none ∧ c.idfree = true ∧ ¬ M a.block ∧ w.cell? ⟨a.block, a.off + k, none⟩ = some (g k)) →
      (∀ (k : Nat) c, cs[k]? = some c → V w M σ L c (g k)) → V w M σ L (.iptr cs) (.pointer (some a))
  | clos (f : FuncId) (cs : List PV) (vs : Array Value) : cs.length = vs.size → (∀ (k : Nat) c v, cs[k]? = some c → vs[k]? = some v → V w M σ L c v) →
      V w M σ L (.clos f cs) (.func (.func f) #[] vs)
  | bmet (f : FuncId) (cs : List PV) (vs : Array Value) : cs.length = vs.size → (∀ (k : Nat) c v, cs[k]? = some c → vs[k]? = some v → V w M σ L c v) →
      V w M σ L (.bmet f cs) (.func (.func f) vs #[])
  | mp (id : Nat) (a : Addr) : σ[id]? = some a → V w M σ L (.mp id) (.map (some a.block))

/-- a map's entries -/
def MapRel (w : World) (M : Nat → Prop) (σ : List Addr) (L : Nat → Prop) : List PV → List MapEntry → Prop
  | [], [] => True
  | k :: v :: r, e :: es => V w M σ L k e.key ∧ V w M σ L v e.val ∧ MapRel w M σ L r es
  | _, _ => False
/-- an abstract map lies among the blocks as one that no cell operation reads -/
def mapAt (hp : List Blk) (i : Nat) : Prop := ∃ cs, hp[i]? = some ⟨.dead, .any :: cs⟩
def liveAt (hp : List Blk) (i : Nat) : Prop := ∃ cs, hp[i]? = some ⟨.live, cs⟩
/-- the blocks that are ours to write -/
def ownAt (hp : List Blk) (i : Nat) : Prop := liveAt hp i ∨ mapAt hp i
def ownd (σ : List Addr) (hp : List Blk) (b : Nat) : Prop := ∃ i a, ownAt hp i ∧ σ[i]? = some a ∧ a.block = b
/-- the blocks that may be written: H: others' -/
def hot (H : Nat → Prop) (σ : List Addr) (hp : List Blk) (b : Nat) : Prop := H b ∨ ownd σ hp b

structure Sim (w : World) (H : Nat → Prop) (σ : List Addr) (hp : List Blk) : Prop where
  len : σ.length = hp.length
  spot : ∀ (i : Nat) a, σ[i]? = some a → a.block < w.heap.size
  foreign : ∀ b, H b → b < w.heap.size
  cells : ∀ (i : Nat) st cs a, hp[i]? = some ⟨st, cs⟩ → st ≠ .dead → σ[i]? = some a → ∀ (k : Nat) c, cs[k]? = some c →
    ∃ v, w.cell? ⟨a.block, a.off + k, none⟩ = some v ∧ V w (hot H σ hp) σ (liveAt hp) c v
  own : ∀ (i : Nat) st cs a, hp[i]? = some ⟨st, cs⟩ → st ≠ .dead → σ[i]? = some a → ¬ H a.block
  live : ∀ (i : Nat) a cs, hp[i]? = some ⟨.live, cs⟩ → σ[i]? = some a → ∃ (c : Array Value) (e : TypeId), w.heap[a.block]? = some (Obj.cells c e (0, 0)) ∧ a.off + cs.length ≤ c.size
  inj : ∀ (i j : Nat) a b st cs, liveAt hp i → hp[j]? = some ⟨st, cs⟩ → st ≠ .dead → i ≠ j → σ[i]? = some a → σ[j]? = some b → a.block ≠ b.block
  maps : ∀ (i : Nat) cs a, hp[i]? = some ⟨.dead, .any :: cs⟩ → σ[i]? = some a → ¬ H a.block ∧ ∃ es clock, w.heap[a.block]? = some (Obj.map es clock) ∧ MapRel w (hot H σ hp) σ (liveAt hp) cs es.toList
  injm : ∀ (i j : Nat) a b, mapAt hp i → mapAt hp j → i ≠ j → σ[i]? = some a → σ[j]? = some b → a.block ≠ b.block

/-- the rows that are still live have their sizes -/
def Shape (w : World) (σ : List Addr) (w' : World) (L' : Nat → Prop) : Prop := ∀ (i : Nat) (a : Addr) (c : Array Value) (e : TypeId), L' i → σ[i]? = some a → w.heap[a.block]? = some (Obj.cells c e (0, 0)) →
  ∃ c' : Array Value, w'.heap[a.block]? = some (Obj.cells c' e (0, 0)) ∧ c'.size = c.size
theorem shape_of {w : World} {σ : List Addr} {w' : World} {L' : Nat → Prop} (h : ∀ (b : Nat) (c : Array Value) (e : TypeId) (f : Nat × Nat), w.heap[b]? = some (Obj.cells c e f) → ∃ c' : Array Value, w'.heap[b]? = some (Obj.cells c' e f) ∧ c'.size = c.size) : Shape w σ w' L' :=
  fun _ a c e _ _ hb => h a.block c e _ hb
/-- one state comes behind another -/
structure Step (w : World) (M : Nat → Prop) (σ : List Addr) (L : Nat → Prop) (w' : World) (M' : Nat → Prop) (σ' : List Addr) (L' : Nat → Prop) : Prop where
  os : w'.os = w.os
  tape : w'.tape = w.tape
  output : w'.output = w.output
  size : w.heap.size ≤ w'.heap.size
  pre : ∀ (i : Nat) a, σ[i]? = some a → σ'[i]? = some a
  same : ∀ (b : Nat), b < w.heap.size → ¬ M b → w'.heap[b]? = w.heap[b]?
  shape : Shape w σ w' L'
  hot : ∀ (b : Nat), b < w.heap.size → M' b → M b
  live : ∀ i, i < σ.length → L' i → L i

theorem Step.refl (w : World) (M : Nat → Prop) (σ : List Addr) (L : Nat → Prop) : Step w M σ L w M σ L :=
  ⟨rfl, rfl, rfl, Nat.le_refl _, fun _ _ h => h, fun _ _ _ => rfl, shape_of fun _ c _ _ h => ⟨c, h, rfl⟩, fun _ _ h => h, fun _ _ h => h⟩

theorem pre_length {σ σ' : List Addr} (h : ∀ (i : Nat) a, σ[i]? = some a → σ'[i]? = some a) : σ.length ≤ σ'.length := by
  rcases Nat.lt_or_ge σ'.length σ.length with h' | h'
  · have := h σ'.length (σ[σ'.length]) (List.getElem?_eq_getElem h')
    simp at this
  · exact h'

theorem Step.trans {w w1 w2 : World} {M M1 M2 : Nat → Prop} {σ σ1 σ2 : List Addr} {L L1 L2 : Nat → Prop} (h : Step w M σ L w1 M1 σ1 L1) (h' : Step w1 M1 σ1 L1 w2 M2 σ2 L2) :
    Step w M σ L w2 M2 σ2 L2 where
  os := h'.os.trans h.os
  tape := h'.tape.trans h.tape
  output := h'.output.trans h.output
  size := Nat.le_trans h.size h'.size
  pre i a ha := h'.pre i a (h.pre i a ha)
  same b hb hm := by
    rw [h'.same b (Nat.lt_of_lt_of_le hb h.size) (fun hm1 => hm (h.hot b hb hm1)), h.same b hb hm]
  shape i a c e hl ha hb := by
    have hi : i < σ.length := by
      rcases Nat.lt_or_ge i σ.length with h' | h'
      · exact h'
      · simp [List.getElem?_eq_none h'] at ha
    obtain ⟨c1, h1, e1⟩ := h.shape i a c e (h'.live i (Nat.lt_of_lt_of_le hi (pre_length h.pre)) hl) ha hb
    obtain ⟨c2, h2, e2⟩ := h'.shape i a c1 e hl (h.pre i a ha) h1
    exact ⟨c2, h2, e2.trans e1⟩
  hot b hb hm := h.hot b hb (h'.hot b (Nat.lt_of_lt_of_le hb h.size) hm)
  live i hi hl := h.live i hi (h'.live i (Nat.lt_of_lt_of_le hi (pre_length h.pre)) hl)

theorem cell?_same {w w' : World} {a : Addr} (h : w'.heap[a.block]? = w.heap[a.block]?) : w'.cell? a = w.cell? a := by
  simp only [World.cell?, h]
theorem frozen?_same {w w' : World} {a : Addr} (h : w'.heap[a.block]? = w.heap[a.block]?) : w'.frozen? a = w.frozen? a := by
  simp only [World.frozen?, h]

theorem V.stepG {w w' : World} {H M M' : Nat → Prop} {σ σ' : List Addr} {L L' : Nat → Prop} (h : Step w M σ L w' M' σ' L') {p : PV} {v : Value} (hv : V w (fun b => H b ∨ M b) σ L p v) : V w' (fun b => H b ∨ M' b) σ' L' p v := by
  induction hv with
  | any v => exact .any v
  | sc v => exact .sc v
  | agg cs vs hl _ ih => exact .agg cs vs hl ih
  | tup cs vs hl _ ih => exact .tup cs vs hl ih
  | nil x => exact .nil x
  | imm len x cs a cap g h1 h2 h3 _ ih =>
    refine .imm len x cs a cap g h1 h2 (fun k c hk => ?_) ih
    obtain ⟨e1, e2, e3, e4⟩ := h3 k c hk
    have hb := World.block_lt_of_cell? _ _ e4
    exact ⟨e1, e2, fun hm => e3 (hm.imp id (h.hot _ hb)), by rw [cell?_same (h.same _ hb (fun hm => e3 (.inr hm)))]; exact e4⟩
  | own id s off len x a b cap h1 h2 h3 h4 h5 =>
    have hi : id < σ.length := by
      rcases Nat.lt_or_ge id σ.length with h' | h'
      · exact h'
      · simp [List.getElem?_eq_none h'] at h1
    refine .own id s off len x a b cap (h.pre _ _ h1) h2 h3 h4 (fun hl => ?_)
    obtain ⟨c, e, hc, hs⟩ := h5 (h.live id hi hl)
    obtain ⟨c', hc', e'⟩ := h.shape id a c e hl h1 hc
    exact ⟨c', e, hc', by omega⟩
  | ptr id off a h1 => exact .ptr id off a (h.pre _ _ h1)
  | iptr cs a g h3 _ ih =>
    refine .iptr cs a g (fun k c hk => ?_) ih
    obtain ⟨e1, e2, e3, e4⟩ := h3 k c hk
    have hb := World.block_lt_of_cell? _ _ e4
    exact ⟨e1, e2, fun hm => e3 (hm.imp id (h.hot _ hb)), by rw [cell?_same (h.same _ hb (fun hm => e3 (.inr hm)))]; exact e4⟩
  | clos f cs vs hl _ ih => exact .clos f cs vs hl ih
  | bmet f cs vs hl _ ih => exact .bmet f cs vs hl ih
  | mp id a h1 => exact .mp id a (h.pre _ _ h1)

theorem V.step {w w' : World} {H : Nat → Prop} {σ σ' : List Addr} {hp hp' : List Blk} (h : Step w (ownd σ hp) σ (liveAt hp) w' (ownd σ' hp') σ' (liveAt hp')) {p : PV} {v : Value} (hv : V w (hot H σ hp) σ (liveAt hp) p v) : V w' (hot H σ' hp') σ' (liveAt hp') p v :=
  V.stepG (H := H) h hv

theorem MapRel.step {w w' : World} {H : Nat → Prop} {σ σ' : List Addr} {hp hp' : List Blk} (h : Step w (ownd σ hp) σ (liveAt hp) w' (ownd σ' hp') σ' (liveAt hp')) : ∀ {cs : List PV} {es : List MapEntry}, MapRel w (hot H σ hp) σ (liveAt hp) cs es → MapRel w' (hot H σ' hp') σ' (liveAt hp') cs es
  | [], [], _ => trivial
  | k :: v :: r, e :: es, hr => ⟨hr.1.step h, hr.2.1.step h, hr.2.2.step h⟩
  | [], _ :: _, hr => hr.elim
  | [_], [], hr => hr.elim
  | [_], _ :: _, hr => hr.elim
  | _ :: _ :: _, [], hr => hr.elim
/-- lists of values -/
def Vs (w : World) (M : Nat → Prop) (σ : List Addr) (L : Nat → Prop) (ps : List PV) (vs : List Value) : Prop :=
  ps.length = vs.length ∧ ∀ (k : Nat) p v, ps[k]? = some p → vs[k]? = some v → V w M σ L p v

theorem Vs.step {w w' : World} {H : Nat → Prop} {σ σ' : List Addr} {hp hp' : List Blk} (h : Step w (ownd σ hp) σ (liveAt hp) w' (ownd σ' hp') σ' (liveAt hp')) {ps : List PV} {vs : List Value} (hv : Vs w (hot H σ hp) σ (liveAt hp) ps vs) : Vs w' (hot H σ' hp') σ' (liveAt hp') ps vs :=
  ⟨hv.1, fun k p v h1 h2 => (hv.2 k p v h1 h2).step h⟩

end Go.Ab
namespace Go.Ab
open Go

theorem liveAt_append {hp : List Blk} {b : Blk} {i : Nat} (h : liveAt (hp ++ [b]) i) : (liveAt hp i) ∨ (i = hp.length ∧ b.st = .live) := by
  obtain ⟨cs, hc⟩ := h
  rcases Nat.lt_or_ge i hp.length with h' | h'
  · rw [List.getElem?_append_left h'] at hc; exact .inl ⟨cs, hc⟩
  · rw [List.getElem?_append_right h'] at hc
    rcases Nat.eq_zero_or_pos (i - hp.length) with h0 | h0
    · rw [h0] at hc; simp at hc; subst hc; exact .inr ⟨by omega, rfl⟩
    · obtain ⟨m, hm⟩ : ∃ m, i - hp.length = m + 1 := ⟨i - hp.length - 1, by omega⟩
      rw [hm] at hc; simp at hc

theorem liveAt_lt {hp : List Blk} {i : Nat} (h : liveAt hp i) : i < hp.length := by
  obtain ⟨cs, hc⟩ := h
  rcases Nat.lt_or_ge i hp.length with h' | h'
  · exact h'
  · simp [List.getElem?_eq_none h'] at hc

theorem liveAt_old {hp : List Blk} {b : Blk} {i : Nat} (h : i < hp.length) : liveAt (hp ++ [b]) i ↔ liveAt hp i := by
  unfold liveAt; rw [List.getElem?_append_left h]

theorem mapAt_lt {hp : List Blk} {i : Nat} (h : mapAt hp i) : i < hp.length := by
  obtain ⟨cs, hc⟩ := h
  rcases Nat.lt_or_ge i hp.length with h' | h'
  · exact h'
  · simp [List.getElem?_eq_none h'] at hc
theorem mapAt_old {hp : List Blk} {b : Blk} {i : Nat} (h : i < hp.length) : mapAt (hp ++ [b]) i ↔ mapAt hp i := by
  unfold mapAt; rw [List.getElem?_append_left h]
theorem ownAt_old {hp : List Blk} {b : Blk} {i : Nat} (h : i < hp.length) : ownAt (hp ++ [b]) i ↔ ownAt hp i := by
  unfold ownAt; rw [liveAt_old h, mapAt_old h]
theorem mapAt_set {hp : List Blk} {id : Nat} {b : Blk} (hb : ∀ cs, b ≠ ⟨.dead, .any :: cs⟩) {i : Nat} (h : mapAt (hp.set id b) i) : mapAt hp i ∧ id ≠ i := by
  obtain ⟨cs, hc⟩ := h
  by_cases e : id = i
  · subst e
    have hlt : id < hp.length := by
      rcases Nat.lt_or_ge id hp.length with h' | h'
      · exact h'
      · rw [List.getElem?_eq_none (by simpa using h')] at hc; cases hc
    rw [List.getElem?_set_self hlt] at hc
    simp only [Option.some.injEq] at hc
    exact absurd hc (hb cs)
  · rw [List.getElem?_set_ne e] at hc; exact ⟨⟨cs, hc⟩, e⟩

theorem get_lt {α : Type} {l : List α} {i : Nat} {a : α} (h : l[i]? = some a) : i < l.length := by
  rcases Nat.lt_or_ge i l.length with h' | h'
  · exact h'
  · simp [List.getElem?_eq_none h'] at h

theorem snoc_get {α : Type} {l : List α} {a : α} {i : Nat} {b : α} (h : (l ++ [a])[i]? = some b) : (i < l.length ∧ l[i]? = some b) ∨ (i = l.length ∧ b = a) := by
  rcases Nat.lt_or_ge i l.length with h' | h'
  · rw [List.getElem?_append_left h'] at h; exact .inl ⟨h', h⟩
  · have := get_lt h
    simp at this
    have e : i = l.length := by omega
    subst e; simp at h; exact .inr ⟨rfl, h.symm⟩

/-- a new block -/
theorem sim_alloc {w : World} {H : Nat → Prop} {σ : List Addr} {hp : List Blk} (S : Sim w H σ hp) {cs : List PV} {vs : Array Value} {e : TypeId}
    (hl : cs.length ≤ vs.size) (hv : ∀ (k : Nat) c v, cs[k]? = some c → vs[k]? = some v → V w (hot H σ hp) σ (liveAt hp) c v) :
    Sim (w.alloc (.cells vs e)) H (σ ++ [⟨w.heap.size, 0, none⟩]) (hp ++ [⟨.live, cs⟩]) ∧
    Step w (ownd σ hp) σ (liveAt hp) (w.alloc (.cells vs e)) (ownd (σ ++ [⟨w.heap.size, 0, none⟩]) (hp ++ [⟨.live, cs⟩])) (σ ++ [⟨w.heap.size, 0, none⟩]) (liveAt (hp ++ [⟨.live, cs⟩])) := by
  have hold : ∀ (k : Nat), k < w.heap.size → (w.alloc (.cells vs e)).heap[k]? = w.heap[k]? := fun k hk => Go.RowKit.Below.heap_alloc _ _ _ hk
  have hnew : (w.alloc (.cells vs e)).heap[w.heap.size]? = some (.cells vs e) := by
    show (w.heap.push _)[w.heap.size]? = _
    simp
  have st : Step w (ownd σ hp) σ (liveAt hp) (w.alloc (.cells vs e)) (ownd (σ ++ [⟨w.heap.size, 0, none⟩]) (hp ++ [⟨.live, cs⟩])) (σ ++ [⟨w.heap.size, 0, none⟩]) (liveAt (hp ++ [⟨.live, cs⟩])) := by
    refine ⟨rfl, rfl, rfl, by simp, fun i a ha => ?_, fun b hb _ => hold b hb, shape_of fun b c e' f hb => ?_, fun b hb hm => ?_, fun i hi hm => ?_⟩
    · rw [List.getElem?_append_left (get_lt ha)]; exact ha
    · have : b < w.heap.size := by
        rcases Nat.lt_or_ge b w.heap.size with h' | h'
        · exact h'
        · simp [Array.getElem?_eq_none h'] at hb
      exact ⟨c, by rw [hold b this]; exact hb, rfl⟩
    · obtain ⟨i, a, h1, h2, h3⟩ := hm
      rcases snoc_get h2 with ⟨hi, h2⟩ | ⟨hi, h2⟩
      · exact ⟨i, a, (ownAt_old (by rw [← S.len]; exact hi)).1 h1, h2, h3⟩
      · subst h2; simp at h3; omega
    · exact (liveAt_old (by rw [← S.len]; exact hi)).1 hm
  refine ⟨⟨by simp [S.len], fun i a ha => ?_, fun b hb => Nat.lt_of_lt_of_le (S.foreign b hb) (by simp), fun i s cs' a hi hd ha k c hk => ?_, fun i s cs' a hi hd ha => ?_, fun i a cs0 hi ha => ?_, fun i j a b s cs' hi hj hd hne ha hb => ?_, fun i cs' a hi ha => ?_, fun i j a b hi hj hne ha hb => ?_⟩, st⟩
  · rcases snoc_get ha with ⟨_, h⟩ | ⟨_, h⟩
    · exact Nat.lt_of_lt_of_le (S.spot i a h) (by simp)
    · subst h; simp
  · rcases snoc_get hi with ⟨hlt, h⟩ | ⟨hlt, h⟩
    · rcases snoc_get ha with ⟨_, ha⟩ | ⟨e', _⟩
      · obtain ⟨v, h1, h2⟩ := S.cells i s cs' a h hd ha k c hk
        exact ⟨v, by rw [cell?_same (a := ⟨a.block, a.off + k, none⟩) (hold _ (S.spot i a ha))]; exact h1, h2.step st⟩
      · rw [S.len] at e'; omega
    · cases h
      rcases snoc_get ha with ⟨h', ha⟩ | ⟨e', ha⟩
      · rw [S.len] at h'; omega
      · subst ha
        have hk' := get_lt hk
        have hks : k < vs.size := by omega
        refine ⟨vs[k], ?_, (hv k c vs[k] hk (by simp [hks])).step st⟩
        simp [World.cell?_alloc_new, hks]
  · rcases snoc_get ha with ⟨hlt, h⟩ | ⟨hlt, h⟩
    · rw [List.getElem?_append_left (by rw [← S.len]; exact hlt)] at hi
      exact S.own i s cs' a hi hd h
    · subst h
      exact fun hh => by have := S.foreign _ hh; simp at this
  · rcases snoc_get ha with ⟨hlt, h⟩ | ⟨hlt, h⟩
    · rw [List.getElem?_append_left (by rw [← S.len]; exact hlt)] at hi
      obtain ⟨c, e', h2, h3⟩ := S.live i a cs0 hi h
      exact ⟨c, e', by rw [hold _ (S.spot i a h)]; exact h2, h3⟩
    · subst h
      rw [S.len] at hlt
      rw [hlt, List.getElem?_append_right (Nat.le_refl _)] at hi
      simp at hi; subst hi
      exact ⟨vs, e, hnew, by simpa using hl⟩
  · rcases snoc_get ha with ⟨hlt, ha⟩ | ⟨hlt, ha⟩ <;> rcases snoc_get hb with ⟨hlt', hb⟩ | ⟨hlt', hb⟩
    · rcases snoc_get hj with ⟨_, hj⟩ | ⟨e', _⟩
      · exact S.inj i j a b s cs' ((liveAt_old (by rw [← S.len]; exact hlt)).1 hi) hj hd hne ha hb
      · rw [← S.len] at e'; omega
    · subst hb; have := S.spot i a ha; simp; omega
    · subst ha; have := S.spot j b hb; simp; omega
    · omega
  · rcases snoc_get hi with ⟨hlt, h⟩ | ⟨_, h⟩
    · rcases snoc_get ha with ⟨_, ha⟩ | ⟨e', _⟩
      · obtain ⟨h1, es, ck, h2, h3⟩ := S.maps i cs' a h ha
        exact ⟨h1, es, ck, by rw [hold _ (S.spot i a ha)]; exact h2, h3.step st⟩
      · rw [S.len] at e'; omega
    · cases h
  · have hi' : mapAt hp i := by
      obtain ⟨ds, hds⟩ := hi
      rcases snoc_get hds with ⟨_, h⟩ | ⟨_, h⟩
      · exact ⟨ds, h⟩
      · cases h
    have hj' : mapAt hp j := by
      obtain ⟨ds, hds⟩ := hj
      rcases snoc_get hds with ⟨_, h⟩ | ⟨_, h⟩
      · exact ⟨ds, h⟩
      · cases h
    have hli := mapAt_lt hi'
    have hlj := mapAt_lt hj'
    rw [← S.len] at hli hlj
    rw [List.getElem?_append_left hli] at ha
    rw [List.getElem?_append_left hlj] at hb
    exact S.injm i j a b hi' hj' hne ha hb

/-- some cells of one block are written -/
def Wrote (w w' : World) (b : Nat) (off : Nat) (vs : List Value) : Prop :=
  w'.os = w.os ∧ w'.tape = w.tape ∧ w'.output = w.output ∧ w'.heap.size = w.heap.size ∧ (∀ k, k ≠ b → w'.heap[k]? = w.heap[k]?) ∧
  ∀ c e f, w.heap[b]? = some (Obj.cells c e f) → ∃ c' : Array Value, w'.heap[b]? = some (Obj.cells c' e f) ∧ c'.size = c.size ∧ ∀ j, c'[j]? = if off ≤ j ∧ j < off + vs.length then vs[j - off]? else c[j]?

theorem run_storeCells (P : Program) (a : Addr) (hs : a.spot = none) : ∀ (vs : List Value) (i : Nat) (w : World) (c : Array Value) (e : TypeId),
    w.heap[a.block]? = some (.cells c e (0, 0)) → a.off + i + vs.length ≤ c.size → (∀ v ∈ vs, v.oneCell' = true) →
    ∃ w', (storeCells a vs i).run P w = .ok () w' ∧ Wrote w w' a.block (a.off + i) vs
  | [], i, w, c, e, hb, _, _ => ⟨w, rfl, rfl, rfl, rfl, rfl, fun _ _ => rfl, fun c e f h => ⟨c, h, rfl, fun j => by rw [if_neg (by simp)]⟩⟩
  | v :: vs, i, w, c, e, hb, hle, hone => by
    simp only [List.length_cons] at hle
    have hadd : a.add i = ⟨a.block, a.off + i, none⟩ := by
      unfold Addr.add
      split
      · rename_i h; subst h; cases a; simp at hs; simp [hs]
      · rfl
    have hcell : w.cell? ⟨a.block, a.off + i, none⟩ = some (c[a.off + i]'(by omega)) := by
      simp [World.cell?, hb]
    have hfr : w.frozen? ⟨a.block, a.off + i, none⟩ = false := by simp [World.frozen?, hb]
    have hb1 : (w.setCell ⟨a.block, a.off + i, none⟩ v).heap[a.block]? = some (.cells (c.setIfInBounds (a.off + i) v) e (0, 0)) := by
      simp [World.setCell, Array.getElem?_modify, hb]
    obtain ⟨w', hrun, ho, ht, hout, hsz, hoth, hcells⟩ := run_storeCells P a hs vs (i + 1) _ _ e hb1 (by simp; omega) (fun v hv => hone v (List.mem_cons_of_mem _ hv))
    refine ⟨w', ?_, ho, ht, hout, by rw [hsz]; simp, fun k hk => ?_, fun c0 e0 f0 h0 => ?_⟩
    · simp only [storeCells, Sem.run_bind, hadd]
      rw [run_store _ _ _ _ _ (hone v (by simp))]
      simp [hcell, hfr, hrun]
    · rw [hoth k hk]; exact Go.RowKit.Below.heap_setCell w ⟨a.block, a.off + i, none⟩ v k hk
    · rw [hb] at h0
      cases h0
      obtain ⟨c', h1, h2, h3⟩ := hcells _ _ _ hb1
      refine ⟨c', h1, by rw [h2]; simp, fun j => ?_⟩
      rw [h3 j]
      simp only [List.length_cons]
      by_cases hj : a.off + (i + 1) ≤ j ∧ j < a.off + (i + 1) + vs.length
      · rw [if_pos hj, if_pos (by omega)]
        obtain ⟨m, hm⟩ : ∃ m, j - (a.off + i) = m + 1 := ⟨j - (a.off + i) - 1, by omega⟩
        rw [hm, List.getElem?_cons_succ]; congr 1; omega
      · rw [if_neg hj]
        by_cases hj0 : j = a.off + i
        · subst hj0
          rw [if_pos (by omega)]
          have : a.off + i < c.size := by omega
          simp [this]
        · rw [if_neg (by omega)]
          rw [Array.getElem?_setIfInBounds_ne (Ne.symm hj0)]

theorem cell?_eq {w : World} {b off : Nat} {c : Array Value} {e : TypeId} {f : Nat × Nat} (h : w.heap[b]? = some (.cells c e f)) : w.cell? ⟨b, off, none⟩ = c[off]? := by
  simp [World.cell?, h]

theorem liveAt_set {hp : List Blk} {id : Nat} {b : Blk} (hb : b.st = .live → liveAt hp id) {i : Nat} (h : liveAt (hp.set id b) i) : liveAt hp i := by
  obtain ⟨cs, hc⟩ := h
  by_cases e : id = i
  · subst e
    have hlt : id < hp.length := by have := get_lt hc; simpa using this
    rw [List.getElem?_set_self hlt] at hc
    simp at hc; subst hc; exact hb rfl
  · rw [List.getElem?_set_ne e] at hc; exact ⟨cs, hc⟩

/-- a write into a live block: the new cells -/
theorem sim_write {w w' : World} {H : Nat → Prop} {σ : List Addr} {hp : List Blk} (S : Sim w H σ hp) {id off : Nat} {a : Addr} {cs cs' new : List PV} {vs : List Value}
    (hid : hp[id]? = some ⟨.live, cs⟩) (ha : σ[id]? = some a) (hw : Wrote w w' a.block (a.off + off) vs) (hnew : new.length = vs.length)
    (hv : ∀ (k : Nat) c v, new[k]? = some c → vs[k]? = some v → V w (hot H σ hp) σ (liveAt hp) c v)
    (hcs : cs'.length = cs.length ∧ ∀ k, cs'[k]? = if off ≤ k ∧ k < off + new.length then new[k - off]? else cs[k]?) :
    Sim w' H σ (hp.set id ⟨.live, cs'⟩) ∧ Step w (ownd σ hp) σ (liveAt hp) w' (ownd σ (hp.set id ⟨.live, cs'⟩)) σ (liveAt (hp.set id ⟨.live, cs'⟩)) := by
  obtain ⟨ho, ht, hout, hsz, hoth, hcells⟩ := hw
  have hlt : id < hp.length := get_lt hid
  have hliveid : liveAt hp id := ⟨cs, hid⟩
  have hlv : ∀ {i : Nat}, liveAt (hp.set id ⟨.live, cs'⟩) i → liveAt hp i := fun h => liveAt_set (fun _ => hliveid) h
  have hhot : ∀ b, ownd σ (hp.set id ⟨.live, cs'⟩) b → ownd σ hp b := by
    rintro b ⟨i, a', h1, h2, h3⟩
    exact ⟨i, a', h1.imp hlv fun hm => (mapAt_set (fun _ e => by cases e) hm).1, h2, h3⟩
  have hhotid : ownd σ hp a.block := ⟨id, a, .inl hliveid, ha, rfl⟩
  obtain ⟨c, e, hblk, hfit⟩ := S.live id a cs hid ha
  obtain ⟨c', hblk', hcsz, hcget⟩ := hcells _ _ _ hblk
  have st : Step w (ownd σ hp) σ (liveAt hp) w' (ownd σ (hp.set id ⟨.live, cs'⟩)) σ (liveAt (hp.set id ⟨.live, cs'⟩)) := by
    refine ⟨ho, ht, hout, by omega, fun _ _ h => h, fun b _ hm => hoth b (fun e => hm (e ▸ hhotid)), shape_of fun b c0 e0 f0 hb => ?_, fun b _ hm => hhot b hm, fun i _ hm => hlv hm⟩
    by_cases eb : b = a.block
    · subst eb
      obtain ⟨c1, h1, h2, _⟩ := hcells _ _ _ hb
      exact ⟨c1, h1, h2⟩
    · exact ⟨c0, by rw [hoth b eb]; exact hb, rfl⟩
  refine ⟨⟨by simp [S.len], fun i a' h => by rw [hsz]; exact S.spot i a' h, fun b h => by rw [hsz]; exact S.foreign b h, fun i s ds a' hi hd ha' k d hk => ?_, fun i s ds a' hi hd ha' => ?_, fun i a' cs0 hi ha' => ?_, fun i j a1 a2 s ds hi hj hd hne h1 h2 => ?_, fun i ds a' hi ha' => ?_, fun i j a1 a2 hi hj hne h1 h2 => S.injm i j a1 a2 (mapAt_set (fun _ e => by cases e) hi).1 (mapAt_set (fun _ e => by cases e) hj).1 hne h1 h2⟩, st⟩
  · by_cases ei : id = i
    · subst ei
      rw [List.getElem?_set_self hlt] at hi
      cases hi
      rw [ha] at ha'; cases ha'
      rw [cell?_eq hblk', hcget]
      rw [hcs.2] at hk
      by_cases hin : off ≤ k ∧ k < off + new.length
      · rw [if_pos hin] at hk
        rw [if_pos (by omega)]
        have hks : k - off < vs.length := by omega
        have hsub : a.off + k - (a.off + off) = k - off := by omega
        rw [hsub]
        refine ⟨vs[k - off], by simp [hks], (hv (k - off) d _ hk (by simp [hks])).step st⟩
      · rw [if_neg hin] at hk
        rw [if_neg (by omega)]
        obtain ⟨v, h1, h2⟩ := S.cells id .live cs a hid (by simp) ha k d hk
        rw [cell?_eq hblk] at h1
        exact ⟨v, h1, h2.step st⟩
    · rw [List.getElem?_set_ne ei] at hi
      obtain ⟨v, h1, h2⟩ := S.cells i s ds a' hi hd ha' k d hk
      have hne := S.inj id i a a' s ds hliveid hi hd ei ha ha'
      exact ⟨v, by rw [cell?_same (a := ⟨a'.block, a'.off + k, none⟩) (hoth _ (Ne.symm hne))]; exact h1, h2.step st⟩
  · by_cases ei : id = i
    · subst ei
      exact S.own id .live cs a' hid (by simp) ha'
    · rw [List.getElem?_set_ne ei] at hi
      exact S.own i s ds a' hi hd ha'
  · have hold : ∃ ds, hp[i]? = some ⟨.live, ds⟩ ∧ ds.length = cs0.length := by
      by_cases ei : id = i
      · subst ei
        rw [List.getElem?_set_self hlt] at hi
        simp at hi; subst hi
        exact ⟨cs, hid, hcs.1.symm⟩
      · rw [List.getElem?_set_ne ei] at hi
        exact ⟨cs0, hi, rfl⟩
    obtain ⟨ds, hds, hdl⟩ := hold
    obtain ⟨c1, e1, h2, h2'⟩ := S.live i a' ds hds ha'
    by_cases eb : a'.block = a.block
    · rw [eb] at h2
      obtain ⟨c2, h3, h4, _⟩ := hcells _ _ _ h2
      exact ⟨c2, e1, by rw [eb]; exact h3, by omega⟩
    · exact ⟨c1, e1, by rw [hoth _ eb]; exact h2, by omega⟩
  · by_cases ej : id = j
    · subst ej
      exact S.inj i id a1 a2 .live cs (hlv hi) hid (by simp) hne h1 h2
    · rw [List.getElem?_set_ne ej] at hj
      exact S.inj i j a1 a2 s ds (hlv hi) hj hd hne h1 h2
  · have hne : id ≠ i := (mapAt_set (fun _ e => by cases e) ⟨ds, hi⟩).2
    rw [List.getElem?_set_ne hne] at hi
    obtain ⟨h1, es, ck, h2, h3⟩ := S.maps i ds a' hi ha'
    have hb : a'.block ≠ a.block := fun e => by rw [e, hblk] at h2; cases h2
    exact ⟨h1, es, ck, by rw [hoth _ hb]; exact h2, h3.step st⟩

/-- a block that is not written any more: its mark goes down -/
theorem sim_mark {w : World} {H : Nat → Prop} {σ : List Addr} {hp : List Blk} (S : Sim w H σ hp) {id : Nat} {s : BSt} {cs cs' : List PV} {st' : BSt}
    (hid : hp[id]? = some ⟨s, cs⟩) (h' : (st' = .dead ∧ cs' = []) ∨ (s ≠ .dead ∧ st' = .ro ∧ cs' = cs)) :
    Sim w H σ (hp.set id ⟨st', cs'⟩) ∧ Step w (ownd σ hp) σ (liveAt hp) w (ownd σ (hp.set id ⟨st', cs'⟩)) σ (liveAt (hp.set id ⟨st', cs'⟩)) := by
  have hlt : id < hp.length := get_lt hid
  have hst : st' ≠ .live := by rcases h' with ⟨h, _⟩ | ⟨_, h, _⟩ <;> simp [h]
  have hnm : ∀ ds, (⟨st', cs'⟩ : Blk) ≠ ⟨.dead, .any :: ds⟩ := by
    intro ds e
    cases e
    rcases h' with ⟨_, h⟩ | ⟨_, h, _⟩ <;> cases h
  have hlv : ∀ {i : Nat}, liveAt (hp.set id ⟨st', cs'⟩) i → liveAt hp i := fun h => liveAt_set (fun e => absurd e hst) h
  have hlne : ∀ {i : Nat}, liveAt (hp.set id ⟨st', cs'⟩) i → id ≠ i := by
    rintro i ⟨ds, hd⟩ rfl
    rw [List.getElem?_set_self hlt] at hd
    simp at hd; exact hst hd.1
  have hhot : ∀ b, ownd σ (hp.set id ⟨st', cs'⟩) b → ownd σ hp b := by
    rintro b ⟨i, a', h1, h2, h3⟩
    exact ⟨i, a', h1.imp hlv fun hm => (mapAt_set hnm hm).1, h2, h3⟩
  have st : Step w (ownd σ hp) σ (liveAt hp) w (ownd σ (hp.set id ⟨st', cs'⟩)) σ (liveAt (hp.set id ⟨st', cs'⟩)) :=
    ⟨rfl, rfl, rfl, Nat.le_refl _, fun _ _ h => h, fun _ _ _ => rfl, shape_of fun _ c _ _ h => ⟨c, h, rfl⟩, fun b _ hm => hhot b hm, fun i _ hm => hlv hm⟩
  refine ⟨⟨by simp [S.len], S.spot, S.foreign, fun i s1 ds a' hi hd ha' k d hk => ?_, fun i s1 ds a' hi hd ha' => ?_, fun i a' cs0 hi ha' => ?_, fun i j a1 a2 s1 ds hi hj hd hne h1 h2 => ?_, fun i ds a' hi ha' => ?_, fun i j a1 a2 hi hj hne h1 h2 => S.injm i j a1 a2 (mapAt_set hnm hi).1 (mapAt_set hnm hj).1 hne h1 h2⟩, st⟩
  · by_cases ei : id = i
    · subst ei
      rw [List.getElem?_set_self hlt] at hi
      simp only [Option.some.injEq, Blk.mk.injEq] at hi
      obtain ⟨rfl, rfl⟩ := hi
      rcases h' with ⟨h, _⟩ | ⟨h1, h2, h3⟩
      · exact absurd h hd
      · subst h3
        obtain ⟨v, h1, h2⟩ := S.cells id s cs' a' hid h1 ha' k d hk
        exact ⟨v, h1, h2.step st⟩
    · rw [List.getElem?_set_ne ei] at hi
      obtain ⟨v, h1, h2⟩ := S.cells i s1 ds a' hi hd ha' k d hk
      exact ⟨v, h1, h2.step st⟩
  · by_cases ei : id = i
    · subst ei
      rw [List.getElem?_set_self hlt] at hi
      simp only [Option.some.injEq, Blk.mk.injEq] at hi
      obtain ⟨rfl, rfl⟩ := hi
      rcases h' with ⟨h, _⟩ | ⟨h1, h2, h3⟩
      · exact absurd h hd
      · exact S.own id s cs a' hid h1 ha'
    · rw [List.getElem?_set_ne ei] at hi
      exact S.own i s1 ds a' hi hd ha'
  · by_cases ei : id = i
    · exact absurd ei (hlne ⟨cs0, hi⟩)
    · rw [List.getElem?_set_ne ei] at hi
      exact S.live i a' cs0 hi ha'
  · by_cases ej : id = j
    · subst ej
      rw [List.getElem?_set_self hlt] at hj
      simp only [Option.some.injEq, Blk.mk.injEq] at hj
      obtain ⟨rfl, rfl⟩ := hj
      rcases h' with ⟨h, _⟩ | ⟨h3, _, _⟩
      · exact absurd h hd
      · exact S.inj i id a1 a2 s cs (hlv hi) hid h3 hne h1 h2
    · rw [List.getElem?_set_ne ej] at hj
      exact S.inj i j a1 a2 s1 ds (hlv hi) hj hd hne h1 h2
  · have hne : id ≠ i := (mapAt_set hnm ⟨ds, hi⟩).2
    rw [List.getElem?_set_ne hne] at hi
    obtain ⟨h1, es, ck, h2, h3⟩ := S.maps i ds a' hi ha'
    exact ⟨h1, es, ck, h2, h3.step st⟩

end Go.Ab
namespace Go.Ab
open Go

/-! ### types -/
def TabOk (P : Program) (T : Tab) : Prop := ∀ t i, T t = some i → P.info? t = some i

section types
variable {P : Program} {T : Tab} (hT : TabOk P T)
include hT
theorem und_ok {t : TypeId} {d : TypeDesc} (h : und T t = some d) : P.underlying t = some d := by
  unfold und at h
  unfold Program.underlying
  cases hi : T t with
  | none => simp [hi] at h
  | some i =>
    rw [hi] at h
    rw [hT t i hi]
    cases i with
    | mk desc str size bytes hp al fa zero cmp ms =>
      cases desc <;> simp at h ⊢ <;> try exact h
      rename_i n u
      obtain ⟨j, hj, hd⟩ := h
      exact ⟨j, hT u j hj, hd⟩
theorem run_und {t : TypeId} {d : TypeDesc} (h : und T t = some d) (w : World) : (underlying t).run P w = .ok d w := run_underlying (und_ok hT h) w
theorem run_info {t : TypeId} {i : TypeInfo} (h : T t = some i) (w : World) : (typeInfo t).run P w = .ok i w := by
  simp [typeInfo, hT t i h]
theorem run_size {t : TypeId} {n : Nat} (h : sizeT T t = some n) (w : World) : (sizeOf t).run P w = .ok n w := by
  unfold sizeT at h
  cases hi : T t with
  | none => simp [hi] at h
  | some i =>
    simp [hi] at h
    simp [Go.sizeOf, run_info hT hi, h]
theorem run_agg {t : TypeId} {b : Bool} (h : isAggT T t = some b) (w : World) : (isAgg t).run P w = .ok b w := by
  unfold isAggT at h
  cases hu : und T t with
  | none => simp [hu] at h
  | some d =>
    simp only [isAgg, Sem.run_bind, run_und hT hu, Result.andThen_ok]
    rw [hu] at h
    cases d <;> simp at h ⊢ <;> exact h
theorem run_zero {t : TypeId} {zs : List PV} (h : zeroT T t = some zs) (w : World) : ∃ z, (zeroValue t).run P w = .ok z w ∧ zs = z.cells.toList.map .sc := by
  unfold zeroT at h
  cases hi : T t with
  | none => simp [hi] at h
  | some i =>
    rw [hi] at h
    cases i with
    | mk desc str size bytes hp al fa zero cmp ms =>
      cases zero with
      | none => simp at h
      | some z =>
        simp at h
        exact ⟨z, by simp [zeroValue, run_info hT hi], h.symm⟩
end types

/-! ### what an operation comes to -/
def Done (P : Program) (s : Sem Next) (w : World) (H : Nat → Prop) (σ : List Addr) (hp : List Blk) (r : PV) (hp' : List Blk) : Prop :=
  ∃ n v w' σ', s.run P w = .ok n w' ∧ (n = .value v ∨ (n = .skip ∧ v = undef)) ∧ V w' (hot H σ' hp') σ' (liveAt hp') r v ∧ Sim w' H σ' hp' ∧
    Step w (ownd σ hp) σ (liveAt hp) w' (ownd σ' hp') σ' (liveAt hp')

theorem Done.same {P : Program} {s : Sem Next} {w : World} {H : Nat → Prop} {σ : List Addr} {hp : List Blk} {r : PV} {v : Value} (S : Sim w H σ hp)
    (h : s.run P w = .ok (.value v) w) (hv : V w (hot H σ hp) σ (liveAt hp) r v) : Done P s w H σ hp r hp :=
  ⟨.value v, v, w, σ, h, .inl rfl, hv, S, Step.refl _ _ _ _⟩

/-- only a count of draws has moved -/
theorem step_drawn {w w' : World} (h : w'.heap = w.heap) (ho : w'.os = w.os) (ht : w'.tape = w.tape) (hq : w'.output = w.output) (M : Nat → Prop) (σ : List Addr) (L : Nat → Prop) : Step w M σ L w' M σ L :=
  ⟨ho, ht, hq, by rw [h]; exact Nat.le_refl _, fun _ _ h => h, fun _ _ _ => by rw [h], shape_of fun _ c _ _ hb => ⟨c, by rw [h]; exact hb, rfl⟩, fun _ _ h => h, fun _ _ h => h⟩
theorem sim_drawn {w w' : World} {H : Nat → Prop} {σ : List Addr} {hp : List Blk} (S : Sim w H σ hp) (h : w'.heap = w.heap) (ho : w'.os = w.os) (ht : w'.tape = w.tape) (hq : w'.output = w.output) : Sim w' H σ hp :=
  ⟨S.len, fun i a ha => by rw [h]; exact S.spot i a ha, fun b hb => by rw [h]; exact S.foreign b hb,
   fun i st cs a hi hd ha k c hk => by
    obtain ⟨v, h1, h2⟩ := S.cells i st cs a hi hd ha k c hk
    exact ⟨v, by rw [cell?_same (w := w) (w' := w') (a := ⟨a.block, a.off + k, none⟩) (by rw [h])]; exact h1, h2.step (step_drawn h ho ht hq _ _ _)⟩,
   S.own, fun i a cs hi ha => by rw [h]; exact S.live i a cs hi ha, S.inj,
   fun i cs a hi ha => by
    obtain ⟨h1, es, ck, h2, h3⟩ := S.maps i cs a hi ha
    exact ⟨h1, es, ck, by rw [h]; exact h2, h3.step (step_drawn h ho ht hq _ _ _)⟩, S.injm⟩

/-! ### reading -/
/-- cells that lie in memory from an address on -/
def At (w : World) (M : Nat → Prop) (σ : List Addr) (L : Nat → Prop) (a : Addr) (cs : List PV) : Prop :=
  ∃ g : Nat → Value, ∀ (k : Nat) c, cs[k]? = some c → a.spot = none ∧ w.cell? ⟨a.block, a.off + k, none⟩ = some (g k) ∧ V w M σ L c (g k)

theorem At.drop {w : World} {M : Nat → Prop} {σ : List Addr} {L : Nat → Prop} {a : Addr} {cs : List PV} (h : At w M σ L a cs) (n : Nat) : At w M σ L ⟨a.block, a.off + n, none⟩ (cs.drop n) := by
  obtain ⟨g, hg⟩ := h
  refine ⟨fun k => g (n + k), fun k c hk => ?_⟩
  rw [List.getElem?_drop] at hk
  obtain ⟨_, h2, h3⟩ := hg _ c hk
  exact ⟨rfl, by rw [Nat.add_assoc]; exact h2, h3⟩
theorem At.take {w : World} {M : Nat → Prop} {σ : List Addr} {L : Nat → Prop} {a : Addr} {cs : List PV} (h : At w M σ L a cs) (n : Nat) : At w M σ L a (cs.take n) := by
  obtain ⟨g, hg⟩ := h
  refine ⟨g, fun k c hk => hg k c ?_⟩
  rw [List.getElem?_take] at hk
  split at hk
  · exact hk
  · cases hk

theorem addr_add {a : Addr} (h : a.spot = none) (n : Nat) : a.add n = ⟨a.block, a.off + n, none⟩ := by
  unfold Addr.add
  split
  · rename_i h'; subst h'; cases a; simp at h; simp [h]
  · rfl

theorem At.run {w : World} {M : Nat → Prop} {σ : List Addr} {L : Nat → Prop} {a : Addr} {cs : List PV} (h : At w M σ L a cs) (P : Program) :
    ∃ vs : Array Value, (loadCells a cs.length).run P w = .ok vs w ∧ cs.length = vs.size ∧ ∀ (k : Nat) c v, cs[k]? = some c → vs[k]? = some v → V w M σ L c v := by
  obtain ⟨g, hg⟩ := h
  refine ⟨((List.range cs.length).map g).toArray, run_loadCells w a cs.length g (fun j hj => ?_), by simp, fun k c v h1 h2 => ?_⟩
  · obtain ⟨h1, h2, _⟩ := hg j _ (List.getElem?_eq_getElem hj)
    rw [addr_add h1]; exact h2
  · have hk := get_lt h1
    simp [hk] at h2
    subst h2
    exact (hg k c h1).2.2

theorem atAddr_ok {w : World} {H : Nat → Prop} {σ : List Addr} {hp : List Blk} (S : Sim w H σ hp) {p : PV} {v : Value} {cs : List PV} {ids : List Nat} (h : atAddr hp p = some (cs, ids))
    (hv : V w (hot H σ hp) σ (liveAt hp) p v) : ∃ a, v = .pointer (some a) ∧ At w (hot H σ hp) σ (liveAt hp) a cs := by
  cases hv with
  | ptr id off a ha =>
    simp only [atAddr, nthB_eq] at h
    cases hb : hp[id]? with
    | none => simp [hb] at h
    | some b =>
      cases b with
      | mk st ds =>
        simp only [hb] at h
        split at h
        · cases h
        · rename_i hd
          simp only [Option.some.injEq, Prod.mk.injEq, dropN_eq] at h
          obtain ⟨h1, h2⟩ := h
          subst h1
          refine ⟨_, rfl, ?_⟩
          have hA : At w (hot H σ hp) σ (liveAt hp) ⟨a.block, a.off, none⟩ ds := by
            refine ⟨fun k => (w.cell? ⟨a.block, a.off + k, none⟩).getD undef, fun k c hk => ?_⟩
            obtain ⟨v, h1, h2⟩ := S.cells id st ds a hb hd ha k c hk
            exact ⟨rfl, by simp [h1], by simpa [h1] using h2⟩
          exact hA.drop off
  | iptr ds a g h1 h2 =>
    simp only [atAddr, Option.some.injEq, Prod.mk.injEq] at h
    obtain ⟨e1, e2⟩ := h
    subst e1
    exact ⟨a, rfl, g, fun k c hk => ⟨(h1 k c hk).1, (h1 k c hk).2.2.2, h2 k c hk⟩⟩
  | _ => simp [atAddr] at h

theorem partOf_ok {P : Program} {T : Tab} (hT : TabOk P T) {w : World} {M : Nat → Prop} {σ : List Addr} {L : Nat → Prop} {a : Addr} {cs : List PV} {t : TypeId} {x : PV} (h : partOf T t cs = some x) (hA : At w M σ L a cs) :
    ∃ v, (loadVar t a).run P w = .ok v w ∧ V w M σ L x v := by
  unfold partOf at h
  split at h
  · rename_i n hg hs
    cases ht : takeN? cs n with
    | none => simp [ht] at h
    | some l =>
      simp [ht] at h
      subst h
      obtain ⟨hle, rfl⟩ := takeN?_some ht
      obtain ⟨vs, hr, hl, hv⟩ := (hA.take n).run P
      rw [List.length_take, Nat.min_eq_left hle] at hr
      refine ⟨.agg vs, ?_, .agg _ _ hl hv⟩
      simp only [loadVar, Sem.run_bind, run_agg hT hg, Result.andThen_ok, if_true, run_size hT hs, hr]
      rfl
  · rename_i n hg hs
    cases cs with
    | nil => simp at h
    | cons c cs =>
      simp at h; subst h
      obtain ⟨g, hgg⟩ := hA
      obtain ⟨h1, h2, h3⟩ := hgg 0 c (by simp)
      refine ⟨g 0, ?_, h3⟩
      simp only [loadVar, Sem.run_bind, run_agg hT hg, Result.andThen_ok]
      have : w.cell? a = some (g 0) := by
        have := h2; simp only [Nat.add_zero] at this; cases a; simp at h1; subst h1; exact this
      simp [this]
  · cases h

/-- a part of a struct's or an array's value -/
theorem partAgg_ok {P : Program} {T : Tab} (hT : TabOk P T) {w : World} {M : Nat → Prop} {σ : List Addr} {L : Nat → Prop} {cs : List PV} {vs : Array Value} {t : TypeId} {off : Nat} {x : PV} (h : partOf T t (dropN cs off) = some x)
    (hl : cs.length = vs.size) (hv : ∀ (k : Nat) c v, cs[k]? = some c → vs[k]? = some v → V w M σ L c v) :
    ∃ v, (part t vs off).run P w = .ok v w ∧ V w M σ L x v := by
  rw [dropN_eq] at h
  unfold partOf at h
  split at h
  · rename_i n hg hs
    cases ht : takeN? (cs.drop off) n with
    | none => simp [ht] at h
    | some l =>
      simp [ht] at h
      subst h
      obtain ⟨hle, rfl⟩ := takeN?_some ht
      rw [List.length_drop] at hle
      refine ⟨.agg (vs.extract off (off + n)), ?_, .agg _ _ (by simp; omega) (fun k c v h1 h2 => ?_)⟩
      · simp only [part, Sem.run_bind, run_agg hT hg, Result.andThen_ok, if_true, run_size hT hs]
        rfl
      · rw [List.getElem?_take] at h1
        split at h1
        · rw [List.getElem?_drop] at h1
          rename_i hk
          have hk2 := get_lt h1
          rw [Array.getElem?_extract] at h2
          rw [if_pos (by omega)] at h2
          exact hv _ c v h1 h2
        · cases h1
  · rename_i n hg hs
    cases hd : cs.drop off with
    | nil => simp [hd] at h
    | cons c r =>
      simp [hd] at h; subst h
      have hc : cs[off]? = some c := by
        have : (cs.drop off)[0]? = some c := by rw [hd]; rfl
        rwa [List.getElem?_drop] at this
      have ho : off < vs.size := by have := get_lt hc; omega
      refine ⟨vs[off], ?_, hv off c _ hc (by simp [ho])⟩
      simp only [part, Sem.run_bind, run_agg hT hg, Result.andThen_ok]
      simp [ho]
  · cases h

theorem rdSl_ok {w : World} {H : Nat → Prop} {σ : List Addr} {hp : List Blk} (S : Sim w H σ hp) {s : Nat} {p : PV} {v : Value} {len : Nat} {cs : List PV} {ids : List Nat} (h : rdSl hp s p = some (len, cs, ids))
    (hv : V w (hot H σ hp) σ (liveAt hp) p v) : ∃ base cap, v = .slice base len cap ∧ cs.length = len * s ∧ (base = none → cs = [] ∧ len = 0 ∧ cap = 0) ∧ ∀ a, base = some a → At w (hot H σ hp) σ (liveAt hp) a cs := by
  cases hv with
  | sc v =>
    unfold rdSl at h
    split at h
    · rename_i heq
      cases heq
      simp only [Option.some.injEq, Prod.mk.injEq] at h
      obtain ⟨rfl, rfl, rfl⟩ := h
      exact ⟨none, 0, rfl, by simp, fun _ => ⟨rfl, rfl, rfl⟩, fun a h => by cases h⟩
    · rename_i heq; cases heq
    · rename_i heq; cases heq
    · cases h
  | nil x =>
    simp [rdSl] at h
    obtain ⟨rfl, rfl, rfl⟩ := h
    exact ⟨none, 0, rfl, by simp, fun _ => ⟨rfl, rfl, rfl⟩, fun a h => by cases h⟩
  | imm len' x ds a cap g h1 h2 h3 h4 =>
    simp only [rdSl] at h
    split at h
    · rename_i hl
      simp only [Option.some.injEq, Prod.mk.injEq] at h
      obtain ⟨rfl, rfl, rfl⟩ := h
      refine ⟨some a, cap, rfl, hl, by simp, fun b hb => ?_⟩
      cases hb
      exact ⟨g, fun k c hk => ⟨(h3 k c hk).1, (h3 k c hk).2.2.2, h4 k c hk⟩⟩
    · cases h
  | own id s' off len' x a b cap h1 h2 h3 h4 h5 =>
    simp only [rdSl, nthB_eq] at h
    cases hb : hp[id]? with
    | none => simp [hb] at h
    | some blk =>
      cases blk with
      | mk st ds =>
        simp only [hb] at h
        split at h
        · cases h
        · rename_i hd
          cases ht : takeN? (dropN ds off) (len' * s) with
          | none => simp [ht] at h
          | some l =>
            simp only [ht, Option.some.injEq, Prod.mk.injEq] at h
            obtain ⟨rfl, rfl, rfl⟩ := h
            obtain ⟨hle, rfl⟩ := takeN?_some ht
            rw [dropN_eq] at *
            refine ⟨some b, cap, rfl, by simp; simp at hle; omega, by simp, fun b' hb' => ?_⟩
            cases hb'
            have hA : At w (hot H σ hp) σ (liveAt hp) ⟨a.block, a.off, none⟩ ds := by
              refine ⟨fun k => (w.cell? ⟨a.block, a.off + k, none⟩).getD undef, fun k c hk => ?_⟩
              obtain ⟨v, h1, h2⟩ := S.cells id st ds a hb (fun e => hd (.inl e)) h1 k c hk
              exact ⟨rfl, by simp [h1], by simpa [h1] using h2⟩
            by_cases hc : 0 < cap
            · have := (hA.drop off).take (len' * s)
              rw [← h4 hc] at this
              exact this
            · have : len' = 0 := by omega
              subst this
              simp
              exact ⟨fun _ => undef, fun k c hk => by simp at hk⟩
  | _ => simp [rdSl] at h

end Go.Ab
namespace Go.Ab
open Go

/-! ### scalars -/
theorem pureRun_ok {P : Program} {α : Type} : ∀ (s : Sem α) (v : α), pureRun P s = some v → ∀ w, s.run P w = .ok v w := by
  intro s
  induction s with
  | pure a => intro v h w; simp [pureRun] at h; simp [h]
  | program k ih => intro v h w; simp only [pureRun] at h; simp only [Sem.run]; exact ih P v h w
  | mark m k ih => intro v h w; simp only [pureRun] at h; simp only [Sem.run]; exact ih v h w
  | _ => intro v h w; simp [pureRun] at h

theorem wrapK_eq (k : IntKind) (n : Int) : wrapK k n = k.wrap n := by
  unfold wrapK
  cases h : (decide (loK k ≤ n) && decide (n ≤ hiK k)) with
  | false => rfl
  | true =>
    simp only [Bool.and_eq_true, decide_eq_true_eq] at h
    obtain ⟨h1, h2⟩ := h
    cases k <;> simp only [loK, hiK] at h1 h2 <;> simp only [cond_true, IntKind.wrap, IntKind.bits, IntKind.signed] <;> simp <;> omega

theorem binI_ok {op : BinOp} {k : IntKind} {a b : Int} {v : Value} (h : binI op k a b = some v) (P : Program) (t : TypeId) (x y : Operand) (w : World) :
    (do eqGuard op t x y (.int k a) (.int k b); binOp op t (.int k a) (.int k b)).run P w = .ok v w := by
  cases op <;> simp only [binI] at h
  case add => simp at h; subst h; simp [eqGuard, binOp, Op.intArith, wrapK_eq]
  case sub => simp at h; subst h; simp [eqGuard, binOp, Op.intArith, wrapK_eq]
  case mul => simp at h; subst h; simp [eqGuard, binOp, Op.intArith, wrapK_eq]
  case quo =>
    split at h
    · cases h
    · rename_i hb; simp at h; subst h; simp [eqGuard, binOp, Op.intDiv, wrapK_eq, hb]
  case rem =>
    split at h
    · cases h
    · rename_i hb; simp at h; subst h; simp [eqGuard, binOp, Op.intDiv, hb]
  case eql => simp at h; subst h; simp [eqGuard, binOp, Op.intCmp]
  case neq => simp at h; subst h; simp [eqGuard, binOp, Op.intCmp]
  case lss => simp at h; subst h; simp [eqGuard, binOp, Op.intCmp]
  case leq => simp at h; subst h; simp [eqGuard, binOp, Op.intCmp]
  case gtr => simp at h; subst h; simp [eqGuard, binOp, Op.intCmp]
  case geq => simp at h; subst h; simp [eqGuard, binOp, Op.intCmp]
  all_goals cases h

theorem byteArray_toList (s : ByteArray) : s.toList = strL s := by
  unfold strL
  have key : ∀ (n i : Nat) (r : List UInt8), s.size - i = n → ByteArray.toList.loop s i r = r.reverse ++ s.data.toList.drop i := by
    intro n
    induction n with
    | zero =>
      intro i r h
      unfold ByteArray.toList.loop
      have : ¬ i < s.size := by omega
      have h2 : s.data.toList.length ≤ i := by
        have : s.data.toList.length = s.size := by rw [Array.length_toList]; rfl
        omega
      rw [if_neg this, List.drop_of_length_le h2]
      simp
    | succ n ih =>
      intro i r h
      unfold ByteArray.toList.loop
      have hi : i < s.size := by omega
      have hi' : i < s.data.toList.length := by
        have : s.data.toList.length = s.size := by rw [Array.length_toList]; rfl
        omega
      rw [if_pos hi, ih (i + 1) _ (by omega), List.drop_eq_getElem_cons hi']
      simp [ByteArray.get!]
      rw [getElem!_pos s.data i (by simpa using hi')]
  have := key s.size 0 [] (by omega)
  simpa [ByteArray.toList] using this

theorem eqL_eq (a b : List UInt8) : eqL a b = (a == b) := by
  induction a generalizing b with
  | nil => cases b <;> simp [eqL]
  | cons x a ih =>
    cases b with
    | nil => simp [eqL]
    | cons y b =>
      simp only [eqL, ih]
      have : (x.toNat == y.toNat) = (x == y) := by
        rw [Bool.eq_iff_iff]; simp [UInt8.toNat_inj]
      rw [this]; rfl
theorem ltL_eq (a b : List UInt8) : ltL a b = Op.bytesLess a b := by
  induction a generalizing b with
  | nil => cases b <;> simp [ltL, Op.bytesLess]
  | cons x a ih =>
    cases b with
    | nil => simp [ltL, Op.bytesLess]
    | cons y b =>
      simp only [ltL, Op.bytesLess, ih]
      have h1 : (x.toNat == y.toNat) = (x == y) := by
        rw [Bool.eq_iff_iff]; simp [UInt8.toNat_inj]
      have h2 : x.toNat.blt y.toNat = decide (x < y) := by
        rw [Bool.eq_iff_iff]; simp [UInt8.lt_iff_toNat_lt, Nat.blt]; omega
      rw [h1, h2]
      cases decide (x < y) <;> simp
theorem strL_length (s : ByteArray) : (strL s).length = s.size := by
  unfold strL; rw [Array.length_toList]; rfl
theorem strL_mk (l : List UInt8) : strL (mkStr l) = l := by simp [strL, mkStr]
theorem mk_strL (s : ByteArray) : mkStr (strL s) = s := by
  cases s with | mk d => simp [mkStr, strL]
theorem strL_append (a b : ByteArray) : a ++ b = mkStr (strL a ++ strL b) := by
  have : strL (a ++ b) = strL a ++ strL b := by simp [strL, ByteArray.data_append]
  rw [← mk_strL (a ++ b), this]

theorem binS_ok {op : BinOp} {a b : ByteArray} {v : Value} (h : binS op a b = some v) (P : Program) (t : TypeId) (x y : Operand) (w : World) :
    (do eqGuard op t x y (.string a) (.string b); binOp op t (.string a) (.string b)).run P w = .ok v w := by
  have e : ∀ op, binOp op t (.string a) (.string b) = Op.stringOp op a b := fun op => by cases op <;> rfl
  cases op <;> simp only [binS] at h
  case add =>
    split at h
    · cases h
    · rename_i hn
      simp at h; subst h
      simp only [strL_length] at hn
      have hn' : ¬ (9223372036854775807 : Int) < (a.size : Int) + (b.size : Int) := by omega
      simp [eqGuard, e, Op.stringOp, IntKind.max, IntKind.signed, IntKind.bits, hn', strL_append]
  all_goals first
    | (simp at h; subst h; simp [eqGuard, e, Op.stringOp, byteArray_toList, eqL_eq, ltL_eq]; done)
    | (simp at h; done)

theorem ofVal_ok {w : World} {M : Nat → Prop} {σ : List Addr} {L : Nat → Prop} (v : Value) : V w M σ L (ofVal v) v := by
  cases v <;> simp only [ofVal] <;> try exact .sc _
  rename_i cs
  refine .agg _ _ (by simp) (fun k c u h1 h2 => ?_)
  rw [List.getElem?_map] at h1
  have : cs.toList[k]? = some u := by simpa using h2
  rw [this] at h1
  simp at h1; subst h1; exact .sc u

theorem V.sc_inv {w : World} {M : Nat → Prop} {σ : List Addr} {L : Nat → Prop} {v u : Value} (h : V w M σ L (.sc v) u) : u = v := by cases h; rfl

theorem toVals_ok {w : World} {M : Nat → Prop} {σ : List Addr} {L : Nat → Prop} {cs : List PV} {l : List Value} (h : toVals? cs = some l) (vs : List Value) (hl : cs.length = vs.length)
    (hv : ∀ (k : Nat) c v, cs[k]? = some c → vs[k]? = some v → V w M σ L c v) : vs = l := by
  induction cs generalizing l vs with
  | nil => simp [toVals?] at h; subst h; cases vs with
    | nil => rfl
    | cons v vs => simp at hl
  | cons c cs ih =>
    cases c with
    | sc v =>
      simp only [toVals?] at h
      cases ht : toVals? cs with
      | none => simp [ht] at h
      | some l' =>
        simp [ht] at h; subst h
        cases vs with
        | nil => simp at hl
        | cons u vs =>
          have h0 := hv 0 (.sc v) u (by simp) (by simp)
          cases h0
          rw [ih ht vs (by simpa using hl) (fun k c v h1 h2 => hv (k + 1) c v (by simpa using h1) (by simpa using h2))]
    | _ => simp [toVals?] at h
theorem someSl_ok {w : World} {M : Nat → Prop} {σ : List Addr} {L : Nat → Prop} {p : PV} {v : Value} (h : someSl p = true) (hv : V w M σ L p v) : ∃ a l c, v = .slice (some a) l c := by
  cases hv <;> simp [someSl] at h
  · exact ⟨_, _, _, rfl⟩
  · exact ⟨_, _, _, rfl⟩

theorem binInt_ok {P : Program} {w : World} {M : Nat → Prop} {σ : List Addr} {L : Nat → Prop} {op : BinOp} {t : TypeId} {k k' : IntKind} {m n : Int} {r : PV} (h : binInt P op t k m k' n = some r) (x y : Operand) :
    ∃ v, (do eqGuard op t x y (.int k m) (.int k' n); binOp op t (.int k m) (.int k' n)).run P w = .ok v w ∧ V w M σ L r v := by
  unfold binInt at h
  split at h
  · rename_i v hv
    simp at h; subst h
    split at hv
    · rename_i e; subst e
      exact ⟨v, binI_ok hv P t x y w, .sc v⟩
    · cases hv
  · cases hr : pureRun P (binOp op t (.int k m) (.int k' n)) with
    | none => simp [hr] at h
    | some v =>
      simp [hr] at h; subst h
      refine ⟨v, ?_, ofVal_ok v⟩
      have := pureRun_ok _ _ hr w
      have hg : (eqGuard op t x y (.int k m) (.int k' n)).run P w = .ok () w := by cases op <;> rfl
      simp only [Sem.run_bind, hg, Result.andThen_ok, this]
theorem run_equal_bool {P : Program} {T : Tab} (hT : TabOk P T) {t : TypeId} (hu : und T t = some .bool) (m n : Bool) (w : World) : (Op.equal t (.bool m) (.bool n)).run P w = .ok (m == n) w := by
  have key : ∀ d, (Op.equalIn (d + 1) t (.bool m) (.bool n)).run P w = .ok (m == n) w := fun d => by
    rw [Op.equalIn]; simp only [Sem.run_bind, run_und hT hu, Result.andThen_ok]; rfl
  exact key 9999
theorem run_equal_nil {P : Program} {T : Tab} (hT : TabOk P T) {t e : TypeId} (hu : und T t = some (.slice e)) (a : Option Addr) (l c : Nat) (w : World) : (Op.equal t (.slice a l c) (.slice none 0 0)).run P w = .ok a.isNone w := by
  have key : ∀ d, (Op.equalIn (d + 1) t (.slice a l c) (.slice none 0 0)).run P w = .ok a.isNone w := fun d => by
    rw [Op.equalIn]; simp only [Sem.run_bind, run_und hT hu, Result.andThen_ok]
    cases a <;> rfl
  exact key 9999
theorem binBool_ok {P : Program} {T : Tab} (hT : TabOk P T) {w : World} {M : Nat → Prop} {σ : List Addr} {L : Nat → Prop} {op : BinOp} {t : TypeId} {m n : Bool} {r : PV} (h : binBool T op t m n = some r) (x y : Operand) :
    ∃ v, (do eqGuard op t x y (.bool m) (.bool n); binOp op t (.bool m) (.bool n)).run P w = .ok v w ∧ V w M σ L r v := by
  unfold binBool at h
  split at h
  · rename_i hu
    simp at h; subst h
    refine ⟨.bool (m == n), ?_, .sc _⟩
    have hg : (eqGuard .eql t x y (.bool m) (.bool n)).run P w = .ok () w := rfl
    simp only [Sem.run_bind, hg, Result.andThen_ok]
    simp [binOp, run_equal_bool hT hu]
  · rename_i hu
    simp at h; subst h
    refine ⟨.bool (m != n), ?_, .sc _⟩
    have hg : (eqGuard .neq t x y (.bool m) (.bool n)).run P w = .ok () w := rfl
    simp only [Sem.run_bind, hg, Result.andThen_ok]
    simp [binOp, run_equal_bool hT hu, bne]
  · cases h
theorem run_eql_nil {P : Program} {T : Tab} (hT : TabOk P T) {t e : TypeId} (hu : und T t = some (.slice e)) (a : Option Addr) (l c : Nat) (x y : Operand) (w : World) :
    (do eqGuard .eql t x y (.slice a l c) (.slice none 0 0); binOp .eql t (.slice a l c) (.slice none 0 0)).run P w = .ok (.bool a.isNone) w ∧
    (do eqGuard .neq t x y (.slice a l c) (.slice none 0 0); binOp .neq t (.slice a l c) (.slice none 0 0)).run P w = .ok (.bool !a.isNone) w := by
  have hg : ∀ op, (eqGuard op t x y (.slice a l c) (.slice none 0 0)).run P w = .ok () w := fun op => by cases op <;> rfl
  have he := run_equal_nil hT hu a l c w
  constructor
  · simp only [Sem.run_bind, hg, Result.andThen_ok]; simp [binOp, he]
  · simp only [Sem.run_bind, hg, Result.andThen_ok]; simp [binOp, he]
theorem binNil_ok {P : Program} {T : Tab} (hT : TabOk P T) {w : World} {M : Nat → Prop} {σ : List Addr} {L : Nat → Prop} {op : BinOp} {t : TypeId} {p r : PV} {a : Value} (h : binNil T op t p = some r)
    (hp : V w M σ L p a) (x y : Operand) : ∃ v, (do eqGuard op t x y a (.slice none 0 0); binOp op t a (.slice none 0 0)).run P w = .ok v w ∧ V w M σ L r v := by
  unfold binNil at h
  split at h
  · rename_i e _ hu hs
    simp at h; subst h
    obtain ⟨a', l, c, rfl⟩ := someSl_ok hs hp
    exact ⟨_, (run_eql_nil hT hu (some a') l c x y w).1, .sc _⟩
  · rename_i e _ hu hs
    simp at h; subst h
    obtain ⟨a', l, c, rfl⟩ := someSl_ok hs hp
    exact ⟨_, (run_eql_nil hT hu (some a') l c x y w).2, .sc _⟩
  · rename_i e hu hs hn
    simp at h; subst h
    unfold isNilSl at hn
    split at hn
    · cases hp
      exact ⟨_, (run_eql_nil hT hu none 0 0 x y w).1, .sc _⟩
    · cases hn
  · rename_i e hu hs hn
    simp at h; subst h
    unfold isNilSl at hn
    split at hn
    · cases hp
      exact ⟨_, (run_eql_nil hT hu none 0 0 x y w).2, .sc _⟩
    · cases hn
  · cases h
theorem binAgg_ok {P : Program} {w : World} {M : Nat → Prop} {σ : List Addr} {L : Nat → Prop} {op : BinOp} {t : TypeId} {m n : List PV} {r : PV} {a b : Array Value} (h : binAgg P op t m n = some r)
    (hm : m.length = a.size ∧ ∀ (k : Nat) c v, m[k]? = some c → a[k]? = some v → V w M σ L c v) (hn : n.length = b.size ∧ ∀ (k : Nat) c v, n[k]? = some c → b[k]? = some v → V w M σ L c v) (x y : Operand) :
    ∃ v, (do eqGuard op t x y (.agg a) (.agg b); binOp op t (.agg a) (.agg b)).run P w = .ok v w ∧ V w M σ L r v := by
  unfold binAgg at h
  split at h
  · rename_i u v hu hv
    have e1 := toVals_ok hu a.toList (by simpa using hm.1) (fun k c v h1 h2 => hm.2 k c v h1 (by simpa using h2))
    have e2 := toVals_ok hv b.toList (by simpa using hn.1) (fun k c v h1 h2 => hn.2 k c v h1 (by simpa using h2))
    subst e1; subst e2
    cases hr : pureRun P (do eqGuard op t (.const undef) (.const undef) (.agg a.toList.toArray) (.agg b.toList.toArray); binOp op t (.agg a.toList.toArray) (.agg b.toList.toArray)) with
    | none => simp [hr] at h
    | some z =>
      simp [hr] at h; subst h
      refine ⟨z, ?_, ofVal_ok z⟩
      have := pureRun_ok _ _ hr w
      have hg : ∀ x y, eqGuard op t x y (.agg a) (.agg b) = eqGuard op t (.const undef) (.const undef) (.agg a) (.agg b) := fun x y => by cases op <;> rfl
      simp only [Array.toArray_toList] at this
      rw [hg x y]
      exact this
  · cases h

theorem binP_ok {P : Program} {T : Tab} (hT : TabOk P T) {w : World} {M : Nat → Prop} {σ : List Addr} {L : Nat → Prop} {op : BinOp} {t : TypeId} {p q r : PV} {a b : Value} (h : binP P T op t p q = some r)
    (hp : V w M σ L p a) (hq : V w M σ L q b) (x y : Operand) : ∃ v, (do eqGuard op t x y a b; binOp op t a b).run P w = .ok v w ∧ V w M σ L r v := by
  unfold binP at h
  split at h
  · cases hp; cases hq
    exact binInt_ok h x y
  · cases hp; cases hq
    rename_i m n
    cases hs : binS op m n with
    | none => simp [hs] at h
    | some v =>
      simp [hs] at h; subst h
      exact ⟨v, binS_ok hs P t x y w, .sc v⟩
  · cases hp; cases hq
    exact binBool_ok hT h x y
  · cases hq
    exact binNil_ok hT h hp x y
  · cases hp with | agg _ a h1 h2 => cases hq with | agg _ b h3 h4 => exact binAgg_ok h ⟨h1, h2⟩ ⟨h3, h4⟩ x y
  · cases h

theorem unP_ok {P : Program} {w : World} {M : Nat → Prop} {σ : List Addr} {L : Nat → Prop} {op : UnOp} {p r : PV} {a : Value} (h : unP op p = some r) (hp : V w M σ L p a) :
    ∃ v, (Op.unary op a).run P w = .ok v w ∧ V w M σ L r v := by
  unfold unP at h
  split at h
  · cases hp; simp at h; subst h
    exact ⟨_, by simp [Op.unary, Op.intArith, wrapK_eq], .sc _⟩
  · cases hp; simp at h; subst h
    exact ⟨_, by simp [Op.unary], .sc _⟩
  · cases h

end Go.Ab
namespace Go.Ab
open Go

section
variable {P : Program} {T : Tab} (hT : TabOk P T) {w : World} {M : Nat → Prop} {L : Nat → Prop} {σ : List Addr}

/-- related lists of cells -/
def Rel (w : World) (M : Nat → Prop) (σ : List Addr) (L : Nat → Prop) (cs : List PV) (vs : Array Value) : Prop :=
  cs.length = vs.size ∧ ∀ (k : Nat) c v, cs[k]? = some c → vs[k]? = some v → V w M σ L c v

theorem Rel.one {p : PV} {v : Value} (h : V w M σ L p v) : Rel w M σ L [p] #[v] :=
  ⟨rfl, fun k c u h1 h2 => by
    cases k with
    | zero => simp at h1 h2; subst h1; subst h2; exact h
    | succ k => simp at h1⟩

theorem V.cells_ok {p : PV} {v : Value} {cs : List PV} (h : p.cells? = some cs) (hv : V w M σ L p v) : Rel w M σ L cs v.cells := by
  have hv0 := hv
  cases hv with
  | any => simp [PV.cells?] at h
  | tup => simp [PV.cells?] at h
  | agg ds vs hl hd => simp [PV.cells?] at h; subst h; exact ⟨hl, hd⟩
  | sc v =>
    unfold PV.cells? at h
    split at h <;> simp_all
    rename_i hna
    have e : v.cells = #[v] := by cases v <;> first | rfl | exact absurd rfl (hna _)
    rw [e, ← h]
    exact Rel.one (.sc v)
  | _ =>
    simp [PV.cells?] at h
    rw [← h]
    exact Rel.one hv0

theorem rel_scs (z : Array Value) : Rel w M σ L (z.toList.map .sc) z :=
  ⟨by simp, fun k c u h1 h2 => by
    rw [List.getElem?_map] at h1
    have : z.toList[k]? = some u := by simpa using h2
    rw [this] at h1; simp at h1; subst h1; exact .sc u⟩

theorem foldl_put (off : Nat) : ∀ (l : List Value) (n : Nat) (cells : Array Value), off + n + l.length ≤ cells.size →
    ((l.zipIdx n).foldl (fun cs (x : Value × Nat) => cs.setIfInBounds (off + x.2) x.1) cells).size = cells.size ∧
    ∀ k, ((l.zipIdx n).foldl (fun cs (x : Value × Nat) => cs.setIfInBounds (off + x.2) x.1) cells)[k]? = if off + n ≤ k ∧ k < off + n + l.length then l[k - (off + n)]? else cells[k]?
  | [], n, cells, _ => ⟨rfl, fun k => by rw [if_neg (by simp)]; rfl⟩
  | v :: l, n, cells, h => by
    simp only [List.length_cons] at h
    obtain ⟨h1, h2⟩ := foldl_put off l (n + 1) (cells.setIfInBounds (off + n) v) (by simp; omega)
    simp only [List.zipIdx_cons, List.foldl_cons]
    refine ⟨by rw [h1]; simp, fun k => ?_⟩
    rw [h2 k]
    simp only [List.length_cons]
    by_cases hk : off + (n + 1) ≤ k ∧ k < off + (n + 1) + l.length
    · rw [if_pos hk, if_pos (by omega)]
      obtain ⟨m, hm⟩ : ∃ m, k - (off + n) = m + 1 := ⟨k - (off + n) - 1, by omega⟩
      rw [hm, List.getElem?_cons_succ]; congr 1; omega
    · rw [if_neg hk]
      by_cases hk0 : k = off + n
      · subst hk0
        rw [if_pos (by omega)]
        have : off + n < cells.size := by omega
        simp [this]
      · rw [if_neg (by omega), Array.getElem?_setIfInBounds_ne (Ne.symm hk0)]

theorem rel_over {cs cs' new : List PV} {vs nv : Array Value} {vs' : Array Value} {off : Nat} (h : over? cs off new = some cs') (hc : Rel w M σ L cs vs) (hn : Rel w M σ L new nv)
    (hs : vs'.size = vs.size) (hv : ∀ k, vs'[k]? = if off ≤ k ∧ k < off + nv.size then nv[k - off]? else vs[k]?) : Rel w M σ L cs' vs' := by
  obtain ⟨h1, h2, h3⟩ := over?_some h
  refine ⟨by rw [h2, hs]; exact hc.1, fun k c v hk hv' => ?_⟩
  rw [h3] at hk; rw [hv] at hv'
  rw [hn.1] at hk
  split at hk
  · rename_i hb; rw [if_pos hb] at hv'; exact hn.2 _ c v hk hv'
  · rename_i hb; rw [if_neg hb] at hv'; exact hc.2 _ c v hk hv'

/-- parts by number -/
def Parts (w : World) (M : Nat → Prop) (σ : List Addr) (L : Nat → Prop) : List (Nat × PV) → List (Nat × Value) → Prop
  | [], [] => True
  | (i, p) :: r, (j, v) :: r' => i = j ∧ V w M σ L p v ∧ Parts w M σ L r r'
  | _, _ => False

theorem fill_ok (place place' : Nat → Option (Nat × Nat)) (hp : ∀ i x, place i = some x → place' i = some x) : ∀ (parts : List (Nat × PV)) (vparts : List (Nat × Value)) (cs r : List PV) (vs : Array Value),
    fillL place cs parts = some r → Parts w M σ L parts vparts → Rel w M σ L cs vs → ∃ arr, Instr.fill place' vs vparts = some arr ∧ Rel w M σ L r arr
  | [], [], cs, r, vs, h, _, hc => by simp [fillL] at h; subst h; exact ⟨vs, rfl, hc⟩
  | [], _ :: _, _, _, _, _, h, _ => h.elim
  | _ :: _, [], _, _, _, _, h, _ => h.elim
  | (i, p) :: parts, (j, v) :: vparts, cs, r, vs, h, ⟨e, hv, hr⟩, hc => by
    subst e
    simp only [fillL] at h
    split at h
    · rename_i off size ps hpl hps
      split at h
      · rename_i hsz
        split at h
        · rename_i l hl
          have hrel := V.cells_ok hps hv
          obtain ⟨h1, h2, h3⟩ := over?_some hl
          obtain ⟨hf1, hf2⟩ := foldl_put off v.cells.toList 0 vs (by have := hrel.1; have := hc.1; simp; omega)
          have hn : Rel w M σ L l (v.cells.zipIdx.foldl (fun cs (x : Value × Nat) => cs.setIfInBounds (off + x.2) x.1) vs) := by
            have e : v.cells.zipIdx.foldl (fun cs (x : Value × Nat) => cs.setIfInBounds (off + x.2) x.1) vs = (v.cells.toList.zipIdx 0).foldl (fun cs (x : Value × Nat) => cs.setIfInBounds (off + x.2) x.1) vs := by
              rw [← Array.foldl_toList, Array.toList_zipIdx]
            rw [e]
            refine rel_over hl hc hrel hf1 (fun k => ?_)
            rw [hf2 k]; simp
          obtain ⟨arr, ha, hra⟩ := fill_ok place place' hp parts vparts l r _ h hr hn
          refine ⟨arr, ?_, hra⟩
          simp only [Instr.fill, hp _ _ hpl]
          have c1 : (v.cells.size ≠ size || off + v.cells.size > vs.size) = false := by
            have := hrel.1; have := hc.1
            simp; omega
          rw [if_neg (by simpa using c1)]
          exact ha
        · cases h
      · cases h
    · cases h

include hT in
theorem build_ok {t : TypeId} {parts : List (Nat × PV)} {vparts : Array (Nat × Value)} {r : PV} (h : buildP T t parts = some r) (hp : Parts w M σ L parts vparts.toList) :
    ∃ v, (Instr.build t vparts).run P w = .ok v w ∧ V w M σ L r v := by
  unfold buildP at h
  split at h
  · rename_i zs fields hz hu
    split at h
    · rename_i hall
      obtain ⟨z, hz1, hz2⟩ := run_zero hT hz w
      cases hf : fillL (placeP T fields) zs parts with
      | none => simp [hf] at h
      | some l =>
        simp [hf] at h; subst h
        let places : Array (Nat × Nat) := fields.map fun f => (f.offset, (sizeT T f.type).getD 0)
        have hpl : (fields.mapM fun f => do pure (f.offset, ← Go.sizeOf f.type) : Sem (Array (Nat × Nat))).run P w = .ok places w := by
          have key : ∀ (l : List Field), l.all (fun f => (sizeT T f.type).isSome) = true →
              (l.mapM (fun f => do let n ← Go.sizeOf f.type; pure (f.offset, n)) : Sem (List (Nat × Nat))).run P w = .ok (l.map fun f => (f.offset, (sizeT T f.type).getD 0)) w := by
            intro l
            induction l with
            | nil => intro _; rfl
            | cons f l ih =>
              intro h
              simp only [List.all_cons, Bool.and_eq_true] at h
              obtain ⟨n, hn⟩ := Option.isSome_iff_exists.1 h.1
              rw [List.mapM_cons]
              simp only [Sem.run_bind, run_size hT hn, Result.andThen_ok, Sem.run_pure, ih h.2, List.map_cons, hn, Option.getD_some]
          rw [Array.mapM_eq_mapM_toList]
          simp only [Sem.run_map]
          rw [key fields.toList hall]
          simp only [Result.andThen_ok]
          congr 1
          apply Array.ext'
          simp [places]
        have hzr : Rel w M σ L zs z.cells := by rw [hz2]; exact rel_scs _
        obtain ⟨arr, h1, h2⟩ := fill_ok (w := w) (M := M) (σ := σ) (L := L) _ (places[·]?) (fun i x hx => by
          simp only [places, Array.getElem?_map]
          unfold placeP at hx
          cases hfi : fields[i]? with
          | none => simp [hfi] at hx
          | some f =>
            simp [hfi] at hx
            obtain ⟨n, hn, rfl⟩ := hx
            simp [hn]) parts vparts.toList zs l z.cells hf hp hzr
        refine ⟨.agg arr, ?_, .agg _ _ h2.1 h2.2⟩
        simp only [Instr.build, Sem.run_bind, hz1, Result.andThen_ok, run_und hT hu, hpl, h1]
        rfl
    · cases h
  · rename_i zs n e hz hu
    split at h
    · rename_i s hs
      obtain ⟨z, hz1, hz2⟩ := run_zero hT hz w
      cases hf : fillL (fun i => some (i * s, s)) zs parts with
      | none => simp [hf] at h
      | some l =>
        simp [hf] at h; subst h
        have hzr : Rel w M σ L zs z.cells := by rw [hz2]; exact rel_scs _
        obtain ⟨arr, h1, h2⟩ := fill_ok (w := w) (M := M) (σ := σ) (L := L) _ (fun i => some (i * s, s)) (fun i x hx => hx) parts vparts.toList zs l z.cells hf hp hzr
        refine ⟨.agg arr, ?_, .agg _ _ h2.1 h2.2⟩
        simp only [Instr.build, Sem.run_bind, hz1, Result.andThen_ok, run_und hT hu, run_size hT hs, h1]
        rfl
    · cases h
  · cases h

theorem rel_rep (n : Nat) (z : Array Value) (m : Nat) (hm : m = n * z.size) : Rel w M σ L (rep n (z.toList.map .sc)) ((Array.range m).map (z[· % z.size]!)) := by
  subst hm
  refine ⟨by rw [rep_length]; simp, fun k c v h1 h2 => ?_⟩
  have hk : k < n * z.size := by have := get_lt h1; rw [rep_length] at this; simpa using this
  rw [rep_get _ _ _ (by simpa using hk)] at h1
  have h0 : 0 < z.size := by
    rcases Nat.eq_zero_or_pos z.size with h | h
    · rw [h] at hk; simp at hk
    · exact h
  have hlt : k % z.size < z.size := Nat.mod_lt _ h0
  simp at h1
  have hz : z.toList[k % z.size]? = some z[k % z.size] := by simp [hlt]
  rw [Array.getElem?_map, Array.getElem?_range] at h2
  rw [if_pos hk] at h2
  simp at h2
  rw [getElem!_pos z _ hlt] at h2
  obtain ⟨a, ha, rfl⟩ := h1
  rw [Array.getElem?_eq_getElem hlt] at ha
  simp at ha
  rw [← ha, h2]
  exact .sc _

include hT in
theorem lit_ok {t : TypeId} {len s : Nat} {parts : List (Nat × PV)} {vparts : Array (Nat × Value)} {cs : List PV} (h : litP T t len parts = some (s, cs)) (hp : Parts w M σ L parts vparts.toList) :
    ∃ e arr, und T t = some (.slice e) ∧ sizeT T e = some s ∧ (Instr.buildSlice t len vparts).run P w = .ok (.slice (some ⟨w.heap.size, 0, none⟩) len len) (w.alloc (.cells arr e)) ∧ Rel w M σ L cs arr ∧ cs.length = len * s := by
  unfold litP at h
  split at h
  · rename_i e hu
    split at h
    · rename_i s' zs hs hz
      split at h
      · rename_i hle
        obtain ⟨z, hz1, hz2⟩ := run_zero hT hz w
        cases hf : fillL (fun i => some (i * s', s')) (rep len zs) parts with
        | none => simp [hf] at h
        | some l =>
          simp [hf] at h
          obtain ⟨rfl, rfl⟩ := h
          have hzs : z.cells.size = s' := by have := hle.2; rw [hz2] at this; simpa using this
          have hzr : Rel w M σ L (rep len zs) ((Array.range (len * s')).map ((if len * s' = 0 then #[] else z.cells)[· % (if len * s' = 0 then (#[] : Array Value) else z.cells).size]!)) := by
            by_cases h0 : len * s' = 0
            · rw [hz2]
              have := rel_rep (w := w) (M := M) (σ := σ) (L := L) len z.cells (len * s') (by rw [hzs])
              rw [h0] at this ⊢
              simpa [Array.range_zero'] using this
            · rw [if_neg h0, hz2]
              exact rel_rep len z.cells (len * s') (by rw [hzs])
          obtain ⟨arr, h1, h2⟩ := fill_ok (w := w) (M := M) (σ := σ) (L := L) _ (fun i => some (i * s', s')) (fun i x hx => hx) parts vparts.toList _ l _ hf hp hzr
          refine ⟨e, arr, hu, hs, ?_, h2, ?_⟩
          · have hn : ¬ (len * s' > 2 ^ 24) := by simp; exact hle.1
            simp only [Instr.buildSlice, Sem.run_bind, run_und hT hu, Result.andThen_ok, run_size hT hs, if_neg hn]
            by_cases h0 : len * s' = 0
            · rw [if_pos h0] at h1
              rw [if_pos h0]
              simp only [pure_bind, h1]
              rfl
            · rw [if_neg h0] at h1
              rw [if_neg h0]
              simp only [bind_assoc, pure_bind]
              rw [Sem.run_bind, hz1]
              simp only [Result.andThen_ok, h1]
              rfl
          · have key : ∀ (ps : List (Nat × PV)) (cs r : List PV), fillL (fun i => some (i * s', s')) cs ps = some r → r.length = cs.length := by
              intro ps
              induction ps with
              | nil => intro cs r h; simp [fillL] at h; rw [h]
              | cons x ps ih =>
                intro cs r h
                obtain ⟨i, p⟩ := x
                simp only [fillL] at h
                split at h
                · split at h
                  · split at h
                    · rename_i l hl
                      rw [ih _ _ h, (over?_some hl).2.1]
                    · cases h
                  · cases h
                · cases h
            rw [key _ _ _ hf, rep_length, hle.2]
      · cases h
    · cases h
  · cases h

end
end Go.Ab
namespace Go.Ab
open Go

section
variable {P : Program} {T : Tab} (hT : TabOk P T) {w : World} {M : Nat → Prop} {L : Nat → Prop} {σ : List Addr}

/-- an operand that may be left out -/
def OV (w : World) (M : Nat → Prop) (σ : List Addr) (L : Nat → Prop) : Option PV → Option Value → Prop
  | none, none => True
  | some p, some v => V w M σ L p v
  | _, _ => False

theorem asNat_ok {p : PV} {v : Value} {n : Nat} (h : asNat? p = some n) (hv : V w M σ L p v) : ∃ k, v = .int k (n : Int) := by
  unfold asNat? at h
  split at h
  · cases hv; simp at h; subst h; exact ⟨_, rfl⟩
  · cases h

theorem run_bound {n y : Nat} (h : n ≤ y) (k : IntKind) (c : BoundsCode) : (Instr.sliceBound (.int k (n : Int)) y c).run P w = .ok n w := by
  have : (0 : Int) ≤ (n : Int) ∧ (n : Int) ≤ (y : Int) := by omega
  simp only [Instr.sliceBound, asIntOf, pure_bind, if_pos this]
  simp

theorem bound?_ok {d n : Nat} {o : Option PV} {o' : Option Value} (h : bound? d o = some n) (ho : OV w M σ L o o') : (o' = none ∧ n = d) ∨ ∃ k, o' = some (.int k (n : Int)) := by
  cases o with
  | none => cases o' with
    | none => simp [bound?] at h; exact .inl ⟨rfl, h.symm⟩
    | some v => exact ho.elim
  | some p => cases o' with
    | none => exact ho.elim
    | some v =>
      obtain ⟨k, e⟩ := asNat_ok h ho
      exact .inr ⟨k, by rw [e]⟩

/-- the three bounds, as the model reckons them: cap is the capacity -/
theorem bnd_ok {len l h : Nat} {m : Option Nat} {lo hi mx : Option PV} {lo' hi' mx' : Option Value} (hb : bnd len lo hi mx = some (l, h, m)) (h1 : OV w M σ L lo lo') (h2 : OV w M σ L hi hi') (h3 : OV w M σ L mx mx')
    (isS : Bool) {cap : Nat} (hcap : len ≤ cap) :
    (Instr.sliceBounds isS len cap lo' hi' mx').run P w = .ok (l, h, m.getD cap) w ∧ l ≤ h ∧ h ≤ len ∧ (∀ k, m = some k → h ≤ k ∧ k ≤ len) ∧ (m = none → mx' = none) := by
  unfold bnd at hb
  split at hb
  · rename_i l0 h0 hl hh
    split at hb
    · rename_i hc
      simp at hb
      obtain ⟨rfl, rfl, rfl⟩ := hb
      cases mx' with
      | some v => exact h3.elim
      | none =>
        refine ⟨?_, hc.1, hc.2, (fun k hk => by cases hk), fun _ => rfl⟩
        rcases bound?_ok hl h1 with ⟨e1, e2⟩ | ⟨k1, e1⟩ <;> rcases bound?_ok hh h2 with ⟨e3, e4⟩ | ⟨k2, e3⟩ <;> subst e1 <;> subst e3
        · subst e2; subst e4; simp [Instr.sliceBounds]
        · subst e2; simp [Instr.sliceBounds, run_bound (P := P) (w := w) (show h0 ≤ cap by omega)]
        · subst e4; simp [Instr.sliceBounds, run_bound (P := P) (w := w) hc.1]
        · simp [Instr.sliceBounds, run_bound (P := P) (w := w) (show h0 ≤ cap by omega), run_bound (P := P) (w := w) hc.1]
    · cases hb
  · rename_i l0 h0 pm ph hl hh
    split at hb
    · rename_i m0 hm0
      split at hb
      · rename_i hc
        simp at hb
        obtain ⟨rfl, rfl, rfl⟩ := hb
        cases mx' with
        | none => exact h3.elim
        | some vm =>
          obtain ⟨km, rfl⟩ := asNat_ok hm0 h3
          refine ⟨?_, hc.1, by omega, (fun k hk => by cases hk; exact ⟨hc.2.1, hc.2.2⟩), fun e => by cases e⟩
          rcases bound?_ok hh h2 with ⟨e3, e4⟩ | ⟨k2, e3⟩
          · subst e3; exact h2.elim
          · subst e3
            rcases bound?_ok hl h1 with ⟨e1, e2⟩ | ⟨k1, e1⟩ <;> subst e1
            · subst e2; simp [Instr.sliceBounds, run_bound (P := P) (w := w) (show m0 ≤ cap by omega), run_bound (P := P) (w := w) hc.2.1]
            · simp [Instr.sliceBounds, run_bound (P := P) (w := w) (show m0 ≤ cap by omega), run_bound (P := P) (w := w) hc.2.1, run_bound (P := P) (w := w) hc.1]
      · cases hb
    · cases hb
  · cases hb

theorem At.imm {a : Addr} {cs : List PV} {len cap : Nat} {x : Bool} (g : Nat → Value) (h : ∀ (k : Nat) c, cs[k]? = some c → a.spot = none ∧ c.idfree = true ∧ ¬ M a.block ∧ w.cell? ⟨a.block, a.off + k, none⟩ = some (g k))
    (hv : ∀ (k : Nat) c, cs[k]? = some c → V w M σ L c (g k)) (off n : Nat) (hl : len ≤ cap) (hx : x = true → cap = len) (b : Addr) (hb : 0 < n → b = a.add off) : V w M σ L (.imm len x ((cs.drop off).take n)) (.slice (some b) len cap) := by
  refine .imm len x _ b cap (fun k => g (off + k)) hl hx (fun k c hk => ?_) (fun k c hk => ?_)
  · rw [List.getElem?_take] at hk
    split at hk
    · rename_i hkn
      rw [List.getElem?_drop] at hk
      obtain ⟨e1, e2, e3, e4⟩ := h _ c hk
      have eb := hb (by omega)
      rw [addr_add e1] at eb
      subst eb
      exact ⟨rfl, e2, e3, by rw [Nat.add_assoc]; exact e4⟩
    · cases hk
  · rw [List.getElem?_take] at hk
    split at hk
    · rw [List.getElem?_drop] at hk; exact hv _ c hk
    · cases hk

include hT in
theorem sliceSl_ok {t e : TypeId} (hu : und T t = some (.slice e)) {p r : PV} {v : Value} {lo hi mx : Option PV} {lo' hi' mx' : Option Value} (h : sliceSl T e p lo hi mx = some r) (hv : V w M σ L p v)
    (h1 : OV w M σ L lo lo') (h2 : OV w M σ L hi hi') (h3 : OV w M σ L mx mx') : ∃ u, (Instr.slice t v lo' hi' mx').run P w = .ok u w ∧ V w M σ L r u := by
  unfold sliceSl at h
  cases hs : sizeT T e with
  | none => simp [hs] at h
  | some s =>
    simp only [hs] at h
    have run : ∀ (a : Option Addr) (len cap l h : Nat) (m : Option Nat), (Instr.sliceBounds true len cap lo' hi' mx').run P w = .ok (l, h, m.getD cap) w →
        (Instr.slice t (.slice a len cap) lo' hi' mx').run P w = .ok (.slice (if m.getD cap = l then a else a.map (·.add (l * s))) (h - l) (m.getD cap - l)) w := by
      intro a len cap l h m hb
      simp only [Instr.slice, Sem.run_bind, run_und hT hu, Result.andThen_ok, hb, run_size hT hs]
      rfl
    split at h
    · cases hv
      split at h
      · rename_i x hb
        obtain ⟨l, hh, m⟩ := x
        simp at h; subst h
        obtain ⟨hr, hl, hh', hm, hn⟩ := bnd_ok (P := P) hb h1 h2 h3 true (cap := 0) (Nat.le_refl _)
        have e1 : hh = 0 := by omega
        have e2 : l = 0 := by omega
        have e3 : m.getD 0 = 0 := by
          cases m with
          | none => rfl
          | some k => have := (hm k rfl).2; simp; omega
        subst e1; subst e2
        refine ⟨_, run none 0 0 0 0 m hr, ?_⟩
        rw [e3]; exact .sc _
      · cases h
    · rename_i len x cs
      split at h
      · rename_i l hh m hb
        split at h
        · rename_i hcs
          cases ht : takeN? (dropN cs (l * s)) ((hh - l) * s) with
          | none => simp [ht] at h
          | some c =>
            simp [ht] at h; subst h
            obtain ⟨hle, rfl⟩ := takeN?_some ht
            rw [dropN_eq] at *
            cases hv with
            | nil x =>
              obtain ⟨hr, hl, hh', hm, hn⟩ := bnd_ok (P := P) hb h1 h2 h3 true (cap := 0) (Nat.le_refl _)
              have e1 : hh = 0 := by omega
              have e2 : l = 0 := by omega
              have e3 : m.getD 0 = 0 := by
                cases m with
                | none => rfl
                | some k => have := (hm k rfl).2; simp; omega
              subst e1; subst e2
              refine ⟨_, run none 0 0 0 0 m hr, ?_⟩
              rw [e3]; simp; exact .nil _
            | imm _ _ _ a cap g g1 g2 g3 g4 =>
              obtain ⟨hr, hl, hh', hm, hn⟩ := bnd_ok (P := P) hb h1 h2 h3 true g1
              refine ⟨_, run (some a) len cap l hh m hr, ?_⟩
              have hmc : hh ≤ m.getD cap := by
                cases m with
                | none => simp; omega
                | some k => have := (hm k rfl).1; simp; omega
              have hfull : fullB x len hh m = true → m.getD cap - l = hh - l := by
                intro hf
                cases m with
                | none =>
                  simp [fullB] at hf
                  have := g2 hf.1
                  simp; omega
                | some k => simp [fullB] at hf; simp; omega
              have key := At.imm (x := fullB x len hh m) (len := hh - l) (cap := m.getD cap - l) g g3 g4 (l * s) ((hh - l) * s) (by omega) hfull (if m.getD cap = l then a else a.add (l * s)) (fun hpos => by
                rw [if_neg]
                intro e
                have : hh - l = 0 := by omega
                rw [this] at hpos; simp at hpos)
              have e : (if m.getD cap = l then some a else Option.map (fun x => x.add (l * s)) (some a)) = some (if m.getD cap = l then a else a.add (l * s)) := by split <;> rfl
              rw [e]; exact key
        · cases h
      · cases h
    · rename_i id s' off len x
      split at h
      · rename_i l hh m hb
        split at h
        · rename_i hss
          simp at h; subst h; subst hss
          cases hv with
          | own _ _ _ _ _ a b cap g1 g2 g3 g4 g5 =>
            obtain ⟨hr, hl, hh', hm, hn⟩ := bnd_ok (P := P) hb h1 h2 h3 true g2
            refine ⟨_, run (some b) len cap l hh m hr, ?_⟩
            have hmc : hh ≤ m.getD cap ∧ m.getD cap ≤ cap := by
              cases m with
              | none => simp; omega
              | some k => have := hm k rfl; simp; omega
            have hfull : fullB x len hh m = true → m.getD cap - l = hh - l := by
              intro hf
              cases m with
              | none =>
                simp [fullB] at hf
                have := g3 hf.1
                simp; omega
              | some k => simp [fullB] at hf; simp; omega
            have e : (if m.getD cap = l then some b else Option.map (fun x => x.add (l * s)) (some b)) = some (if m.getD cap = l then b else b.add (l * s)) := by split <;> rfl
            rw [e]
            refine .own id s (off + l * s) (hh - l) _ a _ _ g1 (by omega) hfull (fun hpos => ?_) (fun hL => ?_)
            · rw [if_neg (by omega)]
              have eb := g4 (by omega)
              subst eb
              rw [addr_add rfl]; simp [Nat.add_assoc]
            · obtain ⟨c, e', hc, hsz⟩ := g5 hL
              refine ⟨c, e', hc, ?_⟩
              have hm1 : (m.getD cap - l) * s + l * s ≤ cap * s := by
                rw [← Nat.add_mul]; exact Nat.mul_le_mul_right s (by omega)
              omega
        · cases h
      · cases h
    · cases h

end
end Go.Ab
namespace Go.Ab
open Go

section
variable {P : Program} {T : Tab} (hT : TabOk P T) {w : World} {M : Nat → Prop} {L : Nat → Prop} {σ : List Addr}

theorem extract_eq (s : ByteArray) (l h : Nat) : s.extract l h = mkStr (((strL s).take h).drop l) := by
  rw [← mk_strL (s.extract l h)]
  congr 1
  simp [strL, ByteArray.data_extract]
  rw [List.drop_take]

include hT in
theorem sliceStr_ok {t : TypeId} (hu : und T t = some .string) {s : ByteArray} {r : PV} {lo hi mx : Option PV} {lo' hi' mx' : Option Value} (h : sliceStr s lo hi mx = some r)
    (h1 : OV w M σ L lo lo') (h2 : OV w M σ L hi hi') (h3 : OV w M σ L mx mx') : ∃ u, (Instr.slice t (.string s) lo' hi' mx').run P w = .ok u w ∧ V w M σ L r u := by
  unfold sliceStr at h
  split at h
  · rename_i l hh hb
    simp at h; subst h
    rw [strL_length] at hb
    obtain ⟨hr, hl, hh', hm, hn⟩ := bnd_ok (P := P) hb h1 h2 h3 false (Nat.le_refl _)
    have := hn rfl
    subst this
    refine ⟨.string (s.extract l hh), ?_, by rw [extract_eq]; exact .sc _⟩
    simp only [Instr.slice, Sem.run_bind, run_und hT hu, Result.andThen_ok]
    simp [hr]
  · cases h

theorem size_of_cells {H : Nat → Prop} {hp : List Blk} (S : Sim w H σ hp) {id off : Nat} {a : Addr} {cs : List PV} (hb : hp[id]? = some ⟨.live, cs⟩) (ha : σ[id]? = some a) (hle : off ≤ cs.length) :
    ∃ (c : Array Value) (e : TypeId), w.heap[a.block]? = some (Obj.cells c e (0, 0)) ∧ a.off + off ≤ c.size := by
  obtain ⟨c, e, h1, h2⟩ := S.live id a cs hb ha
  exact ⟨c, e, h1, by omega⟩

include hT in
theorem sliceArr_ok {t e : TypeId} {n : Nat} (hu : und T t = some (.array n e)) {H : Nat → Prop} {hp : List Blk} (S : Sim w H σ hp) {p r : PV} {v : Value} {lo hi mx : Option PV} {lo' hi' mx' : Option Value}
    (h : sliceArr T hp n e p lo hi mx = some r) (hv : V w (hot H σ hp) σ (liveAt hp) p v)
    (h1 : OV w (hot H σ hp) σ (liveAt hp) lo lo') (h2 : OV w (hot H σ hp) σ (liveAt hp) hi hi') (h3 : OV w (hot H σ hp) σ (liveAt hp) mx mx') :
    ∃ u, (Instr.sliceAt t v lo' hi' mx').run P w = .ok u w ∧ V w (hot H σ hp) σ (liveAt hp) r u := by
  unfold sliceArr at h
  split at h
  · rename_i s l hh m hs hb
    obtain ⟨hr, hl, hh', hm, hn⟩ := bnd_ok (P := P) hb h1 h2 h3 false (Nat.le_refl _)
    have run : ∀ a : Addr, (Instr.sliceAt t (.pointer (some a)) lo' hi' mx').run P w = .ok (.slice (some (if m.getD n = l then a else a.add (l * s))) (hh - l) (m.getD n - l)) w := by
      intro a
      simp only [Instr.sliceAt, Sem.run_bind, run_und hT hu, Result.andThen_ok, Instr.sureAddr, Sem.run_pure, hr, run_size hT hs]
    have hmc : hh ≤ m.getD n ∧ m.getD n ≤ n := by
      cases m with
      | none => simp; omega
      | some k => have := hm k rfl; simp; omega
    have hfull : fullB true n hh m = true → m.getD n - l = hh - l := by
      intro hf
      cases m with
      | none => simp [fullB] at hf; simp; omega
      | some k => simp [fullB] at hf; simp; omega
    split at h
    · rename_i id off
      cases hv with
      | ptr _ _ a ha =>
        split at h
        · rename_i cs hcs
          rw [nthB_eq] at hcs
          split at h
          · rename_i hle
            simp at h; subst h
            refine ⟨_, run _, .own id s (off + l * s) (hh - l) _ a _ _ ha (by omega) hfull (fun hpos => ?_) (fun _ => ?_)⟩
            · rw [if_neg (by omega), addr_add rfl]; simp [Nat.add_assoc]
            · obtain ⟨c, e', hc, hsz⟩ := size_of_cells S hcs ha hle
              refine ⟨c, e', hc, ?_⟩
              have hm1 : (m.getD n - l) * s + l * s ≤ n * s := by
                rw [← Nat.add_mul]; exact Nat.mul_le_mul_right s (by omega)
              omega
          · cases h
        · cases h
    · rename_i cs
      cases hv with
      | iptr _ a g g1 g2 =>
        cases ht : takeN? (dropN cs (l * s)) ((hh - l) * s) with
        | none => simp [ht] at h
        | some c =>
          simp [ht] at h; subst h
          obtain ⟨hle, rfl⟩ := takeN?_some ht
          rw [dropN_eq] at *
          refine ⟨_, run a, ?_⟩
          exact At.imm g g1 g2 (l * s) ((hh - l) * s) (by omega) hfull _ (fun hpos => by
            rw [if_neg]
            intro e
            have : hh - l = 0 := by omega
            rw [this] at hpos; simp at hpos)
    · cases h
  · cases h

include hT in
theorem sliceP_ok {t : TypeId} {H : Nat → Prop} {hp : List Blk} (S : Sim w H σ hp) {p r : PV} {v : Value} {lo hi mx : Option PV} {lo' hi' mx' : Option Value}
    (h : sliceP T hp t p lo hi mx = some r) (hv : V w (hot H σ hp) σ (liveAt hp) p v)
    (h1 : OV w (hot H σ hp) σ (liveAt hp) lo lo') (h2 : OV w (hot H σ hp) σ (liveAt hp) hi hi') (h3 : OV w (hot H σ hp) σ (liveAt hp) mx mx') :
    ∃ u, (Instr.sliceAt t v lo' hi' mx').run P w = .ok u w ∧ V w (hot H σ hp) σ (liveAt hp) r u := by
  unfold sliceP at h
  split at h
  · rename_i hu
    split at h
    · cases hv
      obtain ⟨u, h4, h5⟩ := sliceStr_ok hT hu h h1 h2 h3
      exact ⟨u, by simp only [Instr.sliceAt, Sem.run_bind, run_und hT hu, Result.andThen_ok]; exact h4, h5⟩
    · cases h
  · rename_i e hu
    obtain ⟨u, h4, h5⟩ := sliceSl_ok hT hu h hv h1 h2 h3
    exact ⟨u, by simp only [Instr.sliceAt, Sem.run_bind, run_und hT hu, Result.andThen_ok]; exact h4, h5⟩
  · rename_i n e hu
    exact sliceArr_ok hT hu S h hv h1 h2 h3
  · cases h

theorem iptr_drop {cs : List PV} {a : Addr} {n : Nat} (h : V w M σ L (.iptr cs) (.pointer (some a))) : V w M σ L (.iptr (cs.drop n)) (.pointer (some (a.add n))) := by
  cases h with
  | iptr _ _ g g1 g2 =>
    refine .iptr _ _ (fun k => g (n + k)) (fun k c hk => ?_) (fun k c hk => ?_)
    · rw [List.getElem?_drop] at hk
      obtain ⟨e1, e2, e3, e4⟩ := g1 _ c hk
      rw [addr_add e1]
      exact ⟨rfl, e2, e3, by simp only [Nat.add_assoc]; exact e4⟩
    · rw [List.getElem?_drop] at hk; exact g2 _ c hk

theorem V.ptr_inv {id off : Nat} {v : Value} (h : V w M σ L (.ptr id off) v) : ∃ a, σ[id]? = some a ∧ v = .pointer (some ⟨a.block, a.off + off, none⟩) := by
  cases h with | ptr _ _ a ha => exact ⟨a, ha, rfl⟩
theorem V.iptr_inv {cs : List PV} {v : Value} (h : V w M σ L (.iptr cs) v) : ∃ a, v = .pointer (some a) := by
  cases h with | iptr _ a => exact ⟨a, rfl⟩

include hT in
theorem fieldAddrP_ok {t : TypeId} {i : Nat} {p r : PV} {v : Value} (h : fieldAddrP T t p i = some r) (hv : V w M σ L p v) : ∃ u, (Instr.fieldAt t v i).run P w = .ok u w ∧ V w M σ L r u := by
  unfold fieldAddrP at h
  split at h
  · rename_i fields hu
    split at h
    · rename_i f hf
      have run : ∀ (a : Addr) (m : Nat), sizeT T f.type = some (m + 1) → (Instr.fieldAt t (.pointer (some a)) i).run P w = .ok (.pointer (some (a.add f.offset))) w := by
        intro a m hs
        simp [Instr.fieldAt, run_und hT hu, hf, Instr.sureAddr, fieldPlace, run_size hT hs]
      split at h
      · rename_i m id off hs
        simp at h; subst h
        obtain ⟨a, ha, rfl⟩ := hv.ptr_inv
        refine ⟨_, run _ m hs, ?_⟩
        rw [addr_add rfl]
        have := V.ptr (w := w) (M := M) (L := L) id (off + f.offset) a ha
        simpa [Nat.add_assoc] using this
      · rename_i m cs hs
        simp at h; subst h
        obtain ⟨a, rfl⟩ := hv.iptr_inv
        rw [dropN_eq]
        exact ⟨_, run a m hs, iptr_drop hv⟩
      · cases h
    · cases h
  · cases h

include hT in
theorem fieldP_ok {t : TypeId} {i : Nat} {p r : PV} {v : Value} (h : fieldP T t p i = some r) (hv : V w M σ L p v) : ∃ u, (Instr.field t v i).run P w = .ok u w ∧ V w M σ L r u := by
  unfold fieldP at h
  split at h
  · rename_i fields cs hu
    split at h
    · rename_i f hf
      cases hv with
      | agg _ vs h1 h2 =>
        obtain ⟨u, h3, h4⟩ := partAgg_ok (w := w) hT h h1 h2
        exact ⟨u, by simp [Instr.field, run_und hT hu, hf, asAgg, h3], h4⟩
    · cases h
  · cases h

include hT in
theorem indexAddrP_ok {t : TypeId} {p q r : PV} {v u : Value} (h : indexAddrP T t p q = some r) (hv : V w M σ L p v) (hq : V w M σ L q u) : ∃ z, (Instr.indexAt t v u).run P w = .ok z w ∧ V w M σ L r z := by
  unfold indexAddrP at h
  split at h
  · rename_i e i hu hi
    obtain ⟨k, rfl⟩ := asNat_ok hi hq
    have run : ∀ (a : Addr) (len cap s : Nat), sizeT T e = some s → i < len → (Instr.indexAt t (.slice (some a) len cap) (.int k (i : Int))).run P w = .ok (.pointer (some (a.add (i * s)))) w := by
      intro a len cap s hs hlt
      have : (0 : Int) ≤ (i : Int) ∧ (i : Int) < (len : Int) := by omega
      simp only [Instr.indexAt, Sem.run_bind, asIntOf, Sem.run_pure, Result.andThen_ok, run_und hT hu, if_pos this, run_size hT hs]
      rfl
    split at h
    · rename_i s len x cs hs
      split at h
      · rename_i hlt
        simp at h; subst h
        rw [dropN_eq]
        cases hv with
        | nil => omega
        | imm _ _ _ a cap g g1 g2 g3 g4 =>
          refine ⟨_, run a len cap s hs hlt, iptr_drop (.iptr cs a g g3 g4)⟩
      · cases h
    · rename_i s id s' off len x hs
      split at h
      · rename_i hlt
        simp at h; subst h
        cases hv with
        | own _ _ _ _ _ a b cap g1 g2 g3 g4 g5 =>
          have eb := g4 (by omega)
          subst eb
          refine ⟨_, run _ len cap s hs hlt.1, ?_⟩
          rw [addr_add rfl]
          have := V.ptr (w := w) (M := M) (L := L) id (off + i * s) a g1
          simpa [Nat.add_assoc] using this
      · cases h
    · cases h
  · rename_i n e i hu hi
    obtain ⟨k, rfl⟩ := asNat_ok hi hq
    have run : ∀ (a : Addr) (s : Nat), sizeT T e = some s → i < n → (Instr.indexAt t (.pointer (some a)) (.int k (i : Int))).run P w = .ok (.pointer (some (a.add (i * s)))) w := by
      intro a s hs hlt
      have : (0 : Int) ≤ (i : Int) ∧ (i : Int) < (n : Int) := by omega
      simp only [Instr.indexAt, Sem.run_bind, asIntOf, Sem.run_pure, Result.andThen_ok, run_und hT hu, Instr.sureAddr, if_pos this, run_size hT hs]
      rfl
    split at h
    · rename_i s id off hs
      split at h
      · rename_i hlt
        simp at h; subst h
        obtain ⟨a, ha, rfl⟩ := hv.ptr_inv
        refine ⟨_, run _ s hs hlt, ?_⟩
        rw [addr_add rfl]
        have := V.ptr (w := w) (M := M) (L := L) id (off + i * s) a ha
        simpa [Nat.add_assoc] using this
      · cases h
    · rename_i s cs hs
      split at h
      · rename_i hlt
        simp at h; subst h
        obtain ⟨a, rfl⟩ := hv.iptr_inv
        rw [dropN_eq]
        exact ⟨_, run a s hs hlt, iptr_drop hv⟩
      · cases h
    · cases h
  · cases h

theorem nthL_eq (l : List UInt8) (n : Nat) : nthL l n = l[n]? := by
  induction l generalizing n with
  | nil => simp [nthL]
  | cons a l ih => cases n <;> simp [nthL, ih]

include hT in
theorem indexP_ok {t : TypeId} {p q r : PV} {v u : Value} (h : indexP T t p q = some r) (hv : V w M σ L p v) (hq : V w M σ L q u) : ∃ z, (Instr.index t v u).run P w = .ok z w ∧ V w M σ L r z := by
  unfold indexP at h
  split at h
  · rename_i n e cs i hu hi
    obtain ⟨k, rfl⟩ := asNat_ok hi hq
    split at h
    · rename_i s hs
      split at h
      · rename_i hlt
        cases hv with
        | agg _ vs h1 h2 =>
          obtain ⟨z, h3, h4⟩ := partAgg_ok (w := w) hT h h1 h2
          have : (0 : Int) ≤ (i : Int) ∧ (i : Int) < (n : Int) := by omega
          refine ⟨z, ?_, h4⟩
          simp only [Instr.index, Sem.run_bind, asIntOf, Sem.run_pure, Result.andThen_ok, run_und hT hu, if_pos this, run_size hT hs]
          exact h3
      · cases h
    · cases h
  · rename_i s i hu hi
    obtain ⟨k, rfl⟩ := asNat_ok hi hq
    cases hv
    rw [nthL_eq] at h
    cases hb : (strL s)[i]? with
    | none => simp [hb] at h
    | some b =>
      simp [hb] at h; subst h
      refine ⟨_, ?_, .sc _⟩
      have hlt := get_lt hb
      rw [strL_length] at hlt
      have e : s[((i : Nat) : Int).toNat]? = some b := by
        rw [Int.toNat_natCast, getElem?_pos s i hlt]
        have : (strL s)[i]? = some s[i] := by
          unfold strL
          rw [Array.getElem?_toList]
          have hlt' : i < s.data.size := hlt
          rw [Array.getElem?_eq_getElem hlt']; rfl
        rw [this] at hb; exact hb
      simp only [Instr.index, Sem.run_bind, asIntOf, Sem.run_pure, Result.andThen_ok, run_und hT hu]
      rw [if_pos (by omega), e]
      rfl
  · cases h

include hT in
theorem lenP_ok {t : TypeId} {p r : PV} {v : Value} (h : lenP T t p = some r) (hv : V w M σ L p v) (ty : TypeId) : ∃ u, (Builtin.len_ #[t] ty #[v]).run P w = .ok u w ∧ V w M σ L r u := by
  unfold lenP at h
  split at h
  · rename_i s hu
    simp at h; subst h
    cases hv
    exact ⟨_, by simp [Builtin.len_, run_und hT hu, strL_length, goInt], .sc _⟩
  · rename_i n e hu
    simp at h; subst h
    exact ⟨_, by simp [Builtin.len_, run_und hT hu, goInt], .sc _⟩
  · rename_i e hu
    have run : ∀ (a : Option Addr) (l c : Nat), (Builtin.len_ #[t] ty #[.slice a l c]).run P w = .ok (.int .i64 (l : Nat)) w := by
      intro a l c; simp [Builtin.len_, run_und hT hu, goInt]
    unfold lenSl at h
    split at h
    · cases hv
      simp at h; subst h
      exact ⟨_, run none 0 0, .sc _⟩
    · simp at h; subst h
      cases hv with
      | nil => exact ⟨_, run none 0 0, .sc _⟩
      | imm _ _ _ a cap => exact ⟨_, run _ _ cap, .sc _⟩
    · simp at h; subst h
      cases hv with | own _ _ _ _ _ a b cap => exact ⟨_, run _ _ cap, .sc _⟩
    · simp at h
  · cases h

end
end Go.Ab
namespace Go.Ab
open Go

section
variable {P : Program} {T : Tab} (hT : TabOk P T) {w : World} {H : Nat → Prop} {hp : List Blk} {σ : List Addr}

theorem minmax_ok {M : Nat → Prop} {L : Nat → Prop} {b : Bool} {ps : List PV} {vs : List Value} {r : PV} (h : minmax b ps = some r) (hl : ps.length = vs.length)
    (hv : ∀ (k : Nat) c v, ps[k]? = some c → vs[k]? = some v → V w M σ L c v) (ats : Array TypeId) (ty : TypeId) :
    ∃ u, (if b then Builtin.max_ ats ty vs.toArray else Builtin.min_ ats ty vs.toArray).run P w = .ok u w ∧ V w M σ L r u := by
  unfold minmax at h
  split at h
  · simp at h; subst h
    rename_i x
    match vs, hl with
    | [v], _ =>
      refine ⟨v, ?_, hv 0 x v (by simp) (by simp)⟩
      cases b <;> simp [Builtin.max_, Builtin.min_]
  · rename_i k a k' c rest
    split at h
    · rename_i hk
      split at h
      · simp at h; subst h
        subst hk
        match vs, hl with
        | [v, u], _ =>
          have e1 := hv 0 (.sc (.int k a)) v (by simp) rfl
          have e2 := hv 1 (.sc (.int k c)) u (by simp) rfl
          cases e1; cases e2
          refine ⟨_, ?_, .sc _⟩
          cases b <;> simp [Builtin.max_, Builtin.min_, Builtin.max2, Builtin.min2]
      · cases h
    · cases h
  · cases h

/-- a new block of which nothing is said -/
theorem sim_fresh (S : Sim w H σ hp) (o : Obj) : Sim (w.alloc o) H σ hp ∧ Step w (ownd σ hp) σ (liveAt hp) (w.alloc o) (ownd σ hp) σ (liveAt hp) := by
  have hold : ∀ (k : Nat), k < w.heap.size → (w.alloc o).heap[k]? = w.heap[k]? := fun k hk => Go.RowKit.Below.heap_alloc _ _ _ hk
  have st : Step w (ownd σ hp) σ (liveAt hp) (w.alloc o) (ownd σ hp) σ (liveAt hp) := by
    refine ⟨rfl, rfl, rfl, by simp, fun _ _ h => h, fun b hb _ => hold b hb, shape_of fun b c e' f hb => ?_, fun _ _ h => h, fun _ _ h => h⟩
    have : b < w.heap.size := by
      rcases Nat.lt_or_ge b w.heap.size with h' | h'
      · exact h'
      · simp [Array.getElem?_eq_none h'] at hb
    exact ⟨c, by rw [hold b this]; exact hb, rfl⟩
  refine ⟨⟨S.len, fun i a ha => Nat.lt_of_lt_of_le (S.spot i a ha) (by simp), fun b hb => Nat.lt_of_lt_of_le (S.foreign b hb) (by simp), fun i s cs a hi hd ha k c hk => ?_, S.own, fun i a cs hi ha => ?_, S.inj, fun i cs a hi ha => ?_, S.injm⟩, st⟩
  · obtain ⟨v, h1, h2⟩ := S.cells i s cs a hi hd ha k c hk
    exact ⟨v, by rw [cell?_same (w := w) (w' := w.alloc o) (a := ⟨a.block, a.off + k, none⟩) (hold _ (S.spot i a ha))]; exact h1, h2.step st⟩
  · obtain ⟨c, e, h2, h3⟩ := S.live i a cs hi ha
    exact ⟨c, e, by rw [hold _ (S.spot i a ha)]; exact h2, h3⟩
  · obtain ⟨h1, es, ck, h2, h3⟩ := S.maps i cs a hi ha
    exact ⟨h1, es, ck, by rw [hold _ (S.spot i a ha)]; exact h2, h3.step st⟩

theorem not_hot_new (S : Sim w H σ hp) : ¬ hot H σ hp w.heap.size := by
  rintro (h | ⟨i, a, h1, h2, h3⟩)
  · have := S.foreign _ h; omega
  · have := S.spot i a h2; omega

theorem idfree_get {cs : List PV} (h : idfreeL cs = true) {k : Nat} {c : PV} (hk : cs[k]? = some c) : c.idfree = true := by
  induction cs generalizing k with
  | nil => simp at hk
  | cons d cs ih =>
    simp [idfreeL] at h
    cases k with
    | zero => simp at hk; subst hk; exact h.1
    | succ k => simp at hk; exact ih h.2 hk

/-- a new block whose cells are read only -/
theorem imm_fresh (S : Sim w H σ hp) {cs : List PV} {vs : Array Value} {e : TypeId} {f : Nat × Nat} (hr : cs.length ≤ vs.size) (hv : ∀ (k : Nat) c v, cs[k]? = some c → vs[k]? = some v → V w (hot H σ hp) σ (liveAt hp) c v)
    (hid : idfreeL cs = true) (len cap : Nat) (x : Bool) (h1 : len ≤ cap) (h2 : x = true → cap = len) :
    V (w.alloc (.cells vs e f)) (hot H σ hp) σ (liveAt hp) (.imm len x cs) (.slice (some ⟨w.heap.size, 0, none⟩) len cap) := by
  have st := (sim_fresh S (.cells vs e f)).2
  refine .imm len x cs _ cap (fun k => vs.getD k undef) h1 h2 (fun k c hk => ⟨rfl, idfree_get hid hk, not_hot_new S, ?_⟩) (fun k c hk => ?_)
  · have hk' := get_lt hk
    have : (w.alloc (.cells vs e f)).heap[w.heap.size]? = some (.cells vs e f) := by
      show (w.heap.push _)[w.heap.size]? = _
      simp
    rw [cell?_eq this]
    simp
    rw [Array.getElem?_eq_getElem (by omega)]
    simp [show k < vs.size by omega]
  · have hk' := get_lt hk
    refine (hv k c _ hk ?_).step st
    rw [Array.getElem?_eq_getElem (by omega)]
    simp [show k < vs.size by omega]

include hT in
theorem strBytes_ok {src dst e : TypeId} (hs : und T src = some .string) (hd : und T dst = some (.slice e)) (he : und T e = some (.int .u8)) (S : Sim w H σ hp) (s : ByteArray) : ∃ v w', (convert src dst (.string s)).run P w = .ok v w' ∧
    V w' (hot H σ hp) σ (liveAt hp) (.imm (strL s).length false ((strL s).map fun b => PV.sc (.int .u8 b.toNat))) v ∧ Sim w' H σ hp ∧ Step w (ownd σ hp) σ (liveAt hp) w' (ownd σ hp) σ (liveAt hp) := by
  have S1 : Sim w.drew H σ hp := sim_drawn (w' := w.drew) S rfl rfl rfl rfl
  have st1 : Step w (ownd σ hp) σ (liveAt hp) w.drew (ownd σ hp) σ (liveAt hp) := step_drawn (w := w) (w' := w.drew) rfl rfl rfl rfl _ _ _
  refine ⟨_, _, run_bytes_of_string w src dst e s (und_ok hT hs) (und_ok hT hd) (und_ok hT he), ?_, (sim_fresh S1 _).1, st1.trans (sim_fresh S1 _).2⟩
  have hcap : s.size ≤ grownCap w s.size 0 e := by
    unfold grownCap Question.cut; exact Nat.le_add_right _ _
  rw [strL_length]
  refine imm_fresh S1 (vs := bytesRow s (grownCap w s.size 0 e)) ?_ (fun k c v hk hv => ?_) ?_ _ _ false hcap (by simp)
  · simp [bytesRow, strL]
  · rw [List.getElem?_map] at hk
    have hk2 : k < (strL s).length := by
      rcases Nat.lt_or_ge k (strL s).length with h | h
      · exact h
      · simp [List.getElem?_eq_none h] at hk
    have hk3 : k < s.data.size := by rw [strL_length] at hk2; exact hk2
    unfold bytesRow at hv
    rw [Array.getElem?_append_left (by simpa using hk3)] at hv
    simp [strL] at hk
    simp at hv
    obtain ⟨a, ha, rfl⟩ := hk
    obtain ⟨b, hb, rfl⟩ := hv
    rw [ha] at hb; cases hb
    exact .sc _
  · have : ∀ l : List UInt8, idfreeL (l.map fun b => PV.sc (.int .u8 b.toNat)) = true := by
      intro l
      induction l with
      | nil => rfl
      | cons b l ih => simp [idfreeL, PV.idfree, ih]
    exact this _

theorem bytesOf_ok {cs : List PV} {l : List UInt8} (h : bytesOf? cs = some l) : ∃ ns : List Int, cs = ns.map (fun n => .sc (.int .u8 n)) ∧ l = ns.map fun n => UInt8.ofNat n.toNat := by
  induction cs generalizing l with
  | nil => simp [bytesOf?] at h; subst h; exact ⟨[], rfl, rfl⟩
  | cons c cs ih =>
    unfold bytesOf? at h
    split at h
    · rename_i heq; cases heq
    · rename_i n r heq
      cases heq
      split at h
      · rename_i l' hl'
        simp at h; subst h
        obtain ⟨ns, e1, e2⟩ := ih hl'
        exact ⟨n :: ns, by simp [e1], by simp [e2]⟩
      · cases h
    · cases h

theorem foldl_bytes (ns : List Int) : ns.foldl (fun r n => r.push (UInt8.ofNat n.toNat)) ByteArray.empty = mkStr (ns.map fun n => UInt8.ofNat n.toNat) := by
  have key : ∀ (ns : List Int) (r : ByteArray), ns.foldl (fun r n => r.push (UInt8.ofNat n.toNat)) r = mkStr (strL r ++ ns.map fun n => UInt8.ofNat n.toNat) := by
    intro ns
    induction ns with
    | nil => intro r; simp [mk_strL]
    | cons n ns ih =>
      intro r
      simp only [List.foldl_cons, ih, List.map_cons]
      congr 1
      have : strL (r.push (UInt8.ofNat n.toNat)) = strL r ++ [UInt8.ofNat n.toNat] := by simp [strL, ByteArray.push]
      rw [this, List.append_assoc]; rfl
  simpa [strL] using key ns ByteArray.empty

include hT in
theorem convP_ok {src dst : TypeId} (S : Sim w H σ hp) {p r : PV} {v : Value} {ids : List Nat} (h : convP T hp src dst p = some (r, ids)) (hv : V w (hot H σ hp) σ (liveAt hp) p v) :
    ∃ u w', (convert src dst v).run P w = .ok u w' ∧ V w' (hot H σ hp) σ (liveAt hp) r u ∧ Sim w' H σ hp ∧ Step w (ownd σ hp) σ (liveAt hp) w' (ownd σ hp) σ (liveAt hp) := by
  unfold convP at h
  split at h
  · rename_i d k k' n hs hd
    simp at h; obtain ⟨rfl, rfl⟩ := h
    cases hv
    exact ⟨_, w, by simp [convert, run_und hT hs, run_und hT hd, Conv.intToInt, wrapK_eq], .sc _, S, Step.refl _ _ _ _⟩
  · rename_i d s hs hd
    simp at h; obtain ⟨rfl, rfl⟩ := h
    cases hv
    exact ⟨_, w, by simp [convert, run_und hT hs, run_und hT hd], .sc _, S, Step.refl _ _ _ _⟩
  · rename_i e s hs hd
    split at h
    · rename_i he
      simp at h; obtain ⟨rfl, rfl⟩ := h
      cases hv
      exact strBytes_ok hT hs hd he S s
    · cases h
  · rename_i e hs0 hd hs
    split at h
    · rename_i he
      split at h
      · rename_i n cs ids' hr
        split at h
        · rename_i l hl
          simp at h; obtain ⟨rfl, rfl⟩ := h
          obtain ⟨base, cap, rfl, hlen, hnone, hat⟩ := rdSl_ok S hr hv
          obtain ⟨ns, e1, e2⟩ := bytesOf_ok hl
          refine ⟨.string (mkStr l), w, ?_, .sc _, S, Step.refl _ _ _ _⟩
          rw [run_convert_bytes_string w src dst e base n cap (und_ok hT hs0) (und_ok hT he) (und_ok hT hd)]
          cases base with
          | none =>
            have := (hnone rfl).1
            subst this
            cases ns with
            | nil => subst e2; rfl
            | cons _ _ => simp at e1
          | some a =>
            obtain ⟨g, hg⟩ := hat a rfl
            have hload : (loadCells a n).run P w = .ok (ns.map (Value.int .u8)).toArray w := by
              have hn : cs.length = n := by simpa using hlen
              rw [run_loadCells w a n (fun k => (ns.map (Value.int .u8)).getD k undef) (fun j hj => ?_)]
              · congr 2
                apply List.ext_getElem?
                intro j
                have hnl : ns.length = n := by rw [← hn, e1]; simp
                by_cases hj : j < n
                · simp [hj, hnl]
                · simp [hj, hnl]
              · have hnl : ns.length = n := by rw [← hn, e1]; simp
                have hc : cs[j]? = some (.sc (.int .u8 (ns[j]'(by omega)))) := by rw [e1]; simp [show j < ns.length by omega]
                obtain ⟨h1, h2, h3⟩ := hg j _ hc
                rw [addr_add h1, h2, h3.sc_inv]
                simp [show j < ns.length by omega]
            rw [run_bytesToString w a n cap ns hload, foldl_bytes, ← e2]
        · cases h
      · cases h
    · cases h
  · cases h

end
end Go.Ab
namespace Go.Ab
open Go

section
variable {P : Program} {T : Tab} (hT : TabOk P T) {w : World} {H : Nat → Prop} {hp : List Blk} {σ : List Addr}

theorem okCell_ok {M : Nat → Prop} {L : Nat → Prop} {c : PV} {v : Value} (h : okCell c = true) (hv : V w M σ L c v) : v.oneCell' = true := by
  cases hv with
  | sc v => cases v <;> first | rfl | (simp [okCell] at h)
  | any => simp [okCell] at h
  | agg => simp [okCell] at h
  | tup => simp [okCell] at h
  | _ => rfl
theorem okCells_get {cs : List PV} (h : okCells cs = true) {k : Nat} {c : PV} (hk : cs[k]? = some c) : okCell c = true := by
  induction cs generalizing k with
  | nil => simp at hk
  | cons d cs ih =>
    simp [okCells] at h
    cases k with
    | zero => simp at hk; subst hk; exact h.1
    | succ k => simp at hk; exact ih h.2 hk
theorem okCells_vals {M : Nat → Prop} {L : Nat → Prop} {cs : List PV} {vs : List Value} (h : okCells cs = true) (hl : cs.length = vs.length) (hv : ∀ (k : Nat) c v, cs[k]? = some c → vs[k]? = some v → V w M σ L c v) :
    ∀ v ∈ vs, v.oneCell' = true := by
  intro v hv'
  obtain ⟨k, hk, e⟩ := List.mem_iff_getElem.1 hv'
  have hk2 : k < cs.length := by omega
  exact okCell_ok (okCells_get h (List.getElem?_eq_getElem hk2)) (hv k _ v (List.getElem?_eq_getElem hk2) (by rw [List.getElem?_eq_getElem hk, e]))

/-- a new block, its address -/
theorem new_ptr (S : Sim w H σ hp) {cs : List PV} {vs : Array Value} {e : TypeId} (hr : Rel w (hot H σ hp) σ (liveAt hp) cs vs) :
    let σ' := σ ++ [⟨w.heap.size, 0, none⟩]
    let hp' := hp ++ [⟨.live, cs⟩]
    let w' := w.alloc (.cells vs e)
    Sim w' H σ' hp' ∧ Step w (ownd σ hp) σ (liveAt hp) w' (ownd σ' hp') σ' (liveAt hp') ∧ V w' (hot H σ' hp') σ' (liveAt hp') (.ptr hp.length 0) (.pointer (some ⟨w.heap.size, 0, none⟩)) := by
  obtain ⟨h1, h2⟩ := sim_alloc (e := e) S (Nat.le_of_eq hr.1) hr.2
  refine ⟨h1, h2, ?_⟩
  have := V.ptr (w := w.alloc (.cells vs e)) (M := hot H (σ ++ [⟨w.heap.size, 0, none⟩]) (hp ++ [⟨.live, cs⟩])) (σ := σ ++ [⟨w.heap.size, 0, none⟩]) (L := liveAt (hp ++ [⟨.live, cs⟩])) hp.length 0 ⟨w.heap.size, 0, none⟩
    (by rw [← S.len]; simp)
  simpa using this

/-- a new block, a slice of it -/
theorem new_own (S : Sim w H σ hp) {cs : List PV} {vs : Array Value} {e : TypeId} (hl : cs.length ≤ vs.size) (hv : ∀ (k : Nat) c v, cs[k]? = some c → vs[k]? = some v → V w (hot H σ hp) σ (liveAt hp) c v)
    (s len cap : Nat) (x : Bool) (h1 : len ≤ cap) (h2 : x = true → cap = len) (h3 : cap * s ≤ vs.size) :
    let σ' := σ ++ [⟨w.heap.size, 0, none⟩]
    let hp' := hp ++ [⟨.live, cs⟩]
    let w' := w.alloc (.cells vs e)
    Sim w' H σ' hp' ∧ Step w (ownd σ hp) σ (liveAt hp) w' (ownd σ' hp') σ' (liveAt hp') ∧ V w' (hot H σ' hp') σ' (liveAt hp') (.own hp.length s 0 len x) (.slice (some ⟨w.heap.size, 0, none⟩) len cap) := by
  obtain ⟨g1, g2⟩ := sim_alloc (e := e) S hl hv
  refine ⟨g1, g2, .own hp.length s 0 len x ⟨w.heap.size, 0, none⟩ _ cap (by rw [← S.len]; simp) h1 h2 (fun _ => by simp) (fun _ => ⟨vs, e, ?_, by simpa using h3⟩)⟩
  show (w.heap.push _)[w.heap.size]? = _
  simp

include hT in
theorem alloc_ok {e : TypeId} (S : Sim w H σ hp) {zs : List PV} (h : zeroT T e = some zs) : ∃ v w' σ', (Instr.alloc e true (.tuple #[])).run P w = .ok v w' ∧
    V w' (hot H σ' (allocB hp zs)) σ' (liveAt (allocB hp zs)) (.ptr hp.length 0) v ∧ Sim w' H σ' (allocB hp zs) ∧ Step w (ownd σ hp) σ (liveAt hp) w' (ownd σ' (allocB hp zs)) σ' (liveAt (allocB hp zs)) := by
  obtain ⟨z, hz1, hz2⟩ := run_zero hT h w
  obtain ⟨h1, h2, h3⟩ := new_ptr (e := e) S (cs := zs) (vs := z.cells) (by rw [hz2]; exact rel_scs _)
  refine ⟨_, _, _, ?_, h3, h1, h2⟩
  simp [Instr.alloc, hz1, newVar, newRow]

theorem box_ok {e : TypeId} (S : Sim w H σ hp) {p : PV} {v : Value} {cs : List PV} (h : p.cells? = some cs) (hv : V w (hot H σ hp) σ (liveAt hp) p v) : ∃ u w' σ', (Instr.box e v).run P w = .ok u w' ∧
    V w' (hot H σ' (allocB hp cs)) σ' (liveAt (allocB hp cs)) (.ptr hp.length 0) u ∧ Sim w' H σ' (allocB hp cs) ∧ Step w (ownd σ hp) σ (liveAt hp) w' (ownd σ' (allocB hp cs)) σ' (liveAt (allocB hp cs)) := by
  obtain ⟨h1, h2, h3⟩ := new_ptr (e := e) S (V.cells_ok h hv)
  refine ⟨_, _, _, ?_, h3, h1, h2⟩
  simp [Instr.box, newVar, newRow]

include hT in
theorem load_ok {t : TypeId} (S : Sim w H σ hp) {p x : PV} {v : Value} {cs : List PV} {ids : List Nat} (h : atAddr hp p = some (cs, ids)) (hx : partOf T t cs = some x) (hv : V w (hot H σ hp) σ (liveAt hp) p v) :
    ∃ u, (Instr.loadAt t v).run P w = .ok u w ∧ V w (hot H σ hp) σ (liveAt hp) x u := by
  obtain ⟨a, rfl, hA⟩ := atAddr_ok S h hv
  obtain ⟨u, h1, h2⟩ := partOf_ok (P := P) hT hx hA
  exact ⟨u, by simp [Instr.loadAt, Instr.sureAddr, h1], h2⟩

/-- cells written through an address into a live block -/
theorem write_ok (S : Sim w H σ hp) {id off : Nat} {a : Addr} {old l new : List PV} {vs : List Value} (hid : hp[id]? = some ⟨.live, old⟩) (ha : σ[id]? = some a) (ho : over? old off new = some l)
    (hl : new.length = vs.length) (hv : ∀ (k : Nat) c v, new[k]? = some c → vs[k]? = some v → V w (hot H σ hp) σ (liveAt hp) c v) (hok : okCells new = true) :
    ∃ w', (storeCells ⟨a.block, a.off + off, none⟩ vs).run P w = .ok () w' ∧ Sim w' H σ (hp.set id ⟨.live, l⟩) ∧
      Step w (ownd σ hp) σ (liveAt hp) w' (ownd σ (hp.set id ⟨.live, l⟩)) σ (liveAt (hp.set id ⟨.live, l⟩)) := by
  obtain ⟨h1, h2, h3⟩ := over?_some ho
  obtain ⟨c, e, hc, hsz⟩ := S.live id a old hid ha
  obtain ⟨w', hw1, hw2⟩ := run_storeCells P ⟨a.block, a.off + off, none⟩ rfl vs 0 w c e hc (by simp; omega) (okCells_vals hok hl hv)
  obtain ⟨g1, g2⟩ := sim_write S hid ha (by simpa using hw2) hl hv ⟨h2, h3⟩
  exact ⟨w', hw1, g1, g2⟩

include hT in
theorem store_ok {t : TypeId} (S : Sim w H σ hp) {id off n : Nat} {p : PV} {v u : Value} {cs old l : List PV} (hv : V w (hot H σ hp) σ (liveAt hp) (.ptr id off) v) (hu : V w (hot H σ hp) σ (liveAt hp) p u)
    (hc : p.cells? = some cs) (hs : sizeT T t = some n) (hn : cs.length = n) (hok : okCells cs = true) (hid : hp[id]? = some ⟨.live, old⟩) (ho : over? old off cs = some l) :
    ∃ w', (Instr.storeAt t v u).run P w = .ok () w' ∧ Sim w' H σ (hp.set id ⟨.live, l⟩) ∧
      Step w (ownd σ hp) σ (liveAt hp) w' (ownd σ (hp.set id ⟨.live, l⟩)) σ (liveAt (hp.set id ⟨.live, l⟩)) := by
  obtain ⟨a, ha, rfl⟩ := hv.ptr_inv
  have hr := V.cells_ok hc hu
  obtain ⟨w', h1, h2, h3⟩ := write_ok (P := P) S hid ha ho (vs := u.cells.toList) (by simpa using hr.1) (fun k c v h1 h2 => hr.2 k c v h1 (by simpa using h2)) hok
  refine ⟨w', ?_, h2, h3⟩
  have hsz : u.cells.size = n := by rw [← hr.1, hn]
  simp [Instr.storeAt, Instr.sureAddr, storeVar, run_size hT hs, hsz, h1]

include hT in
theorem make_ok {t e : TypeId} (S : Sim w H σ hp) (hu : und T t = some (.slice e)) {zs : List PV} {s by_ l c : Nat} (hz : zeroT T e = some zs) (hs : sizeT T e = some s) (hb : bytesT T e = some by_) {p q : PV} {v u : Value}
    (hl : asNat? p = some l) (hc : asNat? q = some c) (hp' : V w (hot H σ hp) σ (liveAt hp) p v) (hq : V w (hot H σ hp) σ (liveAt hp) q u) (hle : l ≤ c ∧ c ≤ maxLenA ∧ by_ ≤ maxBytes ∧ zs.length = s) :
    ∃ x w' σ', (Instr.makeSlice t v u).run P w = .ok x w' ∧
      V w' (hot H σ' (allocB hp (rep l zs))) σ' (liveAt (allocB hp (rep l zs))) (.own hp.length s 0 l (l == c)) x ∧ Sim w' H σ' (allocB hp (rep l zs)) ∧
      Step w (ownd σ hp) σ (liveAt hp) w' (ownd σ' (allocB hp (rep l zs))) σ' (liveAt (allocB hp (rep l zs))) := by
  obtain ⟨k1, rfl⟩ := asNat_ok hl hp'
  obtain ⟨k2, rfl⟩ := asNat_ok hc hq
  obtain ⟨i, z, hTi, hiz, hzs⟩ : ∃ i z, T e = some i ∧ i.zero = some z ∧ zs = z.cells.toList.map .sc := by
    unfold zeroT at hz
    cases hTi : T e with
    | none => simp [hTi] at hz
    | some i =>
      rw [hTi] at hz
      cases i with
      | mk desc str size bytes hp al fa zero cmp ms =>
        cases zero with
        | none => simp at hz
        | some z => simp at hz; exact ⟨_, z, rfl, rfl, hz.symm⟩
  have hsi : i.size = s := by unfold sizeT at hs; rw [hTi] at hs; simpa using hs
  have hbi : i.bytes = by_ := by unfold bytesT at hb; rw [hTi] at hb; simpa using hb
  obtain ⟨h1, h2, h3, h4⟩ := hle
  have hzsz : z.cells.size = s := by rw [hzs] at h4; simpa using h4
  have hbytes : (i.bytes : Int) * (c : Int) ≤ 281474976710656 := by
    have : i.bytes * c ≤ 128 * 1099511627776 := Nat.mul_le_mul (by rw [hbi]; exact h3) h2
    have e : ((i.bytes * c : Nat) : Int) = (i.bytes : Int) * (c : Int) := Int.natCast_mul _ _
    rw [← e]
    have : 128 * 1099511627776 = 140737488355328 := by decide
    omega
  have hc63 : (c : Int) ≤ 9223372036854775807 := by unfold maxLenA at h2; omega
  have hrun := run_make (P := P) w t e i z (und_ok hT hu) (hT e i hTi) hiz k1 k2 (l : Int) (c : Int) (by omega) (by omega) hbytes hc63
  simp only [Int.toNat_natCast] at hrun
  have hmade : ∀ m, madeCells z.cells m = (Array.range m).map (z.cells[· % z.cells.size]!) := fun m => rfl
  have hrel := rel_rep (w := w) (M := hot H σ hp) (σ := σ) (L := liveAt hp) c z.cells (c * s) (by rw [hzsz])
  have hcs : l * s ≤ c * s := Nat.mul_le_mul_right s h1
  obtain ⟨g1, g2, g3⟩ := new_own (e := e) S (cs := rep l zs) (vs := madeCells z.cells (c * i.size)) (by rw [rep_length, h4, hsi, size_madeCells]; exact hcs) (fun k x y hk hy => by
    rw [hsi, hmade] at hy
    refine hrel.2 k x y ?_ hy
    have hk' := get_lt hk
    rw [rep_length, h4] at hk'
    rw [rep_get _ _ _ (by rw [h4]; exact hk')] at hk
    rw [← hzs, rep_get _ _ _ (by rw [h4]; omega)]
    exact hk) s l c (l == c) h1 (fun h => by simp at h; omega) (by rw [size_madeCells, hsi]; exact Nat.le_refl _)
  exact ⟨_, _, _, hrun, g3, g1, g2⟩
end
end Go.Ab
