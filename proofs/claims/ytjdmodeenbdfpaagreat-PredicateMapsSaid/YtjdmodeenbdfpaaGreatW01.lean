/- An abstract interpreter over the model's code and its soundness, part 1; each lemma states its conditions. -/
import Derived.Calls
import Derived.Orders
import Derived.WalkKit
set_option linter.unusedSimpArgs false
set_option linter.unusedVariables false
namespace Go.Ab
open Go List
theorem OiE{α:Type _}(a b:α):(some a=some b)=(a=b):=Option.some.injEq a b
theorem PiE{α:Type _}{β:Type _}(a:α)(b:β)(c:α)(d:β):((a,b)=(c,d))=(a=c∧b=d):=Prod.mk.injEq a b c d
inductive PV where
 | any
 | sc (v:Value)
 | agg (cs:List PV)
 | imm (len:Nat) (x:Bool) (cs:List PV)
 | own (id s off len:Nat) (x:Bool)
 | ptr (id off:Nat)
 | iptr (cs:List PV)
 | clos (f:FuncId) (caps:List PV)
 | bmet (f:FuncId) (firsts:List PV)
 | tup (cs:List PV)
 | mp (id:Nat)
 deriving Inhabited
inductive BSt where
 | live | ro | dead
 deriving DecidableEq,Inhabited
structure Blk where
 st:BSt
 cs:List PV
 deriving Inhabited
abbrev Ψ:=List PV
abbrev Ω:=List Nat
abbrev Θ:=List Blk
structure FP where
 rd:Ω
 wr:Ω
 al:Bool
 all:Bool:=false
def FzZ:FP:=⟨[],[],false,false⟩
structure St where
 fr:Ψ
 hp:Θ
 wr:Ω
inductive Ex where
 | normal | ret
 | exit (id:Nat)
def nth:Ψ→Nat→PV
 | [],_=>.any
 | a::_,0=>a
 | _::l,n+1=>nth l n
def eY:Ψ→Nat→PV→Ψ
 | [],_,_=>[]
 | _::l,0,v=>v::l
 | a::l,n+1,v=>a::eY l n v
def aP:Θ→Nat→Option Blk
 | [],_=>none
 | a::_,0=>some a
 | _::l,n+1=>aP l n
def bZ:Θ→Nat→Blk→Θ
 | [],_,_=>[]
 | _::l,0,v=>v::l
 | a::l,n+1,v=>a::bZ l n v
def bq:Ψ→Nat→Ψ
 | l,0=>l
 | [],_+1=>[]
 | _::l,n+1=>bq l n
def bD:Ψ→Nat→Option Ψ
 | _,0=>some []
 | [],_+1=>none
 | a::l,n+1=>match bD l n with
  | some r=>some (a::r)
  | none=>none
def cm:Ψ→Nat→Ψ→Option Ψ
 | l,0,[]=>some l
 | [],0,_::_=>none
 | _::l,0,v::vs=>match cm l 0 vs with
  | some r=>some (v::r)
  | none=>none
 | [],_+1,_=>none
 | a::l,n+1,vs=>match cm l n vs with
  | some r=>some (a::r)
  | none=>none
def rep:Nat→Ψ→Ψ
 | 0,_=>[]
 | n+1,l=>l++rep n l
abbrev Tab:=TypeId→Option TypeInfo
def und (T:Tab)(t:TypeId):Option TypeDesc :=
 match T t with
 | some { desc:=.named _ u,.. } => (T u).map (·.desc)
 | some i=>some i.desc
 | none=>none
def fq (T:Tab)(t:TypeId):Option Bool :=
 match und T t with
 | some (.struct _)=>some true
 | some (.array _ _)=>some true
 | some _=>some false
 | none=>none
def de (T:Tab)(t:TypeId):Option Nat:=(T t).map (·.size)
def fQ (T:Tab)(t:TypeId):Option Nat:=(T t).map (·.bytes)
def av:Value→PV
 | .agg cs=>.agg (cs.toList.map .sc)
 | v=>.sc v
def eB (T:Tab)(t:TypeId):Option Ψ :=
 match T t with
 | some { zero:=some z,.. } => some (z.cells.toList.map .sc)
 | _=>none
def PV.cells?:PV→Option Ψ
 | .agg cs=>some cs
 | .any=>none
 | .tup _=>none
 | .sc (.agg _)=>none
 | v=>some [v]
def partOf (T:Tab)(t:TypeId)(cs:Ψ):Option PV :=
 match fq T t,de T t with
 | some true,some n=>(bD cs n).map .agg
 | some false,some _=>cs.head?
 | _,_=>none
mutual
def PV.cF:PV→Bool
 | .any=>true
 | .sc _=>true
 | .imm _ _ _=>true
 | .iptr _=>true
 | .agg cs=>bM cs
 | .tup cs=>bM cs
 | .clos _ caps=>bM caps
 | .bmet .. => false
 | .own .. => false
 | .ptr .. => false
 | .mp _=>false
def bM:Ψ→Bool
 | []=>true
 | c::cs=>c.cF && bM cs
end
def dK:PV→Bool
 | .any=>false
 | .agg _=>false
 | .tup _=>false
 | .sc (.agg _)=>false
 | .sc (.tuple _)=>false
 | _=>true
def bd:Ψ→Bool
 | []=>true
 | c::cs=>dK c && bd cs
def iG (P:Program){α:Type} : Sem α→Option α
 | .pure a=>some a
 | .program k=>iG P (k P)
 | .mark _ k=>iG P k
 | _=>none
def loK:IntKind→Int
 | .i8 => -128 | .i16 => -32768 | .i32 => -2147483648 | .i64 => -9223372036854775808
 | _=>0
def hiK:IntKind→Int
 | .i8=>127 | .i16=>32767 | .i32=>2147483647 | .i64=>9223372036854775807
 | .u8=>255 | .u16=>65535 | .u32=>4294967295 | .u64=>18446744073709551615
def bF (k:IntKind)(n:Int):Int:=bif decide (loK k≤n) && decide (n≤hiK k) then n else k.wrap n
def bg (op:BinOp)(k:IntKind)(a b:Int):Option Value :=
 match op with
 | .add=>some (.int k (bF k (a+b)))
 | .sub=>some (.int k (bF k (a - b)))
 | .mul=>some (.int k (bF k (a*b)))
 | .quo=>if b=0 then none else some (.int k (bF k (a.tdiv b)))
 | .rem=>if b=0 then none else some (.int k (a.tmod b))
 | .eql=>some (.bool (a == b))
 | .neq=>some (.bool (a != b))
 | .lss=>some (.bool (decide (a<b)))
 | .leq=>some (.bool (decide (a≤b)))
 | .gtr=>some (.bool (decide (a > b)))
 | .geq=>some (.bool (decide (a ≥ b)))
 | _=>none
def mkStr (l:List UInt8):ByteArray:=⟨l.toArray⟩
def bO (s:ByteArray):List UInt8:=s.data.toList
def ltL:List UInt8→List UInt8→Bool
 | _,[]=>false
 | [],_::_=>true
 | a::x,b::y=>bif a.toNat.blt b.toNat then true else (a.toNat == b.toNat) && ltL x y
def eqL:List UInt8→List UInt8→Bool
 | [],[]=>true
 | a::x,b::y=>(a.toNat == b.toNat) && eqL x y
 | _,_=>false
def fc (op:BinOp)(a b:ByteArray):Option Value :=
 match op with
 | .add=>if (((bO a).length+(bO b).length:Nat):Int) > 9223372036854775807 then none else some (.string (mkStr (bO a++bO b)))
 | .eql=>some (.bool (eqL (bO a) (bO b)))
 | .neq=>some (.bool !(eqL (bO a) (bO b)))
 | .lss=>some (.bool (ltL (bO a) (bO b)))
 | .leq=>some (.bool (ltL (bO a) (bO b) || eqL (bO a) (bO b)))
 | .gtr=>some (.bool !(ltL (bO a) (bO b) || eqL (bO a) (bO b)))
 | .geq=>some (.bool !(ltL (bO a) (bO b)))
 | _=>none
def kG:Ψ→Option (List Value)
 | []=>some []
 | .sc v::r=>match kG r with
  | some l=>some (v::l)
  | none=>none
 | _=>none
def GC:PV→Bool
 | .imm len _ _=>len != 0
 | .own .. => true
 | _=>false
def Cf:PV→Bool
 | .sc (.slice none 0 0)=>true
 | _=>false
def au (P:Program)(op:BinOp)(t:TypeId)(k:IntKind)(m:Int)(k':IntKind)(n:Int):Option PV :=
 match (if k=k' then bg op k m n else none) with
 | some v=>some (.sc v)
 | none=>(iG P (binOp op t (.int k m) (.int k' n))).map av
def dP (T:Tab)(op:BinOp)(t:TypeId)(m n:Bool):Option PV :=
 match op,und T t with
 | .eql,some .bool=>some (.sc (.bool (m == n)))
 | .neq,some .bool=>some (.sc (.bool (m != n)))
 | _,_=>none
def I7 (T:Tab)(op:BinOp)(t:TypeId)(x:PV):Option PV :=
 match op,und T t,GC x,Cf x with
 | .eql,some (.slice _),true,_=>some (.sc (.bool false))
 | .neq,some (.slice _),true,_=>some (.sc (.bool true))
 | .eql,some (.slice _),false,true=>some (.sc (.bool true))
 | .neq,some (.slice _),false,true=>some (.sc (.bool false))
 | _,_,_,_=>none
def I9 (P:Program)(op:BinOp)(t:TypeId)(m n:Ψ):Option PV :=
 match kG m,kG n with
 | some u,some v=>(iG P (do eqGuard op t (.const undef) (.const undef) (.agg u.toArray) (.agg v.toArray);binOp op t (.agg u.toArray) (.agg v.toArray))).map av
 | _,_=>none
def aZ (P:Program)(T:Tab)(op:BinOp)(t:TypeId)(a b:PV):Option PV :=
 match a,b with
 | .sc (.int k m),.sc (.int k' n)=>au P op t k m k' n
 | .sc (.string m),.sc (.string n)=>(fc op m n).map .sc
 | .sc (.bool m),.sc (.bool n)=>dP T op t m n
 | x,.sc (.slice none 0 0)=>I7 T op t x
 | .agg m,.agg n=>I9 P op t m n
 | _,_=>none
def unP (op:UnOp)(a:PV):Option PV :=
 match op,a with
 | .neg,.sc (.int k n)=>some (.sc (.int k (bF k (0 - n))))
 | .not,.sc (.bool b)=>some (.sc (.bool !b))
 | _,_=>none
def kE:Ψ→Option (List UInt8)
 | []=>some []
 | .sc (.int .u8 n)::r=>match kE r with
  | some l=>some (UInt8.ofNat n.toNat::l)
  | none=>none
 | _=>none
def fk (hp:Θ)(s:Nat):PV→Option (Nat × Ψ × Ω)
 | .sc (.slice none 0 0)=>some (0,[],[])
 | .imm len _ cs=>if cs.length=len*s then some (len,cs,[]) else none
 | .own id s' off len _ =>
  match aP hp id with
  | some ⟨st,cs⟩ =>
   if st = .dead∨s'≠s then none
   else match bD (bq cs off) (len*s) with
    | some l=>some (len,l,[id])
    | none=>none
  | none=>none
 | _=>none
def dy:PV→Option Nat
 | .sc (.slice none 0 0)=>some 0
 | .imm len _ _=>some len
 | .own _ _ _ len _=>some len
 | _=>none
def dI (T:Tab)(hp:Θ)(src dst:TypeId)(a:PV):Option (PV × Ω) :=
 match und T src,und T dst,a with
 | some _,some (.int k),.sc (.int _ n)=>some (.sc (.int k (bF k n)),[])
 | some _,some .string,.sc (.string s)=>some (.sc (.string s),[])
 | some .string,some (.slice e),.sc (.string s) =>
  match und T e with
  | some (.int .u8)=>some (.imm (bO s).length false ((bO s).map fun b=>PV.sc (.int .u8 b.toNat)),[])
  | _=>none
 | some (.slice e),some .string,x =>
  match und T e with
  | some (.int .u8) =>
   match fk hp 1 x with
   | some (_,cs,ids)=>match kE cs with
    | some l=>some (PV.sc (.string (mkStr l)),ids)
    | none=>none
   | none=>none
  | _=>none
 | _,_,_=>none
def cN:Nat:=1099511627776
def bQ:Nat:=128
def aL (hp:Θ)(cs:Ψ):Θ:=hp++[⟨.live,cs⟩]
def aX (hp:Θ):PV→Option (Ψ × Ω)
 | .ptr id off =>
  match aP hp id with
  | some ⟨st,cs⟩=>if st = .dead then none else some (bq cs off,[id])
  | none=>none
 | .iptr cs=>some (cs,[])
 | _=>none
def dq (place:Nat→Option (Nat × Nat))(cells:Ψ):List (Nat × PV)→Option Ψ
 | []=>some cells
 | (i,v)::rest =>
  match place i,v.cells? with
  | some (off,size),some cs =>
   if cs.length=size then
    match cm cells off cs with
    | some l=>dq place l rest
    | none=>none
   else none
  | _,_=>none
def ko (T:Tab)(fields:Array Field)(i:Nat):Option (Nat × Nat) :=
 match fields[i]? with
 | some f=>(de T f.type).map fun n=>(f.offset,n)
 | none=>none
def fb (T:Tab)(t:TypeId)(parts:List (Nat × PV)):Option PV :=
 match eB T t,und T t with
 | some zs,some (.struct fields) =>
  if fields.toList.all (fun f=>(de T f.type).isSome) then (dq (ko T fields) zs parts).map .agg else none
 | some zs,some (.array _ e) =>
  match de T e with
  | some s=>(dq (fun i=>some (i*s,s)) zs parts).map .agg
  | none=>none
 | _,_=>none
def eM (T:Tab)(t:TypeId)(len:Nat)(parts:List (Nat × PV)):Option (Nat × Ψ) :=
 match und T t with
 | some (.slice e) =>
  match de T e,eB T e with
  | some s,some zs =>
   if len*s≤16777216∧zs.length=s then (dq (fun i=>some (i*s,s)) (rep len zs) parts).map fun l=>(s,l) else none
  | _,_=>none
 | _=>none
def eu:Operand→Bool
 | .const (.string _)=>true
 | _=>false
def soft (l:List (Nat × Operand)):Bool := !(l.length == 3 && l.all fun x=>eu x.2)
def gl:PV→Option Nat
 | .sc (.int _ (.ofNat n))=>some n
 | _=>none
def eD (d:Nat):Option PV→Option Nat
 | none=>some d
 | some v=>gl v
def bnd (len:Nat)(lo hi mx:Option PV):Option (Nat × Nat × Option Nat) :=
 match eD 0 lo,eD len hi,mx,hi with
 | some l,some h,none,_=>if l≤h∧h≤len then some (l,h,none) else none
 | some l,some h,some m,some _=>match gl m with
  | some m=>if l≤h∧h≤m∧m≤len then some (l,h,some m) else none
  | none=>none
 | _,_,_,_=>none
def fz (x:Bool)(len h:Nat):Option Nat→Bool
 | none=>x && h == len
 | some m=>h == m
def ef (s:ByteArray)(lo hi mx:Option PV):Option PV :=
 match bnd (bO s).length lo hi mx with
 | some (l,h,none)=>some (.sc (.string (mkStr (((bO s).take h).drop l))))
 | _=>none
def iy (T:Tab)(e:TypeId)(x:PV)(lo hi mx:Option PV):Option PV :=
 match de T e with
 | none=>none
 | some s =>
  match x with
  | .sc (.slice none 0 0)=>match bnd 0 lo hi mx with
   | some _=>some (.sc (.slice none 0 0))
   | none=>none
  | .imm len x cs=>match bnd len lo hi mx with
   | some (l,h,m)=>if cs.length=len*s then (bD (bq cs (l*s)) ((h - l)*s)).map fun c=>.imm (h - l) (fz x len h m) c else none
   | none=>none
  | .own id s' off len x=>match bnd len lo hi mx with
   | some (l,h,m)=>if s=s' then some (.own id s (off+l*s) (h - l) (fz x len h m)) else none
   | none=>none
  | _=>none
def iz (T:Tab)(hp:Θ)(n:Nat)(e:TypeId)(x:PV)(lo hi mx:Option PV):Option PV :=
 match de T e,bnd n lo hi mx with
 | some s,some (l,h,m) =>
  match x with
  | .ptr id off=>match aP hp id with
   | some ⟨.live,cs⟩=>if off+n*s≤cs.length then some (.own id s (off+l*s) (h - l) (fz true n h m)) else none
   | _=>none
  | .iptr cs=>(bD (bq cs (l*s)) ((h - l)*s)).map fun c=>.imm (h - l) (fz true n h m) c
  | _=>none
 | _,_=>none
def dh (T:Tab)(hp:Θ)(t:TypeId)(x:PV)(lo hi mx:Option PV):Option PV :=
 match und T t with
 | some .string=>match x with
  | .sc (.string s)=>ef s lo hi mx
  | _=>none
 | some (.slice e)=>iy T e x lo hi mx
 | some (.array n e)=>iz T hp n e x lo hi mx
 | _=>none
def bP (T:Tab)(t:TypeId)(x:PV)(i:Nat):Option PV :=
 match und T t with
 | some (.struct fields) =>
  match fields[i]? with
  | some f =>
   match de T f.type,x with
   | some (_+1),.ptr id off=>some (.ptr id (off+f.offset))
   | some (_+1),.iptr cs=>some (.iptr (bq cs f.offset))
   | _,_=>none
  | none=>none
 | _=>none
def IA (T:Tab)(t:TypeId)(x:PV)(i:Nat):Option PV :=
 match und T t,x with
 | some (.struct fields),.agg cs =>
  match fields[i]? with
  | some f=>partOf T f.type (bq cs f.offset)
  | none=>none
 | _,_=>none
def aU (T:Tab)(t:TypeId)(x ix:PV):Option PV :=
 match und T t,gl ix with
 | some (.slice e),some i =>
  match de T e,x with
  | some s,.imm len _ cs=>if i<len then some (.iptr (bq cs (i*s))) else none
  | some s,.own id s' off len _=>if i<len∧s=s' then some (.ptr id (off+i*s)) else none
  | _,_=>none
 | some (.array n e),some i =>
  match de T e,x with
  | some s,.ptr id off=>if i<n then some (.ptr id (off+i*s)) else none
  | some s,.iptr cs=>if i<n then some (.iptr (bq cs (i*s))) else none
  | _,_=>none
 | _,_=>none
def EO:List UInt8→Nat→Option UInt8
 | [],_=>none
 | a::_,0=>some a
 | _::l,n+1=>EO l n
def ig (T:Tab)(t:TypeId)(x ix:PV):Option PV :=
 match und T t,x,gl ix with
 | some (.array n e),.agg cs,some i =>
  match de T e with
  | some s=>if i<n then partOf T e (bq cs (i*s)) else none
  | none=>none
 | some .string,.sc (.string s),some i=>(EO (bO s) i).map fun b=>.sc (.int .u8 b.toNat)
 | _,_,_=>none
def bL (T:Tab)(t:TypeId)(x:PV):Option PV :=
 match und T t,x with
 | some .string,.sc (.string s)=>some (.sc (.int .i64 ((bO s).length:Nat)))
 | some (.array n _),_=>some (.sc (.int .i64 (n:Nat)))
 | some (.slice _),x=>(dy x).map fun n=>.sc (.int .i64 (n:Nat))
 | _,_=>none
def cw (hp:Θ)(s:Nat)(x:PV)(n:Nat)(new:Ψ):Option (PV × Θ × FP) :=
 match x with
 | .sc (.slice none 0 0) =>
  if n=0 then some (x,hp,FzZ)
  else if n≤cN then some (.own hp.length s 0 n false,aL hp new,⟨[],[hp.length],true,false⟩) else none
 | .imm len true cs =>
  if n=0 then some (x,hp,FzZ)
  else if len+n≤cN∧cs.length=len*s then some (.own hp.length s 0 (len+n) false,aL hp (cs++new),⟨[],[hp.length],true,false⟩) else none
 | .own id s' off len true =>
  if s≠s' then none
  else if n=0 then some (x,hp,FzZ)
  else match aP hp id with
   | some ⟨st,cs⟩ =>
    if st = .dead then none
    else match bD (bq cs off) (len*s) with
     | some l=>if len+n≤cN then some (.own hp.length s 0 (len+n) false,aL hp (l++new),⟨[id],[hp.length],true,false⟩) else none
     | none=>none
   | none=>none
 | .own id s' off len false =>
  if s≠s' then none
  else match aP hp id with
   | some ⟨.live,cs⟩ =>
    match bD (bq cs off) (len*s) with
    | some l=>if len+n≤cN then some (.own hp.length s 0 (len+n) false,aL (bZ hp id ⟨.dead,[]⟩) (l++new),⟨[],[id,hp.length],true,false⟩) else none
    | none=>none
   | _=>none
 | _=>none
def mE (isMax:Bool):Ψ→Option PV
 | [x]=>some x
 | .sc (.int k a) :: .sc (.int k' b)::r =>
  if k=k' then
   match r with
   | []=>some (.sc (.int k (if isMax then (if b > a then b else a) else (if b<a then b else a))))
   | _=>none
  else none
 | _=>none
def aj (fr:Ψ):Operand→PV
 | .tmp t=>nth fr t
 | .const v=>av v
 | .global _=>.any
 | .func f=>.sc (.func (.func f) #[] #[])
def aF (fr:Ψ)(dst:Option Tmp)(v:PV):Ψ :=
 match dst with
 | some d=>eY fr d v
 | none=>fr
def VT:Ψ→Ψ→Option Bool
 | [],[]=>some true
 | .sc (.int i m)::a,.sc (.int j n)::b=>if i=j then (match m == n with
  | true=>VT a b
  | false=>some false) else none
 | _,_=>none
def aiB:PV→PV→Option Bool
 | .sc (.int i m),.sc (.int j n)=>if i=j then some (m == n) else none
 | .sc (.string s),.sc (.string t)=>some (eqL (bO s) (bO t))
 | .sc (.bool a),.sc (.bool b)=>some (a == b)
 | .agg a,.agg b=>VT a b
 | _,_=>none
def an (P:Program)(T:Tab)(fr:Ψ)(hp:Θ)(o:Op):Option (PV × Θ × FP) :=
 let ρ:=aj fr
 let v (x:Option PV):Option (PV × Θ × FP):=match x with | some x=>some (x,hp,FzZ) | none=>none
 let undefP:PV:=.sc undef
 match o with
 | .move x | .assign x=>some (ρ x,hp,FzZ)
 | .pick c a b=>match ρ c with
  | .sc (.bool true)=>some (ρ a,hp,FzZ)
  | .sc (.bool false)=>some (ρ b,hp,FzZ)
  | _=>none
 | .alloc e=>match eB T e with
  | some zs=>some (.ptr hp.length 0,aL hp zs,⟨[],[hp.length],true,false⟩)
  | none=>none
 | .box _ x=>match (ρ x).cells? with
  | some cs=>some (.ptr hp.length 0,aL hp cs,⟨[],[hp.length],true,false⟩)
  | none=>none
 | .build t parts=>v (fb T t (parts.toList.map fun (i,x)=>(i,ρ x)))
 | .buildSlice t len parts=>match eM T t len (parts.toList.map fun (i,x)=>(i,ρ x)) with
  | some (s,cs) =>
   if (bM cs && soft parts.toList)=true then some (.imm len true cs,hp,FzZ)
   else some (.own hp.length s 0 len true,aL hp cs,⟨[],[hp.length],true,false⟩)
  | none=>none
 | .load t a=>match aX hp (ρ a) with
  | some (cs,ids)=>match partOf T t cs with
   | some x=>some (x,hp,⟨ids,[],false,false⟩)
   | none=>none
  | none=>none
 | .store t a x=>match ρ a,(ρ x).cells?,de T t with
  | .ptr id off,some cs,some n =>
   if cs.length=n∧bd cs then
    match aP hp id with
    | some ⟨.live,old⟩=>match cm old off cs with
     | some l=>some (undefP,bZ hp id ⟨.live,l⟩,⟨[],[id],false,false⟩)
     | none=>none
    | _=>none
   else none
  | _,_,_=>none
 | .nilCheck x=>match ρ x with
  | .ptr id off=>some (.ptr id off,hp,FzZ)
  | .iptr cs=>some (.iptr cs,hp,FzZ)
  | .clos f cs=>some (.clos f cs,hp,FzZ)
  | .bmet f cs=>some (.bmet f cs,hp,FzZ)
  | .sc (.func (.func f) a b)=>some (.sc (.func (.func f) a b),hp,FzZ)
  | _=>none
 | .binOp op t x y _=>v (aZ P T op t (ρ x) (ρ y))
 | .unOp op _ x=>v (unP op (ρ x))
 | .convert src dst x=>match dI T hp src dst (ρ x) with
  | some (r,ids)=>some (r,hp,⟨ids,[],false,false⟩)
  | none=>none
 | .makeFunc (.func f) first captured=>if first.size=0 then some (.clos f (captured.toList.map ρ),hp,FzZ) else if captured.size=0 then some (.bmet f (first.toList.map ρ),hp,FzZ) else none
 | .makeSlice t l c=>match und T t,gl (ρ l),gl (ρ c) with
  | some (.slice e),some l,some c =>
   match eB T e,de T e,fQ T e with
   | some zs,some s,some by_ =>
    if l≤c∧c≤cN∧by_≤bQ∧zs.length=s then some (.own hp.length s 0 l (l == c),aL hp (rep l zs),⟨[],[hp.length],true,false⟩) else none
   | _,_,_=>none
  | _,_,_=>none
 | .slice t x lo hi mx=>match dh T hp t (ρ x) (lo.map ρ) (hi.map ρ) (mx.map ρ) with
  | some r=>some (r,hp,match ρ x with | .ptr id _=>⟨[id],[],false,false⟩| _=>FzZ)
  | none=>none
 | .fieldAddr t x i=>v (bP T t (ρ x) i)
 | .field t x i=>v (IA T t (ρ x) i)
 | .indexAddr t x i=>v (aU T t (ρ x) (ρ i))
 | .index t x i=>v (ig T t (ρ x) (ρ i))
 | .extract x i=>match ρ x with
  | .tup cs=>match cs[i]? with
   | some c=>some (c,hp,FzZ)
   | none=>none
  | _=>none
 | .call { callee:=.builtin b,args,argTypes } =>
  match b,args.toList.map ρ,argTypes.toList with
  | .len,[x],[t]=>match bL T t x with
   | some r=>some (r,hp,FzZ)
   | none=>none
  | .max,l,_=>v (mE true l)
  | .min,l,_=>v (mE false l)
  | .append,[x,y],[t,t'] =>
   match und T t,und T t' with
   | some (.slice e),some (.slice _) =>
    match de T e,fQ T e,eB T e with
    | some s,some by_,some zs =>
     if by_≤bQ∧zs.length=s then
      match fk hp s y with
      | some (n,new,ids) =>
       if bd new then match cw hp s x n new with
        | some (r,hp',fp)=>some (r,hp',⟨ids++fp.rd,fp.wr,fp.al,false⟩)
        | none=>none
       else none
      | none=>none
     else none
    | _,_,_=>none
   | some (.slice e),some .string =>
    match y with
    | .sc (.string str)=>match und T e,de T e,fQ T e,eB T e with
     | some (.int .u8),some 1,some 1,some [_]=>match cw hp 1 x (bO str).length ((bO str).map fun b=>.sc (.int .u8 b.toNat)) with
      | some (r,hp',fp)=>some (r,hp',fp)
      | none=>none
     | _,_,_,_=>none
    | _=>none
   | _,_=>none
  | .clear,[x],[t] =>
   match und T t,x with
   | some (.slice e),.own id s' off len _ =>
    match de T e,eB T e with
    | some s,some zs =>
     if s=s'∧zs.length=s∧bd zs then
      match aP hp id with
      | some ⟨.live,old⟩=>match cm old off (rep len zs) with
       | some l=>some (.tup [],bZ hp id ⟨.live,l⟩,⟨[],[id],false,false⟩)
       | none=>none
      | _=>none
     else none
    | _,_=>none
   | _,_=>none
  | _,_,_=>none
 | _=>none
def bj (f:PV→Option (PV × Ω)):Ψ→Option (Ψ × Ω)
 | []=>some ([],[])
 | c::cs=>match f c with
  | some (c',ids)=>match bj f cs with
   | some (l,ids')=>some (c'::l,ids++ids')
   | none=>none
  | none=>none
def snap (hp:Θ):(depth:Nat)→PV→Option (PV × Ω)
 | 0,_=>none
 | d+1,pv =>
  match pv with
  | .own id s off len x =>
   match aP hp id with
   | some ⟨st,cs⟩ =>
    if st = .dead then none
    else match bD (bq cs off) (len*s) with
     | some l=>match bj (snap hp d) l with
      | some (l',ids)=>some (.imm len x l',id::ids)
      | none=>none
     | none=>none
   | none=>none
  | .agg cs=>match bj (snap hp d) cs with
   | some (l,ids)=>some (.agg l,ids)
   | none=>none
  | .ptr .. => none
  | .mp _=>none
  | .clos f caps=>if bM caps then some (.clos f caps,[]) else none
  | .bmet .. => none
  | .tup _=>none
  | v=>some (v,[])
def bp:Nat:=12
def qH:Ψ→Bool
 | []=>true
 | .sc _::r=>qH r
 | _=>false
def ed:PV→Bool
 | .sc _=>true
 | .agg cs=>qH cs
 | _=>false
def roB (hp:Θ):Ω→Θ
 | []=>hp
 | i::r=>match aP hp i with
  | some ⟨.live,cs⟩=>roB (bZ hp i ⟨.ro,cs⟩) r
  | _=>roB hp r
def eW (hp:Θ):(kept:Θ)→(K F:Ω)→Ψ→Option (Ψ × Θ)
 | kept,_,_,[]=>some ([],kept)
 | kept,K,F,r::rs =>
  match r with
  | .own id s off len x =>
   match aP hp id with
   | some ⟨.live,cs⟩ =>
    match bj (snap hp bp) cs with
    | some (cs',ids) =>
     if K.contains id || F.contains id || ids.contains id || ids.any K.contains then none
     else match eW hp (kept++[⟨.live,cs'⟩]) (id::K) (ids++F) rs with
      | some (rs',k)=>some (.own kept.length s off len x::rs',k)
      | none=>none
    | none=>none
   | _=>match snap hp bp r with
    | some (r',ids) =>
     if ids.any K.contains then none
     else match eW hp kept K (ids++F) rs with
      | some (rs',k)=>some (r'::rs',k)
      | none=>none
    | none=>none
  | _=>match snap hp bp r with
   | some (r',ids) =>
    if ids.any K.contains then none
    else match eW hp kept K (ids++F) rs with
     | some (rs',k)=>some (r'::rs',k)
     | none=>none
   | none=>none
def bc (T:Tab)(fr:Ψ)(hp:Θ):List ResultVar→Option Ψ
 | []=>some []
 | .tmp t::r=>match bc T fr hp r with
  | some l=>some (nth fr t::l)
  | none=>none
 | .cell a t::r=>match aX hp (nth fr a) with
  | some (cs,_)=>match partOf T t cs,bc T fr hp r with
   | some x,some l=>some (x::l)
   | _,_=>none
  | none=>none
def sk (n:Nat):PV→PV
 | .own id s off len x=>.own (n+id) s off len x
 | v=>v
structure Cfg where
 P:Program
 T:Tab
 F:FuncId→Option Func
 shared:FuncId→Bool
 orc:FuncId→Ψ→Option Ψ
 sorc:FuncId→Option (Ψ→(Nat→Option Blk)→Option (Ψ × Option (Nat × Blk))):=fun _=>none
def ja:Ψ→PV
 | [r]=>r
 | rs=>.tup rs
abbrev aw:=FuncId→Ψ→Θ→Option (Ψ × Θ × Ω)
def aC:Ω→Ω→Ω
 | [],l=>l
 | i::r,l=>bif l.contains i then aC r l else aC r (i::l)
mutual
def PV.fy (n:Nat):PV→Bool
 | .own id .. => id.blt n
 | .ptr id _=>id.blt n
 | .mp id=>id.blt n
 | .agg cs=>eF n cs
 | .tup cs=>eF n cs
 | .clos _ cs=>eF n cs
 | .bmet _ cs=>eF n cs
 | _=>true
def eF (n:Nat):Ψ→Bool
 | []=>true
 | c::cs=>c.fy n && eF n cs
end
def ir (hp:Θ)(n:Nat):Ω→Bool
 | []=>true
 | i::r=>(match aP hp i with
  | some b=>eF n b.cs
  | none=>true) && ir hp n r
def tD:Nat→Θ→Θ
 | 0,_=>[]
 | _+1,[]=>[]
 | n+1,a::l=>a::tD n l
def lP (n:Nat):Ω→Ω
 | []=>[]
 | i::r=>bif i.blt n then i::lP n r else lP n r
def upto:Nat→Nat→Ω
 | _,0=>[]
 | a,n+1=>a::upto (a+1) n
def aM (fr:Ψ)(c:Call):Option (FuncId × Ψ) :=
 match c.callee with
 | .value f=>match aj fr f with
  | .sc (.func (.func g) ⟨[]⟩ ⟨[]⟩)=>some (g,c.args.toList.map (aj fr))
  | .clos g caps=>some (g,c.args.toList.map (aj fr)++caps)
  | .bmet g fs=>some (g,fs++c.args.toList.map (aj fr))
  | _=>none
 | _=>none
def bU (C:Cfg)(run:aw)(dr:Bool)(hp:Θ)(g:FuncId)(args:Ψ):Option (PV × Θ × FP) :=
 if C.shared g then
  match run g args hp with
  | some (rs,hp',w) =>
   bif bM rs && ir hp' hp.length (lP hp.length w) then some (ja rs,tD hp.length hp',⟨[],lP hp.length w,true,true⟩)
   else some (ja rs,hp',⟨[],lP hp.length w++upto hp.length (hp'.length - hp.length),true,true⟩)
  | none=>none
 else match bj (snap hp bp) args with
  | none=>none
  | some (args',ids) =>
   match C.orc g args' with
   | some rs =>
    bif rs.all ed then some (ja rs,hp,⟨ids,[],false,false⟩)
    else some (ja rs,roB hp ids,⟨ids,ids,false,false⟩)
   | none=>match run g args' [] with
    | none=>none
    | some (rs,hp1,_)=>match eW hp1 [] [] [] rs with
     | none=>none
     | some (rs',kept) =>
      bif rs'.all ed then some (ja rs',hp,⟨ids,[],false,false⟩)
      else some (ja (rs'.map (sk hp.length)),roB hp ids++kept,⟨ids,ids++upto hp.length kept.length, !kept.isEmpty,false⟩)
def ai:Op→Option Call
 | .call c=>match c.callee with
  | .value _=>some c
  | _=>none
 | _=>none
def ah (ops:Array Oper)(fr:Ψ)(o:Oper):Option Bool :=
 match o.guard with
 | none=>some true
 | some (j,want) =>
  match (ops[j]?).bind (·.dst) with
  | some d=>match nth fr d with
   | .sc (.bool b)=>some (b == want)
   | .any=>none
   | _=>some false
  | none=>none
def aG (C:Cfg)(run:aw)(dr:Bool)(ops:Array Oper)(o:Oper)(fr:Ψ)(hp:Θ):Option (PV × Θ × FP) :=
 match ah ops fr o with
 | none=>none
 | some false=>some (.sc undef,hp,FzZ)
 | some true =>
  match ai o.op with
  | some c=>match aM fr c with
   | some (g,args)=>bU C run dr hp g args
   | none=>none
  | none=>an C.P C.T fr hp o.op
def aq (C:Cfg)(run:aw)(dr:Bool)(ops:Array Oper)(o:Oper)(st:St):Option (St × FP) :=
 match aG C run dr ops o st.fr st.hp with
 | some (v,hp,fp)=>some (⟨aF st.fr o.dst v,hp,aC fp.wr st.wr⟩,fp)
 | none=>none
def ao (C:Cfg)(run:aw)(dr:Bool)(ops:Array Oper):List Oper→St→Option (St × List FP)
 | [],st=>some (st,[])
 | o::r,st=>match aq C run dr ops o st with
  | some (st',fp)=>match ao C run dr ops r st' with
   | some (st'',fps)=>some (st'',fp::fps)
   | none=>none
  | none=>none
def FP.free (a:FP):Bool:=a.rd.isEmpty && a.wr.isEmpty && !a.al && !a.all
def FP.apart (a b:FP):Bool :=
 !(a.wr.any fun i=>b.rd.contains i || b.wr.contains i) && !(b.wr.any fun i=>a.rd.contains i) && !(a.al && b.al) && !(a.all && !b.wr.isEmpty) && !(b.all && !a.wr.isEmpty)
def cD (bs:Array Nat)(l:List (Nat × FP)):Bool :=
 match l with
 | []=>true
 | (i,a)::r=>r.all (fun (j,b)=>a.apart b || (bs.getD j 0).testBit i) && cD bs r
def number:Nat→List FP→List (Nat × FP)
 | _,[]=>[]
 | n,a::r=>bif a.free then number (n+1) r else (n,a)::number (n+1) r
def aH (C:Cfg)(run:aw)(ops:Array Oper)(dr:Bool)(st:St):Option St :=
 match ao C run dr ops ops.toList st with
 | some (st',fps) =>
  bif dr then (match number 0 fps with
   | []=>some st'
   | [_]=>some st'
   | l=>bif cD (Region.before ops) l then some st' else none)
  else some st'
 | none=>none
def ch (f:St→Option (Ex × St)):Nat→St→Option (Ex × St)
 | 0,_=>none
 | n+1,st=>match f st with
  | some (.normal,st')=>ch f n st'
  | r=>r
def af (C:Cfg)(run:aw)(n:Nat):Code→St→Option (Ex × St)
 | .skip,st=>some (.normal,st)
 | .label _,st=>some (.normal,st)
 | .region _ ops dr,st=>match aH C run ops dr st with
  | some st'=>some (.normal,st')
  | none=>none
 | .seq a b,st=>match af C run n a st with
  | some (.normal,st')=>af C run n b st'
  | r=>r
 | .cond c a b,st=>match aj st.fr c with
  | .sc (.bool true)=>af C run n a st
  | .sc (.bool false)=>af C run n b st
  | _=>none
 | .block id b,st=>match af C run n b st with
  | some (.exit i,st')=>if i=id then some (.normal,st') else some (.exit i,st')
  | r=>r
 | .loop b,st=>ch (af C run n b) n st
 | .scope b,st=>af C run n b st
 | .exit id,st=>some (.exit id,st)
 | .ret,st=>some (.ret,st)
 | _,_=>none
def entry:Nat→Ψ→Ψ
 | 0,l=>l
 | n+1,[]=>.sc undef::entry n []
 | n+1,a::l=>a::entry n l
def uA (C:Cfg)(run:aw)(n:Nat):aw:=fun g args hp =>
 match C.F g with
 | some fn=>match fn.body with
  | some c=>match af C run n c ⟨entry fn.ntmps args,hp,[]⟩ with
   | some (.normal,st) | some (.ret,st)=>match bc C.T st.fr st.hp fn.results.toList with
    | some rs=>some (rs,st.hp,st.wr)
    | none=>none
   | _=>none
  | none=>none
 | none=>none
def vc (f:Ψ→(Nat→Option Blk)→Option (Ψ × Option (Nat × Blk)))(args:Ψ)(hp:Θ):Option (Ψ × Θ × Ω) :=
 match f args (aP hp) with
 | some (rs,none)=>some (rs,hp,[])
 | some (rs,some (id,b))=>bif id.blt hp.length then some (rs,bZ hp id b,[id]) else none
 | none=>none
def runK (C:Cfg):Nat→aw
 | 0=>fun _ _ _=>none
 | k+1=>fun g args hp=>match C.sorc g with
  | some f=>vc f args hp
  | none=>uA C (runK C k) k g args hp
def LG (ops:Array Oper)(oj:Oper)(i:Nat):Bool :=
 match ops[i]? with
 | some oi=>oi.apart ops oj
 | none=>true
def vV (ops:Array Oper):Bool :=
 (List.range ops.size).all fun j=>match ops[j]? with
  | none=>true
  | some oj=>oj.after.all (fun e => !Region.binds .any e || e.on.blt j) && (List.range j).all fun i=>((Region.before ops).getD j 0).testBit i || LG ops oj i
def gG:Code→Bool
 | .region _ ops dr => !dr || vV ops
 | .seq a b=>gG a && gG b
 | .cond _ a b=>gG a && gG b
 | .block _ b=>gG b
 | .loop b=>gG b
 | .scope b=>gG b
 | _=>true
theorem sQ (l:Ψ)(k:Nat):nth l k=(l[k]?).getD .any:=by
 induction l generalizing k with
 | nil=>simp[nth]
 | cons a l ih=>cases k <;> simp[nth,ih]
theorem jQ (l:Ψ)(k:Nat)(v:PV):eY l k v=l.set k v:=by
 induction l generalizing k with
 | nil=>simp[eY]
 | cons a l ih=>cases k <;> simp[eY,ih]
theorem cW (l:Θ)(k:Nat):aP l k=l[k]?:=by
 induction l generalizing k with
 | nil=>simp[aP]
 | cons a l ih=>cases k <;> simp[aP,ih]
theorem jl (l:Θ)(k:Nat)(v:Blk):bZ l k v=l.set k v:=by
 induction l generalizing k with
 | nil=>simp[bZ]
 | cons a l ih=>cases k <;> simp[bZ,ih]
theorem cA (l:Ψ)(k:Nat):bq l k=l.drop k:=by
 induction k generalizing l with
 | zero=>simp[bq]
 | succ k ih=>cases l <;> simp[bq,ih]
theorem qw (l:Θ)(k:Nat):tD k l=l.take k:=by
 induction k generalizing l with
 | zero=>simp[tD]
 | succ k ih=>cases l <;> simp[tD,ih]
theorem fw {l r:Ψ}{n:Nat}(h:bD l n=some r):n≤l.length∧r=l.take n:=by
 induction n generalizing l r with
 | zero=>simp[bD] at h;simp[← h]
 | succ n ih =>
  cases l with
  | nil=>simp[bD] at h
  | cons a l =>
   simp only[bD] at h
   cases h':bD l n with
   | none=>simp[h'] at h
   | some r' =>
    simp[h'] at h
    obtain⟨h1,h2⟩:=ih h'
    subst h
    exact⟨by simp;omega,by simp[h2]⟩
theorem dc {l:Ψ}{n:Nat}(h:n≤l.length):bD l n=some (l.take n):=by
 induction n generalizing l with
 | zero=>simp[bD]
 | succ n ih =>
  cases l with
  | nil=>simp at h
  | cons a l=>simp at h;simp[bD,ih h]
theorem kp {l r vs:Ψ}{n:Nat}(h:cm l n vs=some r) :
  n+vs.length≤l.length∧r.length=l.length∧∀ k,r[k]?=if n≤k∧k<n+vs.length then vs[k - n]? else l[k]?:=by
 induction l generalizing r vs n with
 | nil =>
  cases n with
  | succ n=>simp[cm] at h
  | zero =>
   cases vs with
   | nil=>simp[cm] at h;subst h;simp
   | cons v vs=>simp[cm] at h
 | cons a l ih =>
  cases n with
  | zero =>
   cases vs with
   | nil=>simp[cm] at h;subst h;simp
   | cons v vs =>
    simp only[cm] at h
    cases h':cm l 0 vs with
    | none=>simp[h'] at h
    | some r' =>
     simp[h'] at h;subst h
     obtain⟨h1,h2,h3⟩:=ih h'
     refine⟨by simp;omega,by simp[h2],fun k => ?_⟩
     cases k with
     | zero=>simp
     | succ k=>simp[h3 k]
  | succ n =>
   simp only[cm] at h
   cases h':cm l n vs with
   | none=>simp[h'] at h
   | some r' =>
    simp[h'] at h;subst h
    obtain⟨h1,h2,h3⟩:=ih h'
    refine⟨by simp;omega,by simp[h2],fun k => ?_⟩
    cases k with
    | zero=>simp
    | succ k =>
     simp only[getElem?_cons_succ,h3 k]
     by_cases hc:n≤k∧k<n+vs.length
     ·rw[if_pos hc,if_pos (by omega)];congr 1;omega
     ·rw[if_neg hc,if_neg (by omega)]
theorem kl (n:Nat)(l:Ψ):(rep n l).length=n*l.length:=by
 induction n with
 | zero=>simp[rep]
 | succ n ih=>simp[rep,ih,Nat.succ_mul];omega
theorem BK (n:Nat)(l:Ψ)(k:Nat)(h:k<n*l.length):(rep n l)[k]?=l[k % l.length]?:=by
 induction n generalizing k with
 | zero=>simp at h
 | succ n ih =>
  simp only[rep]
  rcases Nat.lt_or_ge k l.length with hk | hk
  ·rw[getElem?_append_left hk,Nat.mod_eq_of_lt hk]
  ·rw[getElem?_append_right hk,ih (k - l.length) (by rw[Nat.succ_mul] at h;omega),Nat.mod_eq_sub_mod hk]
inductive V (w:World) (M:Nat→Prop) (σ:List Addr) (L:Nat→Prop):PV→Value→Prop
 | any (v:Value):V w M σ L .any v
 | sc (v:Value):V w M σ L (.sc v) v
 | agg (cs:Ψ) (vs:Array Value):cs.length=vs.size→(∀ (k:Nat) c v,cs[k]?=some c→vs[k]?=some v→V w M σ L c v)→V w M σ L (.agg cs) (.agg vs)
 | tup (cs:Ψ) (vs:Array Value):cs.length=vs.size→(∀ (k:Nat) c v,cs[k]?=some c→vs[k]?=some v→V w M σ L c v)→V w M σ L (.tup cs) (.tuple vs)
 | nil (x:Bool):V w M σ L (.imm 0 x []) (.slice none 0 0)
 | imm (len:Nat) (x:Bool) (cs:Ψ) (a:Addr) (cap:Nat) (g:Nat→Value):len≤cap→(x=true→cap=len) →
   (∀ (k:Nat) c,cs[k]?=some c→a.spot=none∧c.cF=true ∧ ¬ M a.block∧w.cell? ⟨a.block,a.off+k,none⟩=some (g k)) →
   (∀ (k:Nat) c,cs[k]?=some c→V w M σ L c (g k))→V w M σ L (.imm len x cs) (.slice (some a) len cap)
 | own (id s off len:Nat) (x:Bool) (a b:Addr) (cap:Nat):σ[id]?=some a→len≤cap→(x=true→cap=len) →
   (0<cap→b=⟨a.block,a.off+off,none⟩)→(L id→∃ c e,w.heap[a.block]?=some (.cells c e (0,0))∧a.off+off+cap*s≤c.size) →
   V w M σ L (.own id s off len x) (.slice (some b) len cap)
 | ptr (id off:Nat) (a:Addr):σ[id]?=some a→V w M σ L (.ptr id off) (.pointer (some ⟨a.block,a.off+off,none⟩))
 | iptr (cs:Ψ) (a:Addr) (g:Nat→Value) :
   (∀ (k:Nat) c,cs[k]?=some c→a.spot=none∧c.cF=true ∧ ¬ M a.block∧w.cell? ⟨a.block,a.off+k,none⟩=some (g k)) →
   (∀ (k:Nat) c,cs[k]?=some c→V w M σ L c (g k))→V w M σ L (.iptr cs) (.pointer (some a))
 | clos (f:FuncId) (cs:Ψ) (vs:Array Value):cs.length=vs.size→(∀ (k:Nat) c v,cs[k]?=some c→vs[k]?=some v→V w M σ L c v) →
   V w M σ L (.clos f cs) (.func (.func f) #[] vs)
 | bmet (f:FuncId) (cs:Ψ) (vs:Array Value):cs.length=vs.size→(∀ (k:Nat) c v,cs[k]?=some c→vs[k]?=some v→V w M σ L c v) →
   V w M σ L (.bmet f cs) (.func (.func f) vs #[])
 | mp (id:Nat) (a:Addr):σ[id]?=some a→V w M σ L (.mp id) (.map (some a.block))
def gS (w:World)(M:Nat→Prop)(σ:List Addr)(L:Nat→Prop):Ψ→List MapEntry→Prop
 | [],[]=>True
 | k::v::r,e::es=>V w M σ L k e.key∧V w M σ L v e.val∧gS w M σ L r es
 | _,_=>False
def iT (hp:Θ)(i:Nat):Prop:=∃ cs,hp[i]?=some ⟨.dead,.any::cs⟩
def aY (hp:Θ)(i:Nat):Prop:=∃ cs,hp[i]?=some ⟨.live,cs⟩
def xm (hp:Θ)(i:Nat):Prop:=aY hp i∨iT hp i
def cS (σ:List Addr)(hp:Θ)(b:Nat):Prop:=∃ i a,xm hp i∧σ[i]?=some a∧a.block=b
def hot (H:Nat→Prop)(σ:List Addr)(hp:Θ)(b:Nat):Prop:=H b∨cS σ hp b
structure Sim (w:World) (H:Nat→Prop) (σ:List Addr) (hp:Θ):Prop where
 len:σ.length=hp.length
 spot:∀ (i:Nat) a,σ[i]?=some a→a.block<w.heap.size
 foreign:∀ b,H b→b<w.heap.size
 cells:∀ (i:Nat) st cs a,hp[i]?=some ⟨st,cs⟩→st ≠ .dead→σ[i]?=some a→∀ (k:Nat) c,cs[k]?=some c →
  ∃ v,w.cell? ⟨a.block,a.off+k,none⟩=some v∧V w (hot H σ hp) σ (aY hp) c v
 own:∀ (i:Nat) st cs a,hp[i]?=some ⟨st,cs⟩→st ≠ .dead→σ[i]?=some a → ¬ H a.block
 live:∀ (i:Nat) a cs,hp[i]?=some ⟨.live,cs⟩→σ[i]?=some a→∃ (c:Array Value) (e:TypeId),w.heap[a.block]?=some (Obj.cells c e (0,0))∧a.off+cs.length≤c.size
 inj:∀ (i j:Nat) a b st cs,aY hp i→hp[j]?=some ⟨st,cs⟩→st ≠ .dead→i≠j→σ[i]?=some a→σ[j]?=some b→a.block≠b.block
 maps:∀ (i:Nat) cs a,hp[i]?=some ⟨.dead,.any::cs⟩→σ[i]?=some a → ¬ H a.block∧∃ es clock,w.heap[a.block]?=some (Obj.map es clock)∧gS w (hot H σ hp) σ (aY hp) cs es.toList
 injm:∀ (i j:Nat) a b,iT hp i→iT hp j→i≠j→σ[i]?=some a→σ[j]?=some b→a.block≠b.block
def Shape (w:World)(σ:List Addr)(w':World)(L':Nat→Prop):Prop:=∀ (i:Nat) (a:Addr) (c:Array Value) (e:TypeId),L' i→σ[i]?=some a→w.heap[a.block]?=some (Obj.cells c e (0,0)) →
 ∃ c':Array Value,w'.heap[a.block]?=some (Obj.cells c' e (0,0))∧c'.size=c.size
theorem iA {w:World}{σ:List Addr}{w':World}{L':Nat→Prop}(h:∀ (b:Nat)(c:Array Value)(e:TypeId)(f:Nat × Nat),w.heap[b]?=some (Obj.cells c e f)→∃ c':Array Value,w'.heap[b]?=some (Obj.cells c' e f)∧c'.size=c.size):Shape w σ w' L' :=
 fun _ a c e _ _ hb=>h a.block c e _ hb
structure Step (w:World) (M:Nat→Prop) (σ:List Addr) (L:Nat→Prop) (w':World) (M':Nat→Prop) (σ':List Addr) (L':Nat→Prop):Prop where
 os:w'.os=w.os
 tape:w'.tape=w.tape
 output:w'.output=w.output
 size:w.heap.size≤w'.heap.size
 pre:∀ (i:Nat) a,σ[i]?=some a→σ'[i]?=some a
 same:∀ (b:Nat),b<w.heap.size → ¬ M b→w'.heap[b]?=w.heap[b]?
 shape:Shape w σ w' L'
 hot:∀ (b:Nat),b<w.heap.size→M' b→M b
 live:∀ i,i<σ.length→L' i→L i
theorem Step.refl (w:World)(M:Nat→Prop)(σ:List Addr)(L:Nat→Prop):Step w M σ L w M σ L :=
 ⟨rfl,rfl,rfl,Nat.le_refl _,fun _ _ h=>h,fun _ _ _=>rfl,iA fun _ c _ _ h=>⟨c,h,rfl⟩,fun _ _ h=>h,fun _ _ h=>h⟩
theorem xd {σ σ':List Addr}(h:∀ (i:Nat) a,σ[i]?=some a→σ'[i]?=some a):σ.length≤σ'.length:=by
 rcases Nat.lt_or_ge σ'.length σ.length with h' | h'
 ·have:=h σ'.length (σ[σ'.length]) (List.getElem?_eq_getElem h')
  simp at this
 ·exact h'
theorem Step.trans {w w1 w2:World}{M M1 M2:Nat→Prop}{σ σ1 σ2:List Addr}{L L1 L2:Nat→Prop}(h:Step w M σ L w1 M1 σ1 L1)(h':Step w1 M1 σ1 L1 w2 M2 σ2 L2) :
  Step w M σ L w2 M2 σ2 L2 where
 os:=h'.os.trans h.os
 tape:=h'.tape.trans h.tape
 output:=h'.output.trans h.output
 size:=Nat.le_trans h.size h'.size
 pre i a ha:=h'.pre i a (h.pre i a ha)
 same b hb hm:=by
  rw[h'.same b (Nat.lt_of_lt_of_le hb h.size) (fun hm1=>hm (h.hot b hb hm1)),h.same b hb hm]
 shape i a c e hl ha hb:=by
  have hi:i<σ.length:=by
   rcases Nat.lt_or_ge i σ.length with h' | h'
   ·exact h'
   ·simp[getElem?_eq_none h'] at ha
  obtain⟨c1,h1,e1⟩:=h.shape i a c e (h'.live i (Nat.lt_of_lt_of_le hi (xd h.pre)) hl) ha hb
  obtain⟨c2,h2,e2⟩:=h'.shape i a c1 e hl (h.pre i a ha) h1
  exact⟨c2,h2,e2.trans e1⟩
 hot b hb hm:=h.hot b hb (h'.hot b (Nat.lt_of_lt_of_le hb h.size) hm)
 live i hi hl:=h.live i hi (h'.live i (Nat.lt_of_lt_of_le hi (xd h.pre)) hl)
theorem gi {w w':World}{a:Addr}(h:w'.heap[a.block]?=w.heap[a.block]?):w'.cell? a=w.cell? a:=by
 simp only[World.cell?,h]
theorem V.stepG {w w':World}{H M M':Nat→Prop}{σ σ':List Addr}{L L':Nat→Prop}(h:Step w M σ L w' M' σ' L'){p:PV}{v:Value}(hv:V w (fun b=>H b∨M b) σ L p v):V w' (fun b=>H b∨M' b) σ' L' p v:=by
 induction hv with
 | any v=>exact .any v
 | sc v=>exact .sc v
 | agg cs vs hl _ ih=>exact .agg cs vs hl ih
 | tup cs vs hl _ ih=>exact .tup cs vs hl ih
 | nil x=>exact .nil x
 | imm len x cs a cap g h1 h2 h3 _ ih =>
  refine .imm len x cs a cap g h1 h2 (fun k c hk => ?_) ih
  obtain⟨e1,e2,e3,e4⟩:=h3 k c hk
  have hb:=World.block_lt_of_cell? _ _ e4
  exact⟨e1,e2,fun hm=>e3 (hm.imp id (h.hot _ hb)),by rw[gi (h.same _ hb (fun hm=>e3 (.inr hm)))];exact e4⟩
 | own id s off len x a b cap h1 h2 h3 h4 h5 =>
  have hi:id<σ.length:=by
   rcases Nat.lt_or_ge id σ.length with h' | h'
   ·exact h'
   ·simp[getElem?_eq_none h'] at h1
  refine .own id s off len x a b cap (h.pre _ _ h1) h2 h3 h4 (fun hl => ?_)
  obtain⟨c,e,hc,hs⟩:=h5 (h.live id hi hl)
  obtain⟨c',hc',e'⟩:=h.shape id a c e hl h1 hc
  exact⟨c',e,hc',by omega⟩
 | ptr id off a h1=>exact .ptr id off a (h.pre _ _ h1)
 | iptr cs a g h3 _ ih =>
  refine .iptr cs a g (fun k c hk => ?_) ih
  obtain⟨e1,e2,e3,e4⟩:=h3 k c hk
  have hb:=World.block_lt_of_cell? _ _ e4
  exact⟨e1,e2,fun hm=>e3 (hm.imp id (h.hot _ hb)),by rw[gi (h.same _ hb (fun hm=>e3 (.inr hm)))];exact e4⟩
 | clos f cs vs hl _ ih=>exact .clos f cs vs hl ih
 | bmet f cs vs hl _ ih=>exact .bmet f cs vs hl ih
 | mp id a h1=>exact .mp id a (h.pre _ _ h1)
theorem V.step {w w':World}{H:Nat→Prop}{σ σ':List Addr}{hp hp':Θ}(h:Step w (cS σ hp) σ (aY hp) w' (cS σ' hp') σ' (aY hp')){p:PV}{v:Value}(hv:V w (hot H σ hp) σ (aY hp) p v):V w' (hot H σ' hp') σ' (aY hp') p v :=
 V.stepG (H:=H) h hv
theorem gS.step {w w':World}{H:Nat→Prop}{σ σ':List Addr}{hp hp':Θ}(h:Step w (cS σ hp) σ (aY hp) w' (cS σ' hp') σ' (aY hp')):∀ {cs:Ψ} {es:List MapEntry},gS w (hot H σ hp) σ (aY hp) cs es→gS w' (hot H σ' hp') σ' (aY hp') cs es
 | [],[],_=>trivial
 | k::v::r,e::es,hr=>⟨hr.1.step h,hr.2.1.step h,hr.2.2.step h⟩
 | [],_::_,hr=>hr.elim
 | [_],[],hr=>hr.elim
 | [_],_::_,hr=>hr.elim
 | _::_::_,[],hr=>hr.elim
def Vs (w:World)(M:Nat→Prop)(σ:List Addr)(L:Nat→Prop)(ps:Ψ)(vs:List Value):Prop :=
 ps.length=vs.length∧∀ (k:Nat) p v,ps[k]?=some p→vs[k]?=some v→V w M σ L p v
theorem Vs.step {w w':World}{H:Nat→Prop}{σ σ':List Addr}{hp hp':Θ}(h:Step w (cS σ hp) σ (aY hp) w' (cS σ' hp') σ' (aY hp')){ps:Ψ}{vs:List Value}(hv:Vs w (hot H σ hp) σ (aY hp) ps vs):Vs w' (hot H σ' hp') σ' (aY hp') ps vs :=
 ⟨hv.1,fun k p v h1 h2=>(hv.2 k p v h1 h2).step h⟩
theorem pN {hp:Θ}{b:Blk}{i:Nat}(h:i<hp.length):aY (hp++[b]) i ↔ aY hp i:=by
 unfold aY;rw[getElem?_append_left h]
theorem EX {hp:Θ}{i:Nat}(h:iT hp i):i<hp.length:=by
 obtain⟨cs,hc⟩:=h
 rcases Nat.lt_or_ge i hp.length with h' | h'
 ·exact h'
 ·simp[getElem?_eq_none h'] at hc
theorem Oo {hp:Θ}{b:Blk}{i:Nat}(h:i<hp.length):iT (hp++[b]) i ↔ iT hp i:=by
 unfold iT;rw[getElem?_append_left h]
theorem N0 {hp:Θ}{b:Blk}{i:Nat}(h:i<hp.length):xm (hp++[b]) i ↔ xm hp i:=by
 unfold xm;rw[pN h,Oo h]
theorem im {hp:Θ}{id:Nat}{b:Blk}(hb:∀ cs,b≠⟨.dead,.any::cs⟩){i:Nat}(h:iT (hp.set id b) i):iT hp i∧id≠i:=by
 obtain⟨cs,hc⟩:=h
 by_cases e:id=i
 ·subst e
  have hlt:id<hp.length:=by
   rcases Nat.lt_or_ge id hp.length with h' | h'
   ·exact h'
   ·rw[getElem?_eq_none (by simpa using h')] at hc;cases hc
  rw[getElem?_set_self hlt] at hc
  simp only[OiE] at hc
  exact absurd hc (hb cs)
 ·rw[getElem?_set_ne e] at hc;exact⟨⟨cs,hc⟩,e⟩
theorem cQ {α:Type}{l:List α}{i:Nat}{a:α}(h:l[i]?=some a):i<l.length:=by
 rcases Nat.lt_or_ge i l.length with h' | h'
 ·exact h'
 ·simp[getElem?_eq_none h'] at h
theorem ee {α:Type}{l:List α}{a:α}{i:Nat}{b:α}(h:(l++[a])[i]?=some b):(i<l.length∧l[i]?=some b)∨(i=l.length∧b=a):=by
 rcases Nat.lt_or_ge i l.length with h' | h'
 ·rw[getElem?_append_left h'] at h;exact .inl ⟨h',h⟩
 ·have:=cQ h
  simp at this
  have e:i=l.length:=by omega
  subst e;simp at h;exact .inr ⟨rfl,h.symm⟩
theorem zo {w:World}{H:Nat→Prop}{σ:List Addr}{hp:Θ}(S:Sim w H σ hp){cs:Ψ}{vs:Array Value}{e:TypeId}
  (hl:cs.length≤vs.size) (hv:∀ (k:Nat) c v,cs[k]?=some c→vs[k]?=some v→V w (hot H σ hp) σ (aY hp) c v) :
  Sim (w.alloc (.cells vs e)) H (σ++[⟨w.heap.size,0,none⟩]) (hp++[⟨.live,cs⟩]) ∧
  Step w (cS σ hp) σ (aY hp) (w.alloc (.cells vs e)) (cS (σ++[⟨w.heap.size,0,none⟩]) (hp++[⟨.live,cs⟩])) (σ++[⟨w.heap.size,0,none⟩]) (aY (hp++[⟨.live,cs⟩])):=by
 have hold:∀ (k:Nat),k<w.heap.size→(w.alloc (.cells vs e)).heap[k]?=w.heap[k]?:=fun k hk=>Go.RowKit.Below.heap_alloc _ _ _ hk
 have hnew:(w.alloc (.cells vs e)).heap[w.heap.size]?=some (.cells vs e):=by
  show (w.heap.push _)[w.heap.size]?=_
  simp
 have st:Step w (cS σ hp) σ (aY hp) (w.alloc (.cells vs e)) (cS (σ++[⟨w.heap.size,0,none⟩]) (hp++[⟨.live,cs⟩])) (σ++[⟨w.heap.size,0,none⟩]) (aY (hp++[⟨.live,cs⟩])):=by
  refine⟨rfl,rfl,rfl,by simp,fun i a ha => ?_,fun b hb _=>hold b hb,iA fun b c e' f hb => ?_,fun b hb hm => ?_,fun i hi hm => ?_⟩
  ·rw[getElem?_append_left (cQ ha)];exact ha
  ·have:b<w.heap.size:=by
    rcases Nat.lt_or_ge b w.heap.size with h' | h'
    ·exact h'
    ·simp[Array.getElem?_eq_none h'] at hb
   exact⟨c,by rw[hold b this];exact hb,rfl⟩
  ·obtain⟨i,a,h1,h2,h3⟩:=hm
   rcases ee h2 with ⟨hi,h2⟩| ⟨hi,h2⟩
   ·exact⟨i,a,(N0 (by rw[← S.len];exact hi)).1 h1,h2,h3⟩
   ·subst h2;simp at h3;omega
  ·exact (pN (by rw[← S.len];exact hi)).1 hm
 refine⟨⟨by simp[S.len],fun i a ha => ?_,fun b hb=>Nat.lt_of_lt_of_le (S.foreign b hb) (by simp),fun i s cs' a hi hd ha k c hk => ?_,fun i s cs' a hi hd ha => ?_,fun i a cs0 hi ha => ?_,fun i j a b s cs' hi hj hd hne ha hb => ?_,fun i cs' a hi ha => ?_,fun i j a b hi hj hne ha hb => ?_⟩,st⟩
 ·rcases ee ha with ⟨_,h⟩| ⟨_,h⟩
  ·exact Nat.lt_of_lt_of_le (S.spot i a h) (by simp)
  ·subst h;simp
 ·rcases ee hi with ⟨hlt,h⟩| ⟨hlt,h⟩
  ·rcases ee ha with ⟨_,ha⟩| ⟨e',_⟩
   ·obtain⟨v,h1,h2⟩:=S.cells i s cs' a h hd ha k c hk
    exact⟨v,by rw[gi (a:=⟨a.block,a.off+k,none⟩) (hold _ (S.spot i a ha))];exact h1,h2.step st⟩
   ·rw[S.len] at e';omega
  ·cases h
   rcases ee ha with ⟨h',ha⟩| ⟨e',ha⟩
   ·rw[S.len] at h';omega
   ·subst ha
    have hk':=cQ hk
    have hks:k<vs.size:=by omega
    refine⟨vs[k],?_,(hv k c vs[k] hk (by simp[hks])).step st⟩
    simp[World.cell?_alloc_new,hks]
 ·rcases ee ha with ⟨hlt,h⟩| ⟨hlt,h⟩
  ·rw[getElem?_append_left (by rw[← S.len];exact hlt)] at hi
   exact S.own i s cs' a hi hd h
  ·subst h
   exact fun hh=>by have:=S.foreign _ hh;simp at this
 ·rcases ee ha with ⟨hlt,h⟩| ⟨hlt,h⟩
  ·rw[getElem?_append_left (by rw[← S.len];exact hlt)] at hi
   obtain⟨c,e',h2,h3⟩:=S.live i a cs0 hi h
   exact⟨c,e',by rw[hold _ (S.spot i a h)];exact h2,h3⟩
  ·subst h
   rw[S.len] at hlt
   rw[hlt,getElem?_append_right (Nat.le_refl _)] at hi
   simp at hi;subst hi
   exact⟨vs,e,hnew,by simpa using hl⟩
 ·rcases ee ha with ⟨hlt,ha⟩| ⟨hlt,ha⟩ <;> rcases ee hb with ⟨hlt',hb⟩| ⟨hlt',hb⟩
  ·rcases ee hj with ⟨_,hj⟩| ⟨e',_⟩
   ·exact S.inj i j a b s cs' ((pN (by rw[← S.len];exact hlt)).1 hi) hj hd hne ha hb
   ·rw[← S.len] at e';omega
  ·subst hb;have:=S.spot i a ha;simp;omega
  ·subst ha;have:=S.spot j b hb;simp;omega
  ·omega
 ·rcases ee hi with ⟨hlt,h⟩| ⟨_,h⟩
  ·rcases ee ha with ⟨_,ha⟩| ⟨e',_⟩
   ·obtain⟨h1,es,ck,h2,h3⟩:=S.maps i cs' a h ha
    exact⟨h1,es,ck,by rw[hold _ (S.spot i a ha)];exact h2,h3.step st⟩
   ·rw[S.len] at e';omega
  ·cases h
 ·have hi':iT hp i:=by
   obtain⟨ds,hds⟩:=hi
   rcases ee hds with ⟨_,h⟩| ⟨_,h⟩
   ·exact⟨ds,h⟩
   ·cases h
  have hj':iT hp j:=by
   obtain⟨ds,hds⟩:=hj
   rcases ee hds with ⟨_,h⟩| ⟨_,h⟩
   ·exact⟨ds,h⟩
   ·cases h
  have hli:=EX hi'
  have hlj:=EX hj'
  rw[← S.len] at hli hlj
  rw[getElem?_append_left hli] at ha
  rw[getElem?_append_left hlj] at hb
  exact S.injm i j a b hi' hj' hne ha hb
def adg (w w':World)(b:Nat)(off:Nat)(vs:List Value):Prop :=
 w'.os=w.os∧w'.tape=w.tape∧w'.output=w.output∧w'.heap.size=w.heap.size∧(∀ k,k≠b→w'.heap[k]?=w.heap[k]?) ∧
 ∀ c e f,w.heap[b]?=some (Obj.cells c e f)→∃ c':Array Value,w'.heap[b]?=some (Obj.cells c' e f)∧c'.size=c.size∧∀ j,c'[j]?=if off≤j∧j<off+vs.length then vs[j - off]? else c[j]?
theorem nj (P:Program)(a:Addr)(hs:a.spot=none):∀ (vs:List Value) (i:Nat) (w:World) (c:Array Value) (e:TypeId),
  w.heap[a.block]?=some (.cells c e (0,0))→a.off+i+vs.length≤c.size→(∀ v ∈ vs,v.oneCell'=true) →
  ∃ w',(storeCells a vs i).run P w = .ok () w'∧adg w w' a.block (a.off+i) vs
 | [],i,w,c,e,hb,_,_=>⟨w,rfl,rfl,rfl,rfl,rfl,fun _ _=>rfl,fun c e f h=>⟨c,h,rfl,fun j=>by rw[if_neg (by simp)]⟩⟩
 | v::vs,i,w,c,e,hb,hle,hone=>by
  simp only[length_cons] at hle
  have hadd:a.add i=⟨a.block,a.off+i,none⟩:=by
   unfold Addr.add
   split
   ·rename_i h;subst h;cases a;simp at hs;simp[hs]
   ·rfl
  have hcell:w.cell? ⟨a.block,a.off+i,none⟩=some (c[a.off+i]'(by omega)):=by
   simp[World.cell?,hb]
  have hfr:w.frozen? ⟨a.block,a.off+i,none⟩=false:=by simp[World.frozen?,hb]
  have hb1:(w.setCell ⟨a.block,a.off+i,none⟩ v).heap[a.block]?=some (.cells (c.setIfInBounds (a.off+i) v) e (0,0)):=by
   simp[World.setCell,Array.getElem?_modify,hb]
  obtain⟨w',hrun,ho,ht,hout,hsz,hoth,hcells⟩:=nj P a hs vs (i+1) _ _ e hb1 (by simp;omega) (fun v hv=>hone v (mem_cons_of_mem _ hv))
  refine⟨w',?_,ho,ht,hout,by rw[hsz];simp,fun k hk => ?_,fun c0 e0 f0 h0 => ?_⟩
  ·simp only[storeCells,Sem.run_bind,hadd]
   rw[run_store _ _ _ _ _ (hone v (by simp))]
   simp[hcell,hfr,hrun]
  ·rw[hoth k hk];exact Go.RowKit.Below.heap_setCell w ⟨a.block,a.off+i,none⟩ v k hk
  ·rw[hb] at h0
   cases h0
   obtain⟨c',h1,h2,h3⟩:=hcells _ _ _ hb1
   refine⟨c',h1,by rw[h2];simp,fun j => ?_⟩
   rw[h3 j]
   simp only[length_cons]
   by_cases hj:a.off+(i+1)≤j∧j<a.off+(i+1)+vs.length
   ·rw[if_pos hj,if_pos (by omega)]
    obtain⟨m,hm⟩:∃ m,j - (a.off+i)=m+1:=⟨j - (a.off+i) - 1,by omega⟩
    rw[hm,getElem?_cons_succ];congr 1;omega
   ·rw[if_neg hj]
    by_cases hj0:j=a.off+i
    ·subst hj0
     rw[if_pos (by omega)]
     have:a.off+i<c.size:=by omega
     simp[this]
    ·rw[if_neg (by omega)]
     rw[Array.getElem?_setIfInBounds_ne (Ne.symm hj0)]
theorem rS {w:World}{b off:Nat}{c:Array Value}{e:TypeId}{f:Nat × Nat}(h:w.heap[b]?=some (.cells c e f)):w.cell? ⟨b,off,none⟩=c[off]?:=by
 simp[World.cell?,h]
theorem pM {hp:Θ}{id:Nat}{b:Blk}(hb:b.st = .live→aY hp id){i:Nat}(h:aY (hp.set id b) i):aY hp i:=by
 obtain⟨cs,hc⟩:=h
 by_cases e:id=i
 ·subst e
  have hlt:id<hp.length:=by have:=cQ hc;simpa using this
  rw[getElem?_set_self hlt] at hc
  simp at hc;subst hc;exact hb rfl
 ·rw[getElem?_set_ne e] at hc;exact⟨cs,hc⟩
theorem Mv {w w':World}{H:Nat→Prop}{σ:List Addr}{hp:Θ}(S:Sim w H σ hp){id off:Nat}{a:Addr}{cs cs' new:Ψ}{vs:List Value}
  (hid:hp[id]?=some ⟨.live,cs⟩) (ha:σ[id]?=some a) (hw:adg w w' a.block (a.off+off) vs) (hnew:new.length=vs.length)
  (hv:∀ (k:Nat) c v,new[k]?=some c→vs[k]?=some v→V w (hot H σ hp) σ (aY hp) c v)
  (hcs:cs'.length=cs.length∧∀ k,cs'[k]?=if off≤k∧k<off+new.length then new[k - off]? else cs[k]?) :
  Sim w' H σ (hp.set id ⟨.live,cs'⟩)∧Step w (cS σ hp) σ (aY hp) w' (cS σ (hp.set id ⟨.live,cs'⟩)) σ (aY (hp.set id ⟨.live,cs'⟩)):=by
 obtain⟨ho,ht,hout,hsz,hoth,hcells⟩:=hw
 have hlt:id<hp.length:=cQ hid
 have hliveid:aY hp id:=⟨cs,hid⟩
 have hlv:∀ {i:Nat},aY (hp.set id ⟨.live,cs'⟩) i→aY hp i:=fun h=>pM (fun _=>hliveid) h
 have hhot:∀ b,cS σ (hp.set id ⟨.live,cs'⟩) b→cS σ hp b:=by
  rintro b ⟨i,a',h1,h2,h3⟩
  exact⟨i,a',h1.imp hlv fun hm=>(im (fun _ e=>by cases e) hm).1,h2,h3⟩
 have hhotid:cS σ hp a.block:=⟨id,a,.inl hliveid,ha,rfl⟩
 obtain⟨c,e,hblk,hfit⟩:=S.live id a cs hid ha
 obtain⟨c',hblk',hcsz,hcget⟩:=hcells _ _ _ hblk
 have st:Step w (cS σ hp) σ (aY hp) w' (cS σ (hp.set id ⟨.live,cs'⟩)) σ (aY (hp.set id ⟨.live,cs'⟩)):=by
  refine⟨ho,ht,hout,by omega,fun _ _ h=>h,fun b _ hm=>hoth b (fun e=>hm (e ▸ hhotid)),iA fun b c0 e0 f0 hb => ?_,fun b _ hm=>hhot b hm,fun i _ hm=>hlv hm⟩
  by_cases eb:b=a.block
  ·subst eb
   obtain⟨c1,h1,h2,_⟩:=hcells _ _ _ hb
   exact⟨c1,h1,h2⟩
  ·exact⟨c0,by rw[hoth b eb];exact hb,rfl⟩
 refine⟨⟨by simp[S.len],fun i a' h=>by rw[hsz];exact S.spot i a' h,fun b h=>by rw[hsz];exact S.foreign b h,fun i s ds a' hi hd ha' k d hk => ?_,fun i s ds a' hi hd ha' => ?_,fun i a' cs0 hi ha' => ?_,fun i j a1 a2 s ds hi hj hd hne h1 h2 => ?_,fun i ds a' hi ha' => ?_,fun i j a1 a2 hi hj hne h1 h2=>S.injm i j a1 a2 (im (fun _ e=>by cases e) hi).1 (im (fun _ e=>by cases e) hj).1 hne h1 h2⟩,st⟩
 ·by_cases ei:id=i
  ·subst ei
   rw[getElem?_set_self hlt] at hi
   cases hi
   rw[ha] at ha';cases ha'
   rw[rS hblk',hcget]
   rw[hcs.2] at hk
   by_cases hin:off≤k∧k<off+new.length
   ·rw[if_pos hin] at hk
    rw[if_pos (by omega)]
    have hks:k - off<vs.length:=by omega
    have hsub:a.off+k - (a.off+off)=k - off:=by omega
    rw[hsub]
    refine⟨vs[k - off],by simp[hks],(hv (k - off) d _ hk (by simp[hks])).step st⟩
   ·rw[if_neg hin] at hk
    rw[if_neg (by omega)]
    obtain⟨v,h1,h2⟩:=S.cells id .live cs a hid (by simp) ha k d hk
    rw[rS hblk] at h1
    exact⟨v,h1,h2.step st⟩
  ·rw[getElem?_set_ne ei] at hi
   obtain⟨v,h1,h2⟩:=S.cells i s ds a' hi hd ha' k d hk
   have hne:=S.inj id i a a' s ds hliveid hi hd ei ha ha'
   exact⟨v,by rw[gi (a:=⟨a'.block,a'.off+k,none⟩) (hoth _ (Ne.symm hne))];exact h1,h2.step st⟩
 ·by_cases ei:id=i
  ·subst ei
   exact S.own id .live cs a' hid (by simp) ha'
  ·rw[getElem?_set_ne ei] at hi
   exact S.own i s ds a' hi hd ha'
 ·have hold:∃ ds,hp[i]?=some ⟨.live,ds⟩∧ds.length=cs0.length:=by
   by_cases ei:id=i
   ·subst ei
    rw[getElem?_set_self hlt] at hi
    simp at hi;subst hi
    exact⟨cs,hid,hcs.1.symm⟩
   ·rw[getElem?_set_ne ei] at hi
    exact⟨cs0,hi,rfl⟩
  obtain⟨ds,hds,hdl⟩:=hold
  obtain⟨c1,e1,h2,h2'⟩:=S.live i a' ds hds ha'
  by_cases eb:a'.block=a.block
  ·rw[eb] at h2
   obtain⟨c2,h3,h4,_⟩:=hcells _ _ _ h2
   exact⟨c2,e1,by rw[eb];exact h3,by omega⟩
  ·exact⟨c1,e1,by rw[hoth _ eb];exact h2,by omega⟩
 ·by_cases ej:id=j
  ·subst ej
   exact S.inj i id a1 a2 .live cs (hlv hi) hid (by simp) hne h1 h2
  ·rw[getElem?_set_ne ej] at hj
   exact S.inj i j a1 a2 s ds (hlv hi) hj hd hne h1 h2
 ·have hne:id≠i:=(im (fun _ e=>by cases e) ⟨ds,hi⟩).2
  rw[getElem?_set_ne hne] at hi
  obtain⟨h1,es,ck,h2,h3⟩:=S.maps i ds a' hi ha'
  have hb:a'.block≠a.block:=fun e=>by rw[e,hblk] at h2;cases h2
  exact⟨h1,es,ck,by rw[hoth _ hb];exact h2,h3.step st⟩
theorem Dr {w:World}{H:Nat→Prop}{σ:List Addr}{hp:Θ}(S:Sim w H σ hp){id:Nat}{s:BSt}{cs cs':Ψ}{st':BSt}
  (hid:hp[id]?=some ⟨s,cs⟩) (h':(st' = .dead∧cs'=[])∨(s ≠ .dead∧st' = .ro∧cs'=cs)) :
  Sim w H σ (hp.set id ⟨st',cs'⟩)∧Step w (cS σ hp) σ (aY hp) w (cS σ (hp.set id ⟨st',cs'⟩)) σ (aY (hp.set id ⟨st',cs'⟩)):=by
 have hlt:id<hp.length:=cQ hid
 have hst:st' ≠ .live:=by rcases h' with ⟨h,_⟩| ⟨_,h,_⟩ <;> simp[h]
 have hnm:∀ ds,(⟨st',cs'⟩:Blk)≠⟨.dead,.any::ds⟩:=by
  intro ds e
  cases e
  rcases h' with ⟨_,h⟩| ⟨_,h,_⟩ <;> cases h
 have hlv:∀ {i:Nat},aY (hp.set id ⟨st',cs'⟩) i→aY hp i:=fun h=>pM (fun e=>absurd e hst) h
 have hlne:∀ {i:Nat},aY (hp.set id ⟨st',cs'⟩) i→id≠i:=by
  rintro i ⟨ds,hd⟩ rfl
  rw[getElem?_set_self hlt] at hd
  simp at hd;exact hst hd.1
 have hhot:∀ b,cS σ (hp.set id ⟨st',cs'⟩) b→cS σ hp b:=by
  rintro b ⟨i,a',h1,h2,h3⟩
  exact⟨i,a',h1.imp hlv fun hm=>(im hnm hm).1,h2,h3⟩
 have st:Step w (cS σ hp) σ (aY hp) w (cS σ (hp.set id ⟨st',cs'⟩)) σ (aY (hp.set id ⟨st',cs'⟩)) :=
  ⟨rfl,rfl,rfl,Nat.le_refl _,fun _ _ h=>h,fun _ _ _=>rfl,iA fun _ c _ _ h=>⟨c,h,rfl⟩,fun b _ hm=>hhot b hm,fun i _ hm=>hlv hm⟩
 refine⟨⟨by simp[S.len],S.spot,S.foreign,fun i s1 ds a' hi hd ha' k d hk => ?_,fun i s1 ds a' hi hd ha' => ?_,fun i a' cs0 hi ha' => ?_,fun i j a1 a2 s1 ds hi hj hd hne h1 h2 => ?_,fun i ds a' hi ha' => ?_,fun i j a1 a2 hi hj hne h1 h2=>S.injm i j a1 a2 (im hnm hi).1 (im hnm hj).1 hne h1 h2⟩,st⟩
 ·by_cases ei:id=i
  ·subst ei
   rw[getElem?_set_self hlt] at hi
   simp only[OiE,Blk.mk.injEq] at hi
   obtain⟨rfl,rfl⟩:=hi
   rcases h' with ⟨h,_⟩| ⟨h1,h2,h3⟩
   ·exact absurd h hd
   ·subst h3
    obtain⟨v,h1,h2⟩:=S.cells id s cs' a' hid h1 ha' k d hk
    exact⟨v,h1,h2.step st⟩
  ·rw[getElem?_set_ne ei] at hi
   obtain⟨v,h1,h2⟩:=S.cells i s1 ds a' hi hd ha' k d hk
   exact⟨v,h1,h2.step st⟩
 ·by_cases ei:id=i
  ·subst ei
   rw[getElem?_set_self hlt] at hi
   simp only[OiE,Blk.mk.injEq] at hi
   obtain⟨rfl,rfl⟩:=hi
   rcases h' with ⟨h,_⟩| ⟨h1,h2,h3⟩
   ·exact absurd h hd
   ·exact S.own id s cs a' hid h1 ha'
  ·rw[getElem?_set_ne ei] at hi
   exact S.own i s1 ds a' hi hd ha'
 ·by_cases ei:id=i
  ·exact absurd ei (hlne ⟨cs0,hi⟩)
  ·rw[getElem?_set_ne ei] at hi
   exact S.live i a' cs0 hi ha'
 ·by_cases ej:id=j
  ·subst ej
   rw[getElem?_set_self hlt] at hj
   simp only[OiE,Blk.mk.injEq] at hj
   obtain⟨rfl,rfl⟩:=hj
   rcases h' with ⟨h,_⟩| ⟨h3,_,_⟩
   ·exact absurd h hd
   ·exact S.inj i id a1 a2 s cs (hlv hi) hid h3 hne h1 h2
  ·rw[getElem?_set_ne ej] at hj
   exact S.inj i j a1 a2 s1 ds (hlv hi) hj hd hne h1 h2
 ·have hne:id≠i:=(im hnm ⟨ds,hi⟩).2
  rw[getElem?_set_ne hne] at hi
  obtain⟨h1,es,ck,h2,h3⟩:=S.maps i ds a' hi ha'
  exact⟨h1,es,ck,h2,h3.step st⟩
end Go.Ab
