/- An abstract interpreter over the model's code and its soundness, part 1 of the proof; each lemma states its own conditions. -/
import Derived.Calls
import Derived.Orders
set_option linter.unusedSimpArgs false
set_option linter.unusedVariables false
namespace Go.Ab
open Go
theorem OiE{α:Type _}(a b:α):(some a=some b)=(a=b):=Option.some.injEq a b
theorem PiE{α:Type _}{β:Type _}(a:α)(b:β)(c:α)(d:β):((a,b)=(c,d))=(a=c∧b=d):=Prod.mk.injEq a b c d
inductive PV where
 | any
 | sc (v:Value)
 | agg (cs:List PV)
 | imm (len:Nat) (x:Bool) (cs:List PV)
 | own (id s off len:Nat) (x:Bool)
 | ptr (id off:Nat)
 | iptr (cs:List PV)
 | clos (f:FuncId) (caps:List PV)
 | bmet (f:FuncId) (firsts:List PV)
 | tup (cs:List PV)
 | mp (id:Nat)
 deriving Inhabited
inductive BSt where
 | live | ro | dead
 deriving DecidableEq,Inhabited
structure Blk where
 st:BSt
 cs:List PV
 deriving Inhabited
structure FP where
 rd:List Nat
 wr:List Nat
 al:Bool
 all:Bool:=false
def FzZ:FP:=⟨[],[],false,false⟩
structure St where
 fr:List PV
 hp:List Blk
 wr:List Nat
inductive Ex where
 | normal | ret
 | exit (id:Nat)
def nth:List PV→Nat→PV
 | [],_=>.any
 | a::_,0=>a
 | _::l,n+1=>nth l n
def dR:List PV→Nat→PV→List PV
 | [],_,_=>[]
 | _::l,0,v=>v::l
 | a::l,n+1,v=>a::dR l n v
def aY:List Blk→Nat→Option Blk
 | [],_=>none
 | a::_,0=>some a
 | _::l,n+1=>aY l n
def bZ:List Blk→Nat→Blk→List Blk
 | [],_,_=>[]
 | _::l,0,v=>v::l
 | a::l,n+1,v=>a::bZ l n v
def br:List PV→Nat→List PV
 | l,0=>l
 | [],_+1=>[]
 | _::l,n+1=>br l n
def bF:List PV→Nat→Option (List PV)
 | _,0=>some []
 | [],_+1=>none
 | a::l,n+1=>match bF l n with
  | some r=>some (a::r)
  | none=>none
def cq:List PV→Nat→List PV→Option (List PV)
 | l,0,[]=>some l
 | [],0,_::_=>none
 | _::l,0,v::vs=>match cq l 0 vs with
  | some r=>some (v::r)
  | none=>none
 | [],_+1,_=>none
 | a::l,n+1,vs=>match cq l n vs with
  | some r=>some (a::r)
  | none=>none
def rep:Nat→List PV→List PV
 | 0,_=>[]
 | n+1,l=>l++rep n l
abbrev Tab:=TypeId→Option TypeInfo
def und (T:Tab)(t:TypeId):Option TypeDesc :=
 match T t with
 | some { desc:=.named _ u,.. } => (T u).map (·.desc)
 | some i=>some i.desc
 | none=>none
def fZ (T:Tab)(t:TypeId):Option Bool :=
 match und T t with
 | some (.struct _)=>some true
 | some (.array _ _)=>some true
 | some _=>some false
 | none=>none
def dt (T:Tab)(t:TypeId):Option Nat:=(T t).map (·.size)
def ie (T:Tab)(t:TypeId):Option Nat:=(T t).map (·.bytes)
def az:Value→PV
 | .agg cs=>.agg (cs.toList.map .sc)
 | v=>.sc v
def eK (T:Tab)(t:TypeId):Option (List PV) :=
 match T t with
 | some { zero:=some z,.. } => some (z.cells.toList.map .sc)
 | _=>none
def PV.cells?:PV→Option (List PV)
 | .agg cs=>some cs
 | .any=>none
 | .tup _=>none
 | .sc (.agg _)=>none
 | v=>some [v]
def partOf (T:Tab)(t:TypeId)(cs:List PV):Option PV :=
 match fZ T t,dt T t with
 | some true,some n=>(bF cs n).map .agg
 | some false,some _=>cs.head?
 | _,_=>none
mutual
def PV.cO:PV→Bool
 | .any=>true
 | .sc _=>true
 | .imm _ _ _=>true
 | .iptr _=>true
 | .agg cs=>bU cs
 | .tup cs=>bU cs
 | .clos _ caps=>bU caps
 | .bmet .. => false
 | .own .. => false
 | .ptr .. => false
 | .mp _=>false
def bU:List PV→Bool
 | []=>true
 | c::cs=>c.cO && bU cs
end
def dk:PV→Bool
 | .any=>false
 | .agg _=>false
 | .tup _=>false
 | .sc (.agg _)=>false
 | .sc (.tuple _)=>false
 | _=>true
def bh:List PV→Bool
 | []=>true
 | c::cs=>dk c && bh cs
def iW (P:Program){α:Type} : Sem α→Option α
 | .pure a=>some a
 | .program k=>iW P (k P)
 | .mark _ k=>iW P k
 | _=>none
def loK:IntKind→Int
 | .i8 => -128 | .i16 => -32768 | .i32 => -2147483648 | .i64 => -9223372036854775808
 | _=>0
def hiK:IntKind→Int
 | .i8=>127 | .i16=>32767 | .i32=>2147483647 | .i64=>9223372036854775807
 | .u8=>255 | .u16=>65535 | .u32=>4294967295 | .u64=>18446744073709551615
def bE (k:IntKind)(n:Int):Int:=bif decide (loK k≤n) && decide (n≤hiK k) then n else k.wrap n
def bj (op:BinOp)(k:IntKind)(a b:Int):Option Value :=
 match op with
 | .add=>some (.int k (bE k (a+b)))
 | .sub=>some (.int k (bE k (a - b)))
 | .mul=>some (.int k (bE k (a*b)))
 | .quo=>if b=0 then none else some (.int k (bE k (a.tdiv b)))
 | .rem=>if b=0 then none else some (.int k (a.tmod b))
 | .eql=>some (.bool (a == b))
 | .neq=>some (.bool (a != b))
 | .lss=>some (.bool (decide (a<b)))
 | .leq=>some (.bool (decide (a≤b)))
 | .gtr=>some (.bool (decide (a > b)))
 | .geq=>some (.bool (decide (a ≥ b)))
 | _=>none
def mkStr (l:List UInt8):ByteArray:=⟨l.toArray⟩
def bT (s:ByteArray):List UInt8:=s.data.toList
def ltL:List UInt8→List UInt8→Bool
 | _,[]=>false
 | [],_::_=>true
 | a::x,b::y=>bif a.toNat.blt b.toNat then true else (a.toNat == b.toNat) && ltL x y
def eqL:List UInt8→List UInt8→Bool
 | [],[]=>true
 | a::x,b::y=>(a.toNat == b.toNat) && eqL x y
 | _,_=>false
def eD (op:BinOp)(a b:ByteArray):Option Value :=
 match op with
 | .add=>if (((bT a).length+(bT b).length:Nat):Int) > 9223372036854775807 then none else some (.string (mkStr (bT a++bT b)))
 | .eql=>some (.bool (eqL (bT a) (bT b)))
 | .neq=>some (.bool !(eqL (bT a) (bT b)))
 | .lss=>some (.bool (ltL (bT a) (bT b)))
 | .leq=>some (.bool (ltL (bT a) (bT b) || eqL (bT a) (bT b)))
 | .gtr=>some (.bool !(ltL (bT a) (bT b) || eqL (bT a) (bT b)))
 | .geq=>some (.bool !(ltL (bT a) (bT b)))
 | _=>none
def kP:List PV→Option (List Value)
 | []=>some []
 | .sc v::r=>match kP r with
  | some l=>some (v::l)
  | none=>none
 | _=>none
def Gp:PV→Bool
 | .imm len _ _=>len != 0
 | .own .. => true
 | _=>false
def BT:PV→Bool
 | .sc (.slice none 0 0)=>true
 | _=>false
def aw (P:Program)(op:BinOp)(t:TypeId)(k:IntKind)(m:Int)(k':IntKind)(n:Int):Option PV :=
 match (if k=k' then bj op k m n else none) with
 | some v=>some (.sc v)
 | none=>(iW P (binOp op t (.int k m) (.int k' n))).map az
def dT (T:Tab)(op:BinOp)(t:TypeId)(m n:Bool):Option PV :=
 match op,und T t with
 | .eql,some .bool=>some (.sc (.bool (m == n)))
 | .neq,some .bool=>some (.sc (.bool (m != n)))
 | _,_=>none
def I4 (T:Tab)(op:BinOp)(t:TypeId)(x:PV):Option PV :=
 match op,und T t,Gp x,BT x with
 | .eql,some (.slice _),true,_=>some (.sc (.bool false))
 | .neq,some (.slice _),true,_=>some (.sc (.bool true))
 | .eql,some (.slice _),false,true=>some (.sc (.bool true))
 | .neq,some (.slice _),false,true=>some (.sc (.bool false))
 | _,_,_,_=>none
def I6 (P:Program)(op:BinOp)(t:TypeId)(m n:List PV):Option PV :=
 match kP m,kP n with
 | some u,some v=>(iW P (do eqGuard op t (.const undef) (.const undef) (.agg u.toArray) (.agg v.toArray);binOp op t (.agg u.toArray) (.agg v.toArray))).map az
 | _,_=>none
def bc (P:Program)(T:Tab)(op:BinOp)(t:TypeId)(a b:PV):Option PV :=
 match a,b with
 | .sc (.int k m),.sc (.int k' n)=>aw P op t k m k' n
 | .sc (.string m),.sc (.string n)=>(eD op m n).map .sc
 | .sc (.bool m),.sc (.bool n)=>dT T op t m n
 | x,.sc (.slice none 0 0)=>I4 T op t x
 | .agg m,.agg n=>I6 P op t m n
 | _,_=>none
def unP (op:UnOp)(a:PV):Option PV :=
 match op,a with
 | .neg,.sc (.int k n)=>some (.sc (.int k (bE k (0 - n))))
 | .not,.sc (.bool b)=>some (.sc (.bool !b))
 | _,_=>none
def kM:List PV→Option (List UInt8)
 | []=>some []
 | .sc (.int .u8 n)::r=>match kM r with
  | some l=>some (UInt8.ofNat n.toNat::l)
  | none=>none
 | _=>none
def ew (hp:List Blk)(s:Nat):PV→Option (Nat × List PV × List Nat)
 | .sc (.slice none 0 0)=>some (0,[],[])
 | .imm len _ cs=>if cs.length=len*s then some (len,cs,[]) else none
 | .own id s' off len _ =>
  match aY hp id with
  | some ⟨st,cs⟩ =>
   if st = .dead∨s'≠s then none
   else match bF (br cs off) (len*s) with
    | some l=>some (len,l,[id])
    | none=>none
  | none=>none
 | _=>none
def dn:PV→Option Nat
 | .sc (.slice none 0 0)=>some 0
 | .imm len _ _=>some len
 | .own _ _ _ len _=>some len
 | _=>none
def dS (T:Tab)(hp:List Blk)(src dst:TypeId)(a:PV):Option (PV × List Nat) :=
 match und T src,und T dst,a with
 | some _,some (.int k),.sc (.int _ n)=>some (.sc (.int k (bE k n)),[])
 | some _,some .string,.sc (.string s)=>some (.sc (.string s),[])
 | some .string,some (.slice e),.sc (.string s) =>
  match und T e with
  | some (.int .u8)=>some (.imm (bT s).length false ((bT s).map fun b=>PV.sc (.int .u8 b.toNat)),[])
  | _=>none
 | some (.slice e),some .string,x =>
  match und T e with
  | some (.int .u8) =>
   match ew hp 1 x with
   | some (_,cs,ids)=>match kM cs with
    | some l=>some (PV.sc (.string (mkStr l)),ids)
    | none=>none
   | none=>none
  | _=>none
 | _,_,_=>none
def cS:Nat:=1099511627776
def cg:Nat:=128
def aM (hp:List Blk)(cs:List PV):List Blk:=hp++[⟨.live,cs⟩]
def aV (hp:List Blk):PV→Option (List PV × List Nat)
 | .ptr id off =>
  match aY hp id with
  | some ⟨st,cs⟩=>if st = .dead then none else some (br cs off,[id])
  | none=>none
 | .iptr cs=>some (cs,[])
 | _=>none
def dA (place:Nat→Option (Nat × Nat))(cells:List PV):List (Nat × PV)→Option (List PV)
 | []=>some cells
 | (i,v)::rest =>
  match place i,v.cells? with
  | some (off,size),some cs =>
   if cs.length=size then
    match cq cells off cs with
    | some l=>dA place l rest
    | none=>none
   else none
  | _,_=>none
def ky (T:Tab)(fields:Array Field)(i:Nat):Option (Nat × Nat) :=
 match fields[i]? with
 | some f=>(dt T f.type).map fun n=>(f.offset,n)
 | none=>none
def fj (T:Tab)(t:TypeId)(parts:List (Nat × PV)):Option PV :=
 match eK T t,und T t with
 | some zs,some (.struct fields) =>
  if fields.toList.all (fun f=>(dt T f.type).isSome) then (dA (ky T fields) zs parts).map .agg else none
 | some zs,some (.array _ e) =>
  match dt T e with
  | some s=>(dA (fun i=>some (i*s,s)) zs parts).map .agg
  | none=>none
 | _,_=>none
def eL (T:Tab)(t:TypeId)(len:Nat)(parts:List (Nat × PV)):Option (Nat × List PV) :=
 match und T t with
 | some (.slice e) =>
  match dt T e,eK T e with
  | some s,some zs =>
   if len*s≤16777216∧zs.length=s then (dA (fun i=>some (i*s,s)) (rep len zs) parts).map fun l=>(s,l) else none
  | _,_=>none
 | _=>none
def gK:PV→Option Nat
 | .sc (.int _ (.ofNat n))=>some n
 | _=>none
def fk (d:Nat):Option PV→Option Nat
 | none=>some d
 | some v=>gK v
def bnd (len:Nat)(lo hi mx:Option PV):Option (Nat × Nat × Option Nat) :=
 match fk 0 lo,fk len hi,mx,hi with
 | some l,some h,none,_=>if l≤h∧h≤len then some (l,h,none) else none
 | some l,some h,some m,some _=>match gK m with
  | some m=>if l≤h∧h≤m∧m≤len then some (l,h,some m) else none
  | none=>none
 | _,_,_,_=>none
def gE (x:Bool)(len h:Nat):Option Nat→Bool
 | none=>x && h == len
 | some m=>h == m
def eu (s:ByteArray)(lo hi mx:Option PV):Option PV :=
 match bnd (bT s).length lo hi mx with
 | some (l,h,none)=>some (.sc (.string (mkStr (((bT s).take h).drop l))))
 | _=>none
def gQ (T:Tab)(e:TypeId)(x:PV)(lo hi mx:Option PV):Option PV :=
 match dt T e with
 | none=>none
 | some s =>
  match x with
  | .sc (.slice none 0 0)=>match bnd 0 lo hi mx with
   | some _=>some (.sc (.slice none 0 0))
   | none=>none
  | .imm len x cs=>match bnd len lo hi mx with
   | some (l,h,m)=>if cs.length=len*s then (bF (br cs (l*s)) ((h - l)*s)).map fun c=>.imm (h - l) (gE x len h m) c else none
   | none=>none
  | .own id s' off len x=>match bnd len lo hi mx with
   | some (l,h,m)=>if s=s' then some (.own id s (off+l*s) (h - l) (gE x len h m)) else none
   | none=>none
  | _=>none
def qK (T:Tab)(hp:List Blk)(n:Nat)(e:TypeId)(x:PV)(lo hi mx:Option PV):Option PV :=
 match dt T e,bnd n lo hi mx with
 | some s,some (l,h,m) =>
  match x with
  | .ptr id off=>match aY hp id with
   | some ⟨.live,cs⟩=>if off+n*s≤cs.length then some (.own id s (off+l*s) (h - l) (gE true n h m)) else none
   | _=>none
  | .iptr cs=>(bF (br cs (l*s)) ((h - l)*s)).map fun c=>.imm (h - l) (gE true n h m) c
  | _=>none
 | _,_=>none
def dq (T:Tab)(hp:List Blk)(t:TypeId)(x:PV)(lo hi mx:Option PV):Option PV :=
 match und T t with
 | some .string=>match x with
  | .sc (.string s)=>eu s lo hi mx
  | _=>none
 | some (.slice e)=>gQ T e x lo hi mx
 | some (.array n e)=>qK T hp n e x lo hi mx
 | _=>none
def bQ (T:Tab)(t:TypeId)(x:PV)(i:Nat):Option PV :=
 match und T t with
 | some (.struct fields) =>
  match fields[i]? with
  | some f =>
   match dt T f.type,x with
   | some (_+1),.ptr id off=>some (.ptr id (off+f.offset))
   | some (_+1),.iptr cs=>some (.iptr (br cs f.offset))
   | _,_=>none
  | none=>none
 | _=>none
def Ix (T:Tab)(t:TypeId)(x:PV)(i:Nat):Option PV :=
 match und T t,x with
 | some (.struct fields),.agg cs =>
  match fields[i]? with
  | some f=>partOf T f.type (br cs f.offset)
  | none=>none
 | _,_=>none
def bg (T:Tab)(t:TypeId)(x ix:PV):Option PV :=
 match und T t,gK ix with
 | some (.slice e),some i =>
  match dt T e,x with
  | some s,.imm len _ cs=>if i<len then some (.iptr (br cs (i*s))) else none
  | some s,.own id s' off len _=>if i<len∧s=s' then some (.ptr id (off+i*s)) else none
  | _,_=>none
 | some (.array n e),some i =>
  match dt T e,x with
  | some s,.ptr id off=>if i<n then some (.ptr id (off+i*s)) else none
  | some s,.iptr cs=>if i<n then some (.iptr (br cs (i*s))) else none
  | _,_=>none
 | _,_=>none
def Eo:List UInt8→Nat→Option UInt8
 | [],_=>none
 | a::_,0=>some a
 | _::l,n+1=>Eo l n
def iC (T:Tab)(t:TypeId)(x ix:PV):Option PV :=
 match und T t,x,gK ix with
 | some (.array n e),.agg cs,some i =>
  match dt T e with
  | some s=>if i<n then partOf T e (br cs (i*s)) else none
  | none=>none
 | some .string,.sc (.string s),some i=>(Eo (bT s) i).map fun b=>.sc (.int .u8 b.toNat)
 | _,_,_=>none
def bO (T:Tab)(t:TypeId)(x:PV):Option PV :=
 match und T t,x with
 | some .string,.sc (.string s)=>some (.sc (.int .i64 ((bT s).length:Nat)))
 | some (.array n _),_=>some (.sc (.int .i64 (n:Nat)))
 | some (.slice _),x=>(dn x).map fun n=>.sc (.int .i64 (n:Nat))
 | _,_=>none
def cJ (hp:List Blk)(s:Nat)(x:PV)(n:Nat)(new:List PV):Option (PV × List Blk × FP) :=
 match x with
 | .sc (.slice none 0 0) =>
  if n=0 then some (x,hp,FzZ)
  else if n≤cS then some (.own hp.length s 0 n false,aM hp new,⟨[],[hp.length],true,false⟩) else none
 | .imm len true cs =>
  if n=0 then some (x,hp,FzZ)
  else if len+n≤cS∧cs.length=len*s then some (.own hp.length s 0 (len+n) false,aM hp (cs++new),⟨[],[hp.length],true,false⟩) else none
 | .own id s' off len true =>
  if s≠s' then none
  else if n=0 then some (x,hp,FzZ)
  else match aY hp id with
   | some ⟨st,cs⟩ =>
    if st = .dead then none
    else match bF (br cs off) (len*s) with
     | some l=>if len+n≤cS then some (.own hp.length s 0 (len+n) false,aM hp (l++new),⟨[id],[hp.length],true,false⟩) else none
     | none=>none
   | none=>none
 | .own id s' off len false =>
  if s≠s' then none
  else match aY hp id with
   | some ⟨.live,cs⟩ =>
    match bF (br cs off) (len*s) with
    | some l=>if len+n≤cS then some (.own hp.length s 0 (len+n) false,aM (bZ hp id ⟨.dead,[]⟩) (l++new),⟨[],[id,hp.length],true,false⟩) else none
    | none=>none
   | _=>none
 | _=>none
def mN (isMax:Bool):List PV→Option PV
 | [x]=>some x
 | .sc (.int k a) :: .sc (.int k' b)::r =>
  if k=k' then
   match r with
   | []=>some (.sc (.int k (if isMax then (if b > a then b else a) else (if b<a then b else a))))
   | _=>none
  else none
 | _=>none
def aj (fr:List PV):Operand→PV
 | .tmp t=>nth fr t
 | .const v=>az v
 | .global _=>.any
 | .func f=>.sc (.func (.func f) #[] #[])
def aF (fr:List PV)(dst:Option Tmp)(v:PV):List PV :=
 match dst with
 | some d=>dR fr d v
 | none=>fr
def VN:List PV→List PV→Option Bool
 | [],[]=>some true
 | .sc (.int i m)::a,.sc (.int j n)::b=>if i=j then (match m == n with
  | true=>VN a b
  | false=>some false) else none
 | _,_=>none
def aiK:PV→PV→Option Bool
 | .sc (.int i m),.sc (.int j n)=>if i=j then some (m == n) else none
 | .sc (.string s),.sc (.string t)=>some (eqL (bT s) (bT t))
 | .sc (.bool a),.sc (.bool b)=>some (a == b)
 | .agg a,.agg b=>VN a b
 | _,_=>none
def an (P:Program)(T:Tab)(fr:List PV)(hp:List Blk)(o:Op):Option (PV × List Blk × FP) :=
 let ρ:=aj fr
 let v (x:Option PV):Option (PV × List Blk × FP):=match x with | some x=>some (x,hp,FzZ) | none=>none
 let undefP:PV:=.sc undef
 match o with
 | .move x | .assign x=>some (ρ x,hp,FzZ)
 | .pick c a b=>match ρ c with
  | .sc (.bool true)=>some (ρ a,hp,FzZ)
  | .sc (.bool false)=>some (ρ b,hp,FzZ)
  | _=>none
 | .alloc e=>match eK T e with
  | some zs=>some (.ptr hp.length 0,aM hp zs,⟨[],[hp.length],true,false⟩)
  | none=>none
 | .box _ x=>match (ρ x).cells? with
  | some cs=>some (.ptr hp.length 0,aM hp cs,⟨[],[hp.length],true,false⟩)
  | none=>none
 | .build t parts=>v (fj T t (parts.toList.map fun (i,x)=>(i,ρ x)))
 | .buildSlice t len parts=>match eL T t len (parts.toList.map fun (i,x)=>(i,ρ x)) with
  | some (s,cs) =>
   if bU cs then some (.imm len true cs,hp,FzZ)
   else some (.own hp.length s 0 len true,aM hp cs,⟨[],[hp.length],true,false⟩)
  | none=>none
 | .load t a=>match aV hp (ρ a) with
  | some (cs,ids)=>match partOf T t cs with
   | some x=>some (x,hp,⟨ids,[],false,false⟩)
   | none=>none
  | none=>none
 | .store t a x=>match ρ a,(ρ x).cells?,dt T t with
  | .ptr id off,some cs,some n =>
   if cs.length=n∧bh cs then
    match aY hp id with
    | some ⟨.live,old⟩=>match cq old off cs with
     | some l=>some (undefP,bZ hp id ⟨.live,l⟩,⟨[],[id],false,false⟩)
     | none=>none
    | _=>none
   else none
  | _,_,_=>none
 | .nilCheck x=>match ρ x with
  | .ptr id off=>some (.ptr id off,hp,FzZ)
  | .iptr cs=>some (.iptr cs,hp,FzZ)
  | .clos f cs=>some (.clos f cs,hp,FzZ)
  | .bmet f cs=>some (.bmet f cs,hp,FzZ)
  | .sc (.func (.func f) a b)=>some (.sc (.func (.func f) a b),hp,FzZ)
  | _=>none
 | .binOp op t x y _=>v (bc P T op t (ρ x) (ρ y))
 | .unOp op _ x=>v (unP op (ρ x))
 | .convert src dst x=>match dS T hp src dst (ρ x) with
  | some (r,ids)=>some (r,hp,⟨ids,[],false,false⟩)
  | none=>none
 | .makeFunc (.func f) first captured=>if first.size=0 then some (.clos f (captured.toList.map ρ),hp,FzZ) else if captured.size=0 then some (.bmet f (first.toList.map ρ),hp,FzZ) else none
 | .makeSlice t l c=>match und T t,gK (ρ l),gK (ρ c) with
  | some (.slice e),some l,some c =>
   match eK T e,dt T e,ie T e with
   | some zs,some s,some by_ =>
    if l≤c∧c≤cS∧by_≤cg∧zs.length=s then some (.own hp.length s 0 l (l == c),aM hp (rep l zs),⟨[],[hp.length],true,false⟩) else none
   | _,_,_=>none
  | _,_,_=>none
 | .slice t x lo hi mx=>match dq T hp t (ρ x) (lo.map ρ) (hi.map ρ) (mx.map ρ) with
  | some r=>some (r,hp,match ρ x with | .ptr id _=>⟨[id],[],false,false⟩| _=>FzZ)
  | none=>none
 | .fieldAddr t x i=>v (bQ T t (ρ x) i)
 | .field t x i=>v (Ix T t (ρ x) i)
 | .indexAddr t x i=>v (bg T t (ρ x) (ρ i))
 | .index t x i=>v (iC T t (ρ x) (ρ i))
 | .extract x i=>match ρ x with
  | .tup cs=>match cs[i]? with
   | some c=>some (c,hp,FzZ)
   | none=>none
  | _=>none
 | .call { callee:=.builtin b,args,argTypes } =>
  match b,args.toList.map ρ,argTypes.toList with
  | .len,[x],[t]=>match bO T t x with
   | some r=>some (r,hp,FzZ)
   | none=>none
  | .max,l,_=>v (mN true l)
  | .min,l,_=>v (mN false l)
  | .append,[x,y],[t,t'] =>
   match und T t,und T t' with
   | some (.slice e),some (.slice _) =>
    match dt T e,ie T e,eK T e with
    | some s,some by_,some zs =>
     if by_≤cg∧zs.length=s then
      match ew hp s y with
      | some (n,new,ids) =>
       if bh new then match cJ hp s x n new with
        | some (r,hp',fp)=>some (r,hp',⟨ids++fp.rd,fp.wr,fp.al,false⟩)
        | none=>none
       else none
      | none=>none
     else none
    | _,_,_=>none
   | some (.slice e),some .string =>
    match y with
    | .sc (.string str)=>match und T e,dt T e,ie T e,eK T e with
     | some (.int .u8),some 1,some 1,some [_]=>match cJ hp 1 x (bT str).length ((bT str).map fun b=>.sc (.int .u8 b.toNat)) with
      | some (r,hp',fp)=>some (r,hp',fp)
      | none=>none
     | _,_,_,_=>none
    | _=>none
   | _,_=>none
  | .clear,[x],[t] =>
   match und T t,x with
   | some (.slice e),.own id s' off len _ =>
    match dt T e,eK T e with
    | some s,some zs =>
     if s=s'∧zs.length=s∧bh zs then
      match aY hp id with
      | some ⟨.live,old⟩=>match cq old off (rep len zs) with
       | some l=>some (.tup [],bZ hp id ⟨.live,l⟩,⟨[],[id],false,false⟩)
       | none=>none
      | _=>none
     else none
    | _,_=>none
   | _,_=>none
  | _,_,_=>none
 | _=>none
def bq (f:PV→Option (PV × List Nat)):List PV→Option (List PV × List Nat)
 | []=>some ([],[])
 | c::cs=>match f c with
  | some (c',ids)=>match bq f cs with
   | some (l,ids')=>some (c'::l,ids++ids')
   | none=>none
  | none=>none
def snap (hp:List Blk):(depth:Nat)→PV→Option (PV × List Nat)
 | 0,_=>none
 | d+1,pv =>
  match pv with
  | .own id s off len x =>
   match aY hp id with
   | some ⟨st,cs⟩ =>
    if st = .dead then none
    else match bF (br cs off) (len*s) with
     | some l=>match bq (snap hp d) l with
      | some (l',ids)=>some (.imm len x l',id::ids)
      | none=>none
     | none=>none
   | none=>none
  | .agg cs=>match bq (snap hp d) cs with
   | some (l,ids)=>some (.agg l,ids)
   | none=>none
  | .ptr .. => none
  | .mp _=>none
  | .clos f caps=>if bU caps then some (.clos f caps,[]) else none
  | .bmet .. => none
  | .tup _=>none
  | v=>some (v,[])
def bn:Nat:=12
def qM:List PV→Bool
 | []=>true
 | .sc _::r=>qM r
 | _=>false
def eE:PV→Bool
 | .sc _=>true
 | .agg cs=>qM cs
 | _=>false
def roB (hp:List Blk):List Nat→List Blk
 | []=>hp
 | i::r=>match aY hp i with
  | some ⟨.live,cs⟩=>roB (bZ hp i ⟨.ro,cs⟩) r
  | _=>roB hp r
def eh (hp:List Blk):(kept:List Blk)→(K F:List Nat)→List PV→Option (List PV × List Blk)
 | kept,_,_,[]=>some ([],kept)
 | kept,K,F,r::rs =>
  match r with
  | .own id s off len x =>
   match aY hp id with
   | some ⟨.live,cs⟩ =>
    match bq (snap hp bn) cs with
    | some (cs',ids) =>
     if K.contains id || F.contains id || ids.contains id || ids.any K.contains then none
     else match eh hp (kept++[⟨.live,cs'⟩]) (id::K) (ids++F) rs with
      | some (rs',k)=>some (.own kept.length s off len x::rs',k)
      | none=>none
    | none=>none
   | _=>match snap hp bn r with
    | some (r',ids) =>
     if ids.any K.contains then none
     else match eh hp kept K (ids++F) rs with
      | some (rs',k)=>some (r'::rs',k)
      | none=>none
    | none=>none
  | _=>match snap hp bn r with
   | some (r',ids) =>
    if ids.any K.contains then none
    else match eh hp kept K (ids++F) rs with
     | some (rs',k)=>some (r'::rs',k)
     | none=>none
   | none=>none
def aU (T:Tab)(fr:List PV)(hp:List Blk):List ResultVar→Option (List PV)
 | []=>some []
 | .tmp t::r=>match aU T fr hp r with
  | some l=>some (nth fr t::l)
  | none=>none
 | .cell a t::r=>match aV hp (nth fr a) with
  | some (cs,_)=>match partOf T t cs,aU T fr hp r with
   | some x,some l=>some (x::l)
   | _,_=>none
  | none=>none
def so (n:Nat):PV→PV
 | .own id s off len x=>.own (n+id) s off len x
 | v=>v
structure Cfg where
 P:Program
 T:Tab
 F:FuncId→Option Func
 shared:FuncId→Bool
 orc:FuncId→List PV→Option (List PV)
 sorc:FuncId→Option (List PV→(Nat→Option Blk)→Option (List PV × Option (Nat × Blk))):=fun _=>none
def jk:List PV→PV
 | [r]=>r
 | rs=>.tup rs
abbrev ar:=FuncId→List PV→List Blk→Option (List PV × List Blk × List Nat)
def aA:List Nat→List Nat→List Nat
 | [],l=>l
 | i::r,l=>bif l.contains i then aA r l else aA r (i::l)
mutual
def PV.fG (n:Nat):PV→Bool
 | .own id .. => id.blt n
 | .ptr id _=>id.blt n
 | .mp id=>id.blt n
 | .agg cs=>eP n cs
 | .tup cs=>eP n cs
 | .clos _ cs=>eP n cs
 | .bmet _ cs=>eP n cs
 | _=>true
def eP (n:Nat):List PV→Bool
 | []=>true
 | c::cs=>c.fG n && eP n cs
end
def iL (hp:List Blk)(n:Nat):List Nat→Bool
 | []=>true
 | i::r=>(match aY hp i with
  | some b=>eP n b.cs
  | none=>true) && iL hp n r
def tH:Nat→List Blk→List Blk
 | 0,_=>[]
 | _+1,[]=>[]
 | n+1,a::l=>a::tH n l
def lU (n:Nat):List Nat→List Nat
 | []=>[]
 | i::r=>bif i.blt n then i::lU n r else lU n r
def upto:Nat→Nat→List Nat
 | _,0=>[]
 | a,n+1=>a::upto (a+1) n
def aL (fr:List PV)(c:Call):Option (FuncId × List PV) :=
 match c.callee with
 | .value f=>match aj fr f with
  | .sc (.func (.func g) ⟨[]⟩ ⟨[]⟩)=>some (g,c.args.toList.map (aj fr))
  | .clos g caps=>some (g,c.args.toList.map (aj fr)++caps)
  | .bmet g fs=>some (g,fs++c.args.toList.map (aj fr))
  | _=>none
 | _=>none
def bX (C:Cfg)(run:ar)(dr:Bool)(hp:List Blk)(g:FuncId)(args:List PV):Option (PV × List Blk × FP) :=
 if C.shared g then
  match run g args hp with
  | some (rs,hp',w) =>
   bif bU rs && iL hp' hp.length (lU hp.length w) then some (jk rs,tH hp.length hp',⟨[],lU hp.length w,true,true⟩)
   else some (jk rs,hp',⟨[],lU hp.length w++upto hp.length (hp'.length - hp.length),true,true⟩)
  | none=>none
 else match bq (snap hp bn) args with
  | none=>none
  | some (args',ids) =>
   match C.orc g args' with
   | some rs =>
    bif rs.all eE then some (jk rs,hp,⟨ids,[],false,false⟩)
    else some (jk rs,roB hp ids,⟨ids,ids,false,false⟩)
   | none=>match run g args' [] with
    | none=>none
    | some (rs,hp1,_)=>match eh hp1 [] [] [] rs with
     | none=>none
     | some (rs',kept) =>
      bif rs'.all eE then some (jk rs',hp,⟨ids,[],false,false⟩)
      else some (jk (rs'.map (so hp.length)),roB hp ids++kept,⟨ids,ids++upto hp.length kept.length, !kept.isEmpty,false⟩)
def ai:Op→Option Call
 | .call c=>match c.callee with
  | .value _=>some c
  | _=>none
 | _=>none
def ag (ops:Array Oper)(fr:List PV)(o:Oper):Option Bool :=
 match o.guard with
 | none=>some true
 | some (j,want) =>
  match (ops[j]?).bind (·.dst) with
  | some d=>match nth fr d with
   | .sc (.bool b)=>some (b == want)
   | .any=>none
   | _=>some false
  | none=>none
def aG (C:Cfg)(run:ar)(dr:Bool)(ops:Array Oper)(o:Oper)(fr:List PV)(hp:List Blk):Option (PV × List Blk × FP) :=
 match ag ops fr o with
 | none=>none
 | some false=>some (.sc undef,hp,FzZ)
 | some true =>
  match ai o.op with
  | some c=>match aL fr c with
   | some (g,args)=>bX C run dr hp g args
   | none=>none
  | none=>an C.P C.T fr hp o.op
def aq (C:Cfg)(run:ar)(dr:Bool)(ops:Array Oper)(o:Oper)(st:St):Option (St × FP) :=
 match aG C run dr ops o st.fr st.hp with
 | some (v,hp,fp)=>some (⟨aF st.fr o.dst v,hp,aA fp.wr st.wr⟩,fp)
 | none=>none
def ao (C:Cfg)(run:ar)(dr:Bool)(ops:Array Oper):List Oper→St→Option (St × List FP)
 | [],st=>some (st,[])
 | o::r,st=>match aq C run dr ops o st with
  | some (st',fp)=>match ao C run dr ops r st' with
   | some (st'',fps)=>some (st'',fp::fps)
   | none=>none
  | none=>none
def FP.free (a:FP):Bool:=a.rd.isEmpty && a.wr.isEmpty && !a.al && !a.all
def FP.apart (a b:FP):Bool :=
 !(a.wr.any fun i=>b.rd.contains i || b.wr.contains i) && !(b.wr.any fun i=>a.rd.contains i) && !(a.al && b.al) && !(a.all && !b.wr.isEmpty) && !(b.all && !a.wr.isEmpty)
def cH (bs:Array Nat)(l:List (Nat × FP)):Bool :=
 match l with
 | []=>true
 | (i,a)::r=>r.all (fun (j,b)=>a.apart b || (bs.getD j 0).testBit i) && cH bs r
def number:Nat→List FP→List (Nat × FP)
 | _,[]=>[]
 | n,a::r=>bif a.free then number (n+1) r else (n,a)::number (n+1) r
def aH (C:Cfg)(run:ar)(ops:Array Oper)(dr:Bool)(st:St):Option St :=
 match ao C run dr ops ops.toList st with
 | some (st',fps) =>
  bif dr then (match number 0 fps with
   | []=>some st'
   | [_]=>some st'
   | l=>bif cH (Region.before ops) l then some st' else none)
  else some st'
 | none=>none
def cu (f:St→Option (Ex × St)):Nat→St→Option (Ex × St)
 | 0,_=>none
 | n+1,st=>match f st with
  | some (.normal,st')=>cu f n st'
  | r=>r
def af (C:Cfg)(run:ar)(n:Nat):Code→St→Option (Ex × St)
 | .skip,st=>some (.normal,st)
 | .label _,st=>some (.normal,st)
 | .region _ ops dr,st=>match aH C run ops dr st with
  | some st'=>some (.normal,st')
  | none=>none
 | .seq a b,st=>match af C run n a st with
  | some (.normal,st')=>af C run n b st'
  | r=>r
 | .cond c a b,st=>match aj st.fr c with
  | .sc (.bool true)=>af C run n a st
  | .sc (.bool false)=>af C run n b st
  | _=>none
 | .block id b,st=>match af C run n b st with
  | some (.exit i,st')=>if i=id then some (.normal,st') else some (.exit i,st')
  | r=>r
 | .loop b,st=>cu (af C run n b) n st
 | .scope b,st=>af C run n b st
 | .exit id,st=>some (.exit id,st)
 | .ret,st=>some (.ret,st)
 | _,_=>none
def entry:Nat→List PV→List PV
 | 0,l=>l
 | n+1,[]=>.sc undef::entry n []
 | n+1,a::l=>a::entry n l
def uK (C:Cfg)(run:ar)(n:Nat):ar:=fun g args hp =>
 match C.F g with
 | some fn=>match fn.body with
  | some c=>match af C run n c ⟨entry fn.ntmps args,hp,[]⟩ with
   | some (.normal,st) | some (.ret,st)=>match aU C.T st.fr st.hp fn.results.toList with
    | some rs=>some (rs,st.hp,st.wr)
    | none=>none
   | _=>none
  | none=>none
 | none=>none
def vq (f:List PV→(Nat→Option Blk)→Option (List PV × Option (Nat × Blk)))(args:List PV)(hp:List Blk):Option (List PV × List Blk × List Nat) :=
 match f args (aY hp) with
 | some (rs,none)=>some (rs,hp,[])
 | some (rs,some (id,b))=>bif id.blt hp.length then some (rs,bZ hp id b,[id]) else none
 | none=>none
def runK (C:Cfg):Nat→ar
 | 0=>fun _ _ _=>none
 | k+1=>fun g args hp=>match C.sorc g with
  | some f=>vq f args hp
  | none=>uK C (runK C k) k g args hp
def LB (ops:Array Oper)(oj:Oper)(i:Nat):Bool :=
 match ops[i]? with
 | some oi=>oi.apart ops oj
 | none=>true
def wg (ops:Array Oper):Bool :=
 (List.range ops.size).all fun j=>match ops[j]? with
  | none=>true
  | some oj=>oj.after.all (fun e => !Region.binds .any e || e.on.blt j) && (List.range j).all fun i=>((Region.before ops).getD j 0).testBit i || LB ops oj i
def gY:Code→Bool
 | .region _ ops dr => !dr || wg ops
 | .seq a b=>gY a && gY b
 | .cond _ a b=>gY a && gY b
 | .block _ b=>gY b
 | .loop b=>gY b
 | .scope b=>gY b
 | _=>true
end Go.Ab
