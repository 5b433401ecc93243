/- An abstract interpreter over the model's code and its soundness, part 1; each lemma states its conditions. -/
import Derived.Calls
import Derived.Orders
set_option linter.unusedSimpArgs false
set_option linter.unusedVariables false
namespace Go.Ab
open Go
theorem OiE{α:Type _}(a b:α):(some a=some b)=(a=b):=Option.some.injEq a b
theorem PiE{α:Type _}{β:Type _}(a:α)(b:β)(c:α)(d:β):((a,b)=(c,d))=(a=c∧b=d):=Prod.mk.injEq a b c d
inductive PV where
 | any
 | sc (v:Value)
 | agg (cs:List PV)
 | imm (len:Nat) (x:Bool) (cs:List PV)
 | own (id s off len:Nat) (x:Bool)
 | ptr (id off:Nat)
 | iptr (cs:List PV)
 | clos (f:FuncId) (caps:List PV)
 | bmet (f:FuncId) (firsts:List PV)
 | tup (cs:List PV)
 | mp (id:Nat)
 deriving Inhabited
inductive BSt where
 | live | ro | dead
 deriving DecidableEq,Inhabited
structure Blk where
 st:BSt
 cs:List PV
 deriving Inhabited
abbrev Ψ:=List PV
abbrev Ω:=List Nat
abbrev Θ:=List Blk
structure FP where
 rd:Ω
 wr:Ω
 al:Bool
 all:Bool:=false
def FzZ:FP:=⟨[],[],false,false⟩
structure St where
 fr:Ψ
 hp:Θ
 wr:Ω
inductive Ex where
 | normal | ret
 | exit (id:Nat)
def nth:Ψ→Nat→PV
 | [],_=>.any
 | a::_,0=>a
 | _::l,n+1=>nth l n
def eS:Ψ→Nat→PV→Ψ
 | [],_,_=>[]
 | _::l,0,v=>v::l
 | a::l,n+1,v=>a::eS l n v
def aX:Θ→Nat→Option Blk
 | [],_=>none
 | a::_,0=>some a
 | _::l,n+1=>aX l n
def cF:Θ→Nat→Blk→Θ
 | [],_,_=>[]
 | _::l,0,v=>v::l
 | a::l,n+1,v=>a::cF l n v
def bz:Ψ→Nat→Ψ
 | l,0=>l
 | [],_+1=>[]
 | _::l,n+1=>bz l n
def bF:Ψ→Nat→Option Ψ
 | _,0=>some []
 | [],_+1=>none
 | a::l,n+1=>match bF l n with
  | some r=>some (a::r)
  | none=>none
def b9:Ψ→Nat→Ψ→Option Ψ
 | l,0,[]=>some l
 | [],0,_::_=>none
 | _::l,0,v::vs=>match b9 l 0 vs with
  | some r=>some (v::r)
  | none=>none
 | [],_+1,_=>none
 | a::l,n+1,vs=>match b9 l n vs with
  | some r=>some (a::r)
  | none=>none
def rep:Nat→Ψ→Ψ
 | 0,_=>[]
 | n+1,l=>l++rep n l
abbrev Tab:=TypeId→Option TypeInfo
def und (T:Tab)(t:TypeId):Option TypeDesc :=
 match T t with
 | some { desc:=.named _ u,.. } => (T u).map (·.desc)
 | some i=>some i.desc
 | none=>none
def ia (T:Tab)(t:TypeId):Option Bool :=
 match und T t with
 | some (.struct _)=>some true
 | some (.array _ _)=>some true
 | some _=>some false
 | none=>none
def dm (T:Tab)(t:TypeId):Option Nat:=(T t).map (·.size)
def iG (T:Tab)(t:TypeId):Option Nat:=(T t).map (·.bytes)
def au:Value→PV
 | .agg cs=>.agg (cs.toList.map .sc)
 | v=>.sc v
def ef (T:Tab)(t:TypeId):Option Ψ :=
 match T t with
 | some { zero:=some z,.. } => some (z.cells.toList.map .sc)
 | _=>none
def PV.cells?:PV→Option Ψ
 | .agg cs=>some cs
 | .any=>none
 | .tup _=>none
 | .sc (.agg _)=>none
 | v=>some [v]
def partOf (T:Tab)(t:TypeId)(cs:Ψ):Option PV :=
 match ia T t,dm T t with
 | some true,some n=>(bF cs n).map .agg
 | some false,some _=>cs.head?
 | _,_=>none
mutual
def PV.cG:PV→Bool
 | .any=>true
 | .sc _=>true
 | .imm _ _ _=>true
 | .iptr _=>true
 | .agg cs=>bT cs
 | .tup cs=>bT cs
 | .clos _ caps=>bT caps
 | .bmet .. => false
 | .own .. => false
 | .ptr .. => false
 | .mp _=>false
def bT:Ψ→Bool
 | []=>true
 | c::cs=>c.cG && bT cs
end
def dZ:PV→Bool
 | .any=>false
 | .agg _=>false
 | .tup _=>false
 | .sc (.agg _)=>false
 | .sc (.tuple _)=>false
 | _=>true
def bj:Ψ→Bool
 | []=>true
 | c::cs=>dZ c && bj cs
def iz (P:Program){α:Type} : Sem α→Option α
 | .pure a=>some a
 | .program k=>iz P (k P)
 | .mark _ k=>iz P k
 | _=>none
def loK:IntKind→Int
 | .i8 => -128 | .i16 => -32768 | .i32 => -2147483648 | .i64 => -9223372036854775808
 | _=>0
def hiK:IntKind→Int
 | .i8=>127 | .i16=>32767 | .i32=>2147483647 | .i64=>9223372036854775807
 | .u8=>255 | .u16=>65535 | .u32=>4294967295 | .u64=>18446744073709551615
def bB (k:IntKind)(n:Int):Int:=bif decide (loK k≤n) && decide (n≤hiK k) then n else k.wrap n
def bg (op:BinOp)(k:IntKind)(a b:Int):Option Value :=
 match op with
 | .add=>some (.int k (bB k (a+b)))
 | .sub=>some (.int k (bB k (a - b)))
 | .mul=>some (.int k (bB k (a*b)))
 | .quo=>if b=0 then none else some (.int k (bB k (a.tdiv b)))
 | .rem=>if b=0 then none else some (.int k (a.tmod b))
 | .eql=>some (.bool (a == b))
 | .neq=>some (.bool (a != b))
 | .lss=>some (.bool (decide (a<b)))
 | .leq=>some (.bool (decide (a≤b)))
 | .gtr=>some (.bool (decide (a > b)))
 | .geq=>some (.bool (decide (a ≥ b)))
 | _=>none
def mkStr (l:List UInt8):ByteArray:=⟨l.toArray⟩
def bO (s:ByteArray):List UInt8:=s.data.toList
def ltL:List UInt8→List UInt8→Bool
 | _,[]=>false
 | [],_::_=>true
 | a::x,b::y=>bif a.toNat.blt b.toNat then true else (a.toNat == b.toNat) && ltL x y
def eqL:List UInt8→List UInt8→Bool
 | [],[]=>true
 | a::x,b::y=>(a.toNat == b.toNat) && eqL x y
 | _,_=>false
def eo (op:BinOp)(a b:ByteArray):Option Value :=
 match op with
 | .add=>if (((bO a).length+(bO b).length:Nat):Int) > 9223372036854775807 then none else some (.string (mkStr (bO a++bO b)))
 | .eql=>some (.bool (eqL (bO a) (bO b)))
 | .neq=>some (.bool !(eqL (bO a) (bO b)))
 | .lss=>some (.bool (ltL (bO a) (bO b)))
 | .leq=>some (.bool (ltL (bO a) (bO b) || eqL (bO a) (bO b)))
 | .gtr=>some (.bool !(ltL (bO a) (bO b) || eqL (bO a) (bO b)))
 | .geq=>some (.bool !(ltL (bO a) (bO b)))
 | _=>none
def kr:Ψ→Option (List Value)
 | []=>some []
 | .sc v::r=>match kr r with
  | some l=>some (v::l)
  | none=>none
 | _=>none
def GM:PV→Bool
 | .imm len _ _=>len != 0
 | .own .. => true
 | _=>false
def B4:PV→Bool
 | .sc (.slice none 0 0)=>true
 | _=>false
def aw (P:Program)(op:BinOp)(t:TypeId)(k:IntKind)(m:Int)(k':IntKind)(n:Int):Option PV :=
 match (if k=k' then bg op k m n else none) with
 | some v=>some (.sc v)
 | none=>(iz P (binOp op t (.int k m) (.int k' n))).map au
def dG (T:Tab)(op:BinOp)(t:TypeId)(m n:Bool):Option PV :=
 match op,und T t with
 | .eql,some .bool=>some (.sc (.bool (m == n)))
 | .neq,some .bool=>some (.sc (.bool (m != n)))
 | _,_=>none
def Jv (T:Tab)(op:BinOp)(t:TypeId)(x:PV):Option PV :=
 match op,und T t,GM x,B4 x with
 | .eql,some (.slice _),true,_=>some (.sc (.bool false))
 | .neq,some (.slice _),true,_=>some (.sc (.bool true))
 | .eql,some (.slice _),false,true=>some (.sc (.bool true))
 | .neq,some (.slice _),false,true=>some (.sc (.bool false))
 | _,_,_,_=>none
def Jx (P:Program)(op:BinOp)(t:TypeId)(m n:Ψ):Option PV :=
 match kr m,kr n with
 | some u,some v=>(iz P (do eqGuard op t (.const undef) (.const undef) (.agg u.toArray) (.agg v.toArray);binOp op t (.agg u.toArray) (.agg v.toArray))).map au
 | _,_=>none
def ba (P:Program)(T:Tab)(op:BinOp)(t:TypeId)(a b:PV):Option PV :=
 match a,b with
 | .sc (.int k m),.sc (.int k' n)=>aw P op t k m k' n
 | .sc (.string m),.sc (.string n)=>(eo op m n).map .sc
 | .sc (.bool m),.sc (.bool n)=>dG T op t m n
 | x,.sc (.slice none 0 0)=>Jv T op t x
 | .agg m,.agg n=>Jx P op t m n
 | _,_=>none
def unP (op:UnOp)(a:PV):Option PV :=
 match op,a with
 | .neg,.sc (.int k n)=>some (.sc (.int k (bB k (0 - n))))
 | .not,.sc (.bool b)=>some (.sc (.bool !b))
 | _,_=>none
def kj:Ψ→Option (List UInt8)
 | []=>some []
 | .sc (.int .u8 n)::r=>match kj r with
  | some l=>some (UInt8.ofNat n.toNat::l)
  | none=>none
 | _=>none
def eY (hp:Θ)(s:Nat):PV→Option (Nat × Ψ × Ω)
 | .sc (.slice none 0 0)=>some (0,[],[])
 | .imm len _ cs=>if cs.length=len*s then some (len,cs,[]) else none
 | .own id s' off len _ =>
  match aX hp id with
  | some ⟨st,cs⟩ =>
   if st = .dead∨s'≠s then none
   else match bF (bz cs off) (len*s) with
    | some l=>some (len,l,[id])
    | none=>none
  | none=>none
 | _=>none
def dc:PV→Option Nat
 | .sc (.slice none 0 0)=>some 0
 | .imm len _ _=>some len
 | .own _ _ _ len _=>some len
 | _=>none
def dF (T:Tab)(hp:Θ)(src dst:TypeId)(a:PV):Option (PV × Ω) :=
 match und T src,und T dst,a with
 | some _,some (.int k),.sc (.int _ n)=>some (.sc (.int k (bB k n)),[])
 | some _,some .string,.sc (.string s)=>some (.sc (.string s),[])
 | some .string,some (.slice e),.sc (.string s) =>
  match und T e with
  | some (.int .u8)=>some (.imm (bO s).length false ((bO s).map fun b=>PV.sc (.int .u8 b.toNat)),[])
  | _=>none
 | some (.slice e),some .string,x =>
  match und T e with
  | some (.int .u8) =>
   match eY hp 1 x with
   | some (_,cs,ids)=>match kj cs with
    | some l=>some (PV.sc (.string (mkStr l)),ids)
    | none=>none
   | none=>none
  | _=>none
 | _,_,_=>none
def cW:Nat:=1099511627776
def bZ:Nat:=128
def bd (hp:Θ)(cs:Ψ):Θ:=hp++[⟨.live,cs⟩]
def aV (hp:Θ):PV→Option (Ψ × Ω)
 | .ptr id off =>
  match aX hp id with
  | some ⟨st,cs⟩=>if st = .dead then none else some (bz cs off,[id])
  | none=>none
 | .iptr cs=>some (cs,[])
 | _=>none
def dJ (place:Nat→Option (Nat × Nat))(cells:Ψ):List (Nat × PV)→Option Ψ
 | []=>some cells
 | (i,v)::rest =>
  match place i,v.cells? with
  | some (off,size),some cs =>
   if cs.length=size then
    match b9 cells off cs with
    | some l=>dJ place l rest
    | none=>none
   else none
  | _,_=>none
def j6 (T:Tab)(fields:Array Field)(i:Nat):Option (Nat × Nat) :=
 match fields[i]? with
 | some f=>(dm T f.type).map fun n=>(f.offset,n)
 | none=>none
def fb (T:Tab)(t:TypeId)(parts:List (Nat × PV)):Option PV :=
 match ef T t,und T t with
 | some zs,some (.struct fields) =>
  if fields.toList.all (fun f=>(dm T f.type).isSome) then (dJ (j6 T fields) zs parts).map .agg else none
 | some zs,some (.array _ e) =>
  match dm T e with
  | some s=>(dJ (fun i=>some (i*s,s)) zs parts).map .agg
  | none=>none
 | _,_=>none
def fP (T:Tab)(t:TypeId)(len:Nat)(parts:List (Nat × PV)):Option (Nat × Ψ) :=
 match und T t with
 | some (.slice e) =>
  match dm T e,ef T e with
  | some s,some zs =>
   if len*s≤16777216∧zs.length=s then (dJ (fun i=>some (i*s,s)) (rep len zs) parts).map fun l=>(s,l) else none
  | _,_=>none
 | _=>none
def gI:PV→Option Nat
 | .sc (.int _ (.ofNat n))=>some n
 | _=>none
def fG (d:Nat):Option PV→Option Nat
 | none=>some d
 | some v=>gI v
def bnd (len:Nat)(lo hi mx:Option PV):Option (Nat × Nat × Option Nat) :=
 match fG 0 lo,fG len hi,mx,hi with
 | some l,some h,none,_=>if l≤h∧h≤len then some (l,h,none) else none
 | some l,some h,some m,some _=>match gI m with
  | some m=>if l≤h∧h≤m∧m≤len then some (l,h,some m) else none
  | none=>none
 | _,_,_,_=>none
def gS (x:Bool)(len h:Nat):Option Nat→Bool
 | none=>x && h == len
 | some m=>h == m
def dT (s:ByteArray)(lo hi mx:Option PV):Option PV :=
 match bnd (bO s).length lo hi mx with
 | some (l,h,none)=>some (.sc (.string (mkStr (((bO s).take h).drop l))))
 | _=>none
def jg (T:Tab)(e:TypeId)(x:PV)(lo hi mx:Option PV):Option PV :=
 match dm T e with
 | none=>none
 | some s =>
  match x with
  | .sc (.slice none 0 0)=>match bnd 0 lo hi mx with
   | some _=>some (.sc (.slice none 0 0))
   | none=>none
  | .imm len x cs=>match bnd len lo hi mx with
   | some (l,h,m)=>if cs.length=len*s then (bF (bz cs (l*s)) ((h - l)*s)).map fun c=>.imm (h - l) (gS x len h m) c else none
   | none=>none
  | .own id s' off len x=>match bnd len lo hi mx with
   | some (l,h,m)=>if s=s' then some (.own id s (off+l*s) (h - l) (gS x len h m)) else none
   | none=>none
  | _=>none
def qA (T:Tab)(hp:Θ)(n:Nat)(e:TypeId)(x:PV)(lo hi mx:Option PV):Option PV :=
 match dm T e,bnd n lo hi mx with
 | some s,some (l,h,m) =>
  match x with
  | .ptr id off=>match aX hp id with
   | some ⟨.live,cs⟩=>if off+n*s≤cs.length then some (.own id s (off+l*s) (h - l) (gS true n h m)) else none
   | _=>none
  | .iptr cs=>(bF (bz cs (l*s)) ((h - l)*s)).map fun c=>.imm (h - l) (gS true n h m) c
  | _=>none
 | _,_=>none
def dH (T:Tab)(hp:Θ)(t:TypeId)(x:PV)(lo hi mx:Option PV):Option PV :=
 match und T t with
 | some .string=>match x with
  | .sc (.string s)=>dT s lo hi mx
  | _=>none
 | some (.slice e)=>jg T e x lo hi mx
 | some (.array n e)=>qA T hp n e x lo hi mx
 | _=>none
def bN (T:Tab)(t:TypeId)(x:PV)(i:Nat):Option PV :=
 match und T t with
 | some (.struct fields) =>
  match fields[i]? with
  | some f =>
   match dm T f.type,x with
   | some (_+1),.ptr id off=>some (.ptr id (off+f.offset))
   | some (_+1),.iptr cs=>some (.iptr (bz cs f.offset))
   | _,_=>none
  | none=>none
 | _=>none
def I2 (T:Tab)(t:TypeId)(x:PV)(i:Nat):Option PV :=
 match und T t,x with
 | some (.struct fields),.agg cs =>
  match fields[i]? with
  | some f=>partOf T f.type (bz cs f.offset)
  | none=>none
 | _,_=>none
def bc (T:Tab)(t:TypeId)(x ix:PV):Option PV :=
 match und T t,gI ix with
 | some (.slice e),some i =>
  match dm T e,x with
  | some s,.imm len _ cs=>if i<len then some (.iptr (bz cs (i*s))) else none
  | some s,.own id s' off len _=>if i<len∧s=s' then some (.ptr id (off+i*s)) else none
  | _,_=>none
 | some (.array n e),some i =>
  match dm T e,x with
  | some s,.ptr id off=>if i<n then some (.ptr id (off+i*s)) else none
  | some s,.iptr cs=>if i<n then some (.iptr (bz cs (i*s))) else none
  | _,_=>none
 | _,_=>none
def EB:List UInt8→Nat→Option UInt8
 | [],_=>none
 | a::_,0=>some a
 | _::l,n+1=>EB l n
def ic (T:Tab)(t:TypeId)(x ix:PV):Option PV :=
 match und T t,x,gI ix with
 | some (.array n e),.agg cs,some i =>
  match dm T e with
  | some s=>if i<n then partOf T e (bz cs (i*s)) else none
  | none=>none
 | some .string,.sc (.string s),some i=>(EB (bO s) i).map fun b=>.sc (.int .u8 b.toNat)
 | _,_,_=>none
def bM (T:Tab)(t:TypeId)(x:PV):Option PV :=
 match und T t,x with
 | some .string,.sc (.string s)=>some (.sc (.int .i64 ((bO s).length:Nat)))
 | some (.array n _),_=>some (.sc (.int .i64 (n:Nat)))
 | some (.slice _),x=>(dc x).map fun n=>.sc (.int .i64 (n:Nat))
 | _,_=>none
def cU (hp:Θ)(s:Nat)(x:PV)(n:Nat)(new:Ψ):Option (PV × Θ × FP) :=
 match x with
 | .sc (.slice none 0 0) =>
  if n=0 then some (x,hp,FzZ)
  else if n≤cW then some (.own hp.length s 0 n false,bd hp new,⟨[],[hp.length],true,false⟩) else none
 | .imm len true cs =>
  if n=0 then some (x,hp,FzZ)
  else if len+n≤cW∧cs.length=len*s then some (.own hp.length s 0 (len+n) false,bd hp (cs++new),⟨[],[hp.length],true,false⟩) else none
 | .own id s' off len true =>
  if s≠s' then none
  else if n=0 then some (x,hp,FzZ)
  else match aX hp id with
   | some ⟨st,cs⟩ =>
    if st = .dead then none
    else match bF (bz cs off) (len*s) with
     | some l=>if len+n≤cW then some (.own hp.length s 0 (len+n) false,bd hp (l++new),⟨[id],[hp.length],true,false⟩) else none
     | none=>none
   | none=>none
 | .own id s' off len false =>
  if s≠s' then none
  else match aX hp id with
   | some ⟨.live,cs⟩ =>
    match bF (bz cs off) (len*s) with
    | some l=>if len+n≤cW then some (.own hp.length s 0 (len+n) false,bd (cF hp id ⟨.dead,[]⟩) (l++new),⟨[],[id,hp.length],true,false⟩) else none
    | none=>none
   | _=>none
 | _=>none
def mv (isMax:Bool):Ψ→Option PV
 | [x]=>some x
 | .sc (.int k a) :: .sc (.int k' b)::r =>
  if k=k' then
   match r with
   | []=>some (.sc (.int k (if isMax then (if b > a then b else a) else (if b<a then b else a))))
   | _=>none
  else none
 | _=>none
def aj (fr:Ψ):Operand→PV
 | .tmp t=>nth fr t
 | .const v=>au v
 | .global _=>.any
 | .func f=>.sc (.func (.func f) #[] #[])
def aC (fr:Ψ)(dst:Option Tmp)(v:PV):Ψ :=
 match dst with
 | some d=>eS fr d v
 | none=>fr
def V3:Ψ→Ψ→Option Bool
 | [],[]=>some true
 | .sc (.int i m)::a,.sc (.int j n)::b=>if i=j then (match m == n with
  | true=>V3 a b
  | false=>some false) else none
 | _,_=>none
def ajg:PV→PV→Option Bool
 | .sc (.int i m),.sc (.int j n)=>if i=j then some (m == n) else none
 | .sc (.string s),.sc (.string t)=>some (eqL (bO s) (bO t))
 | .sc (.bool a),.sc (.bool b)=>some (a == b)
 | .agg a,.agg b=>V3 a b
 | _,_=>none
def an (P:Program)(T:Tab)(fr:Ψ)(hp:Θ)(o:Op):Option (PV × Θ × FP) :=
 let ρ:=aj fr
 let v (x:Option PV):Option (PV × Θ × FP):=match x with | some x=>some (x,hp,FzZ) | none=>none
 let undefP:PV:=.sc undef
 match o with
 | .move x | .assign x=>some (ρ x,hp,FzZ)
 | .pick c a b=>match ρ c with
  | .sc (.bool true)=>some (ρ a,hp,FzZ)
  | .sc (.bool false)=>some (ρ b,hp,FzZ)
  | _=>none
 | .alloc e=>match ef T e with
  | some zs=>some (.ptr hp.length 0,bd hp zs,⟨[],[hp.length],true,false⟩)
  | none=>none
 | .box _ x=>match (ρ x).cells? with
  | some cs=>some (.ptr hp.length 0,bd hp cs,⟨[],[hp.length],true,false⟩)
  | none=>none
 | .build t parts=>v (fb T t (parts.toList.map fun (i,x)=>(i,ρ x)))
 | .buildSlice t len parts=>match fP T t len (parts.toList.map fun (i,x)=>(i,ρ x)) with
  | some (s,cs) =>
   if bT cs then some (.imm len true cs,hp,FzZ)
   else some (.own hp.length s 0 len true,bd hp cs,⟨[],[hp.length],true,false⟩)
  | none=>none
 | .load t a=>match aV hp (ρ a) with
  | some (cs,ids)=>match partOf T t cs with
   | some x=>some (x,hp,⟨ids,[],false,false⟩)
   | none=>none
  | none=>none
 | .store t a x=>match ρ a,(ρ x).cells?,dm T t with
  | .ptr id off,some cs,some n =>
   if cs.length=n∧bj cs then
    match aX hp id with
    | some ⟨.live,old⟩=>match b9 old off cs with
     | some l=>some (undefP,cF hp id ⟨.live,l⟩,⟨[],[id],false,false⟩)
     | none=>none
    | _=>none
   else none
  | _,_,_=>none
 | .nilCheck x=>match ρ x with
  | .ptr id off=>some (.ptr id off,hp,FzZ)
  | .iptr cs=>some (.iptr cs,hp,FzZ)
  | .clos f cs=>some (.clos f cs,hp,FzZ)
  | .bmet f cs=>some (.bmet f cs,hp,FzZ)
  | .sc (.func (.func f) a b)=>some (.sc (.func (.func f) a b),hp,FzZ)
  | _=>none
 | .binOp op t x y _=>v (ba P T op t (ρ x) (ρ y))
 | .unOp op _ x=>v (unP op (ρ x))
 | .convert src dst x=>match dF T hp src dst (ρ x) with
  | some (r,ids)=>some (r,hp,⟨ids,[],false,false⟩)
  | none=>none
 | .makeFunc (.func f) first captured=>if first.size=0 then some (.clos f (captured.toList.map ρ),hp,FzZ) else if captured.size=0 then some (.bmet f (first.toList.map ρ),hp,FzZ) else none
 | .makeSlice t l c=>match und T t,gI (ρ l),gI (ρ c) with
  | some (.slice e),some l,some c =>
   match ef T e,dm T e,iG T e with
   | some zs,some s,some by_ =>
    if l≤c∧c≤cW∧by_≤bZ∧zs.length=s then some (.own hp.length s 0 l (l == c),bd hp (rep l zs),⟨[],[hp.length],true,false⟩) else none
   | _,_,_=>none
  | _,_,_=>none
 | .slice t x lo hi mx=>match dH T hp t (ρ x) (lo.map ρ) (hi.map ρ) (mx.map ρ) with
  | some r=>some (r,hp,match ρ x with | .ptr id _=>⟨[id],[],false,false⟩| _=>FzZ)
  | none=>none
 | .fieldAddr t x i=>v (bN T t (ρ x) i)
 | .field t x i=>v (I2 T t (ρ x) i)
 | .indexAddr t x i=>v (bc T t (ρ x) (ρ i))
 | .index t x i=>v (ic T t (ρ x) (ρ i))
 | .extract x i=>match ρ x with
  | .tup cs=>match cs[i]? with
   | some c=>some (c,hp,FzZ)
   | none=>none
  | _=>none
 | .call { callee:=.builtin b,args,argTypes } =>
  match b,args.toList.map ρ,argTypes.toList with
  | .len,[x],[t]=>match bM T t x with
   | some r=>some (r,hp,FzZ)
   | none=>none
  | .max,l,_=>v (mv true l)
  | .min,l,_=>v (mv false l)
  | .append,[x,y],[t,t'] =>
   match und T t,und T t' with
   | some (.slice e),some (.slice _) =>
    match dm T e,iG T e,ef T e with
    | some s,some by_,some zs =>
     if by_≤bZ∧zs.length=s then
      match eY hp s y with
      | some (n,new,ids) =>
       if bj new then match cU hp s x n new with
        | some (r,hp',fp)=>some (r,hp',⟨ids++fp.rd,fp.wr,fp.al,false⟩)
        | none=>none
       else none
      | none=>none
     else none
    | _,_,_=>none
   | some (.slice e),some .string =>
    match y with
    | .sc (.string str)=>match und T e,dm T e,iG T e,ef T e with
     | some (.int .u8),some 1,some 1,some [_]=>match cU hp 1 x (bO str).length ((bO str).map fun b=>.sc (.int .u8 b.toNat)) with
      | some (r,hp',fp)=>some (r,hp',fp)
      | none=>none
     | _,_,_,_=>none
    | _=>none
   | _,_=>none
  | .clear,[x],[t] =>
   match und T t,x with
   | some (.slice e),.own id s' off len _ =>
    match dm T e,ef T e with
    | some s,some zs =>
     if s=s'∧zs.length=s∧bj zs then
      match aX hp id with
      | some ⟨.live,old⟩=>match b9 old off (rep len zs) with
       | some l=>some (.tup [],cF hp id ⟨.live,l⟩,⟨[],[id],false,false⟩)
       | none=>none
      | _=>none
     else none
    | _,_=>none
   | _,_=>none
  | _,_,_=>none
 | _=>none
def bu (f:PV→Option (PV × Ω)):Ψ→Option (Ψ × Ω)
 | []=>some ([],[])
 | c::cs=>match f c with
  | some (c',ids)=>match bu f cs with
   | some (l,ids')=>some (c'::l,ids++ids')
   | none=>none
  | none=>none
def snap (hp:Θ):(depth:Nat)→PV→Option (PV × Ω)
 | 0,_=>none
 | d+1,pv =>
  match pv with
  | .own id s off len x =>
   match aX hp id with
   | some ⟨st,cs⟩ =>
    if st = .dead then none
    else match bF (bz cs off) (len*s) with
     | some l=>match bu (snap hp d) l with
      | some (l',ids)=>some (.imm len x l',id::ids)
      | none=>none
     | none=>none
   | none=>none
  | .agg cs=>match bu (snap hp d) cs with
   | some (l,ids)=>some (.agg l,ids)
   | none=>none
  | .ptr .. => none
  | .mp _=>none
  | .clos f caps=>if bT caps then some (.clos f caps,[]) else none
  | .bmet .. => none
  | .tup _=>none
  | v=>some (v,[])
def bn:Nat:=12
def qD:Ψ→Bool
 | []=>true
 | .sc _::r=>qD r
 | _=>false
def eg:PV→Bool
 | .sc _=>true
 | .agg cs=>qD cs
 | _=>false
def roB (hp:Θ):Ω→Θ
 | []=>hp
 | i::r=>match aX hp i with
  | some ⟨.live,cs⟩=>roB (cF hp i ⟨.ro,cs⟩) r
  | _=>roB hp r
def eK (hp:Θ):(kept:Θ)→(K F:Ω)→Ψ→Option (Ψ × Θ)
 | kept,_,_,[]=>some ([],kept)
 | kept,K,F,r::rs =>
  match r with
  | .own id s off len x =>
   match aX hp id with
   | some ⟨.live,cs⟩ =>
    match bu (snap hp bn) cs with
    | some (cs',ids) =>
     if K.contains id || F.contains id || ids.contains id || ids.any K.contains then none
     else match eK hp (kept++[⟨.live,cs'⟩]) (id::K) (ids++F) rs with
      | some (rs',k)=>some (.own kept.length s off len x::rs',k)
      | none=>none
    | none=>none
   | _=>match snap hp bn r with
    | some (r',ids) =>
     if ids.any K.contains then none
     else match eK hp kept K (ids++F) rs with
      | some (rs',k)=>some (r'::rs',k)
      | none=>none
    | none=>none
  | _=>match snap hp bn r with
   | some (r',ids) =>
    if ids.any K.contains then none
    else match eK hp kept K (ids++F) rs with
     | some (rs',k)=>some (r'::rs',k)
     | none=>none
   | none=>none
def aY (T:Tab)(fr:Ψ)(hp:Θ):List ResultVar→Option Ψ
 | []=>some []
 | .tmp t::r=>match aY T fr hp r with
  | some l=>some (nth fr t::l)
  | none=>none
 | .cell a t::r=>match aV hp (nth fr a) with
  | some (cs,_)=>match partOf T t cs,aY T fr hp r with
   | some x,some l=>some (x::l)
   | _,_=>none
  | none=>none
def sx (n:Nat):PV→PV
 | .own id s off len x=>.own (n+id) s off len x
 | v=>v
structure Cfg where
 P:Program
 T:Tab
 F:FuncId→Option Func
 shared:FuncId→Bool
 orc:FuncId→Ψ→Option Ψ
 sorc:FuncId→Option (Ψ→(Nat→Option Blk)→Option (Ψ × Option (Nat × Blk))):=fun _=>none
def iL:Ψ→PV
 | [r]=>r
 | rs=>.tup rs
abbrev av:=FuncId→Ψ→Θ→Option (Ψ × Θ × Ω)
def aG:Ω→Ω→Ω
 | [],l=>l
 | i::r,l=>bif l.contains i then aG r l else aG r (i::l)
mutual
def PV.fw (n:Nat):PV→Bool
 | .own id .. => id.blt n
 | .ptr id _=>id.blt n
 | .mp id=>id.blt n
 | .agg cs=>eN n cs
 | .tup cs=>eN n cs
 | .clos _ cs=>eN n cs
 | .bmet _ cs=>eN n cs
 | _=>true
def eN (n:Nat):Ψ→Bool
 | []=>true
 | c::cs=>c.fw n && eN n cs
end
def gW (hp:Θ)(n:Nat):Ω→Bool
 | []=>true
 | i::r=>(match aX hp i with
  | some b=>eN n b.cs
  | none=>true) && gW hp n r
def qw:Nat→Θ→Θ
 | 0,_=>[]
 | _+1,[]=>[]
 | n+1,a::l=>a::qw n l
def lC (n:Nat):Ω→Ω
 | []=>[]
 | i::r=>bif i.blt n then i::lC n r else lC n r
def upto:Nat→Nat→Ω
 | _,0=>[]
 | a,n+1=>a::upto (a+1) n
def aM (fr:Ψ)(c:Call):Option (FuncId × Ψ) :=
 match c.callee with
 | .value f=>match aj fr f with
  | .sc (.func (.func g) ⟨[]⟩ ⟨[]⟩)=>some (g,c.args.toList.map (aj fr))
  | .clos g caps=>some (g,c.args.toList.map (aj fr)++caps)
  | .bmet g fs=>some (g,fs++c.args.toList.map (aj fr))
  | _=>none
 | _=>none
def bS (C:Cfg)(run:av)(dr:Bool)(hp:Θ)(g:FuncId)(args:Ψ):Option (PV × Θ × FP) :=
 if C.shared g then
  match run g args hp with
  | some (rs,hp',w) =>
   bif bT rs && gW hp' hp.length (lC hp.length w) then some (iL rs,qw hp.length hp',⟨[],lC hp.length w,true,true⟩)
   else some (iL rs,hp',⟨[],lC hp.length w++upto hp.length (hp'.length - hp.length),true,true⟩)
  | none=>none
 else match bu (snap hp bn) args with
  | none=>none
  | some (args',ids) =>
   match C.orc g args' with
   | some rs =>
    bif rs.all eg then some (iL rs,hp,⟨ids,[],false,false⟩)
    else some (iL rs,roB hp ids,⟨ids,ids,false,false⟩)
   | none=>match run g args' [] with
    | none=>none
    | some (rs,hp1,_)=>match eK hp1 [] [] [] rs with
     | none=>none
     | some (rs',kept) =>
      bif rs'.all eg then some (iL rs',hp,⟨ids,[],false,false⟩)
      else some (iL (rs'.map (sx hp.length)),roB hp ids++kept,⟨ids,ids++upto hp.length kept.length, !kept.isEmpty,false⟩)
def ah:Op→Option Call
 | .call c=>match c.callee with
  | .value _=>some c
  | _=>none
 | _=>none
def ag (ops:Array Oper)(fr:Ψ)(o:Oper):Option Bool :=
 match o.guard with
 | none=>some true
 | some (j,want) =>
  match (ops[j]?).bind (·.dst) with
  | some d=>match nth fr d with
   | .sc (.bool b)=>some (b == want)
   | .any=>none
   | _=>some false
  | none=>none
def aF (C:Cfg)(run:av)(dr:Bool)(ops:Array Oper)(o:Oper)(fr:Ψ)(hp:Θ):Option (PV × Θ × FP) :=
 match ag ops fr o with
 | none=>none
 | some false=>some (.sc undef,hp,FzZ)
 | some true =>
  match ah o.op with
  | some c=>match aM fr c with
   | some (g,args)=>bS C run dr hp g args
   | none=>none
  | none=>an C.P C.T fr hp o.op
def ar (C:Cfg)(run:av)(dr:Bool)(ops:Array Oper)(o:Oper)(st:St):Option (St × FP) :=
 match aF C run dr ops o st.fr st.hp with
 | some (v,hp,fp)=>some (⟨aC st.fr o.dst v,hp,aG fp.wr st.wr⟩,fp)
 | none=>none
def aq (C:Cfg)(run:av)(dr:Bool)(ops:Array Oper):List Oper→St→Option (St × List FP)
 | [],st=>some (st,[])
 | o::r,st=>match ar C run dr ops o st with
  | some (st',fp)=>match aq C run dr ops r st' with
   | some (st'',fps)=>some (st'',fp::fps)
   | none=>none
  | none=>none
def FP.free (a:FP):Bool:=a.rd.isEmpty && a.wr.isEmpty && !a.al && !a.all
def FP.apart (a b:FP):Bool :=
 !(a.wr.any fun i=>b.rd.contains i || b.wr.contains i) && !(b.wr.any fun i=>a.rd.contains i) && !(a.al && b.al) && !(a.all && !b.wr.isEmpty) && !(b.all && !a.wr.isEmpty)
def cC (bs:Array Nat)(l:List (Nat × FP)):Bool :=
 match l with
 | []=>true
 | (i,a)::r=>r.all (fun (j,b)=>a.apart b || (bs.getD j 0).testBit i) && cC bs r
def number:Nat→List FP→List (Nat × FP)
 | _,[]=>[]
 | n,a::r=>bif a.free then number (n+1) r else (n,a)::number (n+1) r
def aH (C:Cfg)(run:av)(ops:Array Oper)(dr:Bool)(st:St):Option St :=
 match aq C run dr ops ops.toList st with
 | some (st',fps) =>
  bif dr then (match number 0 fps with
   | []=>some st'
   | [_]=>some st'
   | l=>bif cC (Region.before ops) l then some st' else none)
  else some st'
 | none=>none
def cg (f:St→Option (Ex × St)):Nat→St→Option (Ex × St)
 | 0,_=>none
 | n+1,st=>match f st with
  | some (.normal,st')=>cg f n st'
  | r=>r
def ae (C:Cfg)(run:av)(n:Nat):Code→St→Option (Ex × St)
 | .skip,st=>some (.normal,st)
 | .label _,st=>some (.normal,st)
 | .region _ ops dr,st=>match aH C run ops dr st with
  | some st'=>some (.normal,st')
  | none=>none
 | .seq a b,st=>match ae C run n a st with
  | some (.normal,st')=>ae C run n b st'
  | r=>r
 | .cond c a b,st=>match aj st.fr c with
  | .sc (.bool true)=>ae C run n a st
  | .sc (.bool false)=>ae C run n b st
  | _=>none
 | .block id b,st=>match ae C run n b st with
  | some (.exit i,st')=>if i=id then some (.normal,st') else some (.exit i,st')
  | r=>r
 | .loop b,st=>cg (ae C run n b) n st
 | .scope b,st=>ae C run n b st
 | .exit id,st=>some (.exit id,st)
 | .ret,st=>some (.ret,st)
 | _,_=>none
def entry:Nat→Ψ→Ψ
 | 0,l=>l
 | n+1,[]=>.sc undef::entry n []
 | n+1,a::l=>a::entry n l
def rV (C:Cfg)(run:av)(n:Nat):av:=fun g args hp =>
 match C.F g with
 | some fn=>match fn.body with
  | some c=>match ae C run n c ⟨entry fn.ntmps args,hp,[]⟩ with
   | some (.normal,st) | some (.ret,st)=>match aY C.T st.fr st.hp fn.results.toList with
    | some rs=>some (rs,st.hp,st.wr)
    | none=>none
   | _=>none
  | none=>none
 | none=>none
def vf (f:Ψ→(Nat→Option Blk)→Option (Ψ × Option (Nat × Blk)))(args:Ψ)(hp:Θ):Option (Ψ × Θ × Ω) :=
 match f args (aX hp) with
 | some (rs,none)=>some (rs,hp,[])
 | some (rs,some (id,b))=>bif id.blt hp.length then some (rs,cF hp id b,[id]) else none
 | none=>none
def runK (C:Cfg):Nat→av
 | 0=>fun _ _ _=>none
 | k+1=>fun g args hp=>match C.sorc g with
  | some f=>vf f args hp
  | none=>rV C (runK C k) k g args hp
def Md (ops:Array Oper)(oj:Oper)(i:Nat):Bool :=
 match ops[i]? with
 | some oi=>oi.apart ops oj
 | none=>true
def vZ (ops:Array Oper):Bool :=
 (List.range ops.size).all fun j=>match ops[j]? with
  | none=>true
  | some oj=>oj.after.all (fun e => !Region.binds .any e || e.on.blt j) && (List.range j).all fun i=>((Region.before ops).getD j 0).testBit i || Md ops oj i
def gu:Code→Bool
 | .region _ ops dr => !dr || vZ ops
 | .seq a b=>gu a && gu b
 | .cond _ a b=>gu a && gu b
 | .block _ b=>gu b
 | .loop b=>gu b
 | .scope b=>gu b
 | _=>true
end Go.Ab
