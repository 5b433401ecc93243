/- An abstract interpreter over the model's code and its soundness, part 1 of the proof; each lemma states its own conditions. -/
import Derived.Calls
import Derived.Orders
set_option linter.unusedSimpArgs false
set_option linter.unusedVariables false
namespace Go.Ab
open Go
inductive PV where
 | any
 | sc (v:Value)
 | agg (cs:List PV)
 | imm (len:Nat) (x:Bool) (cs:List PV)
 | own (id s off len:Nat) (x:Bool)
 | ptr (id off:Nat)
 | iptr (cs:List PV)
 | clos (f:FuncId) (caps:List PV)
 | bmet (f:FuncId) (firsts:List PV)
 | tup (cs:List PV)
 | mp (id:Nat)
 deriving Inhabited
inductive BSt where
 | live | ro | dead
 deriving DecidableEq,Inhabited
structure Blk where
 st:BSt
 cs:List PV
 deriving Inhabited
structure FP where
 rd:List Nat
 wr:List Nat
 al:Bool
 all:Bool:=false
def FP.none:FP:=⟨[],[],false,false⟩
structure St where
 fr:List PV
 hp:List Blk
 wr:List Nat
inductive Ex where
 | normal | ret
 | exit (id:Nat)
def nth:List PV→Nat→PV
 | [],_=>.any
 | a::_,0=>a
 | _::l,n+1=>nth l n
def fm:List PV→Nat→PV→List PV
 | [],_,_=>[]
 | _::l,0,v=>v::l
 | a::l,n+1,v=>a::fm l n v
def aV:List Blk→Nat→Option Blk
 | [],_=>none
 | a::_,0=>some a
 | _::l,n+1=>aV l n
def bO:List Blk→Nat→Blk→List Blk
 | [],_,_=>[]
 | _::l,0,v=>v::l
 | a::l,n+1,v=>a::bO l n v
def br:List PV→Nat→List PV
 | l,0=>l
 | [],_+1=>[]
 | _::l,n+1=>br l n
def bG:List PV→Nat→Option (List PV)
 | _,0=>some []
 | [],_+1=>none
 | a::l,n+1=>match bG l n with
  | some r=>some (a::r)
  | none=>none
def cj:List PV→Nat→List PV→Option (List PV)
 | l,0,[]=>some l
 | [],0,_::_=>none
 | _::l,0,v::vs=>match cj l 0 vs with
  | some r=>some (v::r)
  | none=>none
 | [],_+1,_=>none
 | a::l,n+1,vs=>match cj l n vs with
  | some r=>some (a::r)
  | none=>none
def rep:Nat→List PV→List PV
 | 0,_=>[]
 | n+1,l=>l++rep n l
abbrev Tab:=TypeId→Option TypeInfo
def und (T:Tab)(t:TypeId):Option TypeDesc :=
 match T t with
 | some { desc:=.named _ u,.. } => (T u).map (·.desc)
 | some i=>some i.desc
 | none=>none
def fR (T:Tab)(t:TypeId):Option Bool :=
 match und T t with
 | some (.struct _)=>some true
 | some (.array _ _)=>some true
 | some _=>some false
 | none=>none
def dc (T:Tab)(t:TypeId):Option Nat:=(T t).map (·.size)
def iT (T:Tab)(t:TypeId):Option Nat:=(T t).map (·.bytes)
def aw:Value→PV
 | .agg cs=>.agg (cs.toList.map .sc)
 | v=>.sc v
def eK (T:Tab)(t:TypeId):Option (List PV) :=
 match T t with
 | some { zero:=some z,.. } => some (z.cells.toList.map .sc)
 | _=>none
def PV.cells?:PV→Option (List PV)
 | .agg cs=>some cs
 | .any=>none
 | .tup _=>none
 | .sc (.agg _)=>none
 | v=>some [v]
def partOf (T:Tab)(t:TypeId)(cs:List PV):Option PV :=
 match fR T t,dc T t with
 | some true,some n=>(bG cs n).map .agg
 | some false,some _=>cs.head?
 | _,_=>none
mutual
def PV.cO:PV→Bool
 | .any=>true
 | .sc _=>true
 | .imm _ _ _=>true
 | .iptr _=>true
 | .agg cs=>cq cs
 | .tup cs=>cq cs
 | .clos _ caps=>cq caps
 | .bmet .. => false
 | .own .. => false
 | .ptr .. => false
 | .mp _=>false
def cq:List PV→Bool
 | []=>true
 | c::cs=>c.cO && cq cs
end
def dw:PV→Bool
 | .any=>false
 | .agg _=>false
 | .tup _=>false
 | .sc (.agg _)=>false
 | .sc (.tuple _)=>false
 | _=>true
def bg:List PV→Bool
 | []=>true
 | c::cs=>dw c && bg cs
def iy (P:Program){α:Type} : Sem α→Option α
 | .pure a=>some a
 | .program k=>iy P (k P)
 | .mark _ k=>iy P k
 | _=>none
def loK:IntKind→Int
 | .i8 => -128 | .i16 => -32768 | .i32 => -2147483648 | .i64 => -9223372036854775808
 | _=>0
def hiK:IntKind→Int
 | .i8=>127 | .i16=>32767 | .i32=>2147483647 | .i64=>9223372036854775807
 | .u8=>255 | .u16=>65535 | .u32=>4294967295 | .u64=>18446744073709551615
def bA (k:IntKind)(n:Int):Int:=bif decide (loK k≤n) && decide (n≤hiK k) then n else k.wrap n
def bj (op:BinOp)(k:IntKind)(a b:Int):Option Value :=
 match op with
 | .add=>some (.int k (bA k (a+b)))
 | .sub=>some (.int k (bA k (a - b)))
 | .mul=>some (.int k (bA k (a*b)))
 | .quo=>if b=0 then none else some (.int k (bA k (a.tdiv b)))
 | .rem=>if b=0 then none else some (.int k (a.tmod b))
 | .eql=>some (.bool (a == b))
 | .neq=>some (.bool (a != b))
 | .lss=>some (.bool (decide (a<b)))
 | .leq=>some (.bool (decide (a≤b)))
 | .gtr=>some (.bool (decide (a > b)))
 | .geq=>some (.bool (decide (a ≥ b)))
 | _=>none
def mkStr (l:List UInt8):ByteArray:=⟨l.toArray⟩
def bK (s:ByteArray):List UInt8:=s.data.toList
def ltL:List UInt8→List UInt8→Bool
 | _,[]=>false
 | [],_::_=>true
 | a::x,b::y=>bif a.toNat.blt b.toNat then true else (a.toNat == b.toNat) && ltL x y
def eqL:List UInt8→List UInt8→Bool
 | [],[]=>true
 | a::x,b::y=>(a.toNat == b.toNat) && eqL x y
 | _,_=>false
def fl (op:BinOp)(a b:ByteArray):Option Value :=
 match op with
 | .add=>if (((bK a).length+(bK b).length:Nat):Int) > 9223372036854775807 then none else some (.string (mkStr (bK a++bK b)))
 | .eql=>some (.bool (eqL (bK a) (bK b)))
 | .neq=>some (.bool !(eqL (bK a) (bK b)))
 | .lss=>some (.bool (ltL (bK a) (bK b)))
 | .leq=>some (.bool (ltL (bK a) (bK b) || eqL (bK a) (bK b)))
 | .gtr=>some (.bool !(ltL (bK a) (bK b) || eqL (bK a) (bK b)))
 | .geq=>some (.bool !(ltL (bK a) (bK b)))
 | _=>none
def j5:List PV→Option (List Value)
 | []=>some []
 | .sc v::r=>match j5 r with
  | some l=>some (v::l)
  | none=>none
 | _=>none
def ED:PV→Bool
 | .imm len _ _=>len != 0
 | .own .. => true
 | _=>false
def Aw:PV→Bool
 | .sc (.slice none 0 0)=>true
 | _=>false
def au (P:Program)(op:BinOp)(t:TypeId)(k:IntKind)(m:Int)(k':IntKind)(n:Int):Option PV :=
 match (if k=k' then bj op k m n else none) with
 | some v=>some (.sc v)
 | none=>(iy P (binOp op t (.int k m) (.int k' n))).map aw
def dE (T:Tab)(op:BinOp)(t:TypeId)(m n:Bool):Option PV :=
 match op,und T t with
 | .eql,some .bool=>some (.sc (.bool (m == n)))
 | .neq,some .bool=>some (.sc (.bool (m != n)))
 | _,_=>none
def Hp (T:Tab)(op:BinOp)(t:TypeId)(x:PV):Option PV :=
 match op,und T t,ED x,Aw x with
 | .eql,some (.slice _),true,_=>some (.sc (.bool false))
 | .neq,some (.slice _),true,_=>some (.sc (.bool true))
 | .eql,some (.slice _),false,true=>some (.sc (.bool true))
 | .neq,some (.slice _),false,true=>some (.sc (.bool false))
 | _,_,_,_=>none
def Hr (P:Program)(op:BinOp)(t:TypeId)(m n:List PV):Option PV :=
 match j5 m,j5 n with
 | some u,some v=>(iy P (do eqGuard op t (.const undef) (.const undef) (.agg u.toArray) (.agg v.toArray);binOp op t (.agg u.toArray) (.agg v.toArray))).map aw
 | _,_=>none
def bd (P:Program)(T:Tab)(op:BinOp)(t:TypeId)(a b:PV):Option PV :=
 match a,b with
 | .sc (.int k m),.sc (.int k' n)=>au P op t k m k' n
 | .sc (.string m),.sc (.string n)=>(fl op m n).map .sc
 | .sc (.bool m),.sc (.bool n)=>dE T op t m n
 | x,.sc (.slice none 0 0)=>Hp T op t x
 | .agg m,.agg n=>Hr P op t m n
 | _,_=>none
def unP (op:UnOp)(a:PV):Option PV :=
 match op,a with
 | .neg,.sc (.int k n)=>some (.sc (.int k (bA k (0 - n))))
 | .not,.sc (.bool b)=>some (.sc (.bool !b))
 | _,_=>none
def jo:List PV→Option (List UInt8)
 | []=>some []
 | .sc (.int .u8 n)::r=>match jo r with
  | some l=>some (UInt8.ofNat n.toNat::l)
  | none=>none
 | _=>none
def fO (hp:List Blk)(s:Nat):PV→Option (Nat × List PV × List Nat)
 | .sc (.slice none 0 0)=>some (0,[],[])
 | .imm len _ cs=>if cs.length=len*s then some (len,cs,[]) else none
 | .own id s' off len _ =>
  match aV hp id with
  | some ⟨st,cs⟩ =>
   if st = .dead∨s'≠s then none
   else match bG (br cs off) (len*s) with
    | some l=>some (len,l,[id])
    | none=>none
  | none=>none
 | _=>none
def ef:PV→Option Nat
 | .sc (.slice none 0 0)=>some 0
 | .imm len _ _=>some len
 | .own _ _ _ len _=>some len
 | _=>none
def dF (T:Tab)(hp:List Blk)(src dst:TypeId)(a:PV):Option (PV × List Nat) :=
 match und T src,und T dst,a with
 | some _,some (.int k),.sc (.int _ n)=>some (.sc (.int k (bA k n)),[])
 | some _,some .string,.sc (.string s)=>some (.sc (.string s),[])
 | some .string,some (.slice e),.sc (.string s) =>
  match und T e with
  | some (.int .u8)=>some (.imm (bK s).length false ((bK s).map fun b=>PV.sc (.int .u8 b.toNat)),[])
  | _=>none
 | some (.slice e),some .string,x =>
  match und T e with
  | some (.int .u8) =>
   match fO hp 1 x with
   | some (_,cs,ids)=>match jo cs with
    | some l=>some (PV.sc (.string (mkStr l)),ids)
    | none=>none
   | none=>none
  | _=>none
 | _,_,_=>none
def cY:Nat:=1099511627776
def cn:Nat:=128
def aO (hp:List Blk)(cs:List PV):List Blk:=hp++[⟨.live,cs⟩]
def aU (hp:List Blk):PV→Option (List PV × List Nat)
 | .ptr id off =>
  match aV hp id with
  | some ⟨st,cs⟩=>if st = .dead then none else some (br cs off,[id])
  | none=>none
 | .iptr cs=>some (cs,[])
 | _=>none
def dR (place:Nat→Option (Nat × Nat))(cells:List PV):List (Nat × PV)→Option (List PV)
 | []=>some cells
 | (i,v)::rest =>
  match place i,v.cells? with
  | some (off,size),some cs =>
   if cs.length=size then
    match cj cells off cs with
    | some l=>dR place l rest
    | none=>none
   else none
  | _,_=>none
def jM (T:Tab)(fields:Array Field)(i:Nat):Option (Nat × Nat) :=
 match fields[i]? with
 | some f=>(dc T f.type).map fun n=>(f.offset,n)
 | none=>none
def eN (T:Tab)(t:TypeId)(parts:List (Nat × PV)):Option PV :=
 match eK T t,und T t with
 | some zs,some (.struct fields) =>
  if fields.toList.all (fun f=>(dc T f.type).isSome) then (dR (jM T fields) zs parts).map .agg else none
 | some zs,some (.array _ e) =>
  match dc T e with
  | some s=>(dR (fun i=>some (i*s,s)) zs parts).map .agg
  | none=>none
 | _,_=>none
def ie (T:Tab)(t:TypeId)(len:Nat)(parts:List (Nat × PV)):Option (Nat × List PV) :=
 match und T t with
 | some (.slice e) =>
  match dc T e,eK T e with
  | some s,some zs =>
   if len*s≤16777216∧zs.length=s then (dR (fun i=>some (i*s,s)) (rep len zs) parts).map fun l=>(s,l) else none
  | _,_=>none
 | _=>none
def fX:PV→Option Nat
 | .sc (.int _ (.ofNat n))=>some n
 | _=>none
def fk (d:Nat):Option PV→Option Nat
 | none=>some d
 | some v=>fX v
def bnd (len:Nat)(lo hi mx:Option PV):Option (Nat × Nat × Option Nat) :=
 match fk 0 lo,fk len hi,mx,hi with
 | some l,some h,none,_=>if l≤h∧h≤len then some (l,h,none) else none
 | some l,some h,some m,some _=>match fX m with
  | some m=>if l≤h∧h≤m∧m≤len then some (l,h,some m) else none
  | none=>none
 | _,_,_,_=>none
def gT (x:Bool)(len h:Nat):Option Nat→Bool
 | none=>x && h == len
 | some m=>h == m
def dT (s:ByteArray)(lo hi mx:Option PV):Option PV :=
 match bnd (bK s).length lo hi mx with
 | some (l,h,none)=>some (.sc (.string (mkStr (((bK s).take h).drop l))))
 | _=>none
def im (T:Tab)(e:TypeId)(x:PV)(lo hi mx:Option PV):Option PV :=
 match dc T e with
 | none=>none
 | some s =>
  match x with
  | .sc (.slice none 0 0)=>match bnd 0 lo hi mx with
   | some _=>some (.sc (.slice none 0 0))
   | none=>none
  | .imm len x cs=>match bnd len lo hi mx with
   | some (l,h,m)=>if cs.length=len*s then (bG (br cs (l*s)) ((h - l)*s)).map fun c=>.imm (h - l) (gT x len h m) c else none
   | none=>none
  | .own id s' off len x=>match bnd len lo hi mx with
   | some (l,h,m)=>if s=s' then some (.own id s (off+l*s) (h - l) (gT x len h m)) else none
   | none=>none
  | _=>none
def px (T:Tab)(hp:List Blk)(n:Nat)(e:TypeId)(x:PV)(lo hi mx:Option PV):Option PV :=
 match dc T e,bnd n lo hi mx with
 | some s,some (l,h,m) =>
  match x with
  | .ptr id off=>match aV hp id with
   | some ⟨.live,cs⟩=>if off+n*s≤cs.length then some (.own id s (off+l*s) (h - l) (gT true n h m)) else none
   | _=>none
  | .iptr cs=>(bG (br cs (l*s)) ((h - l)*s)).map fun c=>.imm (h - l) (gT true n h m) c
  | _=>none
 | _,_=>none
def dt (T:Tab)(hp:List Blk)(t:TypeId)(x:PV)(lo hi mx:Option PV):Option PV :=
 match und T t with
 | some .string=>match x with
  | .sc (.string s)=>dT s lo hi mx
  | _=>none
 | some (.slice e)=>im T e x lo hi mx
 | some (.array n e)=>px T hp n e x lo hi mx
 | _=>none
def bL (T:Tab)(t:TypeId)(x:PV)(i:Nat):Option PV :=
 match und T t with
 | some (.struct fields) =>
  match fields[i]? with
  | some f =>
   match dc T f.type,x with
   | some (_+1),.ptr id off=>some (.ptr id (off+f.offset))
   | some (_+1),.iptr cs=>some (.iptr (br cs f.offset))
   | _,_=>none
  | none=>none
 | _=>none
def GS (T:Tab)(t:TypeId)(x:PV)(i:Nat):Option PV :=
 match und T t,x with
 | some (.struct fields),.agg cs =>
  match fields[i]? with
  | some f=>partOf T f.type (br cs f.offset)
  | none=>none
 | _,_=>none
def bc (T:Tab)(t:TypeId)(x ix:PV):Option PV :=
 match und T t,fX ix with
 | some (.slice e),some i =>
  match dc T e,x with
  | some s,.imm len _ cs=>if i<len then some (.iptr (br cs (i*s))) else none
  | some s,.own id s' off len _=>if i<len∧s=s' then some (.ptr id (off+i*s)) else none
  | _,_=>none
 | some (.array n e),some i =>
  match dc T e,x with
  | some s,.ptr id off=>if i<n then some (.ptr id (off+i*s)) else none
  | some s,.iptr cs=>if i<n then some (.iptr (br cs (i*s))) else none
  | _,_=>none
 | _,_=>none
def CH:List UInt8→Nat→Option UInt8
 | [],_=>none
 | a::_,0=>some a
 | _::l,n+1=>CH l n
def hZ (T:Tab)(t:TypeId)(x ix:PV):Option PV :=
 match und T t,x,fX ix with
 | some (.array n e),.agg cs,some i =>
  match dc T e with
  | some s=>if i<n then partOf T e (br cs (i*s)) else none
  | none=>none
 | some .string,.sc (.string s),some i=>(CH (bK s) i).map fun b=>.sc (.int .u8 b.toNat)
 | _,_,_=>none
def bM (T:Tab)(t:TypeId)(x:PV):Option PV :=
 match und T t,x with
 | some .string,.sc (.string s)=>some (.sc (.int .i64 ((bK s).length:Nat)))
 | some (.array n _),_=>some (.sc (.int .i64 (n:Nat)))
 | some (.slice _),x=>(ef x).map fun n=>.sc (.int .i64 (n:Nat))
 | _,_=>none
def df (hp:List Blk)(s:Nat)(x:PV)(n:Nat)(new:List PV):Option (PV × List Blk × FP) :=
 match x with
 | .sc (.slice none 0 0) =>
  if n=0 then some (x,hp,FP.none)
  else if n≤cY then some (.own hp.length s 0 n false,aO hp new,⟨[],[hp.length],true,false⟩) else none
 | .imm len true cs =>
  if n=0 then some (x,hp,FP.none)
  else if len+n≤cY∧cs.length=len*s then some (.own hp.length s 0 (len+n) false,aO hp (cs++new),⟨[],[hp.length],true,false⟩) else none
 | .own id s' off len true =>
  if s≠s' then none
  else if n=0 then some (x,hp,FP.none)
  else match aV hp id with
   | some ⟨st,cs⟩ =>
    if st = .dead then none
    else match bG (br cs off) (len*s) with
     | some l=>if len+n≤cY then some (.own hp.length s 0 (len+n) false,aO hp (l++new),⟨[id],[hp.length],true,false⟩) else none
     | none=>none
   | none=>none
 | .own id s' off len false =>
  if s≠s' then none
  else match aV hp id with
   | some ⟨.live,cs⟩ =>
    match bG (br cs off) (len*s) with
    | some l=>if len+n≤cY then some (.own hp.length s 0 (len+n) false,aO (bO hp id ⟨.dead,[]⟩) (l++new),⟨[],[id,hp.length],true,false⟩) else none
    | none=>none
   | _=>none
 | _=>none
def lZ (isMax:Bool):List PV→Option PV
 | [x]=>some x
 | .sc (.int k a) :: .sc (.int k' b)::r =>
  if k=k' then
   match r with
   | []=>some (.sc (.int k (if isMax then (if b > a then b else a) else (if b<a then b else a))))
   | _=>none
  else none
 | _=>none
def an (fr:List PV):Operand→PV
 | .tmp t=>nth fr t
 | .const v=>aw v
 | .global _=>.any
 | .func f=>.sc (.func (.func f) #[] #[])
def aF (fr:List PV)(dst:Option Tmp)(v:PV):List PV :=
 match dst with
 | some d=>fm fr d v
 | none=>fr
def oP:TypeDesc→PV→Bool
 | .int k,.sc (.int k' _)=>decide (k=k')
 | .string,.sc (.string _)=>true
 | .bool,.sc (.bool _)=>true
 | _,_=>false
def oU:List PV→List PV→Option Bool
 | [],[]=>some true
 | .sc (.int i m)::a,.sc (.int j n)::b=>if i=j then (match m == n with
  | true=>oU a b
  | false=>some false) else none
 | _,_=>none
def yT (q:IntKind):List PV→Bool
 | []=>true
 | .sc (.int k _)::l=>decide (k=q) && yT q l
 | _=>false
def pY:PV→PV→Option Bool
 | .sc (.int i m),.sc (.int j n)=>if i=j then some (m == n) else none
 | .sc (.string s),.sc (.string t)=>some (eqL (bK s) (bK t))
 | .sc (.bool a),.sc (.bool b)=>some (a == b)
 | .agg a,.agg b=>oU a b
 | _,_=>none
def Dk (k:PV):List PV→Option (Option PV)
 | []=>some none
 | [_]=>none
 | a::v::r=>match pY k a with
  | some true=>some (some v)
  | some false=>Dk k r
  | none=>none
def Cn (k v:PV):List PV→Option (List PV)
 | []=>some [k,v]
 | [_]=>none
 | a::x::r=>match pY k a with
  | some true=>some (k::v::r)
  | some false=>match Cn k v r with
   | some l=>some (a::x::l)
   | none=>none
  | none=>none
def Du (k:PV):List PV→Option (List PV)
 | []=>some []
 | [_]=>none
 | a::x::r=>match pY k a with
  | some true=>some r
  | some false=>match Du k r with
   | some l=>some (a::x::l)
   | none=>none
  | none=>none
def mapOf (hp:List Blk):PV→Option (List PV × List Nat)
 | .sc (.map none)=>some ([],[])
 | .mp id=>match aV hp id with
  | some ⟨.dead,.any::kvs⟩=>some (kvs,[id])
  | _=>none
 | _=>none
def zeroV (T:Tab)(t:TypeId):Option PV:=match T t with
 | some { zero:=some z,.. } => some (aw z)
 | _=>none
def UF (T:Tab)(n:Nat)(e:TypeId)(k:PV):Bool:=match und T e,dc T e,k with
 | some (.int q),some s,.agg cs=>s == 1 && cs.length == n && yT q cs
 | _,_,_=>false
def C1 (T:Tab)(kt:TypeId)(k:PV):Bool:=match und T kt with
 | some (.array n e)=>UF T n e k
 | some d=>oP d k
 | none=>false
def yM (T:Tab)(hp:List Blk)(t:TypeId)(m k:PV)(ok:Bool):Option (PV × List Nat) :=
 match und T t,mapOf hp m with
 | some (.map kt e),some (kvs,ids)=>if C1 T kt k then
   (match Dk k kvs,zeroV T e with
   | some (some v),_=>some (if ok then .tup [v,.sc (.bool true)] else v,ids)
   | some none,some z=>some (if ok then .tup [z,.sc (.bool false)] else z,ids)
   | _,_=>none) else none
 | _,_=>none
def zE (T:Tab)(hp:List Blk)(t:TypeId)(m k x:PV):Option (List Blk × Nat) :=
 match und T t,m with
 | some (.map kt _),.mp id=>if C1 T kt k then
   (match aV hp id with
   | some ⟨.dead,.any::kvs⟩=>match Cn k x kvs with
    | some l=>some (bO hp id ⟨.dead,.any::l⟩,id)
    | none=>none
   | _=>none) else none
 | _,_=>none
def Dt (T:Tab)(hp:List Blk)(t:TypeId)(m k:PV):Option (List Blk × Nat) :=
 match und T t,m with
 | some (.map kt _),.mp id=>if C1 T kt k then
   (match aV hp id with
   | some ⟨.dead,.any::kvs⟩=>match Du k kvs with
    | some l=>some (bO hp id ⟨.dead,.any::l⟩,id)
    | none=>none
   | _=>none) else none
 | _,_=>none
def C9:List PV→Nat
 | _::_::r=>C9 r+1
 | _=>0
def MB (T:Tab)(hp:List Blk)(t:TypeId)(m:PV):Option (PV × List Nat) :=
 match und T t,mapOf hp m with
 | some (.map _ _),some (kvs,ids)=>some (.sc (.int .i64 (C9 kvs:Nat)),ids)
 | _,_=>none
def aj (P:Program)(T:Tab)(fr:List PV)(hp:List Blk)(o:Op):Option (PV × List Blk × FP) :=
 let ρ:=an fr
 let v (x:Option PV):Option (PV × List Blk × FP):=match x with | some x=>some (x,hp,FP.none) | none=>none
 let undefP:PV:=.sc undef
 match o with
 | .move x | .assign x=>some (ρ x,hp,FP.none)
 | .pick c a b=>match ρ c with
  | .sc (.bool true)=>some (ρ a,hp,FP.none)
  | .sc (.bool false)=>some (ρ b,hp,FP.none)
  | _=>none
 | .alloc e=>match eK T e with
  | some zs=>some (.ptr hp.length 0,aO hp zs,⟨[],[hp.length],true,false⟩)
  | none=>none
 | .box _ x=>match (ρ x).cells? with
  | some cs=>some (.ptr hp.length 0,aO hp cs,⟨[],[hp.length],true,false⟩)
  | none=>none
 | .build t parts=>v (eN T t (parts.toList.map fun (i,x)=>(i,ρ x)))
 | .buildSlice t len parts=>match ie T t len (parts.toList.map fun (i,x)=>(i,ρ x)) with
  | some (s,cs) =>
   if cq cs then some (.imm len true cs,hp,FP.none)
   else some (.own hp.length s 0 len true,aO hp cs,⟨[],[hp.length],true,false⟩)
  | none=>none
 | .load t a=>match aU hp (ρ a) with
  | some (cs,ids)=>match partOf T t cs with
   | some x=>some (x,hp,⟨ids,[],false,false⟩)
   | none=>none
  | none=>none
 | .store t a x=>match ρ a,(ρ x).cells?,dc T t with
  | .ptr id off,some cs,some n =>
   if cs.length=n∧bg cs then
    match aV hp id with
    | some ⟨.live,old⟩=>match cj old off cs with
     | some l=>some (undefP,bO hp id ⟨.live,l⟩,⟨[],[id],false,false⟩)
     | none=>none
    | _=>none
   else none
  | _,_,_=>none
 | .nilCheck x=>match ρ x with
  | .ptr id off=>some (.ptr id off,hp,FP.none)
  | .iptr cs=>some (.iptr cs,hp,FP.none)
  | .clos f cs=>some (.clos f cs,hp,FP.none)
  | .bmet f cs=>some (.bmet f cs,hp,FP.none)
  | .sc (.func (.func f) a b)=>some (.sc (.func (.func f) a b),hp,FP.none)
  | _=>none
 | .binOp op t x y _=>v (bd P T op t (ρ x) (ρ y))
 | .unOp op _ x=>v (unP op (ρ x))
 | .convert src dst x=>match dF T hp src dst (ρ x) with
  | some (r,ids)=>some (r,hp,⟨ids,[],false,false⟩)
  | none=>none
 | .makeFunc (.func f) first captured=>if first.size=0 then some (.clos f (captured.toList.map ρ),hp,FP.none) else if captured.size=0 then some (.bmet f (first.toList.map ρ),hp,FP.none) else none
 | .makeSlice t l c=>match und T t,fX (ρ l),fX (ρ c) with
  | some (.slice e),some l,some c =>
   match eK T e,dc T e,iT T e with
   | some zs,some s,some by_ =>
    if l≤c∧c≤cY∧by_≤cn∧zs.length=s then some (.own hp.length s 0 l (l == c),aO hp (rep l zs),⟨[],[hp.length],true,false⟩) else none
   | _,_,_=>none
  | _,_,_=>none
 | .slice t x lo hi mx=>match dt T hp t (ρ x) (lo.map ρ) (hi.map ρ) (mx.map ρ) with
  | some r=>some (r,hp,match ρ x with | .ptr id _=>⟨[id],[],false,false⟩| _=>FP.none)
  | none=>none
 | .fieldAddr t x i=>v (bL T t (ρ x) i)
 | .field t x i=>v (GS T t (ρ x) i)
 | .indexAddr t x i=>v (bc T t (ρ x) (ρ i))
 | .index t x i=>v (hZ T t (ρ x) (ρ i))
 | .extract x i=>match ρ x with
  | .tup cs=>match cs[i]? with
   | some c=>some (c,hp,FP.none)
   | none=>none
  | _=>none
 | .makeMap _ none=>some (.mp hp.length,hp++[⟨.dead,[.any]⟩],⟨[],[hp.length],true,false⟩)
 | .lookup t x k ok=>match yM T hp t (ρ x) (ρ k) ok with
  | some (v,ids)=>some (v,hp,⟨ids,[],false,false⟩)
  | none=>none
 | .mapUpdate t m k x=>match zE T hp t (ρ m) (ρ k) (ρ x) with
  | some (hp',id)=>some (undefP,hp',⟨[],[id],false,false⟩)
  | none=>none
 | .insert t m k x=>match zE T hp t (ρ m) (ρ k) (ρ x) with
  | some (hp',id)=>some (undefP,hp',⟨[],[id],false,false⟩)
  | none=>none
 | .call { callee:=.builtin b,args,argTypes } =>
  match b,args.toList.map ρ,argTypes.toList with
  | .len,[x],[t]=>match bM T t x with
   | some r=>some (r,hp,FP.none)
   | none=>match MB T hp t x with
    | some (r,ids)=>some (r,hp,⟨ids,[],false,false⟩)
    | none=>none
  | .delete,[m,k],[t,_]=>match Dt T hp t m k with
   | some (hp',id)=>some (.tup [],hp',⟨[],[id],false,false⟩)
   | none=>none
  | .max,l,_=>v (lZ true l)
  | .min,l,_=>v (lZ false l)
  | .append,[x,y],[t,t'] =>
   match und T t,und T t' with
   | some (.slice e),some (.slice _) =>
    match dc T e,iT T e,eK T e with
    | some s,some by_,some zs =>
     if by_≤cn∧zs.length=s then
      match fO hp s y with
      | some (n,new,ids) =>
       if bg new then match df hp s x n new with
        | some (r,hp',fp)=>some (r,hp',⟨ids++fp.rd,fp.wr,fp.al,false⟩)
        | none=>none
       else none
      | none=>none
     else none
    | _,_,_=>none
   | some (.slice e),some .string =>
    match y with
    | .sc (.string str)=>match und T e,dc T e,iT T e,eK T e with
     | some (.int .u8),some 1,some 1,some [_]=>match df hp 1 x (bK str).length ((bK str).map fun b=>.sc (.int .u8 b.toNat)) with
      | some (r,hp',fp)=>some (r,hp',fp)
      | none=>none
     | _,_,_,_=>none
    | _=>none
   | _,_=>none
  | .copy,[x,y],[t,_] =>
   match und T t,x with
   | some (.slice e),.own id s' off len _ =>
    match dc T e with
    | some s =>
     if s=s' then
      match fO hp s y with
      | some (n,src,ids) =>
       match aV hp id with
       | some ⟨.live,old⟩ =>
        match bG src (Nat.min n len*s) with
        | some new=>if !bg new then none else match cj old off new with
         | some l=>some (.sc (.int .i64 (Nat.min n len:Nat)),bO hp id ⟨.live,l⟩,⟨ids,[id],false,false⟩)
         | none=>none
        | none=>none
       | _=>none
      | none=>none
     else none
    | none=>none
   | _,_=>none
  | .clear,[x],[t] =>
   match und T t,x with
   | some (.slice e),.own id s' off len _ =>
    match dc T e,eK T e with
    | some s,some zs =>
     if s=s'∧zs.length=s∧bg zs then
      match aV hp id with
      | some ⟨.live,old⟩=>match cj old off (rep len zs) with
       | some l=>some (.tup [],bO hp id ⟨.live,l⟩,⟨[],[id],false,false⟩)
       | none=>none
      | _=>none
     else none
    | _,_=>none
   | _,_=>none
  | _,_,_=>none
 | _=>none
def bt (f:PV→Option (PV × List Nat)):List PV→Option (List PV × List Nat)
 | []=>some ([],[])
 | c::cs=>match f c with
  | some (c',ids)=>match bt f cs with
   | some (l,ids')=>some (c'::l,ids++ids')
   | none=>none
  | none=>none
def snap (hp:List Blk):(depth:Nat)→PV→Option (PV × List Nat)
 | 0,_=>none
 | d+1,pv =>
  match pv with
  | .own id s off len x =>
   match aV hp id with
   | some ⟨st,cs⟩ =>
    if st = .dead then none
    else match bG (br cs off) (len*s) with
     | some l=>match bt (snap hp d) l with
      | some (l',ids)=>some (.imm len x l',id::ids)
      | none=>none
     | none=>none
   | none=>none
  | .agg cs=>match bt (snap hp d) cs with
   | some (l,ids)=>some (.agg l,ids)
   | none=>none
  | .ptr .. => none
  | .mp _=>none
  | .clos f caps=>if cq caps then some (.clos f caps,[]) else none
  | .bmet .. => none
  | .tup _=>none
  | v=>some (v,[])
def bp:Nat:=12
def py:List PV→Bool
 | []=>true
 | .sc _::r=>py r
 | _=>false
def eo:PV→Bool
 | .sc _=>true
 | .agg cs=>py cs
 | _=>false
def roB (hp:List Blk):List Nat→List Blk
 | []=>hp
 | i::r=>match aV hp i with
  | some ⟨.live,cs⟩=>roB (bO hp i ⟨.ro,cs⟩) r
  | _=>roB hp r
def dS (hp:List Blk):(kept:List Blk)→(K F:List Nat)→List PV→Option (List PV × List Blk)
 | kept,_,_,[]=>some ([],kept)
 | kept,K,F,r::rs =>
  match r with
  | .own id s off len x =>
   match aV hp id with
   | some ⟨.live,cs⟩ =>
    match bt (snap hp bp) cs with
    | some (cs',ids) =>
     if K.contains id || F.contains id || ids.contains id || ids.any K.contains then none
     else match dS hp (kept++[⟨.live,cs'⟩]) (id::K) (ids++F) rs with
      | some (rs',k)=>some (.own kept.length s off len x::rs',k)
      | none=>none
    | none=>none
   | _=>match snap hp bp r with
    | some (r',ids) =>
     if ids.any K.contains then none
     else match dS hp kept K (ids++F) rs with
      | some (rs',k)=>some (r'::rs',k)
      | none=>none
    | none=>none
  | _=>match snap hp bp r with
   | some (r',ids) =>
    if ids.any K.contains then none
    else match dS hp kept K (ids++F) rs with
     | some (rs',k)=>some (r'::rs',k)
     | none=>none
   | none=>none
def aZ (T:Tab)(fr:List PV)(hp:List Blk):List ResultVar→Option (List PV)
 | []=>some []
 | .tmp t::r=>match aZ T fr hp r with
  | some l=>some (nth fr t::l)
  | none=>none
 | .cell a t::r=>match aU hp (nth fr a) with
  | some (cs,_)=>match partOf T t cs,aZ T fr hp r with
   | some x,some l=>some (x::l)
   | _,_=>none
  | none=>none
def qO (n:Nat):PV→PV
 | .own id s off len x=>.own (n+id) s off len x
 | v=>v
structure Cfg where
 P:Program
 T:Tab
 F:FuncId→Option Func
 shared:FuncId→Bool
 orc:FuncId→List PV→Option (List PV)
 sorc:FuncId→Option (List PV→(Nat→Option Blk)→Option (List PV × Option (Nat × Blk))):=fun _=>none
def iO:List PV→PV
 | [r]=>r
 | rs=>.tup rs
abbrev ar:=FuncId→List PV→List Blk→Option (List PV × List Blk × List Nat)
def aC:List Nat→List Nat→List Nat
 | [],l=>l
 | i::r,l=>bif l.contains i then aC r l else aC r (i::l)
mutual
def PV.fq (n:Nat):PV→Bool
 | .own id .. => id.blt n
 | .ptr id _=>id.blt n
 | .mp id=>id.blt n
 | .agg cs=>eA n cs
 | .tup cs=>eA n cs
 | .clos _ cs=>eA n cs
 | .bmet _ cs=>eA n cs
 | _=>true
def eA (n:Nat):List PV→Bool
 | []=>true
 | c::cs=>c.fq n && eA n cs
end
def ig (hp:List Blk)(n:Nat):List Nat→Bool
 | []=>true
 | i::r=>(match aV hp i with
  | some b=>eA n b.cs
  | none=>true) && ig hp n r
def sb:Nat→List Blk→List Blk
 | 0,_=>[]
 | _+1,[]=>[]
 | n+1,a::l=>a::sb n l
def kZ (n:Nat):List Nat→List Nat
 | []=>[]
 | i::r=>bif i.blt n then i::kZ n r else kZ n r
def upto:Nat→Nat→List Nat
 | _,0=>[]
 | a,n+1=>a::upto (a+1) n
def aQ (fr:List PV)(c:Call):Option (FuncId × List PV) :=
 match c.callee with
 | .value f=>match an fr f with
  | .sc (.func (.func g) ⟨[]⟩ ⟨[]⟩)=>some (g,c.args.toList.map (an fr))
  | .clos g caps=>some (g,c.args.toList.map (an fr)++caps)
  | .bmet g fs=>some (g,fs++c.args.toList.map (an fr))
  | _=>none
 | _=>none
def cg (C:Cfg)(run:ar)(dr:Bool)(hp:List Blk)(g:FuncId)(args:List PV):Option (PV × List Blk × FP) :=
 if C.shared g then
  match run g args hp with
  | some (rs,hp',w) =>
   bif cq rs && ig hp' hp.length (kZ hp.length w) then some (iO rs,sb hp.length hp',⟨[],kZ hp.length w,true,true⟩)
   else some (iO rs,hp',⟨[],kZ hp.length w++upto hp.length (hp'.length - hp.length),true,true⟩)
  | none=>none
 else match bt (snap hp bp) args with
  | none=>none
  | some (args',ids) =>
   match C.orc g args' with
   | some rs =>
    bif rs.all eo then some (iO rs,hp,⟨ids,[],false,false⟩)
    else some (iO rs,roB hp ids,⟨ids,ids,false,false⟩)
   | none=>match run g args' [] with
    | none=>none
    | some (rs,hp1,_)=>match dS hp1 [] [] [] rs with
     | none=>none
     | some (rs',kept) =>
      bif rs'.all eo then some (iO rs',hp,⟨ids,[],false,false⟩)
      else some (iO (rs'.map (qO hp.length)),roB hp ids++kept,⟨ids,ids++upto hp.length kept.length, !kept.isEmpty,false⟩)
def ai:Op→Option Call
 | .call c=>match c.callee with
  | .value _=>some c
  | _=>none
 | _=>none
def ag (ops:Array Oper)(fr:List PV)(o:Oper):Option Bool :=
 match o.guard with
 | none=>some true
 | some (j,want) =>
  match (ops[j]?).bind (·.dst) with
  | some d=>match nth fr d with
   | .sc (.bool b)=>some (b == want)
   | .any=>none
   | _=>some false
  | none=>none
def aH (C:Cfg)(run:ar)(dr:Bool)(ops:Array Oper)(o:Oper)(fr:List PV)(hp:List Blk):Option (PV × List Blk × FP) :=
 match ag ops fr o with
 | none=>none
 | some false=>some (.sc undef,hp,FP.none)
 | some true =>
  match ai o.op with
  | some c=>match aQ fr c with
   | some (g,args)=>cg C run dr hp g args
   | none=>none
  | none=>aj C.P C.T fr hp o.op
def aq (C:Cfg)(run:ar)(dr:Bool)(ops:Array Oper)(o:Oper)(st:St):Option (St × FP) :=
 match aH C run dr ops o st.fr st.hp with
 | some (v,hp,fp)=>some (⟨aF st.fr o.dst v,hp,aC fp.wr st.wr⟩,fp)
 | none=>none
def ao (C:Cfg)(run:ar)(dr:Bool)(ops:Array Oper):List Oper→St→Option (St × List FP)
 | [],st=>some (st,[])
 | o::r,st=>match aq C run dr ops o st with
  | some (st',fp)=>match ao C run dr ops r st' with
   | some (st'',fps)=>some (st'',fp::fps)
   | none=>none
  | none=>none
def FP.free (a:FP):Bool:=a.rd.isEmpty && a.wr.isEmpty && !a.al && !a.all
def FP.apart (a b:FP):Bool :=
 !(a.wr.any fun i=>b.rd.contains i || b.wr.contains i) && !(b.wr.any fun i=>a.rd.contains i) && !(a.al && b.al) && !(a.all && !b.wr.isEmpty) && !(b.all && !a.wr.isEmpty)
def cF (bs:Array Nat)(l:List (Nat × FP)):Bool :=
 match l with
 | []=>true
 | (i,a)::r=>r.all (fun (j,b)=>a.apart b || (bs.getD j 0).testBit i) && cF bs r
def number:Nat→List FP→List (Nat × FP)
 | _,[]=>[]
 | n,a::r=>bif a.free then number (n+1) r else (n,a)::number (n+1) r
def aJ (C:Cfg)(run:ar)(ops:Array Oper)(dr:Bool)(st:St):Option St :=
 match ao C run dr ops ops.toList st with
 | some (st',fps) =>
  bif dr then (match number 0 fps with
   | []=>some st'
   | [_]=>some st'
   | l=>bif cF (Region.before ops) l then some st' else none)
  else some st'
 | none=>none
def cl (f:St→Option (Ex × St)):Nat→St→Option (Ex × St)
 | 0,_=>none
 | n+1,st=>match f st with
  | some (.normal,st')=>cl f n st'
  | r=>r
def af (C:Cfg)(run:ar)(n:Nat):Code→St→Option (Ex × St)
 | .skip,st=>some (.normal,st)
 | .label _,st=>some (.normal,st)
 | .region _ ops dr,st=>match aJ C run ops dr st with
  | some st'=>some (.normal,st')
  | none=>none
 | .seq a b,st=>match af C run n a st with
  | some (.normal,st')=>af C run n b st'
  | r=>r
 | .cond c a b,st=>match an st.fr c with
  | .sc (.bool true)=>af C run n a st
  | .sc (.bool false)=>af C run n b st
  | _=>none
 | .block id b,st=>match af C run n b st with
  | some (.exit i,st')=>if i=id then some (.normal,st') else some (.exit i,st')
  | r=>r
 | .loop b,st=>cl (af C run n b) n st
 | .scope b,st=>af C run n b st
 | .exit id,st=>some (.exit id,st)
 | .ret,st=>some (.ret,st)
 | _,_=>none
def entry:Nat→List PV→List PV
 | 0,l=>l
 | n+1,[]=>.sc undef::entry n []
 | n+1,a::l=>a::entry n l
def th (C:Cfg)(run:ar)(n:Nat):ar:=fun g args hp =>
 match C.F g with
 | some fn=>match fn.body with
  | some c=>match af C run n c ⟨entry fn.ntmps args,hp,[]⟩ with
   | some (.normal,st) | some (.ret,st)=>match aZ C.T st.fr st.hp fn.results.toList with
    | some rs=>some (rs,st.hp,st.wr)
    | none=>none
   | _=>none
  | none=>none
 | none=>none
def tF (f:List PV→(Nat→Option Blk)→Option (List PV × Option (Nat × Blk)))(args:List PV)(hp:List Blk):Option (List PV × List Blk × List Nat) :=
 match f args (aV hp) with
 | some (rs,none)=>some (rs,hp,[])
 | some (rs,some (id,b))=>bif id.blt hp.length then some (rs,bO hp id b,[id]) else none
 | none=>none
def runK (C:Cfg):Nat→ar
 | 0=>fun _ _ _=>none
 | k+1=>fun g args hp=>match C.sorc g with
  | some f=>tF f args hp
  | none=>th C (runK C k) k g args hp
def Jr (ops:Array Oper)(oj:Oper)(i:Nat):Bool :=
 match ops[i]? with
 | some oi=>oi.apart ops oj
 | none=>true
def uu (ops:Array Oper):Bool :=
 (List.range ops.size).all fun j=>match ops[j]? with
  | none=>true
  | some oj=>oj.after.all (fun e => !Region.binds .any e || e.on.blt j) && (List.range j).all fun i=>((Region.before ops).getD j 0).testBit i || Jr ops oj i
def gy:Code→Bool
 | .region _ ops dr => !dr || uu ops
 | .seq a b=>gy a && gy b
 | .cond _ a b=>gy a && gy b
 | .block _ b=>gy b
 | .loop b=>gy b
 | .scope b=>gy b
 | _=>true
end Go.Ab
