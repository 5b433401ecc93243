/- An abstract interpreter over the model's code and its soundness, part 14 of the proof; each lemma states its own conditions. -/
import Derived.Test.YtjdmodeenbdfpaaGreatQ12
set_option linter.unusedSimpArgs false
set_option linter.unusedVariables false
namespace Go.Ab
open Go
inductive Dlt where
 | no
 | al (cs:List PV)
 | wr (id:Nat) (b:Blk)
 | wa (id:Nat) (b:Blk) (cs:List PV)
 | am
inductive FT (α:Type) where
 | lf
 | nd (v:α) (l r:FT α)
noncomputable def FT.get {α:Type}(t:FT α):Nat→Option α :=
 FT.rec (fun _=>.none) (fun v _ _ ihl ihr k=>Bool.rec (Bool.rec (ihr (Nat.sub (Nat.div k 2) 1)) (ihl (Nat.div k 2)) (Nat.beq (Nat.mod k 2) 1)) (.some v) (Nat.beq k 0)) t
noncomputable def FT.put {α β:Type}(t:FT α):Nat→α→(FT α→Option β)→Option β :=
 FT.rec (fun k v c=>Bool.rec .none (c (.nd v .lf .lf)) (Nat.beq k 0))
  (fun a l r ihl ihr k v c=>Bool.rec (Bool.rec (ihr (Nat.sub (Nat.div k 2) 1) v (fun r'=>c (.nd a l r'))) (ihl (Nat.div k 2) v (fun l'=>c (.nd a l' r))) (Nat.beq (Nat.mod k 2) 1)) (c (.nd v l r)) (Nat.beq k 0)) t
noncomputable def FT.fill (u:PV)(d:Nat):FT PV:=Nat.rec .lf (fun _ ih=>.nd u ih ih) d
noncomputable def fcN {β:Type}(n:Nat)(c:Nat→β):β:=Nat.rec (c 0) (fun m _=>c (Nat.succ m)) n
noncomputable def fcI {β:Type}(n:Int)(c:Int→β):β:=Int.rec (fun n=>fcN n fun n=>c (Int.ofNat n)) (fun n=>fcN n fun n=>c (Int.negSucc n)) n
noncomputable def fcB {β:Type}(b:Bool)(c:Bool→β):β:=Bool.rec (c false) (c true) b
noncomputable def fcV {β:Type}(v:PV)(c:PV→β):β :=
 match v with
 | .sc (.int k n)=>fcI n fun n=>c (.sc (.int k n))
 | .sc (.bool b)=>fcB b fun b=>c (.sc (.bool b))
 | .own id s off len x=>fcN id fun id=>fcN off fun off=>fcN len fun len=>fcB x fun x=>c (.own id s off len x)
 | .ptr id off=>fcN id fun id=>fcN off fun off=>c (.ptr id off)
 | .mp id=>fcN id fun id=>c (.mp id)
 | v=>c v
noncomputable def fcL {β:Type}(l:List PV):(List PV→β)→β :=
 List.rec (fun c=>c []) (fun a _ ih c=>fcV a fun a=>ih fun l=>c (a::l)) l
noncomputable def fcW {β:Type}(l:List Nat):(List Nat→β)→β :=
 List.rec (fun c=>c []) (fun a _ ih c=>fcN a fun a=>ih fun l=>c (a::l)) l
def Jd (rd:Nat→Option Blk)(s:Nat):PV→Option (Nat × List PV × List Nat)
 | .sc (.slice none 0 0)=>some (0,[],[])
 | .imm len _ cs=>if cs.length=len*s then some (len,cs,[]) else none
 | .own id s' off len _ =>
  match rd id with
  | some ⟨st,cs⟩ =>
   if st = .dead∨s'≠s then none
   else match bE (br cs off) (len*s) with
    | some l=>some (len,l,[id])
    | none=>none
  | none=>none
 | _=>none
def aaM (T:Tab)(rd:Nat→Option Blk)(src dst:TypeId)(a:PV):Option (PV × List Nat) :=
 match und T src,und T dst,a with
 | some _,some (.int k),.sc (.int _ n)=>some (.sc (.int k (bA k n)),[])
 | some _,some .string,.sc (.string s)=>some (.sc (.string s),[])
 | some .string,some (.slice e),.sc (.string s) =>
  match und T e with
  | some (.int .u8)=>some (.imm (bH s).length false ((bH s).map fun b=>PV.sc (.int .u8 b.toNat)),[])
  | _=>none
 | some (.slice e),some .string,x =>
  match und T e with
  | some (.int .u8) =>
   match Jd rd 1 x with
   | some (_,cs,ids)=>match jg cs with
    | some l=>some (PV.sc (.string (mkStr l)),ids)
    | none=>none
   | none=>none
  | _=>none
 | _,_,_=>none
def Br (rd:Nat→Option Blk):PV→Option (List PV × List Nat)
 | .ptr id off =>
  match rd id with
  | some ⟨st,cs⟩=>if st = .dead then none else some (br cs off,[id])
  | none=>none
 | .iptr cs=>some (cs,[])
 | _=>none
def KV (T:Tab)(rd:Nat→Option Blk)(n:Nat)(e:TypeId)(x:PV)(lo hi mx:Option PV):Option PV :=
 match cR T e,bnd n lo hi mx with
 | some s,some (l,h,m) =>
  match x with
  | .ptr id off=>match rd id with
   | some ⟨.live,cs⟩=>if off+n*s≤cs.length then some (.own id s (off+l*s) (h - l) (gE true n h m)) else none
   | _=>none
  | .iptr cs=>(bE (br cs (l*s)) ((h - l)*s)).map fun c=>.imm (h - l) (gE true n h m) c
  | _=>none
 | _,_=>none
def OZ (T:Tab)(rd:Nat→Option Blk)(t:TypeId)(x:PV)(lo hi mx:Option PV):Option PV :=
 match und T t with
 | some .string=>match x with
  | .sc (.string s)=>dF s lo hi mx
  | _=>none
 | some (.slice e)=>iJ T e x lo hi mx
 | some (.array n e)=>KV T rd n e x lo hi mx
 | _=>none
def ua (rd:Nat→Option Blk)(n0:Nat)(s:Nat)(x:PV)(n:Nat)(new:List PV):Option (PV × Dlt × FP) :=
 match x with
 | .sc (.slice none 0 0) =>
  if n=0 then some (x,.no,FP.none)
  else if n≤cL then some (.own n0 s 0 n false,.al new,⟨[],[n0],true,false⟩) else none
 | .imm len true cs =>
  if n=0 then some (x,.no,FP.none)
  else if len+n≤cL∧cs.length=len*s then some (.own n0 s 0 (len+n) false,.al (cs++new),⟨[],[n0],true,false⟩) else none
 | .own id s' off len true =>
  if s≠s' then none
  else if n=0 then some (x,.no,FP.none)
  else match rd id with
   | some ⟨st,cs⟩ =>
    if st = .dead then none
    else match bE (br cs off) (len*s) with
     | some l=>if len+n≤cL then some (.own n0 s 0 (len+n) false,.al (l++new),⟨[id],[n0],true,false⟩) else none
     | none=>none
   | none=>none
 | .own id s' off len false =>
  if s≠s' then none
  else match rd id with
   | some ⟨.live,cs⟩ =>
    match bE (br cs off) (len*s) with
    | some l=>if len+n≤cL then some (.own n0 s 0 (len+n) false,.wa id ⟨.dead,[]⟩ (l++new),⟨[],[id,n0],true,false⟩) else none
    | none=>none
   | _=>none
 | _=>none
def SB (rd:Nat→Option Blk):PV→Option (List PV × List Nat)
 | .sc (.map none)=>some ([],[])
 | .mp id=>match rd id with
  | some ⟨.dead,.any::kvs⟩=>some (kvs,[id])
  | _=>none
 | _=>none
def aaF (T:Tab)(rd:Nat→Option Blk)(t:TypeId)(m k:PV)(ok:Bool):Option (PV × List Nat) :=
 match und T t,SB rd m with
 | some (.map kt e),some (kvs,ids)=>if tf T kt k then
   (match zF k kvs,zeroV T e with
   | some (some v),_=>some (if ok then .tup [v,.sc (.bool true)] else v,ids)
   | some none,some z=>some (if ok then .tup [z,.sc (.bool false)] else z,ids)
   | _,_=>none) else none
 | _,_=>none
def aa9 (T:Tab)(rd:Nat→Option Blk)(t:TypeId)(m k x:PV):Option (Blk × Nat) :=
 match und T t,m with
 | some (.map kt _),.mp id=>if tf T kt k then
   (match rd id with
   | some ⟨.dead,.any::kvs⟩=>match yX k x kvs with
    | some l=>some (⟨.dead,.any::l⟩,id)
    | none=>none
   | _=>none) else none
 | _,_=>none
def ady (T:Tab)(rd:Nat→Option Blk)(t:TypeId)(m k:PV):Option (Blk × Nat) :=
 match und T t,m with
 | some (.map kt _),.mp id=>if tf T kt k then
   (match rd id with
   | some ⟨.dead,.any::kvs⟩=>match zQ k kvs with
    | some l=>some (⟨.dead,.any::l⟩,id)
    | none=>none
   | _=>none) else none
 | _,_=>none
def ae0 (T:Tab)(rd:Nat→Option Blk)(t:TypeId)(m:PV):Option (PV × List Nat) :=
 match und T t,SB rd m with
 | some (.map _ _),some (kvs,ids)=>some (.sc (.int .i64 (DP kvs:Nat)),ids)
 | _,_=>none
abbrev Rv:=Option (PV × Dlt × FP)
abbrev et:=Program→Tab→(Operand→PV)→(Nat→Option Blk)→Nat→Rv
def okV (x:Option PV):Rv:=match x with | some x=>some (x,.no,FP.none) | none=>none
def hiN:IntKind→Nat
 | .i8=>127 | .i16=>32767 | .i32=>2147483647 | .i64=>9223372036854775807
 | .u8=>255 | .u16=>65535 | .u32=>4294967295 | .u64=>18446744073709551615
def afj (k:IntKind)(a b:Nat):Option Value:=bif Nat.ble (Nat.add a b) (hiN k) then some (.int k (Int.ofNat (Nat.add a b))) else bf .add k (Int.ofNat a) (Int.ofNat b)
def ae8 (k:IntKind)(a b:Nat):Option Value:=bif Nat.ble b a && Nat.ble (Nat.sub a b) (hiN k) then some (.int k (Int.ofNat (Nat.sub a b))) else bf .sub k (Int.ofNat a) (Int.ofNat b)
def afd (k:IntKind)(a b:Nat):Option Value:=bif Nat.ble (Nat.mul a b) (hiN k) then some (.int k (Int.ofNat (Nat.mul a b))) else bf .mul k (Int.ofNat a) (Int.ofNat b)
def afb (k:IntKind)(a b:Nat):Option Value:=bif Nat.beq b 0 then none else bif Nat.ble (Nat.div a b) (hiN k) then some (.int k (Int.ofNat (Nat.div a b))) else bf .quo k (Int.ofNat a) (Int.ofNat b)
def afa (k:IntKind)(a b:Nat):Option Value:=bif Nat.beq b 0 then none else some (.int k (Int.ofNat (Nat.mod a b)))
def afi (_:IntKind)(a b:Nat):Option Value:=some (.bool (Nat.beq a b))
def afc (_:IntKind)(a b:Nat):Option Value:=some (.bool (!Nat.beq a b))
def afe (_:IntKind)(a b:Nat):Option Value:=some (.bool (Nat.blt a b))
def aff (_:IntKind)(a b:Nat):Option Value:=some (.bool (Nat.ble a b))
def afg (_:IntKind)(a b:Nat):Option Value:=some (.bool (Nat.blt b a))
def afh (_:IntKind)(a b:Nat):Option Value:=some (.bool (Nat.ble b a))
def ae9 (op:BinOp)(k:IntKind)(a b:Nat):Option Value:=bf op k (Int.ofNat a) (Int.ofNat b)
def adK (op:BinOp):IntKind→Nat→Nat→Option Value :=
 match op with
 | .add=>afj | .sub=>ae8 | .mul=>afd | .quo=>afb | .rem=>afa | .eql=>afi | .neq=>afc | .lss=>afe | .leq=>aff | .gtr=>afg | .geq=>afh
 | op=>ae9 op
def eqK:IntKind→IntKind→Bool
 | .i8,.i8 | .i16,.i16 | .i32,.i32 | .i64,.i64 | .u8,.u8 | .u16,.u16 | .u32,.u32 | .u64,.u64=>true
 | _,_=>false
def afE (op:BinOp)(k k':IntKind)(a b:Int):Option Value :=
 match a,b with
 | .ofNat a,.ofNat b=>adK op k a b
 | a,b=>bf op k a b
def Z5 (P:Program)(T:Tab)(op:BinOp)(t:TypeId)(a b:PV):Option PV :=
 match a,b with
 | .sc (.int k m),.sc (.int k' n)=>bif eqK k k' then (match afE op k k' m n with | some v=>some (.sc v) | none=>aY P T op t a b) else aY P T op t a b
 | a,b=>aY P T op t a b
def aat (x:Operand):et:=fun _ _ ρ _ _=>some (ρ x,.no,FP.none)
def aas (c a b:Operand):et:=fun _ _ ρ _ _=>match ρ c with
  | .sc (.bool true)=>some (ρ a,.no,FP.none)
  | .sc (.bool false)=>some (ρ b,.no,FP.none)
  | _=>none
def PG (e:TypeId):et:=fun _ T _ _ n0=>match dV T e with
  | some zs=>some (.ptr n0 0,.al zs,⟨[],[n0],true,false⟩)
  | none=>none
def aeD (x:Operand):et:=fun _ _ ρ _ n0=>match (ρ x).cells? with
  | some cs=>some (.ptr n0 0,.al cs,⟨[],[n0],true,false⟩)
  | none=>none
def abq (t:TypeId)(parts:Array (Nat × Operand)):et:=fun _ T ρ _ _=>okV (eJ T t (parts.toList.map fun (i,x)=>(i,ρ x)))
def se (t:TypeId)(len:Nat)(parts:Array (Nat × Operand)):et:=fun _ T ρ _ n0=>match eY T t len (parts.toList.map fun (i,x)=>(i,ρ x)) with
  | some (s,cs) =>
   if bM cs then some (.imm len true cs,.no,FP.none)
   else some (.own n0 s 0 len true,.al cs,⟨[],[n0],true,false⟩)
  | none=>none
def aav (t:TypeId)(a:Operand):et:=fun _ T ρ rd _=>match Br rd (ρ a) with
  | some (cs,ids)=>match partOf T t cs with
   | some x=>some (x,.no,⟨ids,[],false,false⟩)
   | none=>none
  | none=>none
def PB (t:TypeId)(a x:Operand):et:=fun _ T ρ rd _=>match ρ a,(ρ x).cells?,cR T t with
  | .ptr id off,some cs,some n =>
   if cs.length=n∧bc cs then
    match rd id with
    | some ⟨.live,old⟩=>match bX old off cs with
     | some l=>some (.sc undef,.wr id ⟨.live,l⟩,⟨[],[id],false,false⟩)
     | none=>none
    | _=>none
   else none
  | _,_,_=>none
def aeC (x:Operand):et:=fun _ _ ρ _ _=>match ρ x with
  | .ptr id off=>some (.ptr id off,.no,FP.none)
  | .iptr cs=>some (.iptr cs,.no,FP.none)
  | .clos f cs=>some (.clos f cs,.no,FP.none)
  | .bmet f cs=>some (.bmet f cs,.no,FP.none)
  | .sc (.func (.func f) a b)=>some (.sc (.func (.func f) a b),.no,FP.none)
  | _=>none
def af1 (op:BinOp)(t:TypeId)(x y:Operand):et:=fun P T ρ _ _=>okV (Z5 P T op t (ρ x) (ρ y))
def sUn (op:UnOp)(x:Operand):et:=fun _ _ ρ _ _=>okV (unP op (ρ x))
def aay (src dst:TypeId)(x:Operand):et:=fun _ T ρ rd _=>match aaM T rd src dst (ρ x) with
  | some (r,ids)=>some (r,.no,⟨ids,[],false,false⟩)
  | none=>none
def aaw (fn:Fn)(first captured:Array Operand):et:=fun _ _ ρ _ _=>match fn with
  | .func f=>if first.size=0 then some (.clos f (captured.toList.map ρ),.no,FP.none) else if captured.size=0 then some (.bmet f (first.toList.map ρ),.no,FP.none) else none
  | _=>none
def aau (t:TypeId)(l c:Operand):et:=fun _ T ρ _ n0=>match und T t,fF (ρ l),fF (ρ c) with
  | some (.slice e),some l,some c =>
   match dV T e,cR T e,gh T e with
   | some zs,some s,some by_ =>
    if l≤c∧c≤cL∧by_≤bZ∧zs.length=s then some (.own n0 s 0 l (l == c),.al (rep l zs),⟨[],[n0],true,false⟩) else none
   | _,_,_=>none
  | _,_,_=>none
def PC (t:TypeId)(x:Operand)(lo hi mx:Option Operand):et:=fun _ T ρ rd _=>match OZ T rd t (ρ x) (lo.map ρ) (hi.map ρ) (mx.map ρ) with
  | some r=>some (r,.no,match ρ x with | .ptr id _=>⟨[id],[],false,false⟩| _=>FP.none)
  | none=>none
def FU (t:TypeId)(x:Operand)(i:Nat):et:=fun _ T ρ _ _=>okV (bL T t (ρ x) i)
def abp (t:TypeId)(x:Operand)(i:Nat):et:=fun _ T ρ _ _=>okV (Ba T t (ρ x) i)
def FR (t:TypeId)(x i:Operand):et:=fun _ T ρ _ _=>okV (bg T t (ρ x) (ρ i))
def abo (t:TypeId)(x i:Operand):et:=fun _ T ρ _ _=>okV (gI T t (ρ x) (ρ i))
def Cu (x:Operand)(i:Nat):et:=fun _ _ ρ _ _=>match ρ x with
  | .tup cs=>match cs[i]? with
   | some c=>some (c,.no,FP.none)
   | none=>none
  | _=>none
def Ct (r:Option Operand):et:=fun _ _ _ _ n0=>match r with
  | none=>some (.mp n0,.am,⟨[],[n0],true,false⟩)
  | some _=>none
def I8 (t:TypeId)(x k:Operand)(ok:Bool):et:=fun _ T ρ rd _=>match aaF T rd t (ρ x) (ρ k) ok with
  | some (v,ids)=>some (v,.no,⟨ids,[],false,false⟩)
  | none=>none
def tL (t:TypeId)(m k x:Operand):et:=fun _ T ρ rd _=>match aa9 T rd t (ρ m) (ρ k) (ρ x) with
  | some (b,id)=>some (.sc undef,.wr id b,⟨[],[id],false,false⟩)
  | none=>none
def I9 (args:Array Operand)(argTypes:Array TypeId):et:=fun _ T ρ rd _=>match args.toList.map ρ,argTypes.toList with
  | [m,k],[t,_]=>match ady T rd t m k with
   | some (b,id)=>some (.tup [],.wr id b,⟨[],[id],false,false⟩)
   | none=>none
  | _,_=>none
def sLen (args:Array Operand)(argTypes:Array TypeId):et:=fun _ T ρ rd _=>match args.toList.map ρ,argTypes.toList with
  | [x],[t]=>match bK T t x with
   | some r=>some (r,.no,FP.none)
   | none=>match ae0 T rd t x with
    | some (r,ids)=>some (r,.no,⟨ids,[],false,false⟩)
    | none=>none
  | _,_=>none
def WG (isMax:Bool)(args:Array Operand):et:=fun _ _ ρ _ _=>okV (kq isMax (args.toList.map ρ))
def Ja (args:Array Operand)(argTypes:Array TypeId):et:=fun _ T ρ rd n0=>match args.toList.map ρ,argTypes.toList with
  | [x,y],[t,t'] =>
   match und T t,und T t' with
   | some (.slice e),some (.slice _) =>
    match cR T e,gh T e,dV T e with
    | some s,some by_,some zs =>
     if by_≤bZ∧zs.length=s then
      match Jd rd s y with
      | some (n,new,ids) =>
       if bc new then match ua rd n0 s x n new with
        | some (r,dl,fp)=>some (r,dl,⟨ids++fp.rd,fp.wr,fp.al,false⟩)
        | none=>none
       else none
      | none=>none
     else none
    | _,_,_=>none
   | some (.slice e),some .string =>
    match y with
    | .sc (.string str)=>match und T e,cR T e,gh T e,dV T e with
     | some (.int .u8),some 1,some 1,some [_]=>match ua rd n0 1 x (bH str).length ((bH str).map fun b=>.sc (.int .u8 b.toNat)) with
      | some (r,dl,fp)=>some (r,dl,fp)
      | none=>none
     | _,_,_,_=>none
    | _=>none
   | _,_=>none
  | _,_=>none
def aax (args:Array Operand)(argTypes:Array TypeId):et:=fun _ T ρ rd _=>match args.toList.map ρ,argTypes.toList with
  | [x,y],[t,_] =>
   match und T t,x with
   | some (.slice e),.own id s' off len _ =>
    match cR T e with
    | some s =>
     if s=s' then
      match Jd rd s y with
      | some (n,src,ids) =>
       match rd id with
       | some ⟨.live,old⟩ =>
        match bE src (Nat.min n len*s) with
        | some new=>if !bc new then none else match bX old off new with
         | some l=>some (.sc (.int .i64 (Nat.min n len:Nat)),.wr id ⟨.live,l⟩,⟨ids,[id],false,false⟩)
         | none=>none
        | none=>none
       | _=>none
      | none=>none
     else none
    | none=>none
   | _,_=>none
  | _,_=>none
def PE (args:Array Operand)(argTypes:Array TypeId):et:=fun _ T ρ rd _=>match args.toList.map ρ,argTypes.toList with
  | [x],[t] =>
   match und T t,x with
   | some (.slice e),.own id s' off len _ =>
    match cR T e,dV T e with
    | some s,some zs =>
     if s=s'∧zs.length=s∧bc zs then
      match rd id with
      | some ⟨.live,old⟩=>match bX old off (rep len zs) with
       | some l=>some (.tup [],.wr id ⟨.live,l⟩,⟨[],[id],false,false⟩)
       | none=>none
      | _=>none
     else none
    | _,_=>none
   | _,_=>none
  | _,_=>none
def PD:et:=fun _ _ _ _ _=>none
def Cv (b:Builtin)(args:Array Operand)(argTypes:Array TypeId):et :=
 match b with
 | .len=>sLen args argTypes
 | .delete=>I9 args argTypes
 | .max=>WG true args
 | .min=>WG false args
 | .append=>Ja args argTypes
 | .copy=>aax args argTypes
 | .clear=>PE args argTypes
 | _=>PD
def aaz (c:Call):et :=
 match c.callee with
 | .builtin b=>Cv b c.args c.argTypes
 | _=>PD
def ic (o:Op):et :=
 match o with
 | .move x=>aat x
 | .assign x=>aat x
 | .pick c a b=>aas c a b
 | .alloc e=>PG e
 | .box _ x=>aeD x
 | .build t parts=>abq t parts
 | .buildSlice t len parts=>se t len parts
 | .load t a=>aav t a
 | .store t a x=>PB t a x
 | .nilCheck x=>aeC x
 | .binOp op t x y _=>af1 op t x y
 | .unOp op _ x=>sUn op x
 | .convert src dst x=>aay src dst x
 | .makeFunc fn first captured=>aaw fn first captured
 | .makeSlice t l c=>aau t l c
 | .slice t x lo hi mx=>PC t x lo hi mx
 | .fieldAddr t x i=>FU t x i
 | .field t x i=>abp t x i
 | .indexAddr t x i=>FR t x i
 | .index t x i=>abo t x i
 | .extract x i=>Cu x i
 | .makeMap _ r=>Ct r
 | .lookup t x k ok=>I8 t x k ok
 | .mapUpdate t m k x=>tL t m k x
 | .insert t m k x=>tL t m k x
 | .call c=>aaz c
 | _=>PD
def rZ (rd:Nat→Option Blk):(depth:Nat)→PV→Option (PV × List Nat)
 | 0,_=>none
 | d+1,pv =>
  match pv with
  | .own id s off len x =>
   match rd id with
   | some ⟨st,cs⟩ =>
    if st = .dead then none
    else match bE (br cs off) (len*s) with
     | some l=>match bq (rZ rd d) l with
      | some (l',ids)=>some (.imm len x l',id::ids)
      | none=>none
     | none=>none
   | none=>none
  | .agg cs=>match bq (rZ rd d) cs with
   | some (l,ids)=>some (.agg l,ids)
   | none=>none
  | .ptr .. => none
  | .mp _=>none
  | .clos f caps=>if bM caps then some (.clos f caps,[]) else none
  | .bmet .. => none
  | .tup _=>none
  | v=>some (v,[])
def nO (rd:Nat→Option Blk):(kept:List Blk)→(K F:List Nat)→List PV→Option (List PV × List Blk)
 | kept,_,_,[]=>some ([],kept)
 | kept,K,F,r::rs =>
  match r with
  | .own id s off len x =>
   match rd id with
   | some ⟨.live,cs⟩ =>
    match bq (rZ rd bj) cs with
    | some (cs',ids) =>
     if K.contains id || F.contains id || ids.contains id || ids.any K.contains then none
     else match nO rd (kept++[⟨.live,cs'⟩]) (id::K) (ids++F) rs with
      | some (rs',k)=>some (.own kept.length s off len x::rs',k)
      | none=>none
    | none=>none
   | _=>match rZ rd bj r with
    | some (r',ids) =>
     if ids.any K.contains then none
     else match nO rd kept K (ids++F) rs with
      | some (rs',k)=>some (r'::rs',k)
      | none=>none
    | none=>none
  | _=>match rZ rd bj r with
   | some (r',ids) =>
    if ids.any K.contains then none
    else match nO rd kept K (ids++F) rs with
     | some (rs',k)=>some (r'::rs',k)
     | none=>none
   | none=>none
def F9 (T:Tab)(rf:Nat→PV)(rd:Nat→Option Blk):List ResultVar→Option (List PV)
 | []=>some []
 | .tmp t::r=>match F9 T rf rd r with
  | some l=>some (rf t::l)
  | none=>none
 | .cell a t::r=>match Br rd (rf a) with
  | some (cs,_)=>match partOf T t cs,F9 T rf rd r with
   | some x,some l=>some (x::l)
   | _,_=>none
  | none=>none
def o0 (rd:Nat→Option Blk)(n:Nat):List Nat→Bool
 | []=>true
 | i::r=>(match rd i with
  | some b=>dY n b.cs
  | none=>true) && o0 rd n r
noncomputable def rdT (t:FT Blk)(m i:Nat):Option Blk:=Bool.rec .none (t.get i) (Nat.blt i m)
noncomputable def rfT (t:FT PV)(n i:Nat):PV:=Bool.rec .any ((t.get i).getD .any) (Nat.blt i n)
noncomputable def evT (t:FT PV)(n:Nat):Operand→PV
 | .tmp i=>rfT t n i
 | .const v=>av v
 | .global _=>.any
 | .func f=>.sc (.func (.func f) #[] #[])
noncomputable def RC {β:Type}(t:FT PV)(n:Nat)(dst:Option Tmp)(v:PV)(c:FT PV→Option β):Option β :=
 match dst with
 | some d=>fcV v fun v=>Bool.rec (c t) (t.put d v c) (Nat.blt d n)
 | none=>c t
noncomputable def adO {β:Type}(t:FT Blk)(m:Nat)(d:Dlt)(c:FT Blk→Nat→Option β):Option β :=
 match d with
 | .no=>c t m
 | .al cs=>fcL cs fun cs=>t.put m ⟨.live,cs⟩ fun t=>c t (Nat.succ m)
 | .wr id ⟨st,cs⟩=>fcL cs fun cs=>t.put id ⟨st,cs⟩ fun t=>c t m
 | .wa id b cs=>fcL cs fun cs=>t.put id b fun t=>t.put m ⟨.live,cs⟩ fun t=>c t (Nat.succ m)
 | .am=>t.put m ⟨.dead,[.any]⟩ fun t=>c t (Nat.succ m)
noncomputable def adQ {β:Type}(t:FT Blk)(m:Nat)(l:List Blk):(FT Blk→Nat→Option β)→Option β :=
 List.rec (fun t m c=>c t m) (fun b _ ih t m c=>fcL b.cs fun cs=>t.put m ⟨b.st,cs⟩ fun t=>ih t (Nat.succ m) c) l t m
noncomputable def roT {β:Type}(t:FT Blk)(m:Nat)(l:List Nat):(FT Blk→Option β)→Option β :=
 List.rec (fun t c=>c t) (fun i _ ih t c=>match rdT t m i with
  | some ⟨.live,cs⟩=>t.put i ⟨.ro,cs⟩ fun t=>ih t c
  | _=>ih t c) l t
abbrev mb:=FuncId→List PV→FT Blk→Nat→Option (List PV × FT Blk × Nat × List Nat)
noncomputable def J3 (ρ:Operand→PV)(c:Call):Option (FuncId × List PV) :=
 match c.callee with
 | .value f=>match ρ f with
  | .sc (.func (.func g) ⟨[]⟩ ⟨[]⟩)=>some (g,c.args.toList.map ρ)
  | .clos g caps=>some (g,c.args.toList.map ρ++caps)
  | .bmet g fs=>some (g,fs++c.args.toList.map ρ)
  | _=>none
 | _=>none
noncomputable def UR {β:Type}(C:Cfg)(run:mb)(t:FT Blk)(m:Nat)(g:FuncId)(args:List PV)(c:PV→FT Blk→Nat→FP→Option β):Option β :=
 fcL args fun args =>
 if C.shared g then
  match run g args t m with
  | some (rs,t',m',w) =>
   bif bM rs && o0 (rdT t' m') m (ju m w) then fcW (ju m w) fun w=>c (gN rs) t' m ⟨[],w,true,true⟩
   else fcW (ju m w++upto m (m' - m)) fun w=>c (gN rs) t' m' ⟨[],w,true,true⟩
  | none=>none
 else match bq (rZ (rdT t m) bj) args with
  | none=>none
  | some (args',ids) =>
   match C.orc g args' with
   | some rs =>
    bif rs.all dA then c (gN rs) t m ⟨ids,[],false,false⟩
    else roT t m ids fun t=>c (gN rs) t m ⟨ids,ids,false,false⟩
   | none=>match run g args' .lf 0 with
    | none=>none
    | some (rs,t1,m1,_)=>match nO (rdT t1 m1) [] [] [] rs with
     | none=>none
     | some (rs',kept) =>
      bif rs'.all dA then c (gN rs') t m ⟨ids,[],false,false⟩
      else roT t m ids fun t=>adQ t m kept fun t' m'=>fcW (ids++upto m kept.length) fun w=>c (gN (rs'.map (ow m))) t' m' ⟨ids,w, !kept.isEmpty,false⟩
noncomputable def IJ (ops:Array Oper)(rf:Nat→PV)(o:Oper):Option Bool :=
 match o.guard with
 | none=>some true
 | some (j,want) =>
  match (ops[j]?).bind (·.dst) with
  | some d=>match rf d with
   | .sc (.bool b)=>some (b == want)
   | .any=>none
   | _=>some false
  | none=>none
noncomputable def adW {β:Type}(l w:List Nat)(c:List Nat→β):β :=
 match l with
 | []=>c w
 | l=>fcW (az l w) c
noncomputable def zf {β:Type}(C:Cfg)(run:mb)(ops:Array Oper)(o:Oper)(n:Nat)(fr:FT PV)(t:FT Blk)(m:Nat)(w:List Nat)(c:FT PV→FT Blk→Nat→List Nat→FP→Option β):Option β :=
 match IJ ops (rfT fr n) o with
 | none=>none
 | some false=>RC fr n o.dst (.sc undef) fun fr=>c fr t m w FP.none
 | some true =>
  match ai o.op with
  | some cl=>match J3 (evT fr n) cl with
   | some (g,args)=>UR C run t m g args fun v t m fp=>RC fr n o.dst v fun fr=>adW fp.wr w fun w=>c fr t m w fp
   | none=>none
  | none=>match ic o.op C.P C.T (evT fr n) (rdT t m) m with
   | some (v,d,fp)=>adO t m d fun t m=>RC fr n o.dst v fun fr=>adW fp.wr w fun w=>c fr t m w fp
   | none=>none
noncomputable def goT {β:Type}(C:Cfg)(run:mb)(ops:Array Oper)(n:Nat)(l:List Oper):FT PV→FT Blk→Nat→List Nat→(FT PV→FT Blk→Nat→List Nat→List FP→Option β)→Option β :=
 List.rec (fun fr t m w c=>c fr t m w []) (fun o _ ih fr t m w c=>zf C run ops o n fr t m w fun fr t m w fp=>ih fr t m w fun fr t m w fps=>c fr t m w (fp::fps)) l
abbrev EM:=Option (Ex × FT PV × FT Blk × Nat × List Nat)
noncomputable def goS (C:Cfg)(run:mb)(ops:Array Oper)(n:Nat)(l:List Oper):FT PV→FT Blk→Nat→List Nat→EM :=
 List.rec (fun fr t m w=>some (.normal,fr,t,m,w)) (fun o _ ih fr t m w=>zf C run ops o n fr t m w fun fr t m w _=>ih fr t m w) l
noncomputable def abE (C:Cfg)(run:mb)(n:Nat)(ops:Array Oper)(dr:Bool)(fr:FT PV)(t:FT Blk)(m:Nat)(w:List Nat):EM :=
 bif dr then goT C run ops n ops.toList fr t m w fun fr t m w fps =>
   match number 0 fps with
   | []=>some (.normal,fr,t,m,w)
   | [_]=>some (.normal,fr,t,m,w)
   | l=>bif cH (Region.before ops) l then some (.normal,fr,t,m,w) else none
 else goS C run ops n ops.toList fr t m w
noncomputable def Tl (f:FT PV→FT Blk→Nat→List Nat→EM)(k:Nat):FT PV→FT Blk→Nat→List Nat→EM :=
 Nat.rec (fun _ _ _ _=>none) (fun _ ih fr t m w=>match f fr t m w with
  | some (.normal,fr,t,m,w)=>ih fr t m w
  | r=>r) k
noncomputable def iZ (C:Cfg)(run:mb)(n k:Nat)(cd:Code):FT PV→FT Blk→Nat→List Nat→EM :=
 match cd with
 | .skip=>fun fr t m w=>some (.normal,fr,t,m,w)
 | .label _=>fun fr t m w=>some (.normal,fr,t,m,w)
 | .region _ ops dr=>abE C run n ops dr
 | .seq a b=>fun fr t m w=>match iZ C run n k a fr t m w with
  | some (.normal,fr,t,m,w)=>iZ C run n k b fr t m w
  | r=>r
 | .cond c a b=>fun fr t m w=>match evT fr n c with
  | .sc (.bool true)=>iZ C run n k a fr t m w
  | .sc (.bool false)=>iZ C run n k b fr t m w
  | _=>none
 | .block id b=>fun fr t m w=>match iZ C run n k b fr t m w with
  | some (.exit i,fr,t,m,w)=>if i=id then some (.normal,fr,t,m,w) else some (.exit i,fr,t,m,w)
  | r=>r
 | .loop b=>Tl (iZ C run n k b) k
 | .scope b=>iZ C run n k b
 | .exit id=>fun fr t m w=>some (.exit id,fr,t,m,w)
 | .ret=>fun fr t m w=>some (.ret,fr,t,m,w)
 | _=>fun _ _ _ _=>none
noncomputable def RA {β:Type}(l:List PV)(k:Nat)(fr:FT PV)(c:FT PV→Option β):Option β :=
 List.rec (fun _ fr c=>c fr) (fun a _ ih k fr c=>fr.put k a fun fr=>ih (Nat.succ k) fr c) l k fr c
noncomputable def J4 (C:Cfg)(run:mb)(k:Nat):mb:=fun g args t m =>
 match C.F g with
 | some fn=>match fn.body with
  | some c=>bif Nat.ble args.length fn.ntmps then RA args 0 (FT.fill (.sc undef) (Nat.succ (Nat.log2 fn.ntmps))) fun fr=>match iZ C run fn.ntmps k c fr t m [] with
   | some (.normal,fr,t,m,w) | some (.ret,fr,t,m,w)=>match F9 C.T (rfT fr fn.ntmps) (rdT t m) fn.results.toList with
    | some rs=>fcL rs fun rs=>some (rs,t,m,w)
    | none=>none
   | _=>none
   else none
  | none=>none
 | none=>none
noncomputable def IX (f:List PV→(Nat→Option Blk)→Option (List PV × Option (Nat × Blk)))(args:List PV)(t:FT Blk)(m:Nat):Option (List PV × FT Blk × Nat × List Nat) :=
 match f args (rdT t m) with
 | some (rs,none)=>fcL rs fun rs=>some (rs,t,m,[])
 | some (rs,some (id,b))=>bif Nat.blt id m then fcL rs fun rs=>fcN id fun id=>fcL b.cs fun cs=>t.put id ⟨b.st,cs⟩ fun t=>some (rs,t,m,[id]) else none
 | none=>none
noncomputable def runT (C:Cfg)(k:Nat):mb:=Nat.rec (fun _ _ _ _=>none) (fun k ih=>fun g args t m=>match C.sorc g with
 | some f=>IX f args t m
 | none=>J4 C ih k g args t m) k
end Go.Ab
