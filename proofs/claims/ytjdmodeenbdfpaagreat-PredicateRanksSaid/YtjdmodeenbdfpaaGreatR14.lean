/- An abstract interpreter over the model's code and its soundness, part 14 of the proof; each lemma states its own conditions. -/
import Derived.Test.YtjdmodeenbdfpaaGreatR12
import Derived.Test.YtjdmodeenbdfpaaGreatR13
set_option linter.unusedSimpArgs false
set_option linter.unusedVariables false
namespace Go.Ab
open Go
inductive Dlt where
 | no
 | al (cs:List PV)
 | wr (id:Nat) (b:Blk)
 | wa (id:Nat) (b:Blk) (cs:List PV)
 | am
inductive FT (α:Type) where
 | lf
 | nd (v:α) (l r:FT α)
noncomputable def FT.get {α:Type}(t:FT α):Nat→Option α :=
 FT.rec (fun _=>.none) (fun v _ _ ihl ihr k=>Bool.rec (Bool.rec (ihr (Nat.sub (Nat.div k 2) 1)) (ihl (Nat.div k 2)) (Nat.beq (Nat.mod k 2) 1)) (.some v) (Nat.beq k 0)) t
noncomputable def FT.put {α β:Type}(t:FT α):Nat→α→(FT α→Option β)→Option β :=
 FT.rec (fun k v c=>Bool.rec .none (c (.nd v .lf .lf)) (Nat.beq k 0))
  (fun a l r ihl ihr k v c=>Bool.rec (Bool.rec (ihr (Nat.sub (Nat.div k 2) 1) v (fun r'=>c (.nd a l r'))) (ihl (Nat.div k 2) v (fun l'=>c (.nd a l' r))) (Nat.beq (Nat.mod k 2) 1)) (c (.nd v l r)) (Nat.beq k 0)) t
noncomputable def FT.fill (u:PV)(d:Nat):FT PV:=Nat.rec .lf (fun _ ih=>.nd u ih ih) d
def aeI (rd:Nat→Option Blk)(s:Nat):PV→Option (Nat × List PV × List Nat)
 | .sc (.slice none 0 0)=>some (0,[],[])
 | .imm len _ cs=>if cs.length=len*s then some (len,cs,[]) else none
 | .own id s' off len _ =>
  match rd id with
  | some ⟨st,cs⟩ =>
   if st = .dead∨s'≠s then none
   else match bG (br cs off) (len*s) with
    | some l=>some (len,l,[id])
    | none=>none
  | none=>none
 | _=>none
def af5 (T:Tab)(rd:Nat→Option Blk)(src dst:TypeId)(a:PV):Option (PV × List Nat) :=
 match und T src,und T dst,a with
 | some _,some (.int k),.sc (.int _ n)=>some (.sc (.int k (bA k n)),[])
 | some _,some .string,.sc (.string s)=>some (.sc (.string s),[])
 | some .string,some (.slice e),.sc (.string s) =>
  match und T e with
  | some (.int .u8)=>some (.imm (bK s).length false ((bK s).map fun b=>PV.sc (.int .u8 b.toNat)),[])
  | _=>none
 | some (.slice e),some .string,x =>
  match und T e with
  | some (.int .u8) =>
   match aeI rd 1 x with
   | some (_,cs,ids)=>match jo cs with
    | some l=>some (PV.sc (.string (mkStr l)),ids)
    | none=>none
   | none=>none
  | _=>none
 | _,_,_=>none
def acC (rd:Nat→Option Blk):PV→Option (List PV × List Nat)
 | .sc (.map none)=>some ([],[])
 | .mp id=>match rd id with
  | some ⟨.dead,.any::kvs⟩=>some (kvs,[id])
  | _=>none
 | _=>none
def afT (T:Tab)(rd:Nat→Option Blk)(t:TypeId)(m:PV):Option (PV × List Nat) :=
 match und T t,acC rd m with
 | some (.map _ _),some (kvs,ids)=>some (.sc (.int .i64 (C9 kvs:Nat)),ids)
 | _,_=>none
abbrev Rv:=Option (PV × Dlt × FP)
abbrev afs:=Program→Tab→(Operand→PV)→(Nat→Option Blk)→Nat→Rv
def hiN:IntKind→Nat
 | .i8=>127 | .i16=>32767 | .i32=>2147483647 | .i64=>9223372036854775807
 | .u8=>255 | .u16=>65535 | .u32=>4294967295 | .u64=>18446744073709551615
def eqK:IntKind→IntKind→Bool
 | .i8,.i8 | .i16,.i16 | .i32,.i32 | .i64,.i64 | .u8,.u8 | .u16,.u16 | .u32,.u32 | .u64,.u64=>true
 | _,_=>false
def sLen (args:Array Operand)(argTypes:Array TypeId):afs:=fun _ T ρ rd _=>match args.toList.map ρ,argTypes.toList with
  | [x],[t]=>match bM T t x with
   | some r=>some (r,.no,FP.none)
   | none=>match afT T rd t x with
    | some (r,ids)=>some (r,.no,⟨ids,[],false,false⟩)
    | none=>none
  | _,_=>none
noncomputable def rdT (t:FT Blk)(m i:Nat):Option Blk:=Bool.rec .none (t.get i) (Nat.blt i m)
noncomputable def rfT (t:FT PV)(n i:Nat):PV:=Bool.rec .any ((t.get i).getD .any) (Nat.blt i n)
noncomputable def evT (t:FT PV)(n:Nat):Operand→PV
 | .tmp i=>rfT t n i
 | .const v=>aw v
 | .global _=>.any
 | .func f=>.sc (.func (.func f) #[] #[])
abbrev af6:=FuncId→List PV→FT Blk→Nat→Option (List PV × FT Blk × Nat × List Nat)
def HR (t:FT Blk)(m:Nat)(hp:List Blk):Prop:=m=hp.length∧∀ i,i<m→t.get i=hp[i]?
def RF (t:FT PV)(n:Nat)(fr:List PV):Prop:=n=fr.length∧∀ i,i<n→t.get i=fr[i]?
theorem HR.rd {t:FT Blk}{m:Nat}{hp:List Blk}(h:HR t m hp):rdT t m=aV hp:=by
 funext i
 show (Bool.rec .none (t.get i) (Nat.blt i m):Option Blk)=_
 rw[cK]
 cases e:Nat.blt i m with
 | true=>exact h.2 i (gB.1 e)
 | false =>
  have : ¬ i<m:=fun hlt=>by rw[gB.2 hlt] at e;cases e
  rw[List.getElem?_eq_none (by rw[← h.1];omega)]
theorem RF.rf {t:FT PV}{n:Nat}{fr:List PV}(h:RF t n fr):rfT t n=nth fr:=by
 funext i
 show (Bool.rec .any ((t.get i).getD .any) (Nat.blt i n):PV)=_
 rw[rA]
 cases e:Nat.blt i n with
 | true=>rw[← h.2 i (gB.1 e)]
 | false =>
  have : ¬ i<n:=fun hlt=>by rw[gB.2 hlt] at e;cases e
  rw[List.getElem?_eq_none (by rw[← h.1];omega)];rfl
theorem RF.ev {t:FT PV}{n:Nat}{fr:List PV}(h:RF t n fr):evT t n=an fr:=by
 funext x
 cases x with
 | tmp i=>exact congrFun h.rf i
 | const v=>rfl
 | global g=>rfl
 | func f=>rfl
def Dlt.on (hp:List Blk):Dlt→List Blk
 | .no=>hp
 | .al cs=>aO hp cs
 | .wr id b=>bO hp id b
 | .wa id b cs=>aO (bO hp id b) cs
 | .am=>hp++[⟨.dead,[.any]⟩]
def Dlt.fit (hp:List Blk):Dlt→Prop
 | .no=>True
 | .al _=>True
 | .wr id _=>id<hp.length
 | .wa id _ _=>id<hp.length
 | .am=>True
theorem HR.alloc {t t':FT Blk}{m:Nat}{hp:List Blk}{cs:List PV}(h:HR t m hp)(h2:∀ j,t'.get j=if j=m then some ⟨.live,cs⟩ else t.get j):HR t' (Nat.succ m) (aO hp cs):=by
 refine⟨by simp[aO,h.1],fun i hi => ?_⟩
 rw[h2,← cK,bN,h.1]
 split
 ·rfl
 ·rename_i hne
  rw[cK];exact h.2 i (by have:=h.1;omega)
theorem HR.set {t t':FT Blk}{m:Nat}{hp:List Blk}{id:Nat}{b:Blk}(h:HR t m hp)(hid:id<hp.length)(h2:∀ j,t'.get j=if j=id then some b else t.get j):HR t' m (bO hp id b):=by
 refine⟨by rw[bF];exact h.1,fun i hi => ?_⟩
 rw[h2,fH,List.getElem?_set]
 by_cases hid':i=id
 ·subst hid';simp[hid]
 ·rw[if_neg hid',if_neg (Ne.symm hid')];exact h.2 i hi
theorem Tj {a b:IntKind}(h:eqK a b=true):a=b:=by cases a <;> cases b <;> first | rfl | cases h
theorem NU {k:IntKind}{n:Nat}(h:Nat.ble n (hiN k)=true):bA k (Int.ofNat n)=Int.ofNat n:=by
 have h:=Nat.le_of_ble_eq_true h
 have:decide (loK k≤Int.ofNat n)=true∧decide (Int.ofNat n≤hiK k)=true:=by
  constructor <;> apply decide_eq_true <;> cases k <;> simp only[loK,hiK,hiN,Int.ofNat_eq_natCast] at h ⊢ <;> omega
 unfold bA
 rw[this.1,this.2];rfl
def val:List Nat→Nat
 | []=>0
 | a::l=>a+1000000000*val l
def jl:Nat→Nat→List Nat
 | 0,_=>[]
 | k+1,n=>if n=0 then [] else n % 1000000000::jl k (n / 1000000000)
def aG (n:Nat):List Nat:=jl (n.log2+1) n
def Dok (l:List Nat):Prop:=∀ x ∈ l,x<1000000000
def fe (l:List Nat):List Nat:=(l.reverse.dropWhile (· == 0)).reverse
theorem Dok.nil:Dok []:=fun _ h=>by cases h
theorem Dok.cons {a:Nat}{l:List Nat}(h:a<1000000000)(h':Dok l):Dok (a::l):=fun x hx=>by
 rcases List.mem_cons.1 hx with rfl | hx
 ·exact h
 ·exact h' x hx
theorem Dok.head {a:Nat}{l:List Nat}(h:Dok (a::l)):a<1000000000:=h a (by simp)
theorem Dok.tail {a:Nat}{l:List Nat}(h:Dok (a::l)):Dok l:=fun x hx=>h x (by simp[hx])
theorem Dok.append {l m:List Nat}(h:Dok l)(h':Dok m):Dok (l++m):=fun x hx=>by
 rcases List.mem_append.1 hx with hx | hx
 ·exact h x hx
 ·exact h' x hx
theorem Dok.left {l m:List Nat}(h:Dok (l++m)):Dok l:=fun x hx=>h x (by simp[hx])
theorem Dok.right {l m:List Nat}(h:Dok (l++m)):Dok m:=fun x hx=>h x (by simp[hx])
theorem Dok.get {l:List Nat}(h:Dok l){i:Nat}(hi:i<l.length):l[i]<1000000000:=h _ (List.getElem_mem hi)
theorem Dok.set {l:List Nat}(h:Dok l)(i:Nat){y:Nat}(hy:y<1000000000):Dok (l.set i y):=fun x hx=>by
 rcases List.mem_or_eq_of_mem_set hx with hx | rfl
 ·exact h x hx
 ·exact hy
theorem Dok.HX (n:Nat):Dok (List.replicate n 0):=fun x hx=>by
 rw[(List.mem_replicate.1 hx).2];omega
theorem Dok.take {l:List Nat}(h:Dok l)(n:Nat):Dok (l.take n):=fun x hx=>h x (List.mem_of_mem_take hx)
theorem Dok.drop {l:List Nat}(h:Dok l)(n:Nat):Dok (l.drop n):=fun x hx=>h x (List.mem_of_mem_drop hx)
theorem gY (l m:List Nat):val (l++m)=val l+1000000000 ^ l.length*val m:=by
 induction l with
 | nil=>simp[val]
 | cons a l ih =>
  simp only[List.cons_append,val,ih,List.length_cons,Nat.pow_succ]
  grind
theorem dG (l:List Nat)(a:Nat):val (l++[a])=val l+1000000000 ^ l.length*a:=by
 rw[gY];simp[val]
theorem nM (n:Nat):val (List.replicate n 0)=0:=by
 induction n with
 | zero=>rfl
 | succ n ih=>simp[List.replicate_succ,val,ih]
theorem pj (l:List Nat)(i y:Nat)(hi:i<l.length):val (l.set i y)+l[i]*1000000000 ^ i=val l+y*1000000000 ^ i:=by
 induction l generalizing i with
 | nil=>simp at hi
 | cons a l ih =>
  cases i with
  | zero=>simp[val];omega
  | succ i =>
   have:=ih i (by simpa using hi)
   simp only[List.set_cons_succ,val,List.getElem_cons_succ,Nat.pow_succ]
   grind
theorem gK (l:List Nat)(i:Nat)(hi:i<l.length):val (l.take (i+1))=val (l.take i)+l[i]*1000000000 ^ i:=by
 rw[List.take_succ_eq_append_getElem hi,dG,List.length_take,Nat.min_eq_left (by omega),Nat.mul_comm]
theorem eL {l:List Nat}(h:Dok l):val l<1000000000 ^ l.length:=by
 induction l with
 | nil=>simp[val]
 | cons a l ih =>
  have h1:=ih h.tail
  have h2:=h.head
  simp only[val,List.length_cons,Nat.pow_succ]
  omega
theorem kO (l:List Nat)(i:Nat)(hi:i≤l.length):val l=val (l.take i)+1000000000 ^ i*val (l.drop i):=by
 have h:=gY (l.take i) (l.drop i)
 rw[List.take_append_drop,List.length_take,Nat.min_eq_left hi] at h
 exact h
theorem m6 (n:Nat)(h:n≠0):(n / 1000000000).log2+1≤n.log2∨n / 1000000000=0:=by
 by_cases h0:n / 1000000000=0
 ·exact .inr h0
 ·left
  have h1:2 ^ (n / 1000000000).log2≤n / 1000000000:=Nat.log2_self_le h0
  have h2:2 ^ ((n / 1000000000).log2+1)≤n:=by
   rw[Nat.pow_succ];omega
  exact (Nat.le_log2 h).2 h2
theorem nt:∀ (k j n:Nat),n.log2<k→n.log2<j→jl k n=jl j n
 | 0,j,n,h,_=>by omega
 | k+1,0,n,_,h=>by omega
 | k+1,j+1,n,h,h'=>by
  unfold jl
  by_cases hn:n=0
  ·rw[if_pos hn,if_pos hn]
  ·rw[if_neg hn,if_neg hn]
   congr 1
   rcases m6 n hn with h1 | h1
   ·exact nt k j _ (by omega) (by omega)
   ·rw[h1]
    cases k <;> cases j <;> simp[jl]
theorem fj:aG 0=[]:=rfl
theorem dX {n:Nat}(h:n≠0):aG n=n % 1000000000::aG (n / 1000000000):=by
 unfold aG
 rw[jl,if_neg h]
 congr 1
 rcases m6 n h with h1 | h1
 ·exact nt _ _ _ (by omega) (by omega)
 ·rw[h1]
  cases n.log2 <;> simp[jl]
theorem rM {a:Nat}{l:List Nat}(ha:a<1000000000)(h:a+1000000000*val l≠0):aG (a+1000000000*val l)=a::aG (val l):=by
 rw[dX h,Nat.add_mul_mod_self_left,Nat.mod_eq_of_lt ha,Nat.add_mul_div_left _ _ (by omega),Nat.div_eq_of_lt ha,Nat.zero_add]
theorem bZ (n:Nat):val (aG n)=n:=by
 induction n using Nat.strongRecOn with
 | _ n ih =>
  by_cases h:n=0
  ·subst h;rfl
  ·rw[dX h,val,ih _ (by omega)]
   omega
theorem bU (n:Nat):Dok (aG n):=by
 induction n using Nat.strongRecOn with
 | _ n ih =>
  by_cases h:n=0
  ·subst h;exact Dok.nil
  ·rw[dX h]
   exact (ih _ (by omega)).cons (by omega)
theorem eC (l:List Nat)(a:Nat):fe (l++[a])=if a=0 then fe l else l++[a]:=by
 unfold fe
 rw[List.reverse_append]
 by_cases h:a=0 <;> simp[h]
theorem jd {P:List Nat→Prop}(h0:P [])(h1:∀ l a,P l→P (l++[a])):∀ l,P l:=by
 intro l
 have:∀ m:List Nat,P m.reverse:=by
  intro m
  induction m with
  | nil=>exact h0
  | cons a m ih=>rw[List.reverse_cons];exact h1 _ a ih
 have:=this l.reverse
 rwa [List.reverse_reverse] at this
theorem qJ (l:List Nat):val (fe l)=val l:=by
 induction l using jd with
 | h0=>rfl
 | h1 l a ih =>
  rw[eC]
  by_cases h:a=0
  ·rw[if_pos h,ih,h,dG,Nat.mul_zero,Nat.add_zero]
  ·rw[if_neg h]
theorem uk {l:List Nat}(h:Dok l):Dok (fe l):=by
 induction l using jd with
 | h0=>exact Dok.nil
 | h1 l a ih =>
  rw[eC]
  by_cases h':a=0
  ·rw[if_pos h'];exact ih h.left
  ·rw[if_neg h'];exact h
def Top (l:List Nat):Prop:=∀ m a,l=m++[a]→a≠0
theorem kR (l:List Nat):Top (fe l):=by
 induction l using jd with
 | h0=>intro m a h;simp[fe] at h
 | h1 l a ih =>
  rw[eC]
  by_cases h:a=0
  ·rw[if_pos h];exact ih
  ·rw[if_neg h]
   intro m b e
   have:=List.append_inj' e rfl
   simp at this
   rw[← this.2];exact h
theorem Top.tail {a:Nat}{l:List Nat}(h:Top (a::l)):Top l:=fun m b e=>h (a::m) b (by rw[e];rfl)
theorem Top.pn {l:List Nat}(h:Top l)(hl:l≠[]):val l≠0:=by
 obtain⟨m,a,rfl⟩:∃ m a,l=m++[a]:=⟨l.dropLast,l.getLast hl,(List.dropLast_concat_getLast hl).symm⟩
 have ha:=h m a rfl
 rw[dG]
 have:0<1000000000 ^ m.length*a:=Nat.mul_pos (Nat.pow_pos (by omega)) (by omega)
 omega
theorem jR {l:List Nat}(h:Dok l)(ht:Top l):aG (val l)=l:=by
 induction l with
 | nil=>rfl
 | cons a l ih =>
  rw[val,rM h.head,ih h.tail ht.tail]
  exact ht.pn (by simp)
theorem eD {l:List Nat}(h:Dok l):fe l=aG (val l):=by
 rw[← qJ l,jR (uk h) (kR l)]
theorem jk (n:Nat):Top (aG n):=by
 have h:=eD (bU n)
 rw[bZ] at h
 rw[← h]
 exact kR _
theorem cU {n:Nat} : 0<(aG n).length ↔ n≠0:=by
 by_cases h:n=0
 ·subst h;simp[fj]
 ·rw[dX h];simp[h]
theorem wI {n:Nat}(h:aG n=[]):n=0:=by
 rw[← bZ n,h];rfl
theorem di {n k:Nat}(h:n<1000000000 ^ k):(aG n).length≤k:=by
 by_cases h0:aG n=[]
 ·rw[h0];simp
 ·obtain⟨m,a,e⟩:∃ m a,aG n=m++[a]:=⟨(aG n).dropLast,(aG n).getLast h0,(List.dropLast_concat_getLast h0).symm⟩
  have ha:=jk n m a e
  have hv:=bZ n
  rw[e,dG] at hv
  rw[e,List.length_append,List.length_singleton]
  have h1:1000000000 ^ m.length≤n:=by
   have:1000000000 ^ m.length*1≤1000000000 ^ m.length*a:=Nat.mul_le_mul_left _ (by omega)
   omega
  have h2:1000000000 ^ m.length<1000000000 ^ k:=by omega
  exact Nat.lt_of_not_le fun h3=>absurd (Nat.pow_le_pow_right (n:=1000000000) (by omega) h3) (by omega)
theorem fy (n:Nat):n<1000000000 ^ (aG n).length:=by
 have:=eL (bU n)
 rwa [bZ] at this
def dg (n:Nat):PV:=.sc (.int .u32 n)
def aM (l:List Nat):PV:=.imm l.length false (l.map dg)
def wh (neg:Bool)(l:List Nat):PV:=.agg [.sc (.bool neg),aM l]
def bx:Int→Bool
 | .ofNat _=>false
 | .negSucc _=>true
def bq (z:Int):PV:=wh (bx z) (aG z.natAbs)
def bJ (z:Int):PV:=.sc (.int .i64 z)
mutual
def canon:PV→PV
 | .sc v=>match v with
  | .slice none 0 0=>.imm 0 false []
  | v=>.sc v
 | .imm n _ cs=>.imm n false (aK cs)
 | .agg cs=>.agg (aK cs)
 | v=>v
def aK:List PV→List PV
 | []=>[]
 | c::cs=>canon c::aK cs
end
theorem jV:∀ (cs:List PV) (k:Nat),(aK cs)[k]?=(cs[k]?).map canon
 | [],k=>by simp[aK]
 | c::cs,0=>by simp[aK]
 | c::cs,k+1=>by simpa [aK] using jV cs k
theorem kI:∀ (cs:List PV),(aK cs).length=cs.length
 | []=>rfl
 | c::cs=>by simp[aK,kI cs]
mutual
theorem DB:(p:PV)→p.cO=true→Wk p (canon p)
 | .any,h=>by rw[canon];exact Wk.refl h;all_goals (intros;contradiction)
 | .sc v,h=>by
  unfold canon
  split
  ·exact Wk.nil false
  ·exact Wk.refl h
 | .imm n x cs,h=>by
  unfold canon
  refine⟨rfl,fun w M v hv => ?_⟩
  cases hv with
  | nil=>exact .nil false
  | imm _ _ _ a cap g h1 h2 h3 h4 =>
   refine .imm n false _ a cap g h1 (fun h=>by cases h) (fun k c hk => ?_) (fun k c hk => ?_)
   ·rw[jV] at hk
    obtain⟨c',h5,rfl⟩:=Option.map_eq_some_iff.1 hk
    obtain⟨h6,h7,h8,h9⟩:=h3 k c' h5
    exact⟨h6,(lu cs k c' h5 h7).1,h8,h9⟩
   ·rw[jV] at hk
    obtain⟨c',h5,rfl⟩:=Option.map_eq_some_iff.1 hk
    obtain⟨h6,h7,h8,h9⟩:=h3 k c' h5
    exact (lu cs k c' h5 h7).2 w M _ (h4 k c' h5)
 | .agg cs,h=>by
  unfold canon
  have hi:cq cs=true:=by simpa [PV.cO] using h
  refine⟨?_,fun w M v hv => ?_⟩
  ·simp only[PV.cO]
   exact kJ cs hi
  ·cases hv with
   | agg _ vs g1 g2 =>
    refine .agg _ vs (by rw[kI];exact g1) fun k c v e1 e2 => ?_
    rw[jV] at e1
    obtain⟨c',h5,rfl⟩:=Option.map_eq_some_iff.1 e1
    exact (lu cs k c' h5 (eG hi h5)).2 w M v (g2 k c' v h5 e2)
 | .own ..,h=>by simp[PV.cO] at h
 | .ptr ..,h=>by simp[PV.cO] at h
 | .iptr cs,h=>by rw[canon];exact Wk.refl h;all_goals (intros;contradiction)
 | .clos f cs,h=>by rw[canon];exact Wk.refl h;all_goals (intros;contradiction)
 | .bmet ..,h=>by simp[PV.cO] at h
 | .tup cs,h=>by rw[canon];exact Wk.refl h;all_goals (intros;contradiction)
theorem lu:(cs:List PV)→(k:Nat)→(c:PV)→cs[k]?=some c→c.cO=true→Wk c (canon c)
 | [],k,c,h,_=>by simp at h
 | d::cs,k,c,h,hc=>by
  cases k with
  | zero=>simp at h;subst h;exact DB d hc
  | succ k=>exact lu cs k c (by simpa using h) hc
theorem kJ:(cs:List PV)→cq cs=true→cq (aK cs)=true
 | [],_=>rfl
 | c::cs,h=>by
  simp only[cq,Bool.and_eq_true] at h
  simp only[aK,cq,Bool.and_eq_true]
  exact⟨(DB c h.1).1,kJ cs h.2⟩
end
theorem Spec.canon {P:Program}{g:FuncId}{f:List PV→Option (List PV)}(h:Spec P g f):Spec P g fun a=>f (aK a):=by
 intro args rs hf hi
 obtain⟨h1,h2⟩:=h (aK args) rs hf (kJ args hi)
 refine⟨h1,fun w M vs hM hvs=>h2 w M vs hM ⟨by rw[kI];exact hvs.1,fun k c v e1 e2 => ?_⟩⟩
 rw[jV] at e1
 obtain⟨c',h5,rfl⟩:=Option.map_eq_some_iff.1 e1
 exact (lu args k c' h5 (eG hi h5)).2 w M v (hvs.2 k c' v h5 e2)
def Ds:List PV→Option (List Nat)
 | []=>some []
 | .sc (.int .u32 (.ofNat n))::r=>bif n.blt 1000000000 then (match Ds r with
  | some l=>some (n::l)
  | none=>none) else none
 | _=>none
def gW:PV→Option (List Nat)
 | .imm n false cs=>match Ds cs with
  | some l=>bif n.beq l.length && n.blt 1000000 then some l else none
  | none=>none
 | _=>none
def tt:List Nat→Bool
 | []=>true
 | [a] => !(a.beq 0)
 | _::l=>tt l
def fD:PV→Option Int
 | .agg [.sc (.bool neg),p]=>match gW p with
  | some l=>bif tt l && l.length.blt 400000 then
    (match neg,l with
    | true,[]=>none
    | true,l=>some (Int.negOfNat (val l))
    | false,l=>some (Int.ofNat (val l)))
   else none
  | none=>none
 | _=>none
theorem zf:∀ {cs:List PV} {l:List Nat},Ds cs=some l→cs=l.map dg∧Dok l
 | [],l,h=>by simp[Ds] at h;subst h;exact⟨rfl,Dok.nil⟩
 | c::cs,l,h=>by
  unfold Ds at h
  split at h
  ·rename_i e;cases e
  ·rename_i n r e
   cases e
   cases hb:n.blt 1000000000 with
   | false=>rw[hb] at h;cases h
   | true =>
    rw[hb] at h
    simp only[cond_true] at h
    split at h
    ·rename_i l' e'
     simp at h;subst h
     obtain⟨h1,h2⟩:=zf e'
     rw[h1]
     refine⟨rfl,h2.cons ?_⟩
     simpa [Nat.blt_eq] using hb
    ·cases h
  ·cases h
theorem Dr:∀ {l:List Nat},Dok l→Ds (l.map dg)=some l
 | [],_=>rfl
 | a::l,h=>by
  have h1:a.blt 1000000000=true:=by rw[Nat.blt_eq];exact h.head
  show Ds (PV.sc (.int .u32 (Int.ofNat a))::l.map dg)=_
  simp only[Ds,Dr h.tail,h1,cond_true]
theorem dA {p:PV}{l:List Nat}(h:gW p=some l):p=aM l∧Dok l∧l.length<1000000:=by
 unfold gW at h
 split at h
 ·split at h
  ·rename_i n cs _ l' e
   obtain⟨h1,h2⟩:=zf e
   cases hb:n.beq l'.length && n.blt 1000000 with
   | false=>rw[hb] at h;cases h
   | true =>
    rw[hb] at h
    simp at h
    subst h
    simp[Nat.blt_eq] at hb
    exact⟨by rw[hb.1,h1];rfl,h2,by omega⟩
  ·cases h
 ·cases h
theorem cX {l:List Nat}(h:Dok l)(hl:l.length<1000000):gW (aM l)=some l:=by
 have h1:l.length.blt 1000000=true:=by rw[Nat.blt_eq];exact hl
 simp[gW,aM,Dr h,h1]
theorem mG:∀ {l:List Nat},tt l=true→Top l
 | [],_=>fun m a e=>by simp at e
 | [b],h=>fun m a e=>by
  cases m with
  | nil =>
   simp at e;subst e
   cases b with
   | zero=>simp[tt] at h
   | succ b=>simp
  | cons c m=>simp at e
 | b::c::l,h=>fun m a e=>by
  cases m with
  | nil=>simp at e
  | cons d m =>
   simp only[List.cons_append,List.cons.injEq] at e
   exact mG (l:=c::l) (by simpa [tt] using h) m a e.2
theorem pq:∀ {l:List Nat},Top l→tt l=true
 | [],_=>rfl
 | [b],h=>by
  have:=h [] b rfl
  cases b with
  | zero=>simp at this
  | succ b=>rfl
 | b::c::l,h=>by
  have:=pq h.tail
  simpa [tt] using this
theorem wB (n:Nat):bq (Int.ofNat n)=wh false (aG n):=rfl
theorem cN (z:Int):bx z=decide (z<0):=by
 cases z with
 | ofNat n=>simp[bx]
 | negSucc n=>simp[bx]
theorem Dl {n:Nat}(h:n≠0):bq (Int.negOfNat n)=wh true (aG n):=by
 cases n with
 | zero=>simp at h
 | succ n=>rfl
theorem Ha {p:PV}{z:Int}(h:fD p=some z):p=bq z∧(aG z.natAbs).length<400000:=by
 unfold fD at h
 split at h
 ·rename_i neg q
  split at h
  ·rename_i l e
   obtain⟨h1,h2,h3⟩:=dA e
   subst h1
   cases ht:tt l && l.length.blt 400000 with
   | false=>rw[ht] at h;cases h
   | true =>
    rw[ht] at h
    simp only[cond_true] at h
    simp only[Bool.and_eq_true,Nat.blt_eq] at ht
    obtain⟨ht,h3⟩:=ht
    have hd:=jR h2 (mG ht)
    split at h
    ·cases h
    ·rename_i hne
     simp only[Option.some.injEq] at h
     subst h
     have hv:val l≠0:=(mG ht).pn (by intro h;exact hne h)
     refine⟨?_,?_⟩
     ·rw[Dl hv,hd];rfl
     ·have:(Int.negOfNat (val l)).natAbs=val l:=Int.natAbs_negOfNat _
      rw[this,hd];exact h3
    ·simp only[Option.some.injEq] at h
     subst h
     refine⟨?_,?_⟩
     ·rw[wB,hd];rfl
     ·have:(Int.ofNat (val l)).natAbs=val l:=rfl
      rw[this,hd];exact h3
  ·cases h
 ·cases h
theorem MV (z:Int)(hl:(aG z.natAbs).length<400000):fD (bq z)=some z:=by
 have h1:=cX (bU z.natAbs) (Nat.lt_trans hl (by decide))
 have h3:(aG z.natAbs).length.blt 400000=true:=by rw[Nat.blt_eq];exact hl
 have h2:=pq (jk z.natAbs)
 cases z with
 | ofNat n =>
  rw[wB]
  have e:(Int.ofNat n).natAbs=n:=rfl
  rw[e] at h1 h2 h3
  simp only[fD,wh,h1,h2,h3,Bool.and_self,cond_true,bZ]
 | negSucc n =>
  have e:bq (Int.negSucc n)=wh true (aG (n+1)):=rfl
  rw[e]
  have e:(Int.negSucc n).natAbs=n+1:=rfl
  rw[e] at h1 h2 h3
  have hd:aG (n+1)=(n+1) % 1000000000::aG ((n+1) / 1000000000):=dX (by omega)
  simp only[fD,wh,h1,h2,h3,Bool.and_self,cond_true]
  rw[hd]
  simp only
  rw[← hd,bZ]
  rfl
theorem fV (n:Nat):(dg n).cells?=some [dg n]:=(rfl)
theorem du (n:Nat):dw (dg n)=true:=(rfl)
theorem qV (n:Nat):rep n [dg 0]=(List.replicate n 0).map dg:=by
 induction n with
 | zero=>rfl
 | succ n ih=>simp[rep,ih,List.replicate_succ]
theorem ZJ (l:List Nat)(i:Nat)(h:i<l.length):br (l.map dg) i=dg l[i]::(l.drop (i+1)).map dg:=by
 rw[cL,← List.map_drop,List.drop_eq_getElem_cons h];rfl
theorem eJ (l:List Nat)(i:Nat)(h:i<l.length):(br (l.map dg) i).head?=some (dg l[i]):=by
 rw[ZJ l i h];rfl
theorem ja:∀ (l:List Nat) (i y:Nat),i<l.length→cj (l.map dg) i [dg y]=some ((l.set i y).map dg)
 | [],i,y,h=>by simp at h
 | a::l,0,y,h=>by simp[cj]
 | a::l,i+1,y,h=>by
  have:=ja l i y (by simpa using h)
  simp only[List.map_cons,cj,this,List.set_cons_succ]
theorem VF (l:List Nat):bG (l.map dg) l.length=some (l.map dg):=by
 rw[dM (by simp),List.take_of_length_le (by simp)]
theorem Bf (l:List Nat):bG (br (l.map dg) 0) (l.length*1)=some (l.map dg):=by
 rw[cL,List.drop_zero,Nat.mul_one,VF]
theorem jF (hp:List Blk)(d:Nat):∀ l:List Nat,bt (snap hp (d+1)) (l.map dg)=some (l.map dg,[])
 | []=>rfl
 | a::l=>by
  simp only[List.map_cons,bt,jF hp d l]
  rfl
theorem iR:∀ l:List Nat,aK (l.map dg)=l.map dg
 | []=>rfl
 | a::l=>by simp only[List.map_cons,aK,iR l];rfl
theorem fA (l:List Nat):canon (aM l)=aM l:=by
 simp only[aM,canon,iR]
theorem Un (n:Bool)(l:List Nat):canon (wh n l)=wh n l:=by
 simp only[wh,canon,aK,fA]
theorem wP (z:Int):canon (bq z)=bq z:=Un _ _
theorem dy (k:IntKind)(n:Nat)(h:n≤hiN k):bA k (n:Int)=Int.ofNat n:=NU (n:=n) (Nat.ble_eq ▸ h)
def dI (b:Nat)(hp:List Blk)(l:List Nat)(p:PV):Prop :=
 b≤hp.length∧((l=[]∧p = .sc (.slice none 0 0))∨∃ id m,b≤id∧id<hp.length∧p = .own id 1 0 l.length false∧aV hp id=some ⟨.live,(l++m).map dg⟩)
theorem dI.nil {b:Nat}{hp:List Blk}(h:b≤hp.length):dI b hp [] (.sc (.slice none 0 0)):=⟨h,.inl ⟨rfl,rfl⟩⟩
theorem dI.len {b:Nat}{hp:List Blk}{l:List Nat}{p:PV}(h:dI b hp l p):ef p=some l.length:=by
 rcases h.2 with ⟨rfl,rfl⟩| ⟨id,m,_,_,rfl,h⟩ <;> rfl
theorem dI.cells {b:Nat}{hp:List Blk}{l:List Nat}{p:PV}(h:dI b hp l p):p.cells?=some [p]:=by
 rcases h.2 with ⟨rfl,rfl⟩| ⟨id,m,_,_,rfl,h⟩ <;> rfl
theorem dI.okc {b:Nat}{hp:List Blk}{l:List Nat}{p:PV}(h:dI b hp l p):dw p=true:=by
 rcases h.2 with ⟨rfl,rfl⟩| ⟨id,m,_,_,rfl,h⟩ <;> rfl
theorem dI.app {b:Nat}{hp:List Blk}{l:List Nat}{p:PV}(h:dI b hp l p)(a:Nat)(hl:l.length<100000000) :
  ∃ p' hp' fp,df hp 1 p 1 [dg a]=some (p',hp',fp)∧dI b hp' (l++[a]) p'∧∀ i,i<b→aV hp' i=aV hp i:=by
 obtain⟨hb,h⟩:=h
 rcases h with ⟨rfl,rfl⟩| ⟨id,m,hid,hid2,rfl,h⟩
 ·refine⟨.own hp.length 1 0 1 false,aO hp [dg a],⟨[],[hp.length],true,false⟩,by simp[df,cY],⟨by simp[aO];omega,.inr ⟨hp.length,[],hb,by simp[aO],rfl,?_⟩⟩,fun i hi => ?_⟩
  ·rw[bN,if_pos rfl];rfl
  ·rw[bN,if_neg (by omega)]
 ·have ht:bG (br ((l++m).map dg) 0) (l.length*1)=some (l.map dg):=by
   rw[cL,dM (by simp)]
   simp
  refine⟨.own hp.length 1 0 (l.length+1) false,aO (bO hp id ⟨.dead,[]⟩) (l.map dg++[dg a]),⟨[],[id,hp.length],true,false⟩,?_,⟨by simp[aO,bF];omega,.inr ⟨hp.length,[],hb,by simp[aO,bF],by simp,?_⟩⟩,fun i hi => ?_⟩
  ·simp only[df,h]
   rw[ht]
   simp[cY]
   omega
  ·rw[bN,bF,if_pos rfl];simp
  ·rw[bN,bF,if_neg (by omega),cQ h,if_neg (by omega)]
theorem dI.snap {b:Nat}{hp:List Blk}{l:List Nat}{p:PV}(h:dI b hp l p)(d:Nat):∃ q ids,Ab.snap hp (d+2) p=some (q,ids)∧Wk q (aM l)∧canon q=aM l:=by
 obtain⟨hb,h⟩:=h
 rcases h with ⟨rfl,rfl⟩| ⟨id,m,_,_,rfl,h⟩
 ·exact⟨.sc (.slice none 0 0),[],rfl,Wk.nil false,rfl⟩
 ·have ht:bG (br ((l++m).map dg) 0) (l.length*1)=some (l.map dg):=by
   rw[cL,dM (by simp)]
   simp
  refine⟨.imm l.length false (l.map dg),[id],?_,Wk.refl rfl,fA l⟩
  have hs:=jF hp d l
  rw[Ab.snap]
  simp only[h]
  rw[if_neg (by simp),ht]
  simp only[hs]
theorem lv {C:Cfg}{run:ar}{dr:Bool}{hp:List Blk}{g:FuncId}{args args' rs:List PV}{ids:List Nat}
  (h1:C.shared g=false) (h2:bt (snap hp bp) args=some (args',ids)) (h3:C.orc g args'=some rs) (h4:rs.all eo=true) :
  cg C run dr hp g args=some (iO rs,hp,⟨ids,[],false,false⟩):=by
 unfold cg
 simp[h1,h2,h3,h4]
theorem eI {C:Cfg}{run:ar}{dr:Bool}{hp:List Blk}{g:FuncId}{args args' rs:List PV}{ids:List Nat}
  (h1:C.shared g=false) (h2:bt (snap hp bp) args=some (args',ids)) (h3:C.orc g args'=some rs) (h4:rs.all eo=false) :
  cg C run dr hp g args=some (iO rs,roB hp ids,⟨ids,ids,false,false⟩):=by
 unfold cg
 simp[h1,h2,h3,h4]
def az:Code→Option Code
 | .loop b=>some b
 | .seq a b=>(az a).or (az b)
 | .block _ b=>az b
 | .scope b=>az b
 | .cond _ a b=>(az a).or (az b)
 | _=>none
def seq1:Code→Code
 | .seq a _=>a
 | c=>c
def cA:Code→Code
 | .seq _ b=>b
 | c=>c
theorem zJ {l:List Nat}{n:Nat}(h:l.length=n+1):∃ l' a,l=l'++[a]∧l'.length=n:=by
 have hne:l≠[]:=by intro e;subst e;simp at h
 exact⟨l.dropLast,l.getLast hne,(List.dropLast_concat_getLast hne).symm,by simp[h]⟩
def bw:List (Nat × (List PV→Option (List PV)))→Nat→List PV→Option (List PV)
 | [],_=>fun _=>none
 | (n,f)::r,g=>bif g.beq n then fun a=>f (aK a) else bw r g
def dL (P:Program):List (Nat × (List PV→Option (List PV)))→Prop
 | []=>True
 | (n,f)::r=>Spec P n f∧dL P r
theorem Cv {P:Program} : ∀ {L:List (Nat × (List PV→Option (List PV)))},dL P L→∀ g,Spec P g (bw L g)
 | [],_,g=>Spec.no P g
 | (n,f)::r,h,g=>by
  unfold bw
  cases e:g.beq n with
  | true =>
   have:=Nat.eq_of_beq_eq_true e
   subst this
   exact h.1.canon
  | false=>exact Cv h.2 g
end Go.Ab
namespace Go.Proofs.YtjdmodeenbdfpaaGreat
open Go Go.Ab
noncomputable def TT:Tab:=base.T.get
noncomputable def CC (L:List (Nat × (List PV→Option (List PV)))):Cfg:=base.cfg (bw L)
theorem bh (L:List (Nat × (List PV→Option (List PV)))):(CC L).T=TT:=(rfl)
theorem cV {L:List (Nat × (List PV→Option (List PV)))}(h:dL base.P L):tr (CC L):=adP.cfg (Cv h)
theorem aa {fr:List PV}{d:Nat}{v:PV}(h:d<fr.length):nth (fm fr d v) d=v:=by
 rw[rA,lJ];simp[h]
theorem ae {fr:List PV}{d t:Nat}{v:PV}(h:t≠d):nth (fm fr d v) t=nth fr t:=vS h
theorem ab (fr:List PV)(d:Nat)(v:PV):(fm fr d v).length=fr.length:=by
 rw[lJ];simp
def wf0:Field:={ name := "neg",type:=4,offset:=0,embedded:=false,tag := "",pkgPath := "torus/num",byteOffset:=0 }
def wf1:Field:={ name := "d",type:=68,offset:=1,embedded:=false,tag := "",pkgPath := "torus/num",byteOffset:=8 }
theorem uW:und TT 70=some (.struct #[wf0,wf1]):=by kernel_rfl
theorem uD:und TT 68=some (.slice 171):=by kernel_rfl
theorem u32:und TT 171=some (.int .u32):=by kernel_rfl
theorem u64:und TT 174=some (.int .u64):=by kernel_rfl
theorem uI:und TT 3=some (.int .i64):=by kernel_rfl
theorem uB:und TT 4=some .bool:=by kernel_rfl
theorem sB:dc TT 4=some 1:=by kernel_rfl
theorem sD:dc TT 68=some 1:=by kernel_rfl
theorem sW:dc TT 70=some 2:=by kernel_rfl
theorem s32:dc TT 171=some 1:=by kernel_rfl
theorem b32:iT TT 171=some 4:=by kernel_rfl
theorem z32:eK TT 171=some [dg 0]:=by kernel_rfl
theorem zW:eK TT 70=some [.sc (.bool false),.sc (.slice none 0 0)]:=by kernel_rfl
theorem aW:fR TT 70=some true:=by kernel_rfl
theorem aB:fR TT 4=some false:=by kernel_rfl
theorem aD:fR TT 68=some false:=by kernel_rfl
theorem a32:fR TT 171=some false:=by kernel_rfl
theorem Nz:base.F.get 167=some Tryz.f167:=by kernel_rfl
theorem DW:base.F.get 152=some Tryz.f152:=by kernel_rfl
theorem aak:base.F.get 97=some Tryz.f97:=by kernel_rfl
theorem NF:base.F.get 101=some Tryz.f101:=by kernel_rfl
theorem U3:base.F.get 149=some Tryz.f149:=by kernel_rfl
theorem U7:base.F.get 96=some Tryz.f96:=by kernel_rfl
theorem rU:base.F.get 146=some Tryz.f146:=by kernel_rfl
theorem NB:base.F.get 160=some Tryz.f160:=by kernel_rfl
theorem HN:base.F.get 161=some Tryz.f161:=by kernel_rfl
theorem U8:base.F.get 139=some Tryz.f139:=by kernel_rfl
theorem U2:base.F.get 168=some Tryz.f168:=by kernel_rfl
theorem U4:base.F.get 105=some Tryz.f105:=by kernel_rfl
theorem HC:base.F.get 181=some Tryz.f181:=by kernel_rfl
theorem pa:base.F.get 166=some Tryz.f166:=by kernel_rfl
theorem Ei:base.F.get 151=some Tryz.f151:=by kernel_rfl
theorem Eh:base.F.get 150=some Tryz.f150:=by kernel_rfl
theorem Ny:base.F.get 165=some Tryz.f165:=by kernel_rfl
theorem HB:base.F.get 164=some Tryz.f164:=by kernel_rfl
theorem tG:base.shared 167=false:=by kernel_rfl
theorem nQ:base.shared 152=false:=by kernel_rfl
theorem xX:base.shared 97=false:=by kernel_rfl
theorem tH:base.shared 101=false:=by kernel_rfl
theorem EV:base.shared 149=false:=by kernel_rfl
theorem EX:base.shared 96=false:=by kernel_rfl
theorem Ij:base.shared 146=false:=by kernel_rfl
theorem VP:base.shared 160=false:=by kernel_rfl
theorem OC:base.shared 161=false:=by kernel_rfl
theorem EY:base.shared 139=false:=by kernel_rfl
theorem aa5:base.shared 168=false:=by kernel_rfl
theorem OH:base.shared 105=false:=by kernel_rfl
theorem Bv:base.shared 181=false:=by kernel_rfl
theorem BF:base.shared 166=false:=by kernel_rfl
theorem J8:base.shared 151=false:=by kernel_rfl
theorem OK:base.shared 150=false:=by kernel_rfl
theorem VM:base.shared 165=false:=by kernel_rfl
theorem Ov:base.shared 164=false:=by kernel_rfl
end Go.Proofs.YtjdmodeenbdfpaaGreat
namespace Go.Ab
open Go
def ah:Nat→Code→Code
 | 0,c=>c
 | n+1,.seq _ b=>ah n b
 | _+1,c=>c
def aY (C:Cfg)(run:ar)(k:Nat):Nat→Code→St→Option St
 | 0,_,st=>some st
 | n+1,.seq a b,st=>match af C run k a st with
  | some (.normal,st')=>aY C run k n b st'
  | _=>none
 | _+1,_,_=>none
theorem aP {C:Cfg}{run:ar}{k:Nat} : ∀ (n:Nat) {c:Code} {st st':St},aY C run k n c st=some st'→af C run k c st=af C run k (ah n c) st'
 | 0,c,st,st',h=>by simp[aY] at h;subst h;rfl
 | n+1,c,st,st',h=>by
  cases c with
  | seq a b =>
   simp only[aY] at h
   split at h
   ·rename_i st1 e
    simp only[af,e,ah]
    exact aP n h
   ·cases h
  | _=>simp[aY] at h
theorem av {C:Cfg}{run:ar}{k:Nat}{a b:Code}{st st':St}(h:af C run k a st=some (.normal,st')):af C run k (.seq a b) st=af C run k b st':=by
 simp only[af,h]
theorem bH {C:Cfg}{run:ar}{k i:Nat}{b:Code}{st st':St}(h:cl (af C run k b) k st=some (.exit i,st')):af C run k (.block i (.loop b)) st=some (.normal,st'):=by
 simp only[af,h,if_true]
theorem dW {C:Cfg}{run:ar}{k i:Nat}{b:Code}{st st':St}(h:af C run k b st=some (.normal,st')):af C run k (.block i b) st=some (.normal,st'):=by
 simp only[af,h]
theorem ch {f:St→Option (Ex × St)}{n:Nat}{st st':St}(h:f st=some (.normal,st')):cl f (n+1) st=cl f n st':=by
 simp only[cl,h]
theorem bD {f:St→Option (Ex × St)}{n i:Nat}{st st':St}(h:f st=some (.exit i,st')):cl f (n+1) st=some (.exit i,st'):=by
 simp only[cl,h]
theorem eF {f:St→Option (Ex × St)}{n:Nat}{st st':St}(h:f st=some (.ret,st')):cl f (n+1) st=some (.ret,st'):=by
 simp only[cl,h]
theorem Nl {C:Cfg}{run:ar}{k:Nat}{g:FuncId}{args:List PV}{fn:Func}{c:Code}{st:St}{rs:List PV}
  (hF:C.F g=some fn) (hb:fn.body=some c) (hx:af C run k c ⟨entry fn.ntmps args,[],[]⟩=some (.ret,st)) (hr:aZ C.T st.fr st.hp fn.results.toList=some rs) :
  th C run k g args []=some (rs,st.hp,st.wr):=by
 simp only[th,hF,hb,hx,hr]
theorem aX {C:Cfg}{k:Nat}{g:FuncId}{args:List PV}{fn:Func}{c:Code}{st:St}{rs:List PV}
  (hF:C.F g=some fn) (hb:fn.body=some c) (hx:af C (runK C k) k c ⟨entry fn.ntmps args,[],[]⟩=some (.ret,st)) (hr:aZ C.T st.fr st.hp fn.results.toList=some rs) (hs:C.sorc g=none:=by rfl) :
  runK C (k+1) g args []=some (rs,st.hp,st.wr):=by
 simp only[runK,hs]
 exact Nl hF hb hx hr
theorem gx:∀ (n:Nat) (l:List PV),l.length≤n→(entry n l).length=n
 | 0,l,h=>by simp at h;subst h;rfl
 | n+1,[],_=>by simp[entry,gx n [] (by simp)]
 | n+1,a::l,h=>by simp[entry,gx n l (by simpa using h)]
theorem ca {f:St→Option (Ex × St)}{r:Ex × St} : ∀ {n m:Nat} {st:St},cl f n st=some r→n≤m→cl f m st=some r
 | 0,m,st,h,_=>by simp[cl] at h
 | n+1,0,st,_,h=>by omega
 | n+1,m+1,st,h,hm=>by
  simp only[cl] at h ⊢
  split at h
  ·exact ca h (by omega)
  ·exact h
theorem dI.set {b:Nat}{hp:List Blk}{l:List Nat}{p:PV}(h:dI b hp l p)(i:Nat)(x:Blk)(hi:i<b):dI b (bO hp i x) l p:=by
 obtain⟨hb,h⟩:=h
 refine⟨by rw[bF];exact hb,?_⟩
 rcases h with ⟨rfl,rfl⟩| ⟨id,m,h1,h2,rfl,h⟩
 ·exact .inl ⟨rfl,rfl⟩
 ·refine .inr ⟨id,m,h1,by rw[bF];exact h2,rfl,?_⟩
  rw[fH,cK,List.getElem?_set_ne (by omega),← cK]
  exact h
theorem dI.out {b:Nat}{hp:List Blk}{l:List Nat}{p:PV}(h:dI b hp l p)(n:Bool) :
  ∃ rs ids,bt (Ab.snap hp bp) [.agg [.sc (.bool n),p]]=some (rs,ids)∧WkL rs [wh n l]:=by
 obtain⟨q,ids,h1,h2,h3⟩:=h.snap 9
 refine⟨[.agg [.sc (.bool n),q]],ids++[]++[],?_,?_⟩
 ·have:Ab.snap hp 12 (.agg [.sc (.bool n),p])=some (.agg [.sc (.bool n),q],ids++[]):=by
   rw[Ab.snap]
   simp only[bt,h1]
   rfl
  simp only[bp,bt,this]
  try simp
 ·exact⟨Wk.agg ⟨Wk.refl rfl,h2,trivial⟩,trivial⟩
theorem dI.Gj {b:Nat}{hp:List Blk}{l:List Nat}{p:PV}(h:dI b hp l p) :
  ∃ rs ids,bt (Ab.snap hp bp) [p]=some (rs,ids)∧WkL rs [aM l]:=by
 obtain⟨q,ids,h1,h2,h3⟩:=h.snap 10
 refine⟨[q],ids++[],?_,h2,trivial⟩
 simp only[bp,bt,h1]
theorem ud {n:Nat}(h:0<n)(h':n<18446744073709551616):bA .u64 (-(n:Int))=Int.ofNat (18446744073709551616 - n):=by
 have h1:decide (loK .u64 ≤ -(n:Int))=false:=by
  apply decide_eq_false
  simp[loK];omega
 unfold bA
 rw[h1]
 simp[IntKind.wrap,IntKind.bits,IntKind.signed]
 omega
theorem cS (n:Nat)(x:Bool)(cs:List PV):ef (.imm n x cs)=some n:=(rfl)
theorem gw (a b c n:Nat)(x:Bool):ef (.own a b c n x)=some n:=(rfl)
theorem ct (l:List Nat):ef (aM l)=some l.length:=(rfl)
theorem wO (l:List Nat):(aM l).cells?=some [aM l]:=(rfl)
theorem bn (cs:List PV):(PV.agg cs).cells?=some cs:=(rfl)
theorem jT (b:Bool):(PV.sc (.bool b)).cells?=some [.sc (.bool b)]:=(rfl)
theorem M8 (k:IntKind)(n:Int):(PV.sc (.int k n)).cells?=some [.sc (.int k n)]:=(rfl)
theorem M7 (a b c n:Nat)(x:Bool):(PV.own a b c n x).cells?=some [.own a b c n x]:=(rfl)
theorem bX (l:List Nat):dw (aM l)=true:=(rfl)
theorem bC (b:Bool):dw (PV.sc (.bool b))=true:=(rfl)
theorem vO (k:IntKind)(n:Int):dw (PV.sc (.int k n))=true:=(rfl)
theorem Gl (a b c n:Nat)(x:Bool):dw (PV.own a b c n x)=true:=(rfl)
theorem fw:dw (PV.sc (.slice none 0 0))=true:=(rfl)
theorem afr (a b:Nat):((a:Int) == (b:Int))=decide (a=b):=by
 by_cases h:a=b
 ·simp[h]
 ·rw[decide_eq_false h,beq_eq_false_iff_ne];omega
theorem DN (a b:Nat):((a:Int) != (b:Int)) = !decide (a=b):=by
 rw[bne,afr]
theorem cR (m:Nat)(h:m<9223372036854775808):bA .i64 ((m:Int) - 1)=(m:Int) - 1:=by
 unfold bA
 have h1:decide (loK .i64≤(m:Int) - 1)=true:=decide_eq_true (by simp only[loK];omega)
 have h2:decide ((m:Int) - 1≤hiK .i64)=true:=decide_eq_true (by simp only[hiK];omega)
 rw[h1,h2];rfl
theorem bE (m:Nat)(h:m<9223372036854775807):bA .i64 ((m:Int)+1)=(m:Int)+1:=by
 unfold bA
 have h1:decide (loK .i64≤(m:Int)+1)=true:=decide_eq_true (by simp only[loK];omega)
 have h2:decide ((m:Int)+1≤hiK .i64)=true:=decide_eq_true (by simp only[hiK];omega)
 rw[h1,h2];rfl
theorem bm (k:IntKind)(n:Nat):fX (.sc (.int k (n:Int)))=some n:=(rfl)
theorem iW (k:IntKind)(n:Nat):fX (.sc (.int k ((n:Int)+1)))=some (n+1):=(rfl)
theorem jA (k:IntKind):fX (.sc (.int k 0))=some 0:=(rfl)
theorem Z9 (k:IntKind):fX (.sc (.int k 1))=some 1:=(rfl)
theorem iB {n:Nat}(h:n≤4294967295):n≤hiN .u32:=h
theorem dB {n:Nat}(h:n≤18446744073709551615):n≤hiN .u64:=h
theorem hiI {n:Nat}(h:n≤9223372036854775807):n≤hiN .i64:=h
theorem cW (n:Nat)(p:PV):(entry (n+1) [p]).length=n+1∧nth (entry (n+1) [p]) 0=p:=⟨gx _ _ (by simp),rfl⟩
theorem cC (n:Nat)(p q:PV):(entry (n+2) [p,q]).length=n+2∧nth (entry (n+2) [p,q]) 0=p∧nth (entry (n+2) [p,q]) 1=q:=⟨gx _ _ (by simp),rfl,rfl⟩
theorem ac0 (n:Nat):((n:Int)≤2)=(n≤2):=by apply propext;omega
end Go.Ab
