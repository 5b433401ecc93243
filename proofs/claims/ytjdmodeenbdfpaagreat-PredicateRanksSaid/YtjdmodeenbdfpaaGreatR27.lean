/- An abstract interpreter over the model's code and its soundness, part 27 of the proof; each lemma states its own conditions. -/
import Derived.Test.YtjdmodeenbdfpaaGreatR18
import Derived.Test.YtjdmodeenbdfpaaGreatR23
import Derived.Test.YtjdmodeenbdfpaaGreatR26
set_option linter.unusedSimpArgs false
set_option linter.unusedVariables false
namespace Go.Ab
namespace T
def val:List Nat→Nat
 | []=>0
 | a::l=>a+10*val l
def jl:Nat→Nat→List Nat
 | 0,_=>[]
 | k+1,n=>if n=0 then [] else n % 10::jl k (n / 10)
def aG (n:Nat):List Nat:=jl (n.log2+1) n
def Dok (l:List Nat):Prop:=∀ x ∈ l,x<10
def fe (l:List Nat):List Nat:=(l.reverse.dropWhile (· == 0)).reverse
theorem Dok.nil:Dok []:=fun _ h=>by cases h
theorem Dok.cons {a:Nat}{l:List Nat}(h:a<10)(h':Dok l):Dok (a::l):=fun x hx=>by
 rcases List.mem_cons.1 hx with rfl | hx
 ·exact h
 ·exact h' x hx
theorem Dok.head {a:Nat}{l:List Nat}(h:Dok (a::l)):a<10:=h a (by simp)
theorem Dok.tail {a:Nat}{l:List Nat}(h:Dok (a::l)):Dok l:=fun x hx=>h x (by simp[hx])
theorem Dok.append {l m:List Nat}(h:Dok l)(h':Dok m):Dok (l++m):=fun x hx=>by
 rcases List.mem_append.1 hx with hx | hx
 ·exact h x hx
 ·exact h' x hx
theorem Dok.left {l m:List Nat}(h:Dok (l++m)):Dok l:=fun x hx=>h x (by simp[hx])
theorem Dok.right {l m:List Nat}(h:Dok (l++m)):Dok m:=fun x hx=>h x (by simp[hx])
theorem Dok.get {l:List Nat}(h:Dok l){i:Nat}(hi:i<l.length):l[i]<10:=h _ (List.getElem_mem hi)
theorem Dok.set {l:List Nat}(h:Dok l)(i:Nat){y:Nat}(hy:y<10):Dok (l.set i y):=fun x hx=>by
 rcases List.mem_or_eq_of_mem_set hx with hx | rfl
 ·exact h x hx
 ·exact hy
theorem Dok.HX (n:Nat):Dok (List.replicate n 0):=fun x hx=>by
 rw[(List.mem_replicate.1 hx).2];omega
theorem Dok.take {l:List Nat}(h:Dok l)(n:Nat):Dok (l.take n):=fun x hx=>h x (List.mem_of_mem_take hx)
theorem Dok.drop {l:List Nat}(h:Dok l)(n:Nat):Dok (l.drop n):=fun x hx=>h x (List.mem_of_mem_drop hx)
theorem gY (l m:List Nat):val (l++m)=val l+10 ^ l.length*val m:=by
 induction l with
 | nil=>simp[val]
 | cons a l ih =>
  simp only[List.cons_append,val,ih,List.length_cons,Nat.pow_succ]
  grind
theorem dG (l:List Nat)(a:Nat):val (l++[a])=val l+10 ^ l.length*a:=by
 rw[gY];simp[val]
theorem nM (n:Nat):val (List.replicate n 0)=0:=by
 induction n with
 | zero=>rfl
 | succ n ih=>simp[List.replicate_succ,val,ih]
theorem pj (l:List Nat)(i y:Nat)(hi:i<l.length):val (l.set i y)+l[i]*10 ^ i=val l+y*10 ^ i:=by
 induction l generalizing i with
 | nil=>simp at hi
 | cons a l ih =>
  cases i with
  | zero=>simp[val];omega
  | succ i =>
   have:=ih i (by simpa using hi)
   simp only[List.set_cons_succ,val,List.getElem_cons_succ,Nat.pow_succ]
   grind
theorem gK (l:List Nat)(i:Nat)(hi:i<l.length):val (l.take (i+1))=val (l.take i)+l[i]*10 ^ i:=by
 rw[List.take_succ_eq_append_getElem hi,dG,List.length_take,Nat.min_eq_left (by omega),Nat.mul_comm]
theorem eL {l:List Nat}(h:Dok l):val l<10 ^ l.length:=by
 induction l with
 | nil=>simp[val]
 | cons a l ih =>
  have h1:=ih h.tail
  have h2:=h.head
  simp only[val,List.length_cons,Nat.pow_succ]
  omega
theorem kO (l:List Nat)(i:Nat)(hi:i≤l.length):val l=val (l.take i)+10 ^ i*val (l.drop i):=by
 have h:=gY (l.take i) (l.drop i)
 rw[List.take_append_drop,List.length_take,Nat.min_eq_left hi] at h
 exact h
theorem m6 (n:Nat)(h:n≠0):(n / 10).log2+1≤n.log2∨n / 10=0:=by
 by_cases h0:n / 10=0
 ·exact .inr h0
 ·left
  have h1:2 ^ (n / 10).log2≤n / 10:=Nat.log2_self_le h0
  have h2:2 ^ ((n / 10).log2+1)≤n:=by
   rw[Nat.pow_succ];omega
  exact (Nat.le_log2 h).2 h2
theorem nt:∀ (k j n:Nat),n.log2<k→n.log2<j→jl k n=jl j n
 | 0,j,n,h,_=>by omega
 | k+1,0,n,_,h=>by omega
 | k+1,j+1,n,h,h'=>by
  unfold jl
  by_cases hn:n=0
  ·rw[if_pos hn,if_pos hn]
  ·rw[if_neg hn,if_neg hn]
   congr 1
   rcases m6 n hn with h1 | h1
   ·exact nt k j _ (by omega) (by omega)
   ·rw[h1]
    cases k <;> cases j <;> simp[jl]
theorem fj:aG 0=[]:=rfl
theorem dX {n:Nat}(h:n≠0):aG n=n % 10::aG (n / 10):=by
 unfold aG
 rw[jl,if_neg h]
 congr 1
 rcases m6 n h with h1 | h1
 ·exact nt _ _ _ (by omega) (by omega)
 ·rw[h1]
  cases n.log2 <;> simp[jl]
theorem rM {a:Nat}{l:List Nat}(ha:a<10)(h:a+10*val l≠0):aG (a+10*val l)=a::aG (val l):=by
 rw[dX h,Nat.add_mul_mod_self_left,Nat.mod_eq_of_lt ha,Nat.add_mul_div_left _ _ (by omega),Nat.div_eq_of_lt ha,Nat.zero_add]
theorem bZ (n:Nat):val (aG n)=n:=by
 induction n using Nat.strongRecOn with
 | _ n ih =>
  by_cases h:n=0
  ·subst h;rfl
  ·rw[dX h,val,ih _ (by omega)]
   omega
theorem bU (n:Nat):Dok (aG n):=by
 induction n using Nat.strongRecOn with
 | _ n ih =>
  by_cases h:n=0
  ·subst h;exact Dok.nil
  ·rw[dX h]
   exact (ih _ (by omega)).cons (by omega)
theorem eC (l:List Nat)(a:Nat):fe (l++[a])=if a=0 then fe l else l++[a]:=by
 unfold fe
 rw[List.reverse_append]
 by_cases h:a=0 <;> simp[h]
theorem jd {P:List Nat→Prop}(h0:P [])(h1:∀ l a,P l→P (l++[a])):∀ l,P l:=by
 intro l
 have:∀ m:List Nat,P m.reverse:=by
  intro m
  induction m with
  | nil=>exact h0
  | cons a m ih=>rw[List.reverse_cons];exact h1 _ a ih
 have:=this l.reverse
 rwa [List.reverse_reverse] at this
theorem qJ (l:List Nat):val (fe l)=val l:=by
 induction l using jd with
 | h0=>rfl
 | h1 l a ih =>
  rw[eC]
  by_cases h:a=0
  ·rw[if_pos h,ih,h,dG,Nat.mul_zero,Nat.add_zero]
  ·rw[if_neg h]
theorem uk {l:List Nat}(h:Dok l):Dok (fe l):=by
 induction l using jd with
 | h0=>exact Dok.nil
 | h1 l a ih =>
  rw[eC]
  by_cases h':a=0
  ·rw[if_pos h'];exact ih h.left
  ·rw[if_neg h'];exact h
def Top (l:List Nat):Prop:=∀ m a,l=m++[a]→a≠0
theorem kR (l:List Nat):Top (fe l):=by
 induction l using jd with
 | h0=>intro m a h;simp[fe] at h
 | h1 l a ih =>
  rw[eC]
  by_cases h:a=0
  ·rw[if_pos h];exact ih
  ·rw[if_neg h]
   intro m b e
   have:=List.append_inj' e rfl
   simp at this
   rw[← this.2];exact h
theorem Top.tail {a:Nat}{l:List Nat}(h:Top (a::l)):Top l:=fun m b e=>h (a::m) b (by rw[e];rfl)
theorem Top.pn {l:List Nat}(h:Top l)(hl:l≠[]):val l≠0:=by
 obtain⟨m,a,rfl⟩:∃ m a,l=m++[a]:=⟨l.dropLast,l.getLast hl,(List.dropLast_concat_getLast hl).symm⟩
 have ha:=h m a rfl
 rw[dG]
 have:0<10 ^ m.length*a:=Nat.mul_pos (Nat.pow_pos (by omega)) (by omega)
 omega
theorem jR {l:List Nat}(h:Dok l)(ht:Top l):aG (val l)=l:=by
 induction l with
 | nil=>rfl
 | cons a l ih =>
  rw[val,rM h.head,ih h.tail ht.tail]
  exact ht.pn (by simp)
theorem eD {l:List Nat}(h:Dok l):fe l=aG (val l):=by
 rw[← qJ l,jR (uk h) (kR l)]
theorem jk (n:Nat):Top (aG n):=by
 have h:=eD (bU n)
 rw[bZ] at h
 rw[← h]
 exact kR _
theorem cU {n:Nat} : 0<(aG n).length ↔ n≠0:=by
 by_cases h:n=0
 ·subst h;simp[fj]
 ·rw[dX h];simp[h]
theorem wI {n:Nat}(h:aG n=[]):n=0:=by
 rw[← bZ n,h];rfl
theorem di {n k:Nat}(h:n<10 ^ k):(aG n).length≤k:=by
 by_cases h0:aG n=[]
 ·rw[h0];simp
 ·obtain⟨m,a,e⟩:∃ m a,aG n=m++[a]:=⟨(aG n).dropLast,(aG n).getLast h0,(List.dropLast_concat_getLast h0).symm⟩
  have ha:=jk n m a e
  have hv:=bZ n
  rw[e,dG] at hv
  rw[e,List.length_append,List.length_singleton]
  have h1:10 ^ m.length≤n:=by
   have:10 ^ m.length*1≤10 ^ m.length*a:=Nat.mul_le_mul_left _ (by omega)
   omega
  have h2:10 ^ m.length<10 ^ k:=by omega
  exact Nat.lt_of_not_le fun h3=>absurd (Nat.pow_le_pow_right (n:=10) (by omega) h3) (by omega)
theorem fy (n:Nat):n<10 ^ (aG n).length:=by
 have:=eL (bU n)
 rwa [bZ] at this
end T
def Sc1 {α:Type}(e:α→PV):Prop:=∀ a,(∃ k z,e a = .sc (.int k z))∨(∃ s,e a = .sc (.string s))∨∃ b,e a = .sc (.bool b)
def mb {α:Type}(e:α→PV)(l:List α):PV:=.imm l.length false (l.map e)
section
variable {α:Type} {e:α→PV}
theorem Sc1.cells (h:Sc1 e)(a:α):(e a).cells?=some [e a]:=by
 rcases h a with ⟨k,z,h⟩| ⟨s,h⟩| ⟨b,h⟩ <;> rw[h] <;> rfl
theorem Sc1.okc (h:Sc1 e)(a:α):dw (e a)=true:=by
 rcases h a with ⟨k,z,h⟩| ⟨s,h⟩| ⟨b,h⟩ <;> rw[h] <;> rfl
theorem Sc1.canon (h:Sc1 e)(a:α):Ab.canon (e a)=e a:=by
 rcases h a with ⟨k,z,h⟩| ⟨s,h⟩| ⟨b,h⟩ <;> rw[h] <;> rfl
theorem Sc1.snap (h:Sc1 e)(hp:List Blk)(d:Nat)(a:α):Ab.snap hp (d+1) (e a)=some (e a,[]):=by
 rcases h a with ⟨k,z,h⟩| ⟨s,h⟩| ⟨b,h⟩ <;> rw[h] <;> rfl
theorem Sc1.idf (h:Sc1 e)(a:α):(e a).cO=true:=by
 rcases h a with ⟨k,z,h⟩| ⟨s,h⟩| ⟨b,h⟩ <;> rw[h] <;> rfl
theorem Sc1.Q8 (h:Sc1 e):∀ l:List α,bg (l.map e)=true
 | []=>rfl
 | a::l=>by simp only[List.map_cons,bg,h.okc,h.Q8 l,Bool.and_self]
theorem Sc1.aK (h:Sc1 e):∀ l:List α,Ab.aK (l.map e)=l.map e
 | []=>rfl
 | a::l=>by simp only[List.map_cons,Ab.aK,h.aK l,h.canon]
theorem Sc1.Ie (h:Sc1 e)(hp:List Blk)(d:Nat):∀ l:List α,bt (Ab.snap hp (d+1)) (l.map e)=some (l.map e,[])
 | []=>rfl
 | a::l=>by simp only[List.map_cons,bt,h.Ie hp d l,h.snap];rfl
theorem Sc1.Z0 (h:Sc1 e)(n:Nat)(x:Bool)(l:List α)(hl:l.length=n):Ab.canon (.imm n x (l.map e))=mb e l:=by
 rw[Ab.canon,h.aK,mb,hl]
theorem Sc1.Hf (h:Sc1 e)(l:List α):Ab.canon (mb e l)=mb e l:=h.Z0 _ _ l rfl
theorem adx (l:List α)(i:Nat)(h:i<l.length):br (l.map e) i=e l[i]::(l.drop (i+1)).map e:=by
 rw[cL,← List.map_drop,List.drop_eq_getElem_cons h];rfl
theorem kE (l:List α)(i:Nat)(h:i<l.length):(br (l.map e) i).head?=some (e l[i]):=by
 rw[adx l i h];rfl
theorem jN:∀ (l:List α) (i:Nat) (y:α),i<l.length→cj (l.map e) i [e y]=some ((l.set i y).map e)
 | [],i,y,h=>by simp at h
 | a::l,0,y,h=>by simp[cj]
 | a::l,i+1,y,h=>by
  have:=jN l i y (by simpa using h)
  simp only[List.map_cons,cj,this,List.set_cons_succ]
theorem zH (l:List α)(n:Nat)(h:n≤l.length):bG (br (l.map e) 0) (n*1)=some ((l.take n).map e):=by
 rw[cL,List.drop_zero,Nat.mul_one,dM (by simpa using h),List.map_take]
theorem aeH (n:Nat)(a:α):rep n [e a]=(List.replicate n a).map e:=by
 induction n with
 | zero=>rfl
 | succ n ih=>simp[rep,ih,List.replicate_succ]
def jB (e:α→PV)(b:Nat)(hp:List Blk)(l:List α)(p:PV):Prop :=
 b≤hp.length∧((l=[]∧p = .sc (.slice none 0 0))∨∃ id m x,b≤id∧id<hp.length∧p = .own id 1 0 l.length x∧(x=true→m=[])∧aV hp id=some ⟨.live,(l++m).map e⟩)
theorem jB.nil {b:Nat}{hp:List Blk}(h:b≤hp.length):jB e b hp [] (.sc (.slice none 0 0)):=⟨h,.inl ⟨rfl,rfl⟩⟩
theorem jB.len {b:Nat}{hp:List Blk}{l:List α}{p:PV}(h:jB e b hp l p):ef p=some l.length:=by
 rcases h.2 with ⟨rfl,rfl⟩| ⟨id,m,x,_,_,rfl,_,h⟩ <;> rfl
theorem jB.cells {b:Nat}{hp:List Blk}{l:List α}{p:PV}(h:jB e b hp l p):p.cells?=some [p]:=by
 rcases h.2 with ⟨rfl,rfl⟩| ⟨id,m,x,_,_,rfl,_,h⟩ <;> rfl
theorem jB.okc {b:Nat}{hp:List Blk}{l:List α}{p:PV}(h:jB e b hp l p):dw p=true:=by
 rcases h.2 with ⟨rfl,rfl⟩| ⟨id,m,x,_,_,rfl,_,h⟩ <;> rfl
def dx (e:α→PV)(b:Nat)(hp:List Blk)(l:List α)(p:PV):Prop :=
 b≤hp.length∧((l=[]∧p = .sc (.slice none 0 0))∨∃ id m,b≤id∧id<hp.length∧p = .own id 1 0 l.length false∧aV hp id=some ⟨.live,(l++m).map e⟩)
theorem dx.nil {b:Nat}{hp:List Blk}(h:b≤hp.length):dx e b hp [] (.sc (.slice none 0 0)):=⟨h,.inl ⟨rfl,rfl⟩⟩
theorem dx.s {b:Nat}{hp:List Blk}{l:List α}{p:PV}(h:dx e b hp l p):jB e b hp l p:=by
 obtain⟨hb,h⟩:=h
 rcases h with ⟨rfl,rfl⟩| ⟨id,m,h1,h2,rfl,h⟩
 ·exact .nil hb
 ·exact⟨hb,.inr ⟨id,m,false,h1,h2,rfl,nofun,h⟩⟩
theorem dx.app {b:Nat}{hp:List Blk}{l:List α}{p:PV}(h:dx e b hp l p)(a:α)(hl:l.length<100000000) :
  ∃ p' hp' fp,df hp 1 p 1 [e a]=some (p',hp',fp)∧dx e b hp' (l++[a]) p'∧∀ i,i<b→aV hp' i=aV hp i:=by
 obtain⟨hb,h⟩:=h
 rcases h with ⟨rfl,rfl⟩| ⟨id,m,hid,hid2,rfl,h⟩
 ·refine⟨.own hp.length 1 0 1 false,aO hp [e a],⟨[],[hp.length],true,false⟩,by simp[df,cY],⟨by simp[aO];omega,.inr ⟨hp.length,[],hb,by simp[aO],rfl,?_⟩⟩,fun i hi => ?_⟩
  ·rw[bN,if_pos rfl];rfl
  ·rw[bN,if_neg (by omega)]
 ·have ht:bG (br ((l++m).map e) 0) (l.length*1)=some (l.map e):=by
   rw[zH _ _ (by simp)];simp
  refine⟨.own hp.length 1 0 (l.length+1) false,aO (bO hp id ⟨.dead,[]⟩) (l.map e++[e a]),⟨[],[id,hp.length],true,false⟩,?_,⟨by simp[aO,bF];omega,.inr ⟨hp.length,[],hb,by simp[aO,bF],by simp,?_⟩⟩,fun i hi => ?_⟩
  ·simp only[df,h]
   rw[ht]
   simp[cY]
   omega
  ·rw[bN,bF,if_pos rfl];simp
  ·rw[bN,bF,if_neg (by omega),cQ h,if_neg (by omega)]
theorem jB.snap (he:Sc1 e){b:Nat}{hp:List Blk}{l:List α}{p:PV}(h:jB e b hp l p)(d:Nat):∃ q ids,Ab.snap hp (d+2) p=some (q,ids)∧Wk q (mb e l)∧Ab.canon q=mb e l∧∀ i ∈ ids,b≤i:=by
 obtain⟨hb,h⟩:=h
 rcases h with ⟨rfl,rfl⟩| ⟨id,m,x,hid,_,rfl,_,h⟩
 ·exact⟨.sc (.slice none 0 0),[],rfl,Wk.nil false,rfl,by simp⟩
 ·have ht:bG (br ((l++m).map e) 0) (l.length*1)=some (l.map e):=by
   rw[zH _ _ (by simp)];simp
  refine⟨.imm l.length x (l.map e),[id],?_,?_,he.Z0 _ x l rfl,by simpa using hid⟩
  ·rw[Ab.snap]
   simp only[h]
   rw[if_neg (by simp),ht]
   simp only[he.Ie hp d l]
  ·cases x
   ·exact Wk.refl (by simp[PV.cO])
   ·exact Wk.imm _ _ _
theorem jB.Gj (he:Sc1 e){b:Nat}{hp:List Blk}{l:List α}{p:PV}(h:jB e b hp l p) :
  ∃ rs ids,bt (Ab.snap hp bp) [p]=some (rs,ids)∧WkL rs [mb e l]:=by
 obtain⟨q,ids,h1,h2,h3,-⟩:=h.snap he 10
 refine⟨[q],ids++[],?_,h2,trivial⟩
 simp only[bp,bt,h1]
theorem jB.arg (he:Sc1 e){b:Nat}{hp:List Blk}{l:List α}{p:PV}(h:jB e b hp l p) :
  ∃ q ids,(∀ d,Ab.snap hp (d+2) p=some (q,ids))∧Ab.canon q=mb e l∧∀ i,i<b→aV (roB hp ids) i=aV hp i:=by
 obtain⟨hb,h⟩:=h
 rcases h with ⟨rfl,rfl⟩| ⟨id,m,x,hid,_,rfl,_,h⟩
 ·exact⟨.sc (.slice none 0 0),[],fun _=>rfl,rfl,fun _ _=>rfl⟩
 ·have ht:bG (br ((l++m).map e) 0) (l.length*1)=some (l.map e):=by
   rw[zH _ _ (by simp)];simp
  refine⟨.imm l.length x (l.map e),[id],fun d => ?_,he.Z0 _ x l rfl,fun i hi=>zT hp id i (by omega)⟩
  rw[Ab.snap]
  simp only[h]
  rw[if_neg (by simp),ht]
  simp only[he.Ie hp d l]
theorem jB.set {b:Nat}{hp:List Blk}{l:List α}{p:PV}(h:jB e b hp l p)(i:Nat)(x:Blk)(hi:i<b):jB e b (bO hp i x) l p:=by
 obtain⟨hb,h⟩:=h
 refine⟨by rw[bF];exact hb,?_⟩
 rcases h with ⟨rfl,rfl⟩| ⟨id,m,y,h1,h2,rfl,h3,h⟩
 ·exact .inl ⟨rfl,rfl⟩
 ·refine .inr ⟨id,m,y,h1,by rw[bF];exact h2,rfl,h3,?_⟩
  rw[fH,cK,List.getElem?_set_ne (by omega),← cK]
  exact h
end
def iv (n:Nat):PV:=.sc (.int .i64 n)
theorem iM:Sc1 iv:=fun _=>.inl ⟨_,_,rfl⟩
theorem fz (l:List Nat)(i:Nat)(h:i<l.length):(br (l.map iv) i).head?=some (.sc (.int .i64 (at0 l i:Int))):=by
 rw[kE l i h,de h];rfl
def bz (l:List Nat):PV:=mb iv l
def GQ:List PV→Option (List Nat)
 | []=>some []
 | .sc (.int .i64 (.ofNat n))::r=>bif n.blt 10 then (GQ r).map (n :: ·) else none
 | _=>none
def mB:PV→Option (List Nat)
 | .imm n false cs=>match GQ cs with
  | some l=>bif n.beq l.length && n.blt 10000000 then some l else none
  | none=>none
 | _=>none
theorem yQ:∀ {cs:List PV} {l:List Nat},GQ cs=some l→cs=l.map iv∧T.Dok l
 | [],l,h=>by simp[GQ] at h;subst h;exact⟨rfl,T.Dok.nil⟩
 | c::r,l,h=>by
  unfold GQ at h
  split at h
  ·cases ‹c::r=[]›
  ·rename_i n r' e
   cases hb:n.blt 10 with
   | false=>rw[hb] at h;cases h
   | true =>
    rw[hb] at h
    simp only[cond_true,Option.map_eq_some_iff] at h
    obtain⟨l',h1,rfl⟩:=h
    cases e
    obtain⟨e2,h3⟩:=yQ h1
    exact⟨by rw[e2];rfl,h3.cons (by simpa [Nat.blt_eq] using hb)⟩
  ·cases h
theorem C2:∀ {l:List Nat},T.Dok l→GQ (l.map iv)=some l
 | [],_=>rfl
 | a::l,h=>by
  have h1:a.blt 10=true:=by rw[Nat.blt_eq];exact h.head
  show (bif a.blt 10 then (GQ (l.map iv)).map (a :: ·) else none)=_
  rw[h1,C2 h.tail];rfl
theorem fU {p:PV}{l:List Nat}(h:mB p=some l):p=bz l∧T.Dok l∧l.length<10000000:=by
 unfold mB at h
 split at h
 ·split at h
  ·rename_i n cs _ l' e
   cases hb:n.beq l'.length && n.blt 10000000 with
   | false=>rw[hb] at h;cases h
   | true =>
    rw[hb] at h
    simp only[cond_true,Option.some.injEq] at h
    subst h
    simp only[Bool.and_eq_true,Nat.blt_eq] at hb
    obtain⟨rfl,h3⟩:=yQ e
    have:=Nat.eq_of_beq_eq_true hb.1
    subst this
    exact⟨rfl,h3,hb.2⟩
  ·cases h
 ·cases h
theorem dP {l:List Nat}(h:T.Dok l)(hl:l.length<10000000):mB (bz l)=some l:=by
 have h1:l.length.blt 10000000=true:=by rw[Nat.blt_eq];exact hl
 simp[mB,bz,mb,C2 h,h1]
theorem oY (l:List Nat):canon (bz l)=bz l:=iM.Hf l
end Go.Ab
namespace Go.Ab.T
open Go
def db:Nat→Nat→List Nat
 | 0,_=>[]
 | n+1,v=>v % 10::db n (v / 10)
theorem dn:∀ n v,(db n v).length=n
 | 0,_=>rfl
 | n+1,v=>by simp[db,dn n]
theorem gp:∀ n v,Dok (db n v)
 | 0,_=>Dok.nil
 | n+1,v=>(gp n _).cons (by omega)
theorem fi:∀ n v,v<10 ^ n→val (db n v)=v
 | 0,v,h=>by simp at h;subst h;rfl
 | n+1,v,h=>by
  rw[db,val,fi n _ (by rw[Nat.pow_succ] at h;omega)]
  omega
theorem mU:∀ {l:List Nat},Dok l→db l.length (val l)=l
 | [],_=>rfl
 | a::l,h=>by
  have ha:=h.head
  rw[List.length_cons,db,val,Nat.add_mul_mod_self_left,Nat.mod_eq_of_lt ha,Nat.add_mul_div_left _ _ (by omega),Nat.div_eq_of_lt ha,Nat.zero_add,mU h.tail]
theorem Dok.oS {l:List Nat}{n v:Nat}(h:Dok l)(hl:l.length=n)(hv:val l=v):l=db n v:=by
 subst hl;subst hv;exact (mU h).symm
theorem kN {a:List Nat}{m:Nat}(hm:m<a.length):val a=val (a.take m)+(a[m]*10 ^ m+10 ^ (m+1)*val (a.drop (m+1))):=by
 rw[kO a (m+1) (by omega),gK a m hm]
 omega
theorem kM {a b:List Nat}{m:Nat}(ha:Dok a)(hma:m<a.length)(hmb:m<b.length)(hd:a.drop (m+1)=b.drop (m+1))(h:a[m]<b[m]):val a<val b:=by
 rw[kN hma,kN hmb,hd]
 have h1:=eL (ha.take m)
 rw[List.length_take,Nat.min_eq_left (by omega)] at h1
 have h2:a[m]*10 ^ m+10 ^ m≤b[m]*10 ^ m:=by
  have:=Nat.mul_le_mul_right (10 ^ m) (show a[m]+1≤b[m] from h)
  rw[Nat.add_mul,Nat.one_mul] at this
  exact this
 omega
theorem cI (l:List Nat)(i:Nat)(h:l.length≤i):val (l.take i)=val l:=by
 rw[List.take_of_length_le h]
open Go
theorem cw {l:List Nat}(h:Dok l)(i:Nat):at0 l i<10:=by
 by_cases hi:i<l.length
 ·rw[de hi];exact h.get hi
 ·rw[iV (by omega)];omega
theorem cD (l:List Nat)(i:Nat):val (l.take (i+1))=val (l.take i)+at0 l i*10 ^ i:=by
 by_cases hi:i<l.length
 ·rw[de hi,gK l i hi]
 ·rw[iV (by omega),cI l _ (by omega),cI l _ (by omega)];simp
theorem SA {T:Tab}{t e:Nat}(hu:und T t=some (.slice e))(hs:dc T e=some 1)(hz:eK T e=some [dg 0])(n:Nat) :
  ie T t 1 [(0,dg n)]=some (1,[dg n]):=by
 simp[ie,hu,hs,hz,rep,dR,fV,cj]
theorem mP (hp:List Blk)(n:Nat):fO hp 1 (.imm 1 true [dg n])=some (1,[dg n],[]):=by simp[fO]
theorem jt (n:Nat):cq [dg n]=true:=(rfl)
theorem gN (n:Nat):PV.sc (.int .u32 (n:Int))=dg n:=(rfl)
open Go
theorem Um (s:Nat):((s:Int) / 10)=((s / 10:Nat):Int):=by omega
theorem jr (k:IntKind)(a s:Nat)(h:s=a / 10)(hs:s≤hiN k):bA k ((a:Int) / 10)=(s:Int):=by
 subst h
 rw[Um];exact dy k _ hs
theorem kS (a s:Nat)(h:s=a % 10):(a:Int).tmod 10=(s:Int):=by
 subst h
 rw[Int.tmod_eq_emod_of_nonneg (by omega)];omega
theorem ly (k:IntKind)(a s:Nat)(h:s=a*10)(hs:s≤hiN k):bA k ((a:Int)*10)=(s:Int):=by
 have e:((a:Int)*10)=(s:Int):=by omega
 rw[e];exact dy k _ hs
open Go
theorem cH {x y:Nat}(h:x≤y):(aG x).length≤(aG y).length:=di (Nat.lt_of_le_of_lt h (fy y))
open Go
theorem kG {l:List Nat}{m y:Nat}(h:m<l.length):(l.set m y).drop m=y::l.drop (m+1):=by
 rw[List.drop_eq_getElem_cons (by simpa using h)]
 simp[List.drop_set]
theorem ik (l:List Nat)(m:Nat)(h:m<l.length):val (l.drop m)=at0 l m+10*val (l.drop (m+1)):=by
 rw[List.drop_eq_getElem_cons h,val,de h]
theorem Dm {V V' Q R a b:Nat}(hb:0<b)(hV:V'=a+10*V)(hQ:Q=V / b)(hR:R=V % b) :
  (R*10+a) / b+10*Q=V' / b∧(R*10+a) % b=V' % b:=by
 have e:V'=(R*10+a)+b*(10*Q):=by
  have h:=Nat.div_add_mod V b
  rw[← hQ,← hR] at h
  rw[hV,← h]
  grind
 rw[e,Nat.add_mul_div_left _ _ hb,Nat.add_mul_mod_self_left]
 exact⟨rfl,rfl⟩
end Go.Ab.T
namespace Go.Ab
open Go
theorem dK (l:List Nat):ef (bz l)=some l.length:=(rfl)
theorem qv (n:Nat):(iv n).cells?=some [iv n]:=(rfl)
theorem dN (n:Nat):dw (iv n)=true:=(rfl)
theorem pz (n:Nat):PV.sc (.int .i64 (n:Int))=iv n:=(rfl)
theorem j9 (hp:List Blk)(n:Nat):fO hp 1 (.imm 1 true [iv n])=some (1,[iv n],[]):=by simp[fO]
theorem Iu (hp:List Blk)(n:Nat):fO hp 1 (.imm 1 true [u8v n])=some (1,[u8v n],[]):=by simp[fO]
theorem iA (n:Nat):cq [iv n]=true:=(rfl)
theorem rI (n:Nat):cq [u8v n]=true:=(rfl)
theorem aas (n:Nat):PV.sc (.int .u8 (n:Int))=u8v n:=(rfl)
theorem DA (n:Nat):(u8v n).cells?=some [u8v n]:=(rfl)
theorem k9 (n:Nat):dw (u8v n)=true:=(rfl)
theorem acV {T:Tab}{t e:Nat}(hu:und T t=some (.slice e))(hs:dc T e=some 1)(hz:eK T e=some [iv 0])(n:Nat) :
  ie T t 1 [(0,iv n)]=some (1,[iv n]):=by
 simp[ie,hu,hs,hz,rep,dR,qv,cj]
theorem acT {T:Tab}{t e:Nat}(hu:und T t=some (.slice e))(hs:dc T e=some 1)(hz:eK T e=some [u8v 0])(n:Nat) :
  ie T t 1 [(0,u8v n)]=some (1,[u8v n]):=by
 simp[ie,hu,hs,hz,rep,dR,DA,cj]
def tx (l:List Nat):ByteArray:=mkStr (l.map UInt8.ofNat)
def Bok (l:List Nat):Prop:=∀ x ∈ l,x<256
theorem mh (s:ByteArray):Bok (bys s):=fun x hx=>by
 simp only[bys,List.mem_map] at hx
 obtain⟨b,-,rfl⟩:=hx
 exact b.toNat_lt
theorem il (s:ByteArray):tx (bys s)=s:=by
 unfold tx bys
 rw[List.map_map]
 have:(UInt8.ofNat ∘ UInt8.toNat)=id:=by funext b;simp
 rw[this,List.map_id,fx]
theorem jX {l:List Nat}(h:Bok l):bys (tx l)=l:=by
 unfold tx bys
 rw[ff,List.map_map]
 conv=>rhs;rw[← List.map_id l]
 exact List.map_congr_left fun x hx=>by
  have:=h x hx
  simp[Nat.mod_eq_of_lt this]
theorem dJ (l:List Nat):(bK (tx l)).length=l.length:=by simp[tx,ff]
theorem eX {T:Tab}{t:Nat}(hu:und T t=some .string){l:List Nat}(h:Bok l)(k:IntKind)(i:Nat)(hi:i<l.length) :
  hZ T t (.sc (.string (tx l))) (.sc (.int k (i:Int)))=some (.sc (.int .u8 (at0 l i:Int))):=by
 have h1:CH (bK (tx l)) i=some (UInt8.ofNat l[i]):=by
  rw[tx,ff,II]
  simp[hi]
 have h2:fX (.sc (.int k (i:Int)))=some i:=bm k i
 simp only[hZ,hu,h2,h1,Option.map_some]
 have:=h _ (List.getElem_mem hi)
 rw[de hi]
 simp[Nat.mod_eq_of_lt this]
theorem Bok.nil:Bok []:=fun _ h=>by cases h
theorem Bok.cons {a:Nat}{l:List Nat}(h:a<256)(h':Bok l):Bok (a::l):=fun x hx=>by
 rcases List.mem_cons.1 hx with rfl | hx
 ·exact h
 ·exact h' x hx
theorem Bok.append {l m:List Nat}(h:Bok l)(h':Bok m):Bok (l++m):=fun x hx=>by
 rcases List.mem_append.1 hx with hx | hx
 ·exact h x hx
 ·exact h' x hx
theorem Bok.take {l:List Nat}(h:Bok l)(n:Nat):Bok (l.take n):=fun x hx=>h x (List.mem_of_mem_take hx)
theorem Bok.drop {l:List Nat}(h:Bok l)(n:Nat):Bok (l.drop n):=fun x hx=>h x (List.mem_of_mem_drop hx)
theorem Bok.get {l:List Nat}(h:Bok l){i:Nat}(hi:i<l.length):l[i]<256:=h _ (List.getElem_mem hi)
theorem Bok.at {l:List Nat}(h:Bok l)(i:Nat):at0 l i<256:=by
 by_cases hi:i<l.length
 ·rw[de hi];exact h.get hi
 ·rw[iV (by omega)];omega
theorem DM {l:List Nat}(h:Bok l):jo (l.map u8v)=some (l.map UInt8.ofNat):=by
 induction l with
 | nil=>rfl
 | cons a l ih =>
  have ha:a<256:=h a (by simp)
  have:=ih (fun x hx=>h x (by simp[hx]))
  simp only[List.map_cons,u8v,jo] at this ⊢
  simp[this]
end Go.Ab
namespace Go.Proofs.YtjdmodeenbdfpaaGreat
open Go Go.Ab
theorem uL:und TT 24=some (.slice 3):=by kernel_rfl
theorem sI:dc TT 3=some 1:=by kernel_rfl
theorem aI:fR TT 3=some false:=by kernel_rfl
theorem bI:iT TT 3=some 8:=by kernel_rfl
theorem zI:eK TT 3=some [iv 0]:=by kernel_rfl
theorem uAR:und TT 27=some .string:=by kernel_rfl
theorem DZ:base.F.get 156=some Tryz.f156:=by kernel_rfl
theorem kU:base.shared 156=false:=by kernel_rfl
theorem xB:base.F.get 115=some Tryz.f115:=by kernel_rfl
theorem sh:base.shared 115=false:=by kernel_rfl
theorem tn:base.F.get 116=some Tryz.f116:=by kernel_rfl
theorem jE:base.shared 116=false:=by kernel_rfl
theorem qI:base.F.get 113=some Tryz.f113:=by kernel_rfl
theorem uG:base.shared 113=false:=by kernel_rfl
theorem oI:base.F.get 114=some Tryz.f114:=by kernel_rfl
theorem si:base.shared 114=false:=by kernel_rfl
theorem nK:base.F.get 118=some Tryz.f118:=by kernel_rfl
theorem xV:base.shared 118=false:=by kernel_rfl
theorem HE:base.F.get 117=some Tryz.f117:=by kernel_rfl
theorem Ox:base.shared 117=false:=by kernel_rfl
theorem D0:base.F.get 119=some Tryz.f119:=by kernel_rfl
theorem xW:base.shared 119=false:=by kernel_rfl
theorem HH:base.F.get 120=some Tryz.f120:=by kernel_rfl
theorem Bz:base.shared 120=false:=by kernel_rfl
theorem HG:base.F.get 155=some Tryz.f155:=by kernel_rfl
theorem Bx:base.shared 155=false:=by kernel_rfl
theorem HJ:base.F.get 69=some Tryz.f69:=by kernel_rfl
theorem BC:base.shared 69=false:=by kernel_rfl
theorem Ea:base.F.get 66=some Tryz.f66:=by kernel_rfl
theorem qP:base.shared 66=false:=by kernel_rfl
theorem xC:base.F.get 147=some Tryz.f147:=by kernel_rfl
theorem BB:base.shared 147=false:=by kernel_rfl
theorem Eb:base.F.get 100=some Tryz.f100:=by kernel_rfl
theorem J1:base.shared 100=false:=by kernel_rfl
theorem jC:base.F.get 111=some Tryz.f111:=by kernel_rfl
theorem EP:base.shared 111=false:=by kernel_rfl
theorem AW:base.F.get 68=some Tryz.f68:=by kernel_rfl
theorem ER:base.shared 68=false:=by kernel_rfl
theorem HF:base.F.get 121=some Tryz.f121:=by kernel_rfl
theorem Bw:base.shared 121=false:=by kernel_rfl
theorem HI:base.F.get 112=some Tryz.f112:=by kernel_rfl
theorem BA:base.shared 112=false:=by kernel_rfl
theorem AX:base.F.get 157=some Tryz.f157:=by kernel_rfl
theorem ES:base.shared 157=false:=by kernel_rfl
noncomputable def kc:Code:=((Tryz.f156.body).bind az).getD .skip
theorem PX (l:List Nat)(a:Nat)(hp:List Blk):dt TT hp 24 (bz (l++[a])) none (some (.sc (.int .i64 (l.length:Int)))) none=some (bz l):=by
 have h:bz (l++[a]) = .imm (l.length+1) false ((l++[a]).map iv):=by simp[bz,mb]
 rw[h]
 simp only[dt,uL,im,sI,bnd,fk,fX,Option.map]
 simp[gT,br]
 rw[dM (by simp)]
 simp[bz,mb]
set_option maxHeartbeats 1000000 in
theorem B5 (L:Lst)(run:ar)(k:Nat)(fr:List PV)(hp:List Blk)(wr:List Nat)(l:List Nat)(a:Nat)(hl:l.length<10000000)(ha:a≠0)
  (h21:fr.length=21) (h0:nth fr 0=bz (l++[a])) :
  ∃ fr',af (CC L) run k kc ⟨fr,hp,wr⟩=some (.exit 0,⟨fr',hp,wr⟩)∧nth fr' 0=nth fr 0∧fr'.length=21:=by
 have hw:bA .i64 ((l.length+1:Nat) - 1:Int)=Int.ofNat l.length:=by
  have:=dy .i64 l.length (by simp[hiN];omega)
  rw[← this];congr 1;omega
 have hw':bA .i64 (l.length:Int)=Int.ofNat l.length:=dy .i64 l.length (by simp[hiN];omega)
 have h:bz (l++[a]) = .imm (l.length+1) false ((l++[a]).map iv):=by simp[bz,mb]
 have hd:(br ((l++[a]).map iv) l.length).head?=some (.sc (.int .i64 a)):=by
  rw[kE _ _ (by simp)];simp[iv]
 rw[h] at h0
 have ha':((a:Int) == 0)=false:=by simp;exact ha
 simp[kc,Tryz.f156,az,af,aJ,ao,aq,aH,ag,ai,aj,an,aF,aC,FP.none,bd,au,bj,aw,bM,bc,bm,partOf,aa,ae,ab,bh,cS,h21,h0,uL,sI,aI,hw',hd,ha',aU,-List.map_append]
set_option maxHeartbeats 1000000 in
theorem Fw (L:Lst)(run:ar)(k:Nat)(fr:List PV)(hp:List Blk)(wr:List Nat)(h21:fr.length=21)(h0:nth fr 0=bz []) :
  ∃ fr',af (CC L) run k kc ⟨fr,hp,wr⟩=some (.exit 0,⟨fr',hp,wr⟩)∧nth fr' 0=nth fr 0∧fr'.length=21:=by
 have h:bz [] = .imm 0 false []:=rfl
 rw[h] at h0
 simp[kc,Tryz.f156,az,af,aJ,ao,aq,aH,ag,ai,aj,an,aF,aC,FP.none,bd,au,bj,aw,bM,aa,ae,ab,bh,cS,h21,h0,uL,-List.map_append]
set_option maxHeartbeats 1000000 in
theorem Lc (L:Lst)(run:ar)(k:Nat)(fr:List PV)(hp:List Blk)(wr:List Nat)(l:List Nat)(hl:l.length<10000000)
  (h21:fr.length=21) (h0:nth fr 0=bz (l++[0])) :
  ∃ fr',af (CC L) run k kc ⟨fr,hp,wr⟩=some (.normal,⟨fr',hp,wr⟩)∧nth fr' 0=bz l∧fr'.length=21:=by
 have hw':bA .i64 (l.length:Int)=Int.ofNat l.length:=dy .i64 l.length (by simp[hiN];omega)
 have h:bz (l++[0]) = .imm (l.length+1) false ((l++[0]).map iv):=by simp[bz,mb]
 have hd:(br ((l++[0]).map iv) l.length).head?=some (.sc (.int .i64 0)):=by
  rw[kE _ _ (by simp)];simp[iv]
 have hs:=PX l 0
 rw[h] at h0 hs
 simp[kc,Tryz.f156,az,af,aJ,ao,aq,aH,ag,ai,aj,an,aF,aC,FP.none,bd,au,bj,aw,bM,bc,bm,partOf,aa,ae,ab,bh,cS,h21,h0,uL,sI,aI,hw',hd,hs,aU,-List.map_append]
theorem sA (L:Lst)(run:ar)(k:Nat):∀ (n:Nat) (l:List Nat) (fr:List PV) (hp:List Blk) (wr:List Nat),l.length=n→n<10000000→fr.length=21→nth fr 0=bz l →
  ∃ fr',cl (af (CC L) run k kc) (n+1) ⟨fr,hp,wr⟩=some (.exit 0,⟨fr',hp,wr⟩)∧nth fr' 0=bz (T.fe l)∧fr'.length=21
 | 0,l,fr,hp,wr,hl,hn,h21,h0=>by
  have:l=[]:=List.length_eq_zero_iff.1 hl
  subst this
  obtain⟨fr',h1,h2,h3⟩:=Fw L run k fr hp wr h21 h0
  exact⟨fr',bD h1,by rw[h2,h0];rfl,h3⟩
 | n+1,l,fr,hp,wr,hl,hn,h21,h0=>by
  obtain⟨l',a,rfl,hl'⟩:=zJ hl
  by_cases ha:a=0
  ·subst ha
   obtain⟨fr1,h1,h2,h3⟩:=Lc L run k fr hp wr l' (by omega) h21 h0
   obtain⟨fr',g1,g2,g3⟩:=sA L run k n l' fr1 hp wr hl' (by omega) h3 h2
   exact⟨fr',by rw[ch h1];exact g1,by rw[g2,T.eC,if_pos rfl],g3⟩
  ·obtain⟨fr',h1,h2,h3⟩:=B5 L run k fr hp wr l' a (by omega) ha h21 h0
   exact⟨fr',bD h1,by rw[h2,h0,T.eC,if_neg ha],h3⟩
noncomputable def lP:Code:=Tryz.f156.body.getD .skip
theorem Ah:ah 1 lP = .seq (.block 0 (.loop kc)) (ah 2 lP):=rfl
theorem Fv (L:Lst)(run:ar)(k:Nat)(p:PV):∃ fr,aY (CC L) run k 1 lP ⟨entry 21 [p],[],[]⟩=some ⟨fr,[],[]⟩∧fr.length=21∧nth fr 0=p:=by
 simp[lP,Tryz.f156,aY,entry,nth,fm,af,aJ,ao,aq,aH,ag,ai,aj,an,aF,aC,FP.none,aw]
theorem B6 (L:Lst)(run:ar)(k:Nat)(fr:List PV)(hp:List Blk)(wr:List Nat)(p:PV)(h21:fr.length=21)(h0:nth fr 0=p) :
  ∃ st,af (CC L) run k (ah 2 lP) ⟨fr,hp,wr⟩=some (.ret,st)∧aZ TT st.fr st.hp Tryz.f156.results.toList=some [p]:=by
 simp[lP,ah,Tryz.f156,af,aJ,ao,aq,aH,ag,ai,aj,an,aF,aC,FP.none,aa,ab,h21,h0,aZ]
def iu:List PV→Option (List PV)
 | [p]=>match mB p with
  | some l=>some [bz (T.fe l)]
  | none=>none
 | _=>none
theorem oM (hp:List Blk)(l:List Nat):bt (snap hp bp) [bz l]=some ([bz l],[]):=rfl
theorem sz:Ab.Spec base.P 156 iu:=Ab.Spec.bQ (C:=CC []) (cV trivial) fun args rs h=>by
 unfold iu at h
 split at h
 ·split at h
  ·rename_i l hl
   obtain⟨rfl,_,hlen⟩:=fU hl
   simp only[Option.some.injEq] at h
   subst h
   obtain⟨fr1,h1,h20,h0⟩:=Fv [] (runK (CC []) (l.length+1)) (l.length+1) (bz l)
   obtain⟨fr2,g1,g2,g3⟩:=sA [] (runK (CC []) (l.length+1)) (l.length+1) l.length l fr1 [] [] rfl (by omega) h20 h0
   obtain⟨st,e1,e2⟩:=B6 [] (runK (CC []) (l.length+1)) (l.length+1) fr2 [] [] _ g3 g2
   have hx:af (CC []) (runK (CC []) (l.length+1)) (l.length+1) lP ⟨entry 21 [bz l],[],[]⟩=some (.ret,st):=by
    rw[aP 1 h1,Ah,av (bH g1)]
    exact e1
   exact⟨l.length+2,_,_,_,_,_,aX DZ rfl hx e2,oM _ _,Wk.refl rfl,trivial⟩
  ·cases h
 ·cases h
noncomputable def iZ:Code:=((Tryz.f118.body).bind az).getD .skip
noncomputable def gk:Code:=Tryz.f118.body.getD .skip
set_option maxHeartbeats 1000000 in
theorem FC (L:Lst)(run:ar)(k:Nat)(fr:List PV)(h41:fr.length=41)(h5:nth fr 5 = .sc (.int .i64 (-1))) :
  ∃ fr',af (CC L) run k iZ ⟨fr,[],[]⟩=some (.exit 0,⟨fr',[],[]⟩)∧fr'.length=41:=by
 simp[iZ,Tryz.f118,az,af,aJ,ao,aq,aH,ag,ai,aj,an,aF,aC,FP.none,bd,au,bj,aw,aa,ab,h41,h5]
set_option maxHeartbeats 1000000 in
theorem Lk (L:Lst)(run:ar)(k:Nat)(fr:List PV)(a b:List Nat)(m:Nat)(hma:m<a.length)(hmb:m<b.length)(hl:a.length<10000000)
  (h41:fr.length=41) (h0:nth fr 0=bz a) (h1:nth fr 1=bz b) (h5:nth fr 5 = .sc (.int .i64 (m:Int))) (h:a[m]=b[m]) :
  ∃ fr',af (CC L) run k iZ ⟨fr,[],[]⟩=some (.normal,⟨fr',[],[]⟩)∧fr'.length=41∧nth fr' 0=bz a∧nth fr' 1=bz b∧nth fr' 5 = .sc (.int .i64 ((m:Int) - 1)):=by
 have hw:bA .i64 ((m:Int) - 1)=(m:Int) - 1:=cR m (by omega)
 have hda:=kE (e:=iv) a m hma
 have hdb:=kE (e:=iv) b m hmb
 rw[h] at hda
 generalize b[m]=y at *
 have e1:bz a = .imm a.length false (a.map iv):=rfl
 have e2:bz b = .imm b.length false (b.map iv):=rfl
 have hdg:iv y = .sc (.int .i64 (y:Int)):=rfl
 rw[e1] at h0 ⊢;rw[e2] at h1 ⊢;rw[hdg] at hda hdb
 simp[iZ,Tryz.f118,az,af,aJ,ao,aq,aH,ag,ai,aj,an,aF,aC,FP.none,bd,au,bj,aw,bc,bm,partOf,aa,ae,ab,bh,h41,h0,h1,h5,uL,sI,aI,hma,hmb,hda,hdb,aU,number,FP.free,hw]
set_option maxHeartbeats 1000000 in
theorem Lj (L:Lst)(run:ar)(k:Nat)(fr:List PV)(a b:List Nat)(m:Nat)(hma:m<a.length)(hmb:m<b.length)(hl:a.length<10000000)
  (h41:fr.length=41) (h0:nth fr 0=bz a) (h1:nth fr 1=bz b) (h5:nth fr 5 = .sc (.int .i64 (m:Int))) (h:a[m]≠b[m]) :
  ∃ fr',af (CC L) run k iZ ⟨fr,[],[]⟩=some (.ret,⟨fr',[],[]⟩)∧fr'.length=41∧nth fr' 4 = .sc (.int .i64 (if a[m]<b[m] then -1 else 1)):=by
 have hda:=kE (e:=iv) a m hma
 have hdb:=kE (e:=iv) b m hmb
 generalize b[m]=y at *
 generalize a[m]=x at *
 have e1:bz a = .imm a.length false (a.map iv):=rfl
 have e2:bz b = .imm b.length false (b.map iv):=rfl
 have hdx:iv x = .sc (.int .i64 (x:Int)):=rfl
 have hdy:iv y = .sc (.int .i64 (y:Int)):=rfl
 rw[e1] at h0;rw[e2] at h1;rw[hdx] at hda;rw[hdy] at hdb
 by_cases hxy:x<y
 ·simp[iZ,Tryz.f118,az,af,aJ,ao,aq,aH,ag,ai,aj,an,aF,aC,FP.none,bd,au,bj,aw,bc,bm,partOf,aa,ae,ab,bh,h41,h0,h1,h5,uL,sI,aI,hma,hmb,hda,hdb,aU,number,FP.free,hxy]
 ·have hyx:y<x:=by omega
  simp[iZ,Tryz.f118,az,af,aJ,ao,aq,aH,ag,ai,aj,an,aF,aC,FP.none,bd,au,bj,aw,bc,bm,partOf,aa,ae,ab,bh,h41,h0,h1,h5,uL,sI,aI,hma,hmb,hda,hdb,aU,number,FP.free,hxy,hyx]
theorem sH (L:Lst)(run:ar)(k:Nat)(a b:List Nat)(hab:a.length=b.length)(hl:a.length<10000000)(ha:T.Dok a)(hb:T.Dok b):∀ (m:Nat) (fr:List PV),m≤a.length →
  fr.length=41→nth fr 0=bz a→nth fr 1=bz b→nth fr 5 = .sc (.int .i64 ((m:Int) - 1))→a.drop m=b.drop m →
  (∃ fr',cl (af (CC L) run k iZ) (m+1) ⟨fr,[],[]⟩=some (.exit 0,⟨fr',[],[]⟩)∧fr'.length=41∧dQ (T.val a) (T.val b)=0) ∨
  (∃ fr',cl (af (CC L) run k iZ) (m+1) ⟨fr,[],[]⟩=some (.ret,⟨fr',[],[]⟩)∧nth fr' 4 = .sc (.int .i64 (dQ (T.val a) (T.val b))))
 | 0,fr,hm,h41,h0,h1,h5,hd=>by
  obtain⟨fr',g1,g2⟩:=FC L run k fr h41 h5
  refine .inl ⟨fr',bD g1,g2,?_⟩
  simp at hd
  simp[dQ,hd]
 | m+1,fr,hm,h41,h0,h1,h5,hd=>by
  have h5':nth fr 5 = .sc (.int .i64 (m:Int)):=by rw[h5];simp
  have hmb:m<b.length:=by omega
  have hma:m<a.length:=by omega
  by_cases h:a[m]=b[m]
  ·obtain⟨fr1,g1,g2,g3,g4,g5⟩:=Lk L run k fr a b m hma hmb hl h41 h0 h1 h5' h
   have hd':a.drop m=b.drop m:=by rw[List.drop_eq_getElem_cons hma,List.drop_eq_getElem_cons hmb,hd,h]
   rw[ch g1]
   exact sH L run k a b hab hl ha hb m fr1 (by omega) g2 g3 g4 g5 hd'
  ·obtain⟨fr1,g1,g2,g3⟩:=Lj L run k fr a b m hma hmb hl h41 h0 h1 h5' h
   refine .inr ⟨fr1,eF g1,?_⟩
   rw[g3]
   by_cases hxy:a[m]<b[m]
   ·have:=T.kM ha hma hmb hd hxy
    rw[if_pos hxy,dQ,if_pos this]
   ·have:=T.kM hb hmb hma hd.symm (by omega)
    rw[if_neg hxy,dQ,if_neg (by omega),if_neg (by omega)]
def kd (a b:List Nat):Int:=if a.length<b.length then -1 else if b.length<a.length then 1 else dQ (T.val a) (T.val b)
theorem Cc (L:Lst)(run:ar)(k:Nat)(a b:List Nat)(h:a.length≠b.length) :
  ∃ st,af (CC L) run k gk ⟨entry 41 [bz a,bz b],[],[]⟩=some (.ret,st)∧aZ TT st.fr st.hp Tryz.f118.results.toList=some [Ab.bJ (kd a b)]:=by
 by_cases hx:a.length<b.length
 ·simp[gk,Tryz.f118,entry,nth,fm,af,aJ,ao,aq,aH,ag,ai,aj,an,aF,aC,FP.none,bd,au,bj,aw,bM,bh,DN,dK,uL,h,hx,aZ,kd,Ab.bJ]
 ·have:b.length<a.length:=by omega
  simp[gk,Tryz.f118,entry,nth,fm,af,aJ,ao,aq,aH,ag,ai,aj,an,aF,aC,FP.none,bd,au,bj,aw,bM,bh,DN,dK,uL,h,hx,this,aZ,kd,Ab.bJ]
theorem Cb (L:Lst)(run:ar)(k:Nat)(a b:List Nat)(h:a.length=b.length)(hl:a.length<10000000) :
  ∃ fr,aY (CC L) run k 2 gk ⟨entry 41 [bz a,bz b],[],[]⟩=some ⟨fr,[],[]⟩∧fr.length=41∧nth fr 0=bz a∧nth fr 1=bz b:=by
 simp[gk,Tryz.f118,aY,entry,nth,fm,af,aJ,ao,aq,aH,ag,ai,aj,an,aF,aC,FP.none,bd,au,bj,aw,bM,bh,dK,uL,h]
noncomputable def vi:Code:=seq1 (seq1 (ah 2 gk))
theorem pF:ah 2 gk = .seq (.seq vi (.block 0 (.loop iZ))) (ah 3 gk):=rfl
theorem Li (L:Lst)(run:ar)(k:Nat)(fr:List PV)(a b:List Nat)(hl:a.length<10000000)(h41:fr.length=41)(h0:nth fr 0=bz a)(h1:nth fr 1=bz b) :
  ∃ fr',af (CC L) run k vi ⟨fr,[],[]⟩=some (.normal,⟨fr',[],[]⟩)∧fr'.length=41∧nth fr' 0=bz a∧nth fr' 1=bz b∧nth fr' 5 = .sc (.int .i64 ((a.length:Int) - 1)):=by
 have hw:bA .i64 ((a.length:Int) - 1)=(a.length:Int) - 1:=cR _ (by omega)
 simp[vi,gk,ah,seq1,Tryz.f118,af,aJ,ao,aq,aH,ag,ai,aj,an,aF,aC,FP.none,bd,au,bj,aw,bM,aa,ae,ab,bh,dK,uL,h41,h0,h1,hw]
theorem Cd (L:Lst)(run:ar)(k:Nat)(fr:List PV)(h41:fr.length=41) :
  ∃ st,af (CC L) run k (ah 3 gk) ⟨fr,[],[]⟩=some (.ret,st)∧aZ TT st.fr st.hp Tryz.f118.results.toList=some [Ab.bJ 0]:=by
 simp[gk,ah,Tryz.f118,af,aJ,ao,aq,aH,ag,ai,aj,an,aF,aC,FP.none,aw,aa,h41,aZ,Ab.bJ]
def ke:List PV→Option (List PV)
 | [p,q]=>match mB p,mB q with
  | some a,some b=>some [Ab.bJ (kd a b)]
  | _,_=>none
 | _=>none
theorem sG:Ab.Spec base.P 118 ke:=Ab.Spec.bQ (C:=CC []) (cV trivial) fun args rs h=>by
 unfold ke at h
 split at h
 ·split at h
  ·rename_i a b ea eb
   obtain⟨rfl,ha,hla⟩:=fU ea
   obtain⟨rfl,hb,hlb⟩:=fU eb
   simp only[Option.some.injEq] at h
   subst h
   by_cases hab:a.length=b.length
   ·obtain⟨fr1,h1,h2,h3,h4⟩:=Cb [] (runK (CC []) (a.length+1)) (a.length+1) a b hab hla
    obtain⟨fr2,g1,g2,g3,g4,g5⟩:=Li [] (runK (CC []) (a.length+1)) (a.length+1) fr1 a b hla h2 h3 h4
    have hs:kd a b=dQ (T.val a) (T.val b):=by simp[kd,hab]
    rcases sH [] (runK (CC []) (a.length+1)) (a.length+1) a b hab hla ha hb a.length fr2 (Nat.le_refl _) g2 g3 g4 g5 (by simp[hab]) with ⟨fr3,q1,q2,q3⟩| ⟨fr3,q1,q2⟩
    ·obtain⟨st,e1,e2⟩:=Cd [] (runK (CC []) (a.length+1)) (a.length+1) fr3 q2
     have hx:af (CC []) (runK (CC []) (a.length+1)) (a.length+1) gk ⟨entry 41 [bz a,bz b],[],[]⟩=some (.ret,st):=by
      rw[aP 2 h1,pF,av ((av g1).trans (bH q1))]
      exact e1
     rw[hs,q3]
     exact⟨a.length+2,_,_,_,_,_,aX nK rfl hx e2,eE _ _,Wk.refl rfl,trivial⟩
    ·have hx:af (CC []) (runK (CC []) (a.length+1)) (a.length+1) gk ⟨entry 41 [bz a,bz b],[],[]⟩=some (.ret,⟨fr3,[],[]⟩):=by
      rw[aP 2 h1,pF,cB ((av g1).trans (da q1))]
     have e2:aZ TT fr3 [] Tryz.f118.results.toList=some [Ab.bJ (dQ (T.val a) (T.val b))]:=by
      simp[Tryz.f118,aZ,q2,Ab.bJ]
     rw[hs]
     exact⟨a.length+2,_,_,_,_,_,aX nK rfl hx e2,eE _ _,Wk.refl rfl,trivial⟩
   ·obtain⟨st,e1,e2⟩:=Cc [] (runK (CC []) 1) 1 a b hab
    exact⟨2,_,_,_,_,_,aX nK rfl e1 e2,eE _ _,Wk.refl rfl,trivial⟩
  ·cases h
 ·cases h
end Go.Proofs.YtjdmodeenbdfpaaGreat
