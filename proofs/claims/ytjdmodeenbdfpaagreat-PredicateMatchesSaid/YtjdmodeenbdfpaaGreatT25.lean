/- An abstract interpreter over the model's code and its soundness, part 25 of the proof; each lemma states its own conditions. -/
import Derived.Test.YtjdmodeenbdfpaaGreatT16
import Derived.Test.YtjdmodeenbdfpaaGreatT21
import Derived.Test.YtjdmodeenbdfpaaGreatT24
set_option linter.unusedSimpArgs false
set_option linter.unusedVariables false
namespace Go.Ab
open List
namespace T
def val:List Nat→Nat
 | []=>0
 | a::l=>a+10*val l
def jL:Nat→Nat→List Nat
 | 0,_=>[]
 | k+1,n=>if n=0 then [] else n % 10::jL k (n / 10)
def aK (n:Nat):List Nat:=jL (n.log2+1) n
def Dok (l:List Nat):Prop:=∀ x ∈ l,x<10
def fw (l:List Nat):List Nat:=(l.reverse.dropWhile (· == 0)).reverse
theorem Dok.nil:Dok []:=fun _ h=>by cases h
theorem Dok.cons {a:Nat}{l:List Nat}(h:a<10)(h':Dok l):Dok (a::l):=fun x hx=>by
 rcases mem_cons.1 hx with rfl | hx
 ·exact h
 ·exact h' x hx
theorem Dok.head {a:Nat}{l:List Nat}(h:Dok (a::l)):a<10:=h a (by simp)
theorem Dok.tail {a:Nat}{l:List Nat}(h:Dok (a::l)):Dok l:=fun x hx=>h x (by simp[hx])
theorem Dok.append {l m:List Nat}(h:Dok l)(h':Dok m):Dok (l++m):=fun x hx=>by
 rcases mem_append.1 hx with hx | hx
 ·exact h x hx
 ·exact h' x hx
theorem Dok.left {l m:List Nat}(h:Dok (l++m)):Dok l:=fun x hx=>h x (by simp[hx])
theorem Dok.right {l m:List Nat}(h:Dok (l++m)):Dok m:=fun x hx=>h x (by simp[hx])
theorem Dok.get {l:List Nat}(h:Dok l){i:Nat}(hi:i<l.length):l[i]<10:=h _ (getElem_mem hi)
theorem Dok.set {l:List Nat}(h:Dok l)(i:Nat){y:Nat}(hy:y<10):Dok (l.set i y):=fun x hx=>by
 rcases mem_or_eq_of_mem_set hx with hx | rfl
 ·exact h x hx
 ·exact hy
theorem Dok.JH (n:Nat):Dok (List.replicate n 0):=fun x hx=>by
 rw[(mem_replicate.1 hx).2];omega
theorem Dok.take {l:List Nat}(h:Dok l)(n:Nat):Dok (l.take n):=fun x hx=>h x (mem_of_mem_take hx)
theorem Dok.drop {l:List Nat}(h:Dok l)(n:Nat):Dok (l.drop n):=fun x hx=>h x (mem_of_mem_drop hx)
theorem iz (l m:List Nat):val (l++m)=val l+10 ^ l.length*val m:=by
 induction l with
 | nil=>simp[val]
 | cons a l ih =>
  simp only[cons_append,val,ih,length_cons,Nat.pow_succ]
  grind
theorem dP (l:List Nat)(a:Nat):val (l++[a])=val l+10 ^ l.length*a:=by
 rw[iz];simp[val]
theorem oK (n:Nat):val (List.replicate n 0)=0:=by
 induction n with
 | zero=>rfl
 | succ n ih=>simp[replicate_succ,val,ih]
theorem qB (l:List Nat)(i y:Nat)(hi:i<l.length):val (l.set i y)+l[i]*10 ^ i=val l+y*10 ^ i:=by
 induction l generalizing i with
 | nil=>simp at hi
 | cons a l ih =>
  cases i with
  | zero=>simp[val];omega
  | succ i =>
   have:=ih i (by simpa using hi)
   simp only[set_cons_succ,val,getElem_cons_succ,Nat.pow_succ]
   grind
theorem ij (l:List Nat)(i:Nat)(hi:i<l.length):val (l.take (i+1))=val (l.take i)+l[i]*10 ^ i:=by
 rw[take_succ_eq_append_getElem hi,dP,length_take,Nat.min_eq_left (by omega),Nat.mul_comm]
theorem fh {l:List Nat}(h:Dok l):val l<10 ^ l.length:=by
 induction l with
 | nil=>simp[val]
 | cons a l ih =>
  have h1:=ih h.tail
  have h2:=h.head
  simp only[val,length_cons,Nat.pow_succ]
  omega
theorem lL (l:List Nat)(i:Nat)(hi:i≤l.length):val l=val (l.take i)+10 ^ i*val (l.drop i):=by
 have h:=iz (l.take i) (l.drop i)
 rw[take_append_drop,length_take,Nat.min_eq_left hi] at h
 exact h
theorem oc (n:Nat)(h:n≠0):(n / 10).log2+1≤n.log2∨n / 10=0:=by
 by_cases h0:n / 10=0
 ·exact .inr h0
 ·left
  have h1:2 ^ (n / 10).log2≤n / 10:=Nat.log2_self_le h0
  have h2:2 ^ ((n / 10).log2+1)≤n:=by
   rw[Nat.pow_succ];omega
  exact (Nat.le_log2 h).2 h2
theorem ov:∀ (k j n:Nat),n.log2<k→n.log2<j→jL k n=jL j n
 | 0,j,n,h,_=>by omega
 | k+1,0,n,_,h=>by omega
 | k+1,j+1,n,h,h'=>by
  unfold jL
  by_cases hn:n=0
  ·rw[if_pos hn,if_pos hn]
  ·rw[if_neg hn,if_neg hn]
   congr 1
   rcases oc n hn with h1 | h1
   ·exact ov k j _ (by omega) (by omega)
   ·rw[h1]
    cases k <;> cases j <;> simp[jL]
theorem fB:aK 0=[]:=rfl
theorem eC {n:Nat}(h:n≠0):aK n=n % 10::aK (n / 10):=by
 unfold aK
 rw[jL,if_neg h]
 congr 1
 rcases oc n h with h1 | h1
 ·exact ov _ _ _ (by omega) (by omega)
 ·rw[h1]
  cases n.log2 <;> simp[jL]
theorem tm {a:Nat}{l:List Nat}(ha:a<10)(h:a+10*val l≠0):aK (a+10*val l)=a::aK (val l):=by
 rw[eC h,Nat.add_mul_mod_self_left,Nat.mod_eq_of_lt ha,Nat.add_mul_div_left _ _ (by omega),Nat.div_eq_of_lt ha,Nat.zero_add]
theorem cj (n:Nat):val (aK n)=n:=by
 induction n using Nat.strongRecOn with
 | _ n ih =>
  by_cases h:n=0
  ·subst h;rfl
  ·rw[eC h,val,ih _ (by omega)]
   omega
theorem cb (n:Nat):Dok (aK n):=by
 induction n using Nat.strongRecOn with
 | _ n ih =>
  by_cases h:n=0
  ·subst h;exact Dok.nil
  ·rw[eC h]
   exact (ih _ (by omega)).cons (by omega)
theorem eW (l:List Nat)(a:Nat):fw (l++[a])=if a=0 then fw l else l++[a]:=by
 unfold fw
 rw[reverse_append]
 by_cases h:a=0 <;> simp[h]
theorem jC {P:List Nat→Prop}(h0:P [])(h1:∀ l a,P l→P (l++[a])):∀ l,P l:=by
 intro l
 have:∀ m:List Nat,P m.reverse:=by
  intro m
  induction m with
  | nil=>exact h0
  | cons a m ih=>rw[reverse_cons];exact h1 _ a ih
 have:=this l.reverse
 rwa [reverse_reverse] at this
theorem sh (l:List Nat):val (fw l)=val l:=by
 induction l using jC with
 | h0=>rfl
 | h1 l a ih =>
  rw[eW]
  by_cases h:a=0
  ·rw[if_pos h,ih,h,dP,Nat.mul_zero,Nat.add_zero]
  ·rw[if_neg h]
theorem v7 {l:List Nat}(h:Dok l):Dok (fw l):=by
 induction l using jC with
 | h0=>exact Dok.nil
 | h1 l a ih =>
  rw[eW]
  by_cases h':a=0
  ·rw[if_pos h'];exact ih h.left
  ·rw[if_neg h'];exact h
def Top (l:List Nat):Prop:=∀ m a,l=m++[a]→a≠0
theorem lN (l:List Nat):Top (fw l):=by
 induction l using jC with
 | h0=>intro m a h;simp[fw] at h
 | h1 l a ih =>
  rw[eW]
  by_cases h:a=0
  ·rw[if_pos h];exact ih
  ·rw[if_neg h]
   intro m b e
   have:=append_inj' e rfl
   simp at this
   rw[← this.2];exact h
theorem Top.tail {a:Nat}{l:List Nat}(h:Top (a::l)):Top l:=fun m b e=>h (a::m) b (by rw[e];rfl)
theorem Top.qD {l:List Nat}(h:Top l)(hl:l≠[]):val l≠0:=by
 obtain⟨m,a,rfl⟩:∃ m a,l=m++[a]:=⟨l.dropLast,l.getLast hl,(dropLast_concat_getLast hl).symm⟩
 have ha:=h m a rfl
 rw[dP]
 have:0<10 ^ m.length*a:=Nat.mul_pos (Nat.pow_pos (by omega)) (by omega)
 omega
theorem kF {l:List Nat}(h:Dok l)(ht:Top l):aK (val l)=l:=by
 induction l with
 | nil=>rfl
 | cons a l ih =>
  rw[val,tm h.head,ih h.tail ht.tail]
  exact ht.qD (by simp)
theorem eX {l:List Nat}(h:Dok l):fw l=aK (val l):=by
 rw[← sh l,kF (v7 h) (lN l)]
theorem jK (n:Nat):Top (aK n):=by
 have h:=eX (cb n)
 rw[cj] at h
 rw[← h]
 exact lN _
theorem da {n:Nat} : 0<(aK n).length ↔ n≠0:=by
 by_cases h:n=0
 ·subst h;simp[fB]
 ·rw[eC h];simp[h]
theorem yh {n:Nat}(h:aK n=[]):n=0:=by
 rw[← cj n,h];rfl
theorem du {n k:Nat}(h:n<10 ^ k):(aK n).length≤k:=by
 by_cases h0:aK n=[]
 ·rw[h0];simp
 ·obtain⟨m,a,e⟩:∃ m a,aK n=m++[a]:=⟨(aK n).dropLast,(aK n).getLast h0,(dropLast_concat_getLast h0).symm⟩
  have ha:=jK n m a e
  have hv:=cj n
  rw[e,dP] at hv
  rw[e,length_append,length_singleton]
  have h1:10 ^ m.length≤n:=by
   have:10 ^ m.length*1≤10 ^ m.length*a:=Nat.mul_le_mul_left _ (by omega)
   omega
  have h2:10 ^ m.length<10 ^ k:=by omega
  exact Nat.lt_of_not_le fun h3=>absurd (Nat.pow_le_pow_right (n:=10) (by omega) h3) (by omega)
theorem fL (n:Nat):n<10 ^ (aK n).length:=by
 have:=fh (cb n)
 rwa [cj] at this
end T
def Sc1 {α:Type}(e:α→PV):Prop:=∀ a,(∃ k z,e a = .sc (.int k z))∨(∃ s,e a = .sc (.string s))∨∃ b,e a = .sc (.bool b)
def mS {α:Type}(e:α→PV)(l:List α):PV:=.imm l.length false (l.map e)
section
variable {α:Type} {e:α→PV}
theorem Sc1.cells (h:Sc1 e)(a:α):(e a).cells?=some [e a]:=by
 rcases h a with ⟨k,z,h⟩| ⟨s,h⟩| ⟨b,h⟩ <;> rw[h] <;> rfl
theorem Sc1.okc (h:Sc1 e)(a:α):dk (e a)=true:=by
 rcases h a with ⟨k,z,h⟩| ⟨s,h⟩| ⟨b,h⟩ <;> rw[h] <;> rfl
theorem Sc1.canon (h:Sc1 e)(a:α):Ab.canon (e a)=e a:=by
 rcases h a with ⟨k,z,h⟩| ⟨s,h⟩| ⟨b,h⟩ <;> rw[h] <;> rfl
theorem Sc1.snap (h:Sc1 e)(hp:List Blk)(d:Nat)(a:α):Ab.snap hp (d+1) (e a)=some (e a,[]):=by
 rcases h a with ⟨k,z,h⟩| ⟨s,h⟩| ⟨b,h⟩ <;> rw[h] <;> rfl
theorem Sc1.idf (h:Sc1 e)(a:α):(e a).cO=true:=by
 rcases h a with ⟨k,z,h⟩| ⟨s,h⟩| ⟨b,h⟩ <;> rw[h] <;> rfl
theorem Sc1.yR (h:Sc1 e):∀ l:List α,bh (l.map e)=true
 | []=>rfl
 | a::l=>by simp only[map_cons,bh,h.okc,h.yR l,Bool.and_self]
theorem Sc1.aJ (h:Sc1 e):∀ l:List α,Ab.aJ (l.map e)=l.map e
 | []=>rfl
 | a::l=>by simp only[map_cons,Ab.aJ,h.aJ l,h.canon]
theorem Sc1.CU (h:Sc1 e)(hp:List Blk)(d:Nat):∀ l:List α,bq (Ab.snap hp (d+1)) (l.map e)=some (l.map e,[])
 | []=>rfl
 | a::l=>by simp only[map_cons,bq,h.CU hp d l,h.snap];rfl
theorem Sc1.acL (h:Sc1 e)(n:Nat)(x:Bool)(l:List α)(hl:l.length=n):Ab.canon (.imm n x (l.map e))=mS e l:=by
 rw[Ab.canon,h.aJ,mS,hl]
theorem Sc1.B8 (h:Sc1 e)(l:List α):Ab.canon (mS e l)=mS e l:=h.acL _ _ l rfl
theorem agu (l:List α)(i:Nat)(h:i<l.length):br (l.map e) i=e l[i]::(l.drop (i+1)).map e:=by
 rw[cA,← map_drop,drop_eq_getElem_cons h];rfl
theorem mQ (l:List α)(i:Nat)(h:i<l.length):(br (l.map e) i).head?=some (e l[i]):=by
 rw[agu l i h];rfl
theorem kA:∀ (l:List α) (i:Nat) (y:α),i<l.length→cq (l.map e) i [e y]=some ((l.set i y).map e)
 | [],i,y,h=>by simp at h
 | a::l,0,y,h=>by simp[cq]
 | a::l,i+1,y,h=>by
  have:=kA l i y (by simpa using h)
  simp only[map_cons,cq,this,set_cons_succ]
theorem Bd (l:List α)(n:Nat)(h:n≤l.length):bF (br (l.map e) 0) (n*1)=some ((l.take n).map e):=by
 rw[cA,drop_zero,Nat.mul_one,dh (by simpa using h),map_take]
theorem ah2 (n:Nat)(a:α):rep n [e a]=(List.replicate n a).map e:=by
 induction n with
 | zero=>rfl
 | succ n ih=>simp[rep,ih,replicate_succ]
def kf (e:α→PV)(b:Nat)(hp:List Blk)(l:List α)(p:PV):Prop :=
 b≤hp.length∧((l=[]∧p = .sc (.slice none 0 0))∨∃ id m x,b≤id∧id<hp.length∧p = .own id 1 0 l.length x∧(x=true→m=[])∧aY hp id=some ⟨.live,(l++m).map e⟩)
theorem kf.nil {b:Nat}{hp:List Blk}(h:b≤hp.length):kf e b hp [] (.sc (.slice none 0 0)):=⟨h,.inl ⟨rfl,rfl⟩⟩
theorem kf.len {b:Nat}{hp:List Blk}{l:List α}{p:PV}(h:kf e b hp l p):dn p=some l.length:=by
 rcases h.2 with ⟨rfl,rfl⟩| ⟨id,m,x,_,_,rfl,_,h⟩ <;> rfl
theorem kf.cells {b:Nat}{hp:List Blk}{l:List α}{p:PV}(h:kf e b hp l p):p.cells?=some [p]:=by
 rcases h.2 with ⟨rfl,rfl⟩| ⟨id,m,x,_,_,rfl,_,h⟩ <;> rfl
theorem kf.okc {b:Nat}{hp:List Blk}{l:List α}{p:PV}(h:kf e b hp l p):dk p=true:=by
 rcases h.2 with ⟨rfl,rfl⟩| ⟨id,m,x,_,_,rfl,_,h⟩ <;> rfl
def dF (e:α→PV)(b:Nat)(hp:List Blk)(l:List α)(p:PV):Prop :=
 b≤hp.length∧((l=[]∧p = .sc (.slice none 0 0))∨∃ id m,b≤id∧id<hp.length∧p = .own id 1 0 l.length false∧aY hp id=some ⟨.live,(l++m).map e⟩)
theorem dF.nil {b:Nat}{hp:List Blk}(h:b≤hp.length):dF e b hp [] (.sc (.slice none 0 0)):=⟨h,.inl ⟨rfl,rfl⟩⟩
theorem dF.s {b:Nat}{hp:List Blk}{l:List α}{p:PV}(h:dF e b hp l p):kf e b hp l p:=by
 obtain⟨hb,h⟩:=h
 rcases h with ⟨rfl,rfl⟩| ⟨id,m,h1,h2,rfl,h⟩
 ·exact .nil hb
 ·exact⟨hb,.inr ⟨id,m,false,h1,h2,rfl,nofun,h⟩⟩
theorem dF.app {b:Nat}{hp:List Blk}{l:List α}{p:PV}(h:dF e b hp l p)(a:α)(hl:l.length<100000000) :
  ∃ p' hp' fp,cJ hp 1 p 1 [e a]=some (p',hp',fp)∧dF e b hp' (l++[a]) p'∧∀ i,i<b→aY hp' i=aY hp i:=by
 obtain⟨hb,h⟩:=h
 rcases h with ⟨rfl,rfl⟩| ⟨id,m,hid,hid2,rfl,h⟩
 ·refine⟨.own hp.length 1 0 1 false,aM hp [e a],⟨[],[hp.length],true,false⟩,by simp[cJ,cS],⟨by simp[aM];omega,.inr ⟨hp.length,[],hb,by simp[aM],rfl,?_⟩⟩,fun i hi => ?_⟩
  ·rw[bK,if_pos rfl];rfl
  ·rw[bK,if_neg (by omega)]
 ·have ht:bF (br ((l++m).map e) 0) (l.length*1)=some (l.map e):=by
   rw[Bd _ _ (by simp)];simp
  refine⟨.own hp.length 1 0 (l.length+1) false,aM (bZ hp id ⟨.dead,[]⟩) (l.map e++[e a]),⟨[],[id,hp.length],true,false⟩,?_,⟨by simp[aM,bL];omega,.inr ⟨hp.length,[],hb,by simp[aM,bL],by simp,?_⟩⟩,fun i hi => ?_⟩
  ·simp only[cJ,h]
   rw[ht]
   simp[cS]
   omega
  ·rw[bK,bL,if_pos rfl];simp
  ·rw[bK,bL,if_neg (by omega),cT h,if_neg (by omega)]
theorem kf.snap (he:Sc1 e){b:Nat}{hp:List Blk}{l:List α}{p:PV}(h:kf e b hp l p)(d:Nat):∃ q ids,Ab.snap hp (d+2) p=some (q,ids)∧Wk q (mS e l)∧Ab.canon q=mS e l∧∀ i ∈ ids,b≤i:=by
 obtain⟨hb,h⟩:=h
 rcases h with ⟨rfl,rfl⟩| ⟨id,m,x,hid,_,rfl,_,h⟩
 ·exact⟨.sc (.slice none 0 0),[],rfl,Wk.nil false,rfl,by simp⟩
 ·have ht:bF (br ((l++m).map e) 0) (l.length*1)=some (l.map e):=by
   rw[Bd _ _ (by simp)];simp
  refine⟨.imm l.length x (l.map e),[id],?_,?_,he.acL _ x l rfl,by simpa using hid⟩
  ·rw[Ab.snap]
   simp only[h]
   rw[if_neg (by simp),ht]
   simp only[he.CU hp d l]
  ·cases x
   ·exact Wk.refl (by simp[PV.cO])
   ·exact Wk.imm _ _ _
theorem kf.HW (he:Sc1 e){b:Nat}{hp:List Blk}{l:List α}{p:PV}(h:kf e b hp l p) :
  ∃ rs ids,bq (Ab.snap hp bn) [p]=some (rs,ids)∧WkL rs [mS e l]:=by
 obtain⟨q,ids,h1,h2,h3,-⟩:=h.snap he 10
 refine⟨[q],ids++[],?_,h2,trivial⟩
 simp only[bn,bq,h1]
theorem kf.arg (he:Sc1 e){b:Nat}{hp:List Blk}{l:List α}{p:PV}(h:kf e b hp l p) :
  ∃ q ids,(∀ d,Ab.snap hp (d+2) p=some (q,ids))∧Ab.canon q=mS e l∧∀ i,i<b→aY (roB hp ids) i=aY hp i:=by
 obtain⟨hb,h⟩:=h
 rcases h with ⟨rfl,rfl⟩| ⟨id,m,x,hid,_,rfl,_,h⟩
 ·exact⟨.sc (.slice none 0 0),[],fun _=>rfl,rfl,fun _ _=>rfl⟩
 ·have ht:bF (br ((l++m).map e) 0) (l.length*1)=some (l.map e):=by
   rw[Bd _ _ (by simp)];simp
  refine⟨.imm l.length x (l.map e),[id],fun d => ?_,he.acL _ x l rfl,fun i hi=>Br hp id i (by omega)⟩
  rw[Ab.snap]
  simp only[h]
  rw[if_neg (by simp),ht]
  simp only[he.CU hp d l]
theorem kf.set {b:Nat}{hp:List Blk}{l:List α}{p:PV}(h:kf e b hp l p)(i:Nat)(x:Blk)(hi:i<b):kf e b (bZ hp i x) l p:=by
 obtain⟨hb,h⟩:=h
 refine⟨by rw[bL];exact hb,?_⟩
 rcases h with ⟨rfl,rfl⟩| ⟨id,m,y,h1,h2,rfl,h3,h⟩
 ·exact .inl ⟨rfl,rfl⟩
 ·refine .inr ⟨id,m,y,h1,by rw[bL];exact h2,rfl,h3,?_⟩
  rw[jt,cZ,getElem?_set_ne (by omega),← cZ]
  exact h
end
def iv (n:Nat):PV:=.sc (.int .i64 n)
theorem jh:Sc1 iv:=fun _=>.inl ⟨_,_,rfl⟩
theorem fM (l:List Nat)(i:Nat)(h:i<l.length):(br (l.map iv) i).head?=some (.sc (.int .i64 (at0 l i:Int))):=by
 rw[mQ l i h,dm h];rfl
def bC (l:List Nat):PV:=mS iv l
def Iu:List PV→Option (List Nat)
 | []=>some []
 | .sc (.int .i64 (.ofNat n))::r=>bif n.blt 10 then (Iu r).map (n :: ·) else none
 | _=>none
def np:PV→Option (List Nat)
 | .imm n false cs=>match Iu cs with
  | some l=>bif n.beq l.length && n.blt 10000000 then some l else none
  | none=>none
 | _=>none
theorem AA:∀ {cs:List PV} {l:List Nat},Iu cs=some l→cs=l.map iv∧T.Dok l
 | [],l,h=>by simp[Iu] at h;subst h;exact⟨rfl,T.Dok.nil⟩
 | c::r,l,h=>by
  unfold Iu at h
  split at h
  ·cases ‹c::r=[]›
  ·rename_i n r' e
   cases hb:n.blt 10 with
   | false=>rw[hb] at h;cases h
   | true =>
    rw[hb] at h
    simp only[cond_true,Option.map_eq_some_iff] at h
    obtain⟨l',h1,rfl⟩:=h
    cases e
    obtain⟨e2,h3⟩:=AA h1
    exact⟨by rw[e2];rfl,h3.cons (by simpa [Nat.blt_eq] using hb)⟩
  ·cases h
theorem EK:∀ {l:List Nat},T.Dok l→Iu (l.map iv)=some l
 | [],_=>rfl
 | a::l,h=>by
  have h1:a.blt 10=true:=by rw[Nat.blt_eq];exact h.head
  show (bif a.blt 10 then (Iu (l.map iv)).map (a :: ·) else none)=_
  rw[h1,EK h.tail];rfl
theorem gG {p:PV}{l:List Nat}(h:np p=some l):p=bC l∧T.Dok l∧l.length<10000000:=by
 unfold np at h
 split at h
 ·split at h
  ·rename_i n cs _ l' e
   cases hb:n.beq l'.length && n.blt 10000000 with
   | false=>rw[hb] at h;cases h
   | true =>
    rw[hb] at h
    simp only[cond_true,OiE] at h
    subst h
    simp only[Bool.and_eq_true,Nat.blt_eq] at hb
    obtain⟨rfl,h3⟩:=AA e
    have:=Nat.eq_of_beq_eq_true hb.1
    subst this
    exact⟨rfl,h3,hb.2⟩
  ·cases h
 ·cases h
theorem ed {l:List Nat}(h:T.Dok l)(hl:l.length<10000000):np (bC l)=some l:=by
 have h1:l.length.blt 10000000=true:=by rw[Nat.blt_eq];exact hl
 simp[np,bC,mS,EK h,h1]
theorem qg (l:List Nat):canon (bC l)=bC l:=jh.B8 l
end Go.Ab
namespace Go.Ab.T
open Go List
def di:Nat→Nat→List Nat
 | 0,_=>[]
 | n+1,v=>v % 10::di n (v / 10)
theorem dC:∀ n v,(di n v).length=n
 | 0,_=>rfl
 | n+1,v=>by simp[di,dC n]
theorem gU:∀ n v,Dok (di n v)
 | 0,_=>Dok.nil
 | n+1,v=>(gU n _).cons (by omega)
theorem fA:∀ n v,v<10 ^ n→val (di n v)=v
 | 0,v,h=>by simp at h;subst h;rfl
 | n+1,v,h=>by
  rw[di,val,fA n _ (by rw[Nat.pow_succ] at h;omega)]
  omega
theorem nS:∀ {l:List Nat},Dok l→di l.length (val l)=l
 | [],_=>rfl
 | a::l,h=>by
  have ha:=h.head
  rw[length_cons,di,val,Nat.add_mul_mod_self_left,Nat.mod_eq_of_lt ha,Nat.add_mul_div_left _ _ (by omega),Nat.div_eq_of_lt ha,Nat.zero_add,nS h.tail]
theorem Dok.pZ {l:List Nat}{n v:Nat}(h:Dok l)(hl:l.length=n)(hv:val l=v):l=di n v:=by
 subst hl;subst hv;exact (nS h).symm
theorem lK {a:List Nat}{m:Nat}(hm:m<a.length):val a=val (a.take m)+(a[m]*10 ^ m+10 ^ (m+1)*val (a.drop (m+1))):=by
 rw[lL a (m+1) (by omega),ij a m hm]
 omega
theorem lJ {a b:List Nat}{m:Nat}(ha:Dok a)(hma:m<a.length)(hmb:m<b.length)(hd:a.drop (m+1)=b.drop (m+1))(h:a[m]<b[m]):val a<val b:=by
 rw[lK hma,lK hmb,hd]
 have h1:=fh (ha.take m)
 rw[length_take,Nat.min_eq_left (by omega)] at h1
 have h2:a[m]*10 ^ m+10 ^ m≤b[m]*10 ^ m:=by
  have:=Nat.mul_le_mul_right (10 ^ m) (show a[m]+1≤b[m] from h)
  rw[Nat.add_mul,Nat.one_mul] at this
  exact this
 omega
theorem cL (l:List Nat)(i:Nat)(h:l.length≤i):val (l.take i)=val l:=by
 rw[take_of_length_le h]
open Go List
theorem cF {l:List Nat}(h:Dok l)(i:Nat):at0 l i<10:=by
 by_cases hi:i<l.length
 ·rw[dm hi];exact h.get hi
 ·rw[jq (by omega)];omega
theorem cI (l:List Nat)(i:Nat):val (l.take (i+1))=val (l.take i)+at0 l i*10 ^ i:=by
 by_cases hi:i<l.length
 ·rw[dm hi,ij l i hi]
 ·rw[jq (by omega),cL l _ (by omega),cL l _ (by omega)];simp
theorem U0 {T:Tab}{t e:Nat}(hu:und T t=some (.slice e))(hs:dt T e=some 1)(hz:eK T e=some [dg 0])(n:Nat) :
  eL T t 1 [(0,dg n)]=some (1,[dg n]):=by
 simp[eL,hu,hs,hz,rep,dA,gH,cq]
theorem nM (hp:List Blk)(n:Nat):ew hp 1 (.imm 1 true [dg n])=some (1,[dg n],[]):=by simp[ew]
theorem jV (n:Nat):bU [dg n]=true:=(rfl)
theorem il (n:Nat):PV.sc (.int .u32 (n:Int))=dg n:=(rfl)
open Go List
theorem WV (s:Nat):((s:Int) / 10)=((s / 10:Nat):Int):=by omega
theorem jQ (k:IntKind)(a s:Nat)(h:s=a / 10)(hs:s≤hiN k):bE k ((a:Int) / 10)=(s:Int):=by
 subst h
 rw[WV];exact dG k _ hs
theorem lO (a s:Nat)(h:s=a % 10):(a:Int).tmod 10=(s:Int):=by
 subst h
 rw[Int.tmod_eq_emod_of_nonneg (by omega)];omega
theorem mf (k:IntKind)(a s:Nat)(h:s=a*10)(hs:s≤hiN k):bE k ((a:Int)*10)=(s:Int):=by
 have e:((a:Int)*10)=(s:Int):=by omega
 rw[e];exact dG k _ hs
open Go List
theorem cK {x y:Nat}(h:x≤y):(aK x).length≤(aK y).length:=du (Nat.lt_of_le_of_lt h (fL y))
open Go List
theorem lE {l:List Nat}{m y:Nat}(h:m<l.length):(l.set m y).drop m=y::l.drop (m+1):=by
 rw[drop_eq_getElem_cons (by simpa using h)]
 simp[drop_set]
theorem iM (l:List Nat)(m:Nat)(h:m<l.length):val (l.drop m)=at0 l m+10*val (l.drop (m+1)):=by
 rw[drop_eq_getElem_cons h,val,dm h]
theorem E8 {V V' Q R a b:Nat}(hb:0<b)(hV:V'=a+10*V)(hQ:Q=V / b)(hR:R=V % b) :
  (R*10+a) / b+10*Q=V' / b∧(R*10+a) % b=V' % b:=by
 have e:V'=(R*10+a)+b*(10*Q):=by
  have h:=Nat.div_add_mod V b
  rw[← hQ,← hR] at h
  rw[hV,← h]
  grind
 rw[e,Nat.add_mul_div_left _ _ hb,Nat.add_mul_mod_self_left]
 exact⟨rfl,rfl⟩
end Go.Ab.T
namespace Go.Ab
open Go List
theorem dY (l:List Nat):dn (bC l)=some l.length:=(rfl)
theorem rR (n:Nat):(iv n).cells?=some [iv n]:=(rfl)
theorem dZ (n:Nat):dk (iv n)=true:=(rfl)
theorem HY (s:ByteArray):dk (PV.sc (.string s))=true:=(rfl)
theorem qN (n:Nat):PV.sc (.int .i64 (n:Int))=iv n:=(rfl)
theorem lR (hp:List Blk)(n:Nat):ew hp 1 (.imm 1 true [iv n])=some (1,[iv n],[]):=by simp[ew]
theorem Kq (hp:List Blk)(n:Nat):ew hp 1 (.imm 1 true [u8v n])=some (1,[u8v n],[]):=by simp[ew]
theorem iY (n:Nat):bU [iv n]=true:=(rfl)
theorem tf (n:Nat):bU [u8v n]=true:=(rfl)
theorem ade (n:Nat):PV.sc (.int .u8 (n:Int))=u8v n:=(rfl)
theorem Fp (n:Nat):(u8v n).cells?=some [u8v n]:=(rfl)
theorem lV (n:Nat):dk (u8v n)=true:=(rfl)
theorem afQ {T:Tab}{t e:Nat}(hu:und T t=some (.slice e))(hs:dt T e=some 1)(hz:eK T e=some [iv 0])(n:Nat) :
  eL T t 1 [(0,iv n)]=some (1,[iv n]):=by
 simp[eL,hu,hs,hz,rep,dA,rR,cq]
theorem afO {T:Tab}{t e:Nat}(hu:und T t=some (.slice e))(hs:dt T e=some 1)(hz:eK T e=some [u8v 0])(n:Nat) :
  eL T t 1 [(0,u8v n)]=some (1,[u8v n]):=by
 simp[eL,hu,hs,hz,rep,dA,Fp,cq]
def tx (l:List Nat):ByteArray:=mkStr (l.map UInt8.ofNat)
def Bok (l:List Nat):Prop:=∀ x ∈ l,x<256
theorem mY (s:ByteArray):Bok (bys s):=fun x hx=>by
 simp only[bys,mem_map] at hx
 obtain⟨b,-,rfl⟩:=hx
 exact b.toNat_lt
theorem iO (s:ByteArray):tx (bys s)=s:=by
 unfold tx bys
 rw[map_map]
 have:(UInt8.ofNat ∘ UInt8.toNat)=id:=by funext b;simp
 rw[this,map_id,gV]
theorem jZ {l:List Nat}(h:Bok l):bys (tx l)=l:=by
 unfold tx bys
 rw[fy,map_map]
 conv=>rhs;rw[← map_id l]
 exact map_congr_left fun x hx=>by
  have:=h x hx
  simp[Nat.mod_eq_of_lt this]
theorem dX (l:List Nat):(bT (tx l)).length=l.length:=by simp[tx,fy]
theorem fo {T:Tab}{t:Nat}(hu:und T t=some .string){l:List Nat}(h:Bok l)(k:IntKind)(i:Nat)(hi:i<l.length) :
  iC T t (.sc (.string (tx l))) (.sc (.int k (i:Int)))=some (.sc (.int .u8 (at0 l i:Int))):=by
 have h1:Eo (bT (tx l)) i=some (UInt8.ofNat l[i]):=by
  rw[tx,fy,KK]
  simp[hi]
 have h2:gK (.sc (.int k (i:Int)))=some i:=bm k i
 simp only[iC,hu,h2,h1,Option.map_some]
 have:=h _ (getElem_mem hi)
 rw[dm hi]
 simp[Nat.mod_eq_of_lt this]
theorem Bok.nil:Bok []:=fun _ h=>by cases h
theorem Bok.cons {a:Nat}{l:List Nat}(h:a<256)(h':Bok l):Bok (a::l):=fun x hx=>by
 rcases mem_cons.1 hx with rfl | hx
 ·exact h
 ·exact h' x hx
theorem Bok.append {l m:List Nat}(h:Bok l)(h':Bok m):Bok (l++m):=fun x hx=>by
 rcases mem_append.1 hx with hx | hx
 ·exact h x hx
 ·exact h' x hx
theorem Bok.take {l:List Nat}(h:Bok l)(n:Nat):Bok (l.take n):=fun x hx=>h x (mem_of_mem_take hx)
theorem Bok.drop {l:List Nat}(h:Bok l)(n:Nat):Bok (l.drop n):=fun x hx=>h x (mem_of_mem_drop hx)
theorem Bok.get {l:List Nat}(h:Bok l){i:Nat}(hi:i<l.length):l[i]<256:=h _ (getElem_mem hi)
theorem Bok.at {l:List Nat}(h:Bok l)(i:Nat):at0 l i<256:=by
 by_cases hi:i<l.length
 ·rw[dm hi];exact h.get hi
 ·rw[jq (by omega)];omega
theorem FB {l:List Nat}(h:Bok l):kM (l.map u8v)=some (l.map UInt8.ofNat):=by
 induction l with
 | nil=>rfl
 | cons a l ih =>
  have ha:a<256:=h a (by simp)
  have:=ih (fun x hx=>h x (by simp[hx]))
  simp only[map_cons,u8v,kM] at this ⊢
  simp[this]
end Go.Ab
namespace Go.Proofs.YtjdmodeenbdfpaaGreat
open Go Go.Ab List Tryz
theorem uL:und TT 24=some (.slice 3):=by kernel_rfl
theorem sI:dt TT 3=some 1:=by kernel_rfl
theorem aI:fZ TT 3=some false:=by kernel_rfl
theorem bI:ie TT 3=some 8:=by kernel_rfl
theorem zI:eK TT 3=some [iv 0]:=by kernel_rfl
theorem uAR:und TT 27=some .string:=by kernel_rfl
theorem FN:base.F.get 156=some f156:=by kernel_rfl
theorem lQ:base.shared 156=false:=by kernel_rfl
theorem y7:base.F.get 115=some f115:=by kernel_rfl
theorem tL:base.shared 115=false:=by kernel_rfl
theorem uQ:base.F.get 116=some f116:=by kernel_rfl
theorem kj:base.shared 116=false:=by kernel_rfl
theorem sd:base.F.get 113=some f113:=by kernel_rfl
theorem wz:base.shared 113=false:=by kernel_rfl
theorem pJ:base.F.get 114=some f114:=by kernel_rfl
theorem tM:base.shared 114=false:=by kernel_rfl
theorem oI:base.F.get 118=some f118:=by kernel_rfl
theorem zD:base.shared 118=false:=by kernel_rfl
theorem Jn:base.F.get 117=some f117:=by kernel_rfl
theorem Q6:base.shared 117=false:=by kernel_rfl
theorem FO:base.F.get 119=some f119:=by kernel_rfl
theorem zE:base.shared 119=false:=by kernel_rfl
theorem Jq:base.F.get 120=some f120:=by kernel_rfl
theorem C6:base.shared 120=false:=by kernel_rfl
theorem Jp:base.F.get 155=some f155:=by kernel_rfl
theorem C5:base.shared 155=false:=by kernel_rfl
theorem Js:base.F.get 69=some f69:=by kernel_rfl
theorem C9:base.shared 69=false:=by kernel_rfl
theorem FQ:base.F.get 66=some f66:=by kernel_rfl
theorem ss:base.shared 66=false:=by kernel_rfl
theorem y8:base.F.get 147=some f147:=by kernel_rfl
theorem C8:base.shared 147=false:=by kernel_rfl
theorem FR:base.F.get 100=some f100:=by kernel_rfl
theorem My:base.shared 100=false:=by kernel_rfl
theorem kg:base.F.get 111=some f111:=by kernel_rfl
theorem GC:base.shared 111=false:=by kernel_rfl
theorem Cl:base.F.get 68=some f68:=by kernel_rfl
theorem wA:base.shared 68=false:=by kernel_rfl
theorem Jo:base.F.get 121=some f121:=by kernel_rfl
theorem C4:base.shared 121=false:=by kernel_rfl
theorem Jr:base.F.get 112=some f112:=by kernel_rfl
theorem C7:base.shared 112=false:=by kernel_rfl
theorem Cm:base.F.get 157=some f157:=by kernel_rfl
theorem GD:base.shared 157=false:=by kernel_rfl
noncomputable def kV:Code:=((f156.body).bind aC).getD .skip
theorem SN (l:List Nat)(a:Nat)(hp:List Blk):dq TT hp 24 (bC (l++[a])) none (some (.sc (.int .i64 (l.length:Int)))) none=some (bC l):=by
 have h:bC (l++[a]) = .imm (l.length+1) false ((l++[a]).map iv):=by simp[bC,mS]
 rw[h]
 simp only[dq,uL,gQ,sI,bnd,fk,gK,Option.map]
 simp[gE,br]
 rw[dh (by simp)]
 simp[bC,mS]
set_option maxHeartbeats 1000000 in
theorem DB (L:Lst)(run:ar)(k:Nat)(fr:List PV)(hp:List Blk)(wr:List Nat)(l:List Nat)(a:Nat)(hl:l.length<10000000)(ha:a≠0)
  (h21:fr.length=21) (h0:nth fr 0=bC (l++[a])) :
  ∃ fr',af (CC L) run k kV ⟨fr,hp,wr⟩=some (.exit 0,⟨fr',hp,wr⟩)∧nth fr' 0=nth fr 0∧fr'.length=21:=by
 have hw:bE .i64 ((l.length+1:Nat) - 1:Int)=Int.ofNat l.length:=by
  have:=dG .i64 l.length (by simp[hiN];omega)
  rw[← this];congr 1;omega
 have hw':bE .i64 (l.length:Int)=Int.ofNat l.length:=dG .i64 l.length (by simp[hiN];omega)
 have h:bC (l++[a]) = .imm (l.length+1) false ((l++[a]).map iv):=by simp[bC,mS]
 have hd:(br ((l++[a]).map iv) l.length).head?=some (.sc (.int .i64 a)):=by
  rw[mQ _ _ (by simp)];simp[iv]
 rw[h] at h0
 have ha':((a:Int) == 0)=false:=by simp;exact ha
 simp[kV,f156,aC,af,aH,ao,aq,aG,ag,ai,an,aj,aF,aA,FzZ,bc,aw,bj,az,bO,bg,bm,partOf,aa,ae,ab,bd,cX,h21,h0,uL,sI,aI,hw',hd,ha',aV,-map_append]
set_option maxHeartbeats 1000000 in
theorem Hm (L:Lst)(run:ar)(k:Nat)(fr:List PV)(hp:List Blk)(wr:List Nat)(h21:fr.length=21)(h0:nth fr 0=bC []) :
  ∃ fr',af (CC L) run k kV ⟨fr,hp,wr⟩=some (.exit 0,⟨fr',hp,wr⟩)∧nth fr' 0=nth fr 0∧fr'.length=21:=by
 have h:bC [] = .imm 0 false []:=rfl
 rw[h] at h0
 simp[kV,f156,aC,af,aH,ao,aq,aG,ag,ai,an,aj,aF,aA,FzZ,bc,aw,bj,az,bO,aa,ae,ab,bd,cX,h21,h0,uL,-map_append]
set_option maxHeartbeats 1000000 in
theorem Nt (L:Lst)(run:ar)(k:Nat)(fr:List PV)(hp:List Blk)(wr:List Nat)(l:List Nat)(hl:l.length<10000000)
  (h21:fr.length=21) (h0:nth fr 0=bC (l++[0])) :
  ∃ fr',af (CC L) run k kV ⟨fr,hp,wr⟩=some (.normal,⟨fr',hp,wr⟩)∧nth fr' 0=bC l∧fr'.length=21:=by
 have hw':bE .i64 (l.length:Int)=Int.ofNat l.length:=dG .i64 l.length (by simp[hiN];omega)
 have h:bC (l++[0]) = .imm (l.length+1) false ((l++[0]).map iv):=by simp[bC,mS]
 have hd:(br ((l++[0]).map iv) l.length).head?=some (.sc (.int .i64 0)):=by
  rw[mQ _ _ (by simp)];simp[iv]
 have hs:=SN l 0
 rw[h] at h0 hs
 simp[kV,f156,aC,af,aH,ao,aq,aG,ag,ai,an,aj,aF,aA,FzZ,bc,aw,bj,az,bO,bg,bm,partOf,aa,ae,ab,bd,cX,h21,h0,uL,sI,aI,hw',hd,hs,aV,-map_append]
theorem tX (L:Lst)(run:ar)(k:Nat):∀ (n:Nat) (l:List Nat) (fr:List PV) (hp:List Blk) (wr:List Nat),l.length=n→n<10000000→fr.length=21→nth fr 0=bC l →
  ∃ fr',cu (af (CC L) run k kV) (n+1) ⟨fr,hp,wr⟩=some (.exit 0,⟨fr',hp,wr⟩)∧nth fr' 0=bC (T.fw l)∧fr'.length=21
 | 0,l,fr,hp,wr,hl,hn,h21,h0=>by
  have:l=[]:=length_eq_zero_iff.1 hl
  subst this
  obtain⟨fr',h1,h2,h3⟩:=Hm L run k fr hp wr h21 h0
  exact⟨fr',bD h1,by rw[h2,h0];rfl,h3⟩
 | n+1,l,fr,hp,wr,hl,hn,h21,h0=>by
  obtain⟨l',a,rfl,hl'⟩:=Bg hl
  by_cases ha:a=0
  ·subst ha
   obtain⟨fr1,h1,h2,h3⟩:=Nt L run k fr hp wr l' (by omega) h21 h0
   obtain⟨fr',g1,g2,g3⟩:=tX L run k n l' fr1 hp wr hl' (by omega) h3 h2
   exact⟨fr',by rw[ct h1];exact g1,by rw[g2,T.eW,if_pos rfl],g3⟩
  ·obtain⟨fr',h1,h2,h3⟩:=DB L run k fr hp wr l' a (by omega) ha h21 h0
   exact⟨fr',bD h1,by rw[h2,h0,T.eW,if_neg ha],h3⟩
noncomputable def mB:Code:=f156.body.getD .skip
theorem BE:ah 1 mB = .seq (.block 0 (.loop kV)) (ah 2 mB):=rfl
theorem Hl (L:Lst)(run:ar)(k:Nat)(p:PV):∃ fr,aX (CC L) run k 1 mB ⟨entry 21 [p],[],[]⟩=some ⟨fr,[],[]⟩∧fr.length=21∧nth fr 0=p:=by
 simp[mB,f156,aX,entry,nth,dR,af,aH,ao,aq,aG,ag,ai,an,aj,aF,aA,FzZ,az]
theorem DC (L:Lst)(run:ar)(k:Nat)(fr:List PV)(hp:List Blk)(wr:List Nat)(p:PV)(h21:fr.length=21)(h0:nth fr 0=p) :
  ∃ st,af (CC L) run k (ah 2 mB) ⟨fr,hp,wr⟩=some (.ret,st)∧aU TT st.fr st.hp f156.results.toList=some [p]:=by
 simp[mB,ah,f156,af,aH,ao,aq,aG,ag,ai,an,aj,aF,aA,FzZ,aa,ab,h21,h0,aU]
def iT:List PV→Option (List PV)
 | [p]=>match np p with
  | some l=>some [bC (T.fw l)]
  | none=>none
 | _=>none
theorem pP (hp:List Blk)(l:List Nat):bq (snap hp bn) [bC l]=some ([bC l],[]):=rfl
theorem tW:Ab.Spec base.P 156 iT:=Ab.Spec.bM (C:=CC []) (cP trivial) fun args rs h=>by
 unfold iT at h
 split at h
 ·split at h
  ·rename_i l hl
   obtain⟨rfl,_,hlen⟩:=gG hl
   simp only[OiE] at h
   subst h
   obtain⟨fr1,h1,h20,h0⟩:=Hl [] (runK (CC []) (l.length+1)) (l.length+1) (bC l)
   obtain⟨fr2,g1,g2,g3⟩:=tX [] (runK (CC []) (l.length+1)) (l.length+1) l.length l fr1 [] [] rfl (by omega) h20 h0
   obtain⟨st,e1,e2⟩:=DC [] (runK (CC []) (l.length+1)) (l.length+1) fr2 [] [] _ g3 g2
   have hx:af (CC []) (runK (CC []) (l.length+1)) (l.length+1) mB ⟨entry 21 [bC l],[],[]⟩=some (.ret,st):=by
    rw[aO 1 h1,BE,av (bN g1)]
    exact e1
   exact⟨l.length+2,_,_,_,_,_,aP FN rfl hx e2,pP _ _,Wk.refl rfl,trivial⟩
  ·cases h
 ·cases h
noncomputable def jv:Code:=((f118.body).bind aC).getD .skip
noncomputable def gT:Code:=f118.body.getD .skip
set_option maxHeartbeats 1000000 in
theorem Hs (L:Lst)(run:ar)(k:Nat)(fr:List PV)(h41:fr.length=41)(h5:nth fr 5 = .sc (.int .i64 (-1))) :
  ∃ fr',af (CC L) run k jv ⟨fr,[],[]⟩=some (.exit 0,⟨fr',[],[]⟩)∧fr'.length=41:=by
 simp[jv,f118,aC,af,aH,ao,aq,aG,ag,ai,an,aj,aF,aA,FzZ,bc,aw,bj,az,aa,ab,h41,h5]
set_option maxHeartbeats 1000000 in
theorem NB (L:Lst)(run:ar)(k:Nat)(fr:List PV)(a b:List Nat)(m:Nat)(hma:m<a.length)(hmb:m<b.length)(hl:a.length<10000000)
  (h41:fr.length=41) (h0:nth fr 0=bC a) (h1:nth fr 1=bC b) (h5:nth fr 5 = .sc (.int .i64 (m:Int))) (h:a[m]=b[m]) :
  ∃ fr',af (CC L) run k jv ⟨fr,[],[]⟩=some (.normal,⟨fr',[],[]⟩)∧fr'.length=41∧nth fr' 0=bC a∧nth fr' 1=bC b∧nth fr' 5 = .sc (.int .i64 ((m:Int) - 1)):=by
 have hw:bE .i64 ((m:Int) - 1)=(m:Int) - 1:=cU m (by omega)
 have hda:=mQ (e:=iv) a m hma
 have hdb:=mQ (e:=iv) b m hmb
 rw[h] at hda
 generalize b[m]=y at *
 have e1:bC a = .imm a.length false (a.map iv):=rfl
 have e2:bC b = .imm b.length false (b.map iv):=rfl
 have hdg:iv y = .sc (.int .i64 (y:Int)):=rfl
 rw[e1] at h0 ⊢;rw[e2] at h1 ⊢;rw[hdg] at hda hdb
 simp[jv,f118,aC,af,aH,ao,aq,aG,ag,ai,an,aj,aF,aA,FzZ,bc,aw,bj,az,bg,bm,partOf,aa,ae,ab,bd,h41,h0,h1,h5,uL,sI,aI,hma,hmb,hda,hdb,aV,number,FP.free,hw]
set_option maxHeartbeats 1000000 in
theorem NA (L:Lst)(run:ar)(k:Nat)(fr:List PV)(a b:List Nat)(m:Nat)(hma:m<a.length)(hmb:m<b.length)(hl:a.length<10000000)
  (h41:fr.length=41) (h0:nth fr 0=bC a) (h1:nth fr 1=bC b) (h5:nth fr 5 = .sc (.int .i64 (m:Int))) (h:a[m]≠b[m]) :
  ∃ fr',af (CC L) run k jv ⟨fr,[],[]⟩=some (.ret,⟨fr',[],[]⟩)∧fr'.length=41∧nth fr' 4 = .sc (.int .i64 (if a[m]<b[m] then -1 else 1)):=by
 have hda:=mQ (e:=iv) a m hma
 have hdb:=mQ (e:=iv) b m hmb
 generalize b[m]=y at *
 generalize a[m]=x at *
 have e1:bC a = .imm a.length false (a.map iv):=rfl
 have e2:bC b = .imm b.length false (b.map iv):=rfl
 have hdx:iv x = .sc (.int .i64 (x:Int)):=rfl
 have hdy:iv y = .sc (.int .i64 (y:Int)):=rfl
 rw[e1] at h0;rw[e2] at h1;rw[hdx] at hda;rw[hdy] at hdb
 by_cases hxy:x<y
 ·simp[jv,f118,aC,af,aH,ao,aq,aG,ag,ai,an,aj,aF,aA,FzZ,bc,aw,bj,az,bg,bm,partOf,aa,ae,ab,bd,h41,h0,h1,h5,uL,sI,aI,hma,hmb,hda,hdb,aV,number,FP.free,hxy]
 ·have hyx:y<x:=by omega
  simp[jv,f118,aC,af,aH,ao,aq,aG,ag,ai,an,aj,aF,aA,FzZ,bc,aw,bj,az,bg,bm,partOf,aa,ae,ab,bd,h41,h0,h1,h5,uL,sI,aI,hma,hmb,hda,hdb,aV,number,FP.free,hxy,hyx]
theorem ud (L:Lst)(run:ar)(k:Nat)(a b:List Nat)(hab:a.length=b.length)(hl:a.length<10000000)(ha:T.Dok a)(hb:T.Dok b):∀ (m:Nat) (fr:List PV),m≤a.length →
  fr.length=41→nth fr 0=bC a→nth fr 1=bC b→nth fr 5 = .sc (.int .i64 ((m:Int) - 1))→a.drop m=b.drop m →
  (∃ fr',cu (af (CC L) run k jv) (m+1) ⟨fr,[],[]⟩=some (.exit 0,⟨fr',[],[]⟩)∧fr'.length=41∧ee (T.val a) (T.val b)=0) ∨
  (∃ fr',cu (af (CC L) run k jv) (m+1) ⟨fr,[],[]⟩=some (.ret,⟨fr',[],[]⟩)∧nth fr' 4 = .sc (.int .i64 (ee (T.val a) (T.val b))))
 | 0,fr,hm,h41,h0,h1,h5,hd=>by
  obtain⟨fr',g1,g2⟩:=Hs L run k fr h41 h5
  refine .inl ⟨fr',bD g1,g2,?_⟩
  simp at hd
  simp[ee,hd]
 | m+1,fr,hm,h41,h0,h1,h5,hd=>by
  have h5':nth fr 5 = .sc (.int .i64 (m:Int)):=by rw[h5];simp
  have hmb:m<b.length:=by omega
  have hma:m<a.length:=by omega
  by_cases h:a[m]=b[m]
  ·obtain⟨fr1,g1,g2,g3,g4,g5⟩:=NB L run k fr a b m hma hmb hl h41 h0 h1 h5' h
   have hd':a.drop m=b.drop m:=by rw[drop_eq_getElem_cons hma,drop_eq_getElem_cons hmb,hd,h]
   rw[ct g1]
   exact ud L run k a b hab hl ha hb m fr1 (by omega) g2 g3 g4 g5 hd'
  ·obtain⟨fr1,g1,g2,g3⟩:=NA L run k fr a b m hma hmb hl h41 h0 h1 h5' h
   refine .inr ⟨fr1,eM g1,?_⟩
   rw[g3]
   by_cases hxy:a[m]<b[m]
   ·have:=T.lJ ha hma hmb hd hxy
    rw[if_pos hxy,ee,if_pos this]
   ·have:=T.lJ hb hmb hma hd.symm (by omega)
    rw[if_neg hxy,ee,if_neg (by omega),if_neg (by omega)]
def kW (a b:List Nat):Int:=if a.length<b.length then -1 else if b.length<a.length then 1 else ee (T.val a) (T.val b)
theorem DI (L:Lst)(run:ar)(k:Nat)(a b:List Nat)(h:a.length≠b.length) :
  ∃ st,af (CC L) run k gT ⟨entry 41 [bC a,bC b],[],[]⟩=some (.ret,st)∧aU TT st.fr st.hp f118.results.toList=some [Ab.bz (kW a b)]:=by
 by_cases hx:a.length<b.length
 ·simp[gT,f118,entry,nth,dR,af,aH,ao,aq,aG,ag,ai,an,aj,aF,aA,FzZ,bc,aw,bj,az,bO,bd,FC,dY,uL,h,hx,aU,kW,Ab.bz]
 ·have:b.length<a.length:=by omega
  simp[gT,f118,entry,nth,dR,af,aH,ao,aq,aG,ag,ai,an,aj,aF,aA,FzZ,bc,aw,bj,az,bO,bd,FC,dY,uL,h,hx,this,aU,kW,Ab.bz]
theorem DH (L:Lst)(run:ar)(k:Nat)(a b:List Nat)(h:a.length=b.length)(hl:a.length<10000000) :
  ∃ fr,aX (CC L) run k 2 gT ⟨entry 41 [bC a,bC b],[],[]⟩=some ⟨fr,[],[]⟩∧fr.length=41∧nth fr 0=bC a∧nth fr 1=bC b:=by
 simp[gT,f118,aX,entry,nth,dR,af,aH,ao,aq,aG,ag,ai,an,aj,aF,aA,FzZ,bc,aw,bj,az,bO,bd,dY,uL,h]
noncomputable def xe:Code:=seq1 (seq1 (ah 2 gT))
theorem qU:ah 2 gT = .seq (.seq xe (.block 0 (.loop jv))) (ah 3 gT):=rfl
theorem Nz (L:Lst)(run:ar)(k:Nat)(fr:List PV)(a b:List Nat)(hl:a.length<10000000)(h41:fr.length=41)(h0:nth fr 0=bC a)(h1:nth fr 1=bC b) :
  ∃ fr',af (CC L) run k xe ⟨fr,[],[]⟩=some (.normal,⟨fr',[],[]⟩)∧fr'.length=41∧nth fr' 0=bC a∧nth fr' 1=bC b∧nth fr' 5 = .sc (.int .i64 ((a.length:Int) - 1)):=by
 have hw:bE .i64 ((a.length:Int) - 1)=(a.length:Int) - 1:=cU _ (by omega)
 simp[xe,gT,ah,seq1,f118,af,aH,ao,aq,aG,ag,ai,an,aj,aF,aA,FzZ,bc,aw,bj,az,bO,aa,ae,ab,bd,dY,uL,h41,h0,h1,hw]
theorem DJ (L:Lst)(run:ar)(k:Nat)(fr:List PV)(h41:fr.length=41) :
  ∃ st,af (CC L) run k (ah 3 gT) ⟨fr,[],[]⟩=some (.ret,st)∧aU TT st.fr st.hp f118.results.toList=some [Ab.bz 0]:=by
 simp[gT,ah,f118,af,aH,ao,aq,aG,ag,ai,an,aj,aF,aA,FzZ,az,aa,h41,aU,Ab.bz]
def kX:List PV→Option (List PV)
 | [p,q]=>match np p,np q with
  | some a,some b=>some [Ab.bz (kW a b)]
  | _,_=>none
 | _=>none
theorem uc:Ab.Spec base.P 118 kX:=Ab.Spec.bM (C:=CC []) (cP trivial) fun args rs h=>by
 unfold kX at h
 split at h
 ·split at h
  ·rename_i a b ea eb
   obtain⟨rfl,ha,hla⟩:=gG ea
   obtain⟨rfl,hb,hlb⟩:=gG eb
   simp only[OiE] at h
   subst h
   by_cases hab:a.length=b.length
   ·obtain⟨fr1,h1,h2,h3,h4⟩:=DH [] (runK (CC []) (a.length+1)) (a.length+1) a b hab hla
    obtain⟨fr2,g1,g2,g3,g4,g5⟩:=Nz [] (runK (CC []) (a.length+1)) (a.length+1) fr1 a b hla h2 h3 h4
    have hs:kW a b=ee (T.val a) (T.val b):=by simp[kW,hab]
    rcases ud [] (runK (CC []) (a.length+1)) (a.length+1) a b hab hla ha hb a.length fr2 (Nat.le_refl _) g2 g3 g4 g5 (by simp[hab]) with ⟨fr3,q1,q2,q3⟩| ⟨fr3,q1,q2⟩
    ·obtain⟨st,e1,e2⟩:=DJ [] (runK (CC []) (a.length+1)) (a.length+1) fr3 q2
     have hx:af (CC []) (runK (CC []) (a.length+1)) (a.length+1) gT ⟨entry 41 [bC a,bC b],[],[]⟩=some (.ret,st):=by
      rw[aO 2 h1,qU,av ((av g1).trans (bN q1))]
      exact e1
     rw[hs,q3]
     exact⟨a.length+2,_,_,_,_,_,aP oI rfl hx e2,eY _ _,Wk.refl rfl,trivial⟩
    ·have hx:af (CC []) (runK (CC []) (a.length+1)) (a.length+1) gT ⟨entry 41 [bC a,bC b],[],[]⟩=some (.ret,⟨fr3,[],[]⟩):=by
      rw[aO 2 h1,qU,cC ((av g1).trans (df q1))]
     have e2:aU TT fr3 [] f118.results.toList=some [Ab.bz (ee (T.val a) (T.val b))]:=by
      simp[f118,aU,q2,Ab.bz]
     rw[hs]
     exact⟨a.length+2,_,_,_,_,_,aP oI rfl hx e2,eY _ _,Wk.refl rfl,trivial⟩
   ·obtain⟨st,e1,e2⟩:=DI [] (runK (CC []) 1) 1 a b hab
    exact⟨2,_,_,_,_,_,aP oI rfl e1 e2,eY _ _,Wk.refl rfl,trivial⟩
  ·cases h
 ·cases h
end Go.Proofs.YtjdmodeenbdfpaaGreat
