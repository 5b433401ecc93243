/- An abstract interpreter over the model's code and its soundness, part 29 of the proof; each lemma states its own conditions. -/
import Derived.Test.YtjdmodeenbdfpaaGreatP21
import Derived.Test.YtjdmodeenbdfpaaGreatP25
import Derived.Test.YtjdmodeenbdfpaaGreatP28
set_option linter.unusedSimpArgs false
set_option linter.unusedVariables false
namespace Go.Ab
namespace T
def val:List Nat→Nat
 | []=>0
 | a::l=>a+10*val l
def iQ:Nat→Nat→List Nat
 | 0,_=>[]
 | k+1,n=>if n=0 then [] else n % 10::iQ k (n / 10)
def aA (n:Nat):List Nat:=iQ (n.log2+1) n
def Dok (l:List Nat):Prop:=∀ x ∈ l,x<10
def eZ (l:List Nat):List Nat:=(l.reverse.dropWhile (· == 0)).reverse
theorem Dok.nil:Dok []:=fun _ h=>by cases h
theorem Dok.cons {a:Nat}{l:List Nat}(h:a<10)(h':Dok l):Dok (a::l):=fun x hx=>by
 rcases List.mem_cons.1 hx with rfl | hx
 ·exact h
 ·exact h' x hx
theorem Dok.head {a:Nat}{l:List Nat}(h:Dok (a::l)):a<10:=h a (by simp)
theorem Dok.tail {a:Nat}{l:List Nat}(h:Dok (a::l)):Dok l:=fun x hx=>h x (by simp[hx])
theorem Dok.append {l m:List Nat}(h:Dok l)(h':Dok m):Dok (l++m):=fun x hx=>by
 rcases List.mem_append.1 hx with hx | hx
 ·exact h x hx
 ·exact h' x hx
theorem Dok.left {l m:List Nat}(h:Dok (l++m)):Dok l:=fun x hx=>h x (by simp[hx])
theorem Dok.right {l m:List Nat}(h:Dok (l++m)):Dok m:=fun x hx=>h x (by simp[hx])
theorem Dok.get {l:List Nat}(h:Dok l){i:Nat}(hi:i<l.length):l[i]<10:=h _ (List.getElem_mem hi)
theorem Dok.set {l:List Nat}(h:Dok l)(i:Nat){y:Nat}(hy:y<10):Dok (l.set i y):=fun x hx=>by
 rcases List.mem_or_eq_of_mem_set hx with hx | rfl
 ·exact h x hx
 ·exact hy
theorem Dok.H8 (n:Nat):Dok (List.replicate n 0):=fun x hx=>by
 rw[(List.mem_replicate.1 hx).2];omega
theorem Dok.take {l:List Nat}(h:Dok l)(n:Nat):Dok (l.take n):=fun x hx=>h x (List.mem_of_mem_take hx)
theorem Dok.drop {l:List Nat}(h:Dok l)(n:Nat):Dok (l.drop n):=fun x hx=>h x (List.mem_of_mem_drop hx)
theorem gQ (l m:List Nat):val (l++m)=val l+10 ^ l.length*val m:=by
 induction l with
 | nil=>simp[val]
 | cons a l ih =>
  simp only[List.cons_append,val,ih,List.length_cons,Nat.pow_succ]
  grind
theorem dw (l:List Nat)(a:Nat):val (l++[a])=val l+10 ^ l.length*a:=by
 rw[gQ];simp[val]
theorem mX (n:Nat):val (List.replicate n 0)=0:=by
 induction n with
 | zero=>rfl
 | succ n ih=>simp[List.replicate_succ,val,ih]
theorem oP (l:List Nat)(i y:Nat)(hi:i<l.length):val (l.set i y)+l[i]*10 ^ i=val l+y*10 ^ i:=by
 induction l generalizing i with
 | nil=>simp at hi
 | cons a l ih =>
  cases i with
  | zero=>simp[val];omega
  | succ i =>
   have:=ih i (by simpa using hi)
   simp only[List.set_cons_succ,val,List.getElem_cons_succ,Nat.pow_succ]
   grind
theorem gF (l:List Nat)(i:Nat)(hi:i<l.length):val (l.take (i+1))=val (l.take i)+l[i]*10 ^ i:=by
 rw[List.take_succ_eq_append_getElem hi,dw,List.length_take,Nat.min_eq_left (by omega),Nat.mul_comm]
theorem eG {l:List Nat}(h:Dok l):val l<10 ^ l.length:=by
 induction l with
 | nil=>simp[val]
 | cons a l ih =>
  have h1:=ih h.tail
  have h2:=h.head
  simp only[val,List.length_cons,Nat.pow_succ]
  omega
theorem kp (l:List Nat)(i:Nat)(hi:i≤l.length):val l=val (l.take i)+10 ^ i*val (l.drop i):=by
 have h:=gQ (l.take i) (l.drop i)
 rw[List.take_append_drop,List.length_take,Nat.min_eq_left hi] at h
 exact h
theorem mv (n:Nat)(h:n≠0):(n / 10).log2+1≤n.log2∨n / 10=0:=by
 by_cases h0:n / 10=0
 ·exact .inr h0
 ·left
  have h1:2 ^ (n / 10).log2≤n / 10:=Nat.log2_self_le h0
  have h2:2 ^ ((n / 10).log2+1)≤n:=by
   rw[Nat.pow_succ];omega
  exact (Nat.le_log2 h).2 h2
theorem mH:∀ (k j n:Nat),n.log2<k→n.log2<j→iQ k n=iQ j n
 | 0,j,n,h,_=>by omega
 | k+1,0,n,_,h=>by omega
 | k+1,j+1,n,h,h'=>by
  unfold iQ
  by_cases hn:n=0
  ·rw[if_pos hn,if_pos hn]
  ·rw[if_neg hn,if_neg hn]
   congr 1
   rcases mv n hn with h1 | h1
   ·exact mH k j _ (by omega) (by omega)
   ·rw[h1]
    cases k <;> cases j <;> simp[iQ]
theorem ff:aA 0=[]:=rfl
theorem dM {n:Nat}(h:n≠0):aA n=n % 10::aA (n / 10):=by
 unfold aA
 rw[iQ,if_neg h]
 congr 1
 rcases mv n h with h1 | h1
 ·exact mH _ _ _ (by omega) (by omega)
 ·rw[h1]
  cases n.log2 <;> simp[iQ]
theorem ri {a:Nat}{l:List Nat}(ha:a<10)(h:a+10*val l≠0):aA (a+10*val l)=a::aA (val l):=by
 rw[dM h,Nat.add_mul_mod_self_left,Nat.mod_eq_of_lt ha,Nat.add_mul_div_left _ _ (by omega),Nat.div_eq_of_lt ha,Nat.zero_add]
theorem bN (n:Nat):val (aA n)=n:=by
 induction n using Nat.strongRecOn with
 | _ n ih =>
  by_cases h:n=0
  ·subst h;rfl
  ·rw[dM h,val,ih _ (by omega)]
   omega
theorem bM (n:Nat):Dok (aA n):=by
 induction n using Nat.strongRecOn with
 | _ n ih =>
  by_cases h:n=0
  ·subst h;exact Dok.nil
  ·rw[dM h]
   exact (ih _ (by omega)).cons (by omega)
theorem eu (l:List Nat)(a:Nat):eZ (l++[a])=if a=0 then eZ l else l++[a]:=by
 unfold eZ
 rw[List.reverse_append]
 by_cases h:a=0 <;> simp[h]
theorem iG {P:List Nat→Prop}(h0:P [])(h1:∀ l a,P l→P (l++[a])):∀ l,P l:=by
 intro l
 have:∀ m:List Nat,P m.reverse:=by
  intro m
  induction m with
  | nil=>exact h0
  | cons a m ih=>rw[List.reverse_cons];exact h1 _ a ih
 have:=this l.reverse
 rwa [List.reverse_reverse] at this
theorem qk (l:List Nat):val (eZ l)=val l:=by
 induction l using iG with
 | h0=>rfl
 | h1 l a ih =>
  rw[eu]
  by_cases h:a=0
  ·rw[if_pos h,ih,h,dw,Nat.mul_zero,Nat.add_zero]
  ·rw[if_neg h]
theorem tZ {l:List Nat}(h:Dok l):Dok (eZ l):=by
 induction l using iG with
 | h0=>exact Dok.nil
 | h1 l a ih =>
  rw[eu]
  by_cases h':a=0
  ·rw[if_pos h'];exact ih h.left
  ·rw[if_neg h'];exact h
def Top (l:List Nat):Prop:=∀ m a,l=m++[a]→a≠0
theorem kr (l:List Nat):Top (eZ l):=by
 induction l using iG with
 | h0=>intro m a h;simp[eZ] at h
 | h1 l a ih =>
  rw[eu]
  by_cases h:a=0
  ·rw[if_pos h];exact ih
  ·rw[if_neg h]
   intro m b e
   have:=List.append_inj' e rfl
   simp at this
   rw[← this.2];exact h
theorem Top.tail {a:Nat}{l:List Nat}(h:Top (a::l)):Top l:=fun m b e=>h (a::m) b (by rw[e];rfl)
theorem Top.oQ {l:List Nat}(h:Top l)(hl:l≠[]):val l≠0:=by
 obtain⟨m,a,rfl⟩:∃ m a,l=m++[a]:=⟨l.dropLast,l.getLast hl,(List.dropLast_concat_getLast hl).symm⟩
 have ha:=h m a rfl
 rw[dw]
 have:0<10 ^ m.length*a:=Nat.mul_pos (Nat.pow_pos (by omega)) (by omega)
 omega
theorem jE {l:List Nat}(h:Dok l)(ht:Top l):aA (val l)=l:=by
 induction l with
 | nil=>rfl
 | cons a l ih =>
  rw[val,ri h.head,ih h.tail ht.tail]
  exact ht.oQ (by simp)
theorem eA {l:List Nat}(h:Dok l):eZ l=aA (val l):=by
 rw[← qk l,jE (tZ h) (kr l)]
theorem iP (n:Nat):Top (aA n):=by
 have h:=eA (bM n)
 rw[bN] at h
 rw[← h]
 exact kr _
theorem cN {n:Nat} : 0<(aA n).length ↔ n≠0:=by
 by_cases h:n=0
 ·subst h;simp[ff]
 ·rw[dM h];simp[h]
theorem wI {n:Nat}(h:aA n=[]):n=0:=by
 rw[← bN n,h];rfl
theorem cY {n k:Nat}(h:n<10 ^ k):(aA n).length≤k:=by
 by_cases h0:aA n=[]
 ·rw[h0];simp
 ·obtain⟨m,a,e⟩:∃ m a,aA n=m++[a]:=⟨(aA n).dropLast,(aA n).getLast h0,(List.dropLast_concat_getLast h0).symm⟩
  have ha:=iP n m a e
  have hv:=bN n
  rw[e,dw] at hv
  rw[e,List.length_append,List.length_singleton]
  have h1:10 ^ m.length≤n:=by
   have:10 ^ m.length*1≤10 ^ m.length*a:=Nat.mul_le_mul_left _ (by omega)
   omega
  have h2:10 ^ m.length<10 ^ k:=by omega
  exact Nat.lt_of_not_le fun h3=>absurd (Nat.pow_le_pow_right (n:=10) (by omega) h3) (by omega)
theorem fq (n:Nat):n<10 ^ (aA n).length:=by
 have:=eG (bM n)
 rwa [bN] at this
end T
def Sc1 {α:Type}(e:α→PV):Prop:=∀ a,(∃ k z,e a = .sc (.int k z))∨(∃ s,e a = .sc (.string s))∨∃ b,e a = .sc (.bool b)
def lC {α:Type}(e:α→PV)(l:List α):PV:=.imm l.length false (l.map e)
section
variable {α:Type} {e:α→PV}
theorem Sc1.cells (h:Sc1 e)(a:α):(e a).cells?=some [e a]:=by
 rcases h a with ⟨k,z,h⟩| ⟨s,h⟩| ⟨b,h⟩ <;> rw[h] <;> rfl
theorem Sc1.okc (h:Sc1 e)(a:α):eC (e a)=true:=by
 rcases h a with ⟨k,z,h⟩| ⟨s,h⟩| ⟨b,h⟩ <;> rw[h] <;> rfl
theorem Sc1.canon (h:Sc1 e)(a:α):Ab.canon (e a)=e a:=by
 rcases h a with ⟨k,z,h⟩| ⟨s,h⟩| ⟨b,h⟩ <;> rw[h] <;> rfl
theorem Sc1.snap (h:Sc1 e)(hp:List Blk)(d:Nat)(a:α):Ab.snap hp (d+1) (e a)=some (e a,[]):=by
 rcases h a with ⟨k,z,h⟩| ⟨s,h⟩| ⟨b,h⟩ <;> rw[h] <;> rfl
theorem Sc1.idf (h:Sc1 e)(a:α):(e a).ct=true:=by
 rcases h a with ⟨k,z,h⟩| ⟨s,h⟩| ⟨b,h⟩ <;> rw[h] <;> rfl
theorem Sc1.Mg (h:Sc1 e):∀ l:List α,aX (l.map e)=true
 | []=>rfl
 | a::l=>by simp only[List.map_cons,aX,h.okc,h.Mg l,Bool.and_self]
theorem Sc1.aJ (h:Sc1 e):∀ l:List α,Ab.aJ (l.map e)=l.map e
 | []=>rfl
 | a::l=>by simp only[List.map_cons,Ab.aJ,h.aJ l,h.canon]
theorem Sc1.Iq (h:Sc1 e)(hp:List Blk)(d:Nat):∀ l:List α,bm (Ab.snap hp (d+1)) (l.map e)=some (l.map e,[])
 | []=>rfl
 | a::l=>by simp only[List.map_cons,bm,h.Iq hp d l,h.snap];rfl
theorem Sc1.Zb (h:Sc1 e)(n:Nat)(x:Bool)(l:List α)(hl:l.length=n):Ab.canon (.imm n x (l.map e))=lC e l:=by
 rw[Ab.canon,h.aJ,lC,hl]
theorem Sc1.Ho (h:Sc1 e)(l:List α):Ab.canon (lC e l)=lC e l:=h.Zb _ _ l rfl
theorem acq (l:List α)(i:Nat)(h:i<l.length):bn (l.map e) i=e l[i]::(l.drop (i+1)).map e:=by
 rw[cK,← List.map_drop,List.drop_eq_getElem_cons h];rfl
theorem jC (l:List α)(i:Nat)(h:i<l.length):(bn (l.map e) i).head?=some (e l[i]):=by
 rw[acq l i h];rfl
theorem jA:∀ (l:List α) (i:Nat) (y:α),i<l.length→bZ (l.map e) i [e y]=some ((l.set i y).map e)
 | [],i,y,h=>by simp at h
 | a::l,0,y,h=>by simp[bZ]
 | a::l,i+1,y,h=>by
  have:=jA l i y (by simpa using h)
  simp only[List.map_cons,bZ,this,List.set_cons_succ]
theorem zX (l:List α)(n:Nat)(h:n≤l.length):bA (bn (l.map e) 0) (n*1)=some ((l.take n).map e):=by
 rw[cK,List.drop_zero,Nat.mul_one,dL (by simpa using h),List.map_take]
theorem adQ (n:Nat)(a:α):rep n [e a]=(List.replicate n a).map e:=by
 induction n with
 | zero=>rfl
 | succ n ih=>simp[rep,ih,List.replicate_succ]
def jq (e:α→PV)(b:Nat)(hp:List Blk)(l:List α)(p:PV):Prop :=
 b≤hp.length∧((l=[]∧p = .sc (.slice none 0 0))∨∃ id m x,b≤id∧id<hp.length∧p = .own id 1 0 l.length x∧(x=true→m=[])∧aV hp id=some ⟨.live,(l++m).map e⟩)
theorem jq.nil {b:Nat}{hp:List Blk}(h:b≤hp.length):jq e b hp [] (.sc (.slice none 0 0)):=⟨h,.inl ⟨rfl,rfl⟩⟩
theorem jq.len {b:Nat}{hp:List Blk}{l:List α}{p:PV}(h:jq e b hp l p):eM p=some l.length:=by
 rcases h.2 with ⟨rfl,rfl⟩| ⟨id,m,x,_,_,rfl,_,h⟩ <;> rfl
theorem jq.cells {b:Nat}{hp:List Blk}{l:List α}{p:PV}(h:jq e b hp l p):p.cells?=some [p]:=by
 rcases h.2 with ⟨rfl,rfl⟩| ⟨id,m,x,_,_,rfl,_,h⟩ <;> rfl
theorem jq.okc {b:Nat}{hp:List Blk}{l:List α}{p:PV}(h:jq e b hp l p):eC p=true:=by
 rcases h.2 with ⟨rfl,rfl⟩| ⟨id,m,x,_,_,rfl,_,h⟩ <;> rfl
def dh (e:α→PV)(b:Nat)(hp:List Blk)(l:List α)(p:PV):Prop :=
 b≤hp.length∧((l=[]∧p = .sc (.slice none 0 0))∨∃ id m,b≤id∧id<hp.length∧p = .own id 1 0 l.length false∧aV hp id=some ⟨.live,(l++m).map e⟩)
theorem dh.nil {b:Nat}{hp:List Blk}(h:b≤hp.length):dh e b hp [] (.sc (.slice none 0 0)):=⟨h,.inl ⟨rfl,rfl⟩⟩
theorem dh.s {b:Nat}{hp:List Blk}{l:List α}{p:PV}(h:dh e b hp l p):jq e b hp l p:=by
 obtain⟨hb,h⟩:=h
 rcases h with ⟨rfl,rfl⟩| ⟨id,m,h1,h2,rfl,h⟩
 ·exact .nil hb
 ·exact⟨hb,.inr ⟨id,m,false,h1,h2,rfl,nofun,h⟩⟩
theorem dh.app {b:Nat}{hp:List Blk}{l:List α}{p:PV}(h:dh e b hp l p)(a:α)(hl:l.length<100000000) :
  ∃ p' hp' fp,cO hp 1 p 1 [e a]=some (p',hp',fp)∧dh e b hp' (l++[a]) p'∧∀ i,i<b→aV hp' i=aV hp i:=by
 obtain⟨hb,h⟩:=h
 rcases h with ⟨rfl,rfl⟩| ⟨id,m,hid,hid2,rfl,h⟩
 ·refine⟨.own hp.length 1 0 1 false,aM hp [e a],⟨[],[hp.length],true,false⟩,by simp[cO,cI],⟨by simp[aM];omega,.inr ⟨hp.length,[],hb,by simp[aM],rfl,?_⟩⟩,fun i hi => ?_⟩
  ·rw[bJ,if_pos rfl];rfl
  ·rw[bJ,if_neg (by omega)]
 ·have ht:bA (bn ((l++m).map e) 0) (l.length*1)=some (l.map e):=by
   rw[zX _ _ (by simp)];simp
  refine⟨.own hp.length 1 0 (l.length+1) false,aM (bP hp id ⟨.dead,[]⟩) (l.map e++[e a]),⟨[],[id,hp.length],true,false⟩,?_,⟨by simp[aM,bz];omega,.inr ⟨hp.length,[],hb,by simp[aM,bz],by simp,?_⟩⟩,fun i hi => ?_⟩
  ·simp only[cO,h]
   rw[ht]
   simp[cI]
   omega
  ·rw[bJ,bz,if_pos rfl];simp
  ·rw[bJ,bz,if_neg (by omega),cD h,if_neg (by omega)]
theorem jq.snap (he:Sc1 e){b:Nat}{hp:List Blk}{l:List α}{p:PV}(h:jq e b hp l p)(d:Nat):∃ q ids,Ab.snap hp (d+2) p=some (q,ids)∧Wk q (lC e l)∧Ab.canon q=lC e l∧∀ i ∈ ids,b≤i:=by
 obtain⟨hb,h⟩:=h
 rcases h with ⟨rfl,rfl⟩| ⟨id,m,x,hid,_,rfl,_,h⟩
 ·exact⟨.sc (.slice none 0 0),[],rfl,Wk.nil false,rfl,by simp⟩
 ·have ht:bA (bn ((l++m).map e) 0) (l.length*1)=some (l.map e):=by
   rw[zX _ _ (by simp)];simp
  refine⟨.imm l.length x (l.map e),[id],?_,?_,he.Zb _ x l rfl,by simpa using hid⟩
  ·rw[Ab.snap]
   simp only[h]
   rw[if_neg (by simp),ht]
   simp only[he.Iq hp d l]
  ·cases x
   ·exact Wk.refl (by simp[PV.ct])
   ·exact Wk.imm _ _ _
theorem jq.GA (he:Sc1 e){b:Nat}{hp:List Blk}{l:List α}{p:PV}(h:jq e b hp l p) :
  ∃ rs ids,bm (Ab.snap hp bh) [p]=some (rs,ids)∧WkL rs [lC e l]:=by
 obtain⟨q,ids,h1,h2,h3,-⟩:=h.snap he 10
 refine⟨[q],ids++[],?_,h2,trivial⟩
 simp only[bh,bm,h1]
theorem jq.arg (he:Sc1 e){b:Nat}{hp:List Blk}{l:List α}{p:PV}(h:jq e b hp l p) :
  ∃ q ids,(∀ d,Ab.snap hp (d+2) p=some (q,ids))∧Ab.canon q=lC e l∧∀ i,i<b→aV (roB hp ids) i=aV hp i:=by
 obtain⟨hb,h⟩:=h
 rcases h with ⟨rfl,rfl⟩| ⟨id,m,x,hid,_,rfl,_,h⟩
 ·exact⟨.sc (.slice none 0 0),[],fun _=>rfl,rfl,fun _ _=>rfl⟩
 ·have ht:bA (bn ((l++m).map e) 0) (l.length*1)=some (l.map e):=by
   rw[zX _ _ (by simp)];simp
  refine⟨.imm l.length x (l.map e),[id],fun d => ?_,he.Zb _ x l rfl,fun i hi=>Ah hp id i (by omega)⟩
  rw[Ab.snap]
  simp only[h]
  rw[if_neg (by simp),ht]
  simp only[he.Iq hp d l]
theorem jq.set {b:Nat}{hp:List Blk}{l:List α}{p:PV}(h:jq e b hp l p)(i:Nat)(x:Blk)(hi:i<b):jq e b (bP hp i x) l p:=by
 obtain⟨hb,h⟩:=h
 refine⟨by rw[bz];exact hb,?_⟩
 rcases h with ⟨rfl,rfl⟩| ⟨id,m,y,h1,h2,rfl,h3,h⟩
 ·exact .inl ⟨rfl,rfl⟩
 ·refine .inr ⟨id,m,y,h1,by rw[bz];exact h2,rfl,h3,?_⟩
  rw[fI,cj,List.getElem?_set_ne (by omega),← cj]
  exact h
end
def iv (n:Nat):PV:=.sc (.int .i64 n)
theorem il:Sc1 iv:=fun _=>.inl ⟨_,_,rfl⟩
theorem eP (l:List Nat)(i:Nat)(h:i<l.length):(bn (l.map iv) i).head?=some (.sc (.int .i64 (at0 l i:Int))):=by
 rw[jC l i h,cV h];rfl
def br (l:List Nat):PV:=lC iv l
def G4:List PV→Option (List Nat)
 | []=>some []
 | .sc (.int .i64 (.ofNat n))::r=>bif n.blt 10 then (G4 r).map (n :: ·) else none
 | _=>none
def lS:PV→Option (List Nat)
 | .imm n false cs=>match G4 cs with
  | some l=>bif n.beq l.length && n.blt 10000000 then some l else none
  | none=>none
 | _=>none
theorem y6:∀ {cs:List PV} {l:List Nat},G4 cs=some l→cs=l.map iv∧T.Dok l
 | [],l,h=>by simp[G4] at h;subst h;exact⟨rfl,T.Dok.nil⟩
 | c::r,l,h=>by
  unfold G4 at h
  split at h
  ·cases ‹c::r=[]›
  ·rename_i n r' e
   cases hb:n.blt 10 with
   | false=>rw[hb] at h;cases h
   | true =>
    rw[hb] at h
    simp only[cond_true,Option.map_eq_some_iff] at h
    obtain⟨l',h1,rfl⟩:=h
    cases e
    obtain⟨e2,h3⟩:=y6 h1
    exact⟨by rw[e2];rfl,h3.cons (by simpa [Nat.blt_eq] using hb)⟩
  ·cases h
theorem Dn:∀ {l:List Nat},T.Dok l→G4 (l.map iv)=some l
 | [],_=>rfl
 | a::l,h=>by
  have h1:a.blt 10=true:=by rw[Nat.blt_eq];exact h.head
  show (bif a.blt 10 then (G4 (l.map iv)).map (a :: ·) else none)=_
  rw[h1,Dn h.tail];rfl
theorem fP {p:PV}{l:List Nat}(h:lS p=some l):p=br l∧T.Dok l∧l.length<10000000:=by
 unfold lS at h
 split at h
 ·split at h
  ·rename_i n cs _ l' e
   cases hb:n.beq l'.length && n.blt 10000000 with
   | false=>rw[hb] at h;cases h
   | true =>
    rw[hb] at h
    simp only[cond_true,Option.some.injEq] at h
    subst h
    simp only[Bool.and_eq_true,Nat.blt_eq] at hb
    obtain⟨rfl,h3⟩:=y6 e
    have:=Nat.eq_of_beq_eq_true hb.1
    subst this
    exact⟨rfl,h3,hb.2⟩
  ·cases h
 ·cases h
theorem dG {l:List Nat}(h:T.Dok l)(hl:l.length<10000000):lS (br l)=some l:=by
 have h1:l.length.blt 10000000=true:=by rw[Nat.blt_eq];exact hl
 simp[lS,br,lC,Dn h,h1]
theorem oC (l:List Nat):canon (br l)=br l:=il.Ho l
end Go.Ab
namespace Go.Ab.T
open Go
def cT:Nat→Nat→List Nat
 | 0,_=>[]
 | n+1,v=>v % 10::cT n (v / 10)
theorem de:∀ n v,(cT n v).length=n
 | 0,_=>rfl
 | n+1,v=>by simp[cT,de n]
theorem fY:∀ n v,Dok (cT n v)
 | 0,_=>Dok.nil
 | n+1,v=>(fY n _).cons (by omega)
theorem fc:∀ n v,v<10 ^ n→val (cT n v)=v
 | 0,v,h=>by simp at h;subst h;rfl
 | n+1,v,h=>by
  rw[cT,val,fc n _ (by rw[Nat.pow_succ] at h;omega)]
  omega
theorem mn:∀ {l:List Nat},Dok l→cT l.length (val l)=l
 | [],_=>rfl
 | a::l,h=>by
  have ha:=h.head
  rw[List.length_cons,cT,val,Nat.add_mul_mod_self_left,Nat.mod_eq_of_lt ha,Nat.add_mul_div_left _ _ (by omega),Nat.div_eq_of_lt ha,Nat.zero_add,mn h.tail]
theorem Dok.ov {l:List Nat}{n v:Nat}(h:Dok l)(hl:l.length=n)(hv:val l=v):l=cT n v:=by
 subst hl;subst hv;exact (mn h).symm
theorem ko {a:List Nat}{m:Nat}(hm:m<a.length):val a=val (a.take m)+(a[m]*10 ^ m+10 ^ (m+1)*val (a.drop (m+1))):=by
 rw[kp a (m+1) (by omega),gF a m hm]
 omega
theorem kn {a b:List Nat}{m:Nat}(ha:Dok a)(hma:m<a.length)(hmb:m<b.length)(hd:a.drop (m+1)=b.drop (m+1))(h:a[m]<b[m]):val a<val b:=by
 rw[ko hma,ko hmb,hd]
 have h1:=eG (ha.take m)
 rw[List.length_take,Nat.min_eq_left (by omega)] at h1
 have h2:a[m]*10 ^ m+10 ^ m≤b[m]*10 ^ m:=by
  have:=Nat.mul_le_mul_right (10 ^ m) (show a[m]+1≤b[m] from h)
  rw[Nat.add_mul,Nat.one_mul] at this
  exact this
 omega
theorem cq (l:List Nat)(i:Nat)(h:l.length≤i):val (l.take i)=val l:=by
 rw[List.take_of_length_le h]
open Go
theorem cf {l:List Nat}(h:Dok l)(i:Nat):at0 l i<10:=by
 by_cases hi:i<l.length
 ·rw[cV hi];exact h.get hi
 ·rw[iu (by omega)];omega
theorem ch (l:List Nat)(i:Nat):val (l.take (i+1))=val (l.take i)+at0 l i*10 ^ i:=by
 by_cases hi:i<l.length
 ·rw[cV hi,gF l i hi]
 ·rw[iu (by omega),cq l _ (by omega),cq l _ (by omega)];simp
theorem So {T:Tab}{t e:Nat}(hu:und T t=some (.slice e))(hs:cQ T e=some 1)(hz:dR T e=some [dg 0])(n:Nat) :
  fZ T t 1 [(0,dg n)]=some (1,[dg n]):=by
 simp[fZ,hu,hs,hz,rep,dF,fQ,bZ]
theorem mh (hp:List Blk)(n:Nat):fe hp 1 (.imm 1 true [dg n])=some (1,[dg n],[]):=by simp[fe]
theorem iZ (n:Nat):bK [dg n]=true:=(rfl)
theorem gH (n:Nat):PV.sc (.int .u32 (n:Int))=dg n:=(rfl)
open Go
theorem T0 (s:Nat):((s:Int) / 10)=((s / 10:Nat):Int):=by omega
theorem iX (k:IntKind)(a s:Nat)(h:s=a / 10)(hs:s≤hiN k):bu k ((a:Int) / 10)=(s:Int):=by
 subst h
 rw[T0];exact di k _ hs
theorem ku (a s:Nat)(h:s=a % 10):(a:Int).tmod 10=(s:Int):=by
 subst h
 rw[Int.tmod_eq_emod_of_nonneg (by omega)];omega
theorem kR (k:IntKind)(a s:Nat)(h:s=a*10)(hs:s≤hiN k):bu k ((a:Int)*10)=(s:Int):=by
 have e:((a:Int)*10)=(s:Int):=by omega
 rw[e];exact di k _ hs
open Go
theorem cn {x y:Nat}(h:x≤y):(aA x).length≤(aA y).length:=cY (Nat.lt_of_le_of_lt h (fq y))
open Go
theorem kf {l:List Nat}{m y:Nat}(h:m<l.length):(l.set m y).drop m=y::l.drop (m+1):=by
 rw[List.drop_eq_getElem_cons (by simpa using h)]
 simp[List.drop_set]
theorem gU (l:List Nat)(m:Nat)(h:m<l.length):val (l.drop m)=at0 l m+10*val (l.drop (m+1)):=by
 rw[List.drop_eq_getElem_cons h,val,cV h]
theorem DI {V V' Q R a b:Nat}(hb:0<b)(hV:V'=a+10*V)(hQ:Q=V / b)(hR:R=V % b) :
  (R*10+a) / b+10*Q=V' / b∧(R*10+a) % b=V' % b:=by
 have e:V'=(R*10+a)+b*(10*Q):=by
  have h:=Nat.div_add_mod V b
  rw[← hQ,← hR] at h
  rw[hV,← h]
  grind
 rw[e,Nat.add_mul_div_left _ _ hb,Nat.add_mul_mod_self_left]
 exact⟨rfl,rfl⟩
end Go.Ab.T
namespace Go.Ab
open Go
theorem dE (l:List Nat):eM (br l)=some l.length:=(rfl)
theorem mL (n:Nat):(iv n).cells?=some [iv n]:=(rfl)
theorem dx (n:Nat):eC (iv n)=true:=(rfl)
theorem l9 (n:Nat):PV.sc (.int .i64 (n:Int))=iv n:=(rfl)
theorem jP (hp:List Blk)(n:Nat):fe hp 1 (.imm 1 true [iv n])=some (1,[iv n],[]):=by simp[fe]
theorem II (hp:List Blk)(n:Nat):fe hp 1 (.imm 1 true [u8v n])=some (1,[u8v n],[]):=by simp[fe]
theorem ia (n:Nat):bK [iv n]=true:=(rfl)
theorem ot (n:Nat):bK [u8v n]=true:=(rfl)
theorem ZH (n:Nat):PV.sc (.int .u8 (n:Int))=u8v n:=(rfl)
theorem DW (n:Nat):(u8v n).cells?=some [u8v n]:=(rfl)
theorem kF (n:Nat):eC (u8v n)=true:=(rfl)
theorem abK {T:Tab}{t e:Nat}(hu:und T t=some (.slice e))(hs:cQ T e=some 1)(hz:dR T e=some [iv 0])(n:Nat) :
  fZ T t 1 [(0,iv n)]=some (1,[iv n]):=by
 simp[fZ,hu,hs,hz,rep,dF,mL,bZ]
theorem abI {T:Tab}{t e:Nat}(hu:und T t=some (.slice e))(hs:cQ T e=some 1)(hz:dR T e=some [u8v 0])(n:Nat) :
  fZ T t 1 [(0,u8v n)]=some (1,[u8v n]):=by
 simp[fZ,hu,hs,hz,rep,dF,DW,bZ]
def tx (l:List Nat):ByteArray:=mkStr (l.map UInt8.ofNat)
def Bok (l:List Nat):Prop:=∀ x ∈ l,x<256
theorem lH (s:ByteArray):Bok (bys s):=fun x hx=>by
 simp only[bys,List.mem_map] at hx
 obtain⟨b,-,rfl⟩:=hx
 exact b.toNat_lt
theorem gV (s:ByteArray):tx (bys s)=s:=by
 unfold tx bys
 rw[List.map_map]
 have:(UInt8.ofNat ∘ UInt8.toNat)=id:=by funext b;simp
 rw[this,List.map_id,fo]
theorem ja {l:List Nat}(h:Bok l):bys (tx l)=l:=by
 unfold tx bys
 rw[fb,List.map_map]
 conv=>rhs;rw[← List.map_id l]
 exact List.map_congr_left fun x hx=>by
  have:=h x hx
  simp[Nat.mod_eq_of_lt this]
theorem dD (l:List Nat):(bD (tx l)).length=l.length:=by simp[tx,fb]
theorem eO {T:Tab}{t:Nat}(hu:und T t=some .string){l:List Nat}(h:Bok l)(k:IntKind)(i:Nat)(hi:i<l.length) :
  gy T t (.sc (.string (tx l))) (.sc (.int k (i:Int)))=some (.sc (.int .u8 (at0 l i:Int))):=by
 have h1:C7 (bD (tx l)) i=some (UInt8.ofNat l[i]):=by
  rw[tx,fb,I0]
  simp[hi]
 have h2:fx (.sc (.int k (i:Int)))=some i:=bj k i
 simp only[gy,hu,h2,h1,Option.map_some]
 have:=h _ (List.getElem_mem hi)
 rw[cV hi]
 simp[Nat.mod_eq_of_lt this]
theorem Bok.nil:Bok []:=fun _ h=>by cases h
theorem Bok.cons {a:Nat}{l:List Nat}(h:a<256)(h':Bok l):Bok (a::l):=fun x hx=>by
 rcases List.mem_cons.1 hx with rfl | hx
 ·exact h
 ·exact h' x hx
theorem Bok.append {l m:List Nat}(h:Bok l)(h':Bok m):Bok (l++m):=fun x hx=>by
 rcases List.mem_append.1 hx with hx | hx
 ·exact h x hx
 ·exact h' x hx
theorem Bok.take {l:List Nat}(h:Bok l)(n:Nat):Bok (l.take n):=fun x hx=>h x (List.mem_of_mem_take hx)
theorem Bok.drop {l:List Nat}(h:Bok l)(n:Nat):Bok (l.drop n):=fun x hx=>h x (List.mem_of_mem_drop hx)
theorem Bok.get {l:List Nat}(h:Bok l){i:Nat}(hi:i<l.length):l[i]<256:=h _ (List.getElem_mem hi)
theorem Bok.at {l:List Nat}(h:Bok l)(i:Nat):at0 l i<256:=by
 by_cases hi:i<l.length
 ·rw[cV hi];exact h.get hi
 ·rw[iu (by omega)];omega
theorem Ej {l:List Nat}(h:Bok l):iV (l.map u8v)=some (l.map UInt8.ofNat):=by
 induction l with
 | nil=>rfl
 | cons a l ih =>
  have ha:a<256:=h a (by simp)
  have:=ih (fun x hx=>h x (by simp[hx]))
  simp only[List.map_cons,u8v,iV] at this ⊢
  simp[this]
end Go.Ab
namespace Go.Proofs.YtjdmodeenbdfpaaGreat
open Go Go.Ab
theorem uL:und TT 24=some (.slice 3):=by kernel_rfl
theorem sI:cQ TT 3=some 1:=by kernel_rfl
theorem aI:fN TT 3=some false:=by kernel_rfl
theorem bI:gD TT 3=some 8:=by kernel_rfl
theorem zI:dR TT 3=some [iv 0]:=by kernel_rfl
theorem uAR:und TT 27=some .string:=by kernel_rfl
theorem Ez:base.F.get 156=some Tryz.f156:=by kernel_rfl
theorem kA:base.shared 156=false:=by kernel_rfl
theorem xD:base.F.get 115=some Tryz.f115:=by kernel_rfl
theorem rN:base.shared 115=false:=by kernel_rfl
theorem sZ:base.F.get 116=some Tryz.f116:=by kernel_rfl
theorem ju:base.shared 116=false:=by kernel_rfl
theorem qg:base.F.get 113=some Tryz.f113:=by kernel_rfl
theorem uu:base.shared 113=false:=by kernel_rfl
theorem n5:base.F.get 114=some Tryz.f114:=by kernel_rfl
theorem rO:base.shared 114=false:=by kernel_rfl
theorem mV:base.F.get 118=some Tryz.f118:=by kernel_rfl
theorem xY:base.shared 118=false:=by kernel_rfl
theorem HM:base.F.get 117=some Tryz.f117:=by kernel_rfl
theorem OE:base.shared 117=false:=by kernel_rfl
theorem EA:base.F.get 119=some Tryz.f119:=by kernel_rfl
theorem xZ:base.shared 119=false:=by kernel_rfl
theorem HP:base.F.get 120=some Tryz.f120:=by kernel_rfl
theorem BQ:base.shared 120=false:=by kernel_rfl
theorem HO:base.F.get 155=some Tryz.f155:=by kernel_rfl
theorem BP:base.shared 155=false:=by kernel_rfl
theorem HS:base.F.get 69=some Tryz.f69:=by kernel_rfl
theorem BT:base.shared 69=false:=by kernel_rfl
theorem EB:base.F.get 66=some Tryz.f66:=by kernel_rfl
theorem qu:base.shared 66=false:=by kernel_rfl
theorem xE:base.F.get 147=some Tryz.f147:=by kernel_rfl
theorem BS:base.shared 147=false:=by kernel_rfl
theorem EC:base.F.get 100=some Tryz.f100:=by kernel_rfl
theorem KI:base.shared 100=false:=by kernel_rfl
theorem jr:base.F.get 111=some Tryz.f111:=by kernel_rfl
theorem Ff:base.shared 111=false:=by kernel_rfl
theorem Be:base.F.get 68=some Tryz.f68:=by kernel_rfl
theorem Fg:base.shared 68=false:=by kernel_rfl
theorem HN:base.F.get 121=some Tryz.f121:=by kernel_rfl
theorem BO:base.shared 121=false:=by kernel_rfl
theorem HQ:base.F.get 112=some Tryz.f112:=by kernel_rfl
theorem BR:base.shared 112=false:=by kernel_rfl
theorem Bf:base.F.get 157=some Tryz.f157:=by kernel_rfl
theorem Fh:base.shared 157=false:=by kernel_rfl
noncomputable def jR:Code:=((Tryz.f156.body).bind aF).getD .skip
theorem P3 (l:List Nat)(a:Nat)(hp:List Blk):dA TT hp 24 (br (l++[a])) none (some (.sc (.int .i64 (l.length:Int)))) none=some (br l):=by
 have h:br (l++[a]) = .imm (l.length+1) false ((l++[a]).map iv):=by simp[br,lC]
 rw[h]
 simp only[dA,uL,iz,sI,bnd,fF,fx,Option.map]
 simp[gl,bn]
 rw[dL (by simp)]
 simp[br,lC]
set_option maxHeartbeats 1000000 in
theorem Cr (L:Lst)(run:aq)(k:Nat)(fr:List PV)(hp:List Blk)(wr:List Nat)(l:List Nat)(a:Nat)(hl:l.length<10000000)(ha:a≠0)
  (h21:fr.length=21) (h0:nth fr 0=br (l++[a])) :
  ∃ fr',af (CC L) run k jR ⟨fr,hp,wr⟩=some (.exit 0,⟨fr',hp,wr⟩)∧nth fr' 0=nth fr 0∧fr'.length=21:=by
 have hw:bu .i64 ((l.length+1:Nat) - 1:Int)=Int.ofNat l.length:=by
  have:=di .i64 l.length (by simp[hiN];omega)
  rw[← this];congr 1;omega
 have hw':bu .i64 (l.length:Int)=Int.ofNat l.length:=di .i64 l.length (by simp[hiN];omega)
 have h:br (l++[a]) = .imm (l.length+1) false ((l++[a]).map iv):=by simp[br,lC]
 have hd:(bn ((l++[a]).map iv) l.length).head?=some (.sc (.int .i64 a)):=by
  rw[jC _ _ (by simp)];simp[iv]
 rw[h] at h0
 have ha':((a:Int) == 0)=false:=by simp;exact ha
 simp[jR,Tryz.f156,aF,af,aH,an,ao,aG,ag,ai,aj,ak,aC,az,FP.none,bc,ar,bd,au,bH,ba,bj,partOf,aa,ae,ab,bf,cL,h21,h0,uL,sI,aI,hw',hd,ha',aU,-List.map_append]
set_option maxHeartbeats 1000000 in
theorem FQ (L:Lst)(run:aq)(k:Nat)(fr:List PV)(hp:List Blk)(wr:List Nat)(h21:fr.length=21)(h0:nth fr 0=br []) :
  ∃ fr',af (CC L) run k jR ⟨fr,hp,wr⟩=some (.exit 0,⟨fr',hp,wr⟩)∧nth fr' 0=nth fr 0∧fr'.length=21:=by
 have h:br [] = .imm 0 false []:=rfl
 rw[h] at h0
 simp[jR,Tryz.f156,aF,af,aH,an,ao,aG,ag,ai,aj,ak,aC,az,FP.none,bc,ar,bd,au,bH,aa,ae,ab,bf,cL,h21,h0,uL,-List.map_append]
set_option maxHeartbeats 1000000 in
theorem Ll (L:Lst)(run:aq)(k:Nat)(fr:List PV)(hp:List Blk)(wr:List Nat)(l:List Nat)(hl:l.length<10000000)
  (h21:fr.length=21) (h0:nth fr 0=br (l++[0])) :
  ∃ fr',af (CC L) run k jR ⟨fr,hp,wr⟩=some (.normal,⟨fr',hp,wr⟩)∧nth fr' 0=br l∧fr'.length=21:=by
 have hw':bu .i64 (l.length:Int)=Int.ofNat l.length:=di .i64 l.length (by simp[hiN];omega)
 have h:br (l++[0]) = .imm (l.length+1) false ((l++[0]).map iv):=by simp[br,lC]
 have hd:(bn ((l++[0]).map iv) l.length).head?=some (.sc (.int .i64 0)):=by
  rw[jC _ _ (by simp)];simp[iv]
 have hs:=P3 l 0
 rw[h] at h0 hs
 simp[jR,Tryz.f156,aF,af,aH,an,ao,aG,ag,ai,aj,ak,aC,az,FP.none,bc,ar,bd,au,bH,ba,bj,partOf,aa,ae,ab,bf,cL,h21,h0,uL,sI,aI,hw',hd,hs,aU,-List.map_append]
theorem rZ (L:Lst)(run:aq)(k:Nat):∀ (n:Nat) (l:List Nat) (fr:List PV) (hp:List Blk) (wr:List Nat),l.length=n→n<10000000→fr.length=21→nth fr 0=br l →
  ∃ fr',bX (af (CC L) run k jR) (n+1) ⟨fr,hp,wr⟩=some (.exit 0,⟨fr',hp,wr⟩)∧nth fr' 0=br (T.eZ l)∧fr'.length=21
 | 0,l,fr,hp,wr,hl,hn,h21,h0=>by
  have:l=[]:=List.length_eq_zero_iff.1 hl
  subst this
  obtain⟨fr',h1,h2,h3⟩:=FQ L run k fr hp wr h21 h0
  exact⟨fr',bw h1,by rw[h2,h0];rfl,h3⟩
 | n+1,l,fr,hp,wr,hl,hn,h21,h0=>by
  obtain⟨l',a,rfl,hl'⟩:=zZ hl
  by_cases ha:a=0
  ·subst ha
   obtain⟨fr1,h1,h2,h3⟩:=Ll L run k fr hp wr l' (by omega) h21 h0
   obtain⟨fr',g1,g2,g3⟩:=rZ L run k n l' fr1 hp wr hl' (by omega) h3 h2
   exact⟨fr',by rw[bV h1];exact g1,by rw[g2,T.eu,if_pos rfl],g3⟩
  ·obtain⟨fr',h1,h2,h3⟩:=Cr L run k fr hp wr l' a (by omega) ha h21 h0
   exact⟨fr',bw h1,by rw[h2,h0,T.eu,if_neg ha],h3⟩
noncomputable def lj:Code:=Tryz.f156.body.getD .skip
theorem Aw:ah 1 lj = .seq (.block 0 (.loop jR)) (ah 2 lj):=rfl
theorem FO (L:Lst)(run:aq)(k:Nat)(p:PV):∃ fr,aY (CC L) run k 1 lj ⟨entry 21 [p],[],[]⟩=some ⟨fr,[],[]⟩∧fr.length=21∧nth fr 0=p:=by
 simp[lj,Tryz.f156,aY,entry,nth,jh,af,aH,an,ao,aG,ag,ai,aj,ak,aC,az,FP.none,au]
theorem Cs (L:Lst)(run:aq)(k:Nat)(fr:List PV)(hp:List Blk)(wr:List Nat)(p:PV)(h21:fr.length=21)(h0:nth fr 0=p) :
  ∃ st,af (CC L) run k (ah 2 lj) ⟨fr,hp,wr⟩=some (.ret,st)∧aZ TT st.fr st.hp Tryz.f156.results.toList=some [p]:=by
 simp[lj,ah,Tryz.f156,af,aH,an,ao,aG,ag,ai,aj,ak,aC,az,FP.none,aa,ab,h21,h0,aZ]
def gY:List PV→Option (List PV)
 | [p]=>match lS p with
  | some l=>some [br (T.eZ l)]
  | none=>none
 | _=>none
theorem og (hp:List Blk)(l:List Nat):bm (snap hp bh) [br l]=some ([br l],[]):=rfl
theorem rY:Ab.Spec base.P 156 gY:=Ab.Spec.bL (C:=CC []) (cU trivial) fun args rs h=>by
 unfold gY at h
 split at h
 ·split at h
  ·rename_i l hl
   obtain⟨rfl,_,hlen⟩:=fP hl
   simp only[Option.some.injEq] at h
   subst h
   obtain⟨fr1,h1,h20,h0⟩:=FO [] (runK (CC []) (l.length+1)) (l.length+1) (br l)
   obtain⟨fr2,g1,g2,g3⟩:=rZ [] (runK (CC []) (l.length+1)) (l.length+1) l.length l fr1 [] [] rfl (by omega) h20 h0
   obtain⟨st,e1,e2⟩:=Cs [] (runK (CC []) (l.length+1)) (l.length+1) fr2 [] [] _ g3 g2
   have hx:af (CC []) (runK (CC []) (l.length+1)) (l.length+1) lj ⟨entry 21 [br l],[],[]⟩=some (.ret,st):=by
    rw[aO 1 h1,Aw,aw (bE g1)]
    exact e1
   exact⟨l.length+2,_,_,_,_,_,aQ Ez rfl hx e2,og _ _,Wk.refl rfl,trivial⟩
  ·cases h
 ·cases h
noncomputable def iB:Code:=((Tryz.f118.body).bind aF).getD .skip
noncomputable def fX:Code:=Tryz.f118.body.getD .skip
set_option maxHeartbeats 1000000 in
theorem FY (L:Lst)(run:aq)(k:Nat)(fr:List PV)(h41:fr.length=41)(h5:nth fr 5 = .sc (.int .i64 (-1))) :
  ∃ fr',af (CC L) run k iB ⟨fr,[],[]⟩=some (.exit 0,⟨fr',[],[]⟩)∧fr'.length=41:=by
 simp[iB,Tryz.f118,aF,af,aH,an,ao,aG,ag,ai,aj,ak,aC,az,FP.none,bc,ar,bd,au,aa,ab,h41,h5]
set_option maxHeartbeats 1000000 in
theorem Lt (L:Lst)(run:aq)(k:Nat)(fr:List PV)(a b:List Nat)(m:Nat)(hma:m<a.length)(hmb:m<b.length)(hl:a.length<10000000)
  (h41:fr.length=41) (h0:nth fr 0=br a) (h1:nth fr 1=br b) (h5:nth fr 5 = .sc (.int .i64 (m:Int))) (h:a[m]=b[m]) :
  ∃ fr',af (CC L) run k iB ⟨fr,[],[]⟩=some (.normal,⟨fr',[],[]⟩)∧fr'.length=41∧nth fr' 0=br a∧nth fr' 1=br b∧nth fr' 5 = .sc (.int .i64 ((m:Int) - 1)):=by
 have hw:bu .i64 ((m:Int) - 1)=(m:Int) - 1:=cG m (by omega)
 have hda:=jC (e:=iv) a m hma
 have hdb:=jC (e:=iv) b m hmb
 rw[h] at hda
 generalize b[m]=y at *
 have e1:br a = .imm a.length false (a.map iv):=rfl
 have e2:br b = .imm b.length false (b.map iv):=rfl
 have hdg:iv y = .sc (.int .i64 (y:Int)):=rfl
 rw[e1] at h0 ⊢;rw[e2] at h1 ⊢;rw[hdg] at hda hdb
 simp[iB,Tryz.f118,aF,af,aH,an,ao,aG,ag,ai,aj,ak,aC,az,FP.none,bc,ar,bd,au,ba,bj,partOf,aa,ae,ab,bf,h41,h0,h1,h5,uL,sI,aI,hma,hmb,hda,hdb,aU,number,FP.free,hw]
set_option maxHeartbeats 1000000 in
theorem Ls (L:Lst)(run:aq)(k:Nat)(fr:List PV)(a b:List Nat)(m:Nat)(hma:m<a.length)(hmb:m<b.length)(hl:a.length<10000000)
  (h41:fr.length=41) (h0:nth fr 0=br a) (h1:nth fr 1=br b) (h5:nth fr 5 = .sc (.int .i64 (m:Int))) (h:a[m]≠b[m]) :
  ∃ fr',af (CC L) run k iB ⟨fr,[],[]⟩=some (.ret,⟨fr',[],[]⟩)∧fr'.length=41∧nth fr' 4 = .sc (.int .i64 (if a[m]<b[m] then -1 else 1)):=by
 have hda:=jC (e:=iv) a m hma
 have hdb:=jC (e:=iv) b m hmb
 generalize b[m]=y at *
 generalize a[m]=x at *
 have e1:br a = .imm a.length false (a.map iv):=rfl
 have e2:br b = .imm b.length false (b.map iv):=rfl
 have hdx:iv x = .sc (.int .i64 (x:Int)):=rfl
 have hdy:iv y = .sc (.int .i64 (y:Int)):=rfl
 rw[e1] at h0;rw[e2] at h1;rw[hdx] at hda;rw[hdy] at hdb
 by_cases hxy:x<y
 ·simp[iB,Tryz.f118,aF,af,aH,an,ao,aG,ag,ai,aj,ak,aC,az,FP.none,bc,ar,bd,au,ba,bj,partOf,aa,ae,ab,bf,h41,h0,h1,h5,uL,sI,aI,hma,hmb,hda,hdb,aU,number,FP.free,hxy]
 ·have hyx:y<x:=by omega
  simp[iB,Tryz.f118,aF,af,aH,an,ao,aG,ag,ai,aj,ak,aC,az,FP.none,bc,ar,bd,au,ba,bj,partOf,aa,ae,ab,bf,h41,h0,h1,h5,uL,sI,aI,hma,hmb,hda,hdb,aU,number,FP.free,hxy,hyx]
theorem sf (L:Lst)(run:aq)(k:Nat)(a b:List Nat)(hab:a.length=b.length)(hl:a.length<10000000)(ha:T.Dok a)(hb:T.Dok b):∀ (m:Nat) (fr:List PV),m≤a.length →
  fr.length=41→nth fr 0=br a→nth fr 1=br b→nth fr 5 = .sc (.int .i64 ((m:Int) - 1))→a.drop m=b.drop m →
  (∃ fr',bX (af (CC L) run k iB) (m+1) ⟨fr,[],[]⟩=some (.exit 0,⟨fr',[],[]⟩)∧fr'.length=41∧dH (T.val a) (T.val b)=0) ∨
  (∃ fr',bX (af (CC L) run k iB) (m+1) ⟨fr,[],[]⟩=some (.ret,⟨fr',[],[]⟩)∧nth fr' 4 = .sc (.int .i64 (dH (T.val a) (T.val b))))
 | 0,fr,hm,h41,h0,h1,h5,hd=>by
  obtain⟨fr',g1,g2⟩:=FY L run k fr h41 h5
  refine .inl ⟨fr',bw g1,g2,?_⟩
  simp at hd
  simp[dH,hd]
 | m+1,fr,hm,h41,h0,h1,h5,hd=>by
  have h5':nth fr 5 = .sc (.int .i64 (m:Int)):=by rw[h5];simp
  have hmb:m<b.length:=by omega
  have hma:m<a.length:=by omega
  by_cases h:a[m]=b[m]
  ·obtain⟨fr1,g1,g2,g3,g4,g5⟩:=Lt L run k fr a b m hma hmb hl h41 h0 h1 h5' h
   have hd':a.drop m=b.drop m:=by rw[List.drop_eq_getElem_cons hma,List.drop_eq_getElem_cons hmb,hd,h]
   rw[bV g1]
   exact sf L run k a b hab hl ha hb m fr1 (by omega) g2 g3 g4 g5 hd'
  ·obtain⟨fr1,g1,g2,g3⟩:=Ls L run k fr a b m hma hmb hl h41 h0 h1 h5' h
   refine .inr ⟨fr1,eN g1,?_⟩
   rw[g3]
   by_cases hxy:a[m]<b[m]
   ·have:=T.kn ha hma hmb hd hxy
    rw[if_pos hxy,dH,if_pos this]
   ·have:=T.kn hb hmb hma hd.symm (by omega)
    rw[if_neg hxy,dH,if_neg (by omega),if_neg (by omega)]
def jS (a b:List Nat):Int:=if a.length<b.length then -1 else if b.length<a.length then 1 else dH (T.val a) (T.val b)
theorem Cy (L:Lst)(run:aq)(k:Nat)(a b:List Nat)(h:a.length≠b.length) :
  ∃ st,af (CC L) run k fX ⟨entry 41 [br a,br b],[],[]⟩=some (.ret,st)∧aZ TT st.fr st.hp Tryz.f118.results.toList=some [Ab.bC (jS a b)]:=by
 by_cases hx:a.length<b.length
 ·simp[fX,Tryz.f118,entry,nth,jh,af,aH,an,ao,aG,ag,ai,aj,ak,aC,az,FP.none,bc,ar,bd,au,bH,bf,Ek,dE,uL,h,hx,aZ,jS,Ab.bC]
 ·have:b.length<a.length:=by omega
  simp[fX,Tryz.f118,entry,nth,jh,af,aH,an,ao,aG,ag,ai,aj,ak,aC,az,FP.none,bc,ar,bd,au,bH,bf,Ek,dE,uL,h,hx,this,aZ,jS,Ab.bC]
theorem Cx (L:Lst)(run:aq)(k:Nat)(a b:List Nat)(h:a.length=b.length)(hl:a.length<10000000) :
  ∃ fr,aY (CC L) run k 2 fX ⟨entry 41 [br a,br b],[],[]⟩=some ⟨fr,[],[]⟩∧fr.length=41∧nth fr 0=br a∧nth fr 1=br b:=by
 simp[fX,Tryz.f118,aY,entry,nth,jh,af,aH,an,ao,aG,ag,ai,aj,ak,aC,az,FP.none,bc,ar,bd,au,bH,bf,dE,uL,h]
noncomputable def vc:Code:=seq1 (seq1 (ah 2 fX))
theorem pj:ah 2 fX = .seq (.seq vc (.block 0 (.loop iB))) (ah 3 fX):=rfl
theorem Lr (L:Lst)(run:aq)(k:Nat)(fr:List PV)(a b:List Nat)(hl:a.length<10000000)(h41:fr.length=41)(h0:nth fr 0=br a)(h1:nth fr 1=br b) :
  ∃ fr',af (CC L) run k vc ⟨fr,[],[]⟩=some (.normal,⟨fr',[],[]⟩)∧fr'.length=41∧nth fr' 0=br a∧nth fr' 1=br b∧nth fr' 5 = .sc (.int .i64 ((a.length:Int) - 1)):=by
 have hw:bu .i64 ((a.length:Int) - 1)=(a.length:Int) - 1:=cG _ (by omega)
 simp[vc,fX,ah,seq1,Tryz.f118,af,aH,an,ao,aG,ag,ai,aj,ak,aC,az,FP.none,bc,ar,bd,au,bH,aa,ae,ab,bf,dE,uL,h41,h0,h1,hw]
theorem Cz (L:Lst)(run:aq)(k:Nat)(fr:List PV)(h41:fr.length=41) :
  ∃ st,af (CC L) run k (ah 3 fX) ⟨fr,[],[]⟩=some (.ret,st)∧aZ TT st.fr st.hp Tryz.f118.results.toList=some [Ab.bC 0]:=by
 simp[fX,ah,Tryz.f118,af,aH,an,ao,aG,ag,ai,aj,ak,aC,az,FP.none,au,aa,h41,aZ,Ab.bC]
def jT:List PV→Option (List PV)
 | [p,q]=>match lS p,lS q with
  | some a,some b=>some [Ab.bC (jS a b)]
  | _,_=>none
 | _=>none
theorem se:Ab.Spec base.P 118 jT:=Ab.Spec.bL (C:=CC []) (cU trivial) fun args rs h=>by
 unfold jT at h
 split at h
 ·split at h
  ·rename_i a b ea eb
   obtain⟨rfl,ha,hla⟩:=fP ea
   obtain⟨rfl,hb,hlb⟩:=fP eb
   simp only[Option.some.injEq] at h
   subst h
   by_cases hab:a.length=b.length
   ·obtain⟨fr1,h1,h2,h3,h4⟩:=Cx [] (runK (CC []) (a.length+1)) (a.length+1) a b hab hla
    obtain⟨fr2,g1,g2,g3,g4,g5⟩:=Lr [] (runK (CC []) (a.length+1)) (a.length+1) fr1 a b hla h2 h3 h4
    have hs:jS a b=dH (T.val a) (T.val b):=by simp[jS,hab]
    rcases sf [] (runK (CC []) (a.length+1)) (a.length+1) a b hab hla ha hb a.length fr2 (Nat.le_refl _) g2 g3 g4 g5 (by simp[hab]) with ⟨fr3,q1,q2,q3⟩| ⟨fr3,q1,q2⟩
    ·obtain⟨st,e1,e2⟩:=Cz [] (runK (CC []) (a.length+1)) (a.length+1) fr3 q2
     have hx:af (CC []) (runK (CC []) (a.length+1)) (a.length+1) fX ⟨entry 41 [br a,br b],[],[]⟩=some (.ret,st):=by
      rw[aO 2 h1,pj,aw ((aw g1).trans (bE q1))]
      exact e1
     rw[hs,q3]
     exact⟨a.length+2,_,_,_,_,_,aQ mV rfl hx e2,eB _ _,Wk.refl rfl,trivial⟩
    ·have hx:af (CC []) (runK (CC []) (a.length+1)) (a.length+1) fX ⟨entry 41 [br a,br b],[],[]⟩=some (.ret,⟨fr3,[],[]⟩):=by
      rw[aO 2 h1,pj,cg ((aw g1).trans (cW q1))]
     have e2:aZ TT fr3 [] Tryz.f118.results.toList=some [Ab.bC (dH (T.val a) (T.val b))]:=by
      simp[Tryz.f118,aZ,q2,Ab.bC]
     rw[hs]
     exact⟨a.length+2,_,_,_,_,_,aQ mV rfl hx e2,eB _ _,Wk.refl rfl,trivial⟩
   ·obtain⟨st,e1,e2⟩:=Cy [] (runK (CC []) 1) 1 a b hab
    exact⟨2,_,_,_,_,_,aQ mV rfl e1 e2,eB _ _,Wk.refl rfl,trivial⟩
  ·cases h
 ·cases h
end Go.Proofs.YtjdmodeenbdfpaaGreat
