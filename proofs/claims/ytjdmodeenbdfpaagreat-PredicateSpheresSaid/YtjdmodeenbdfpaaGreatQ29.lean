/- An abstract interpreter over the model's code and its soundness, part 29 of the proof; each lemma states its own conditions. -/
import Derived.Test.YtjdmodeenbdfpaaGreatQ21
import Derived.Test.YtjdmodeenbdfpaaGreatQ25
import Derived.Test.YtjdmodeenbdfpaaGreatQ28
set_option linter.unusedSimpArgs false
set_option linter.unusedVariables false
namespace Go.Ab
namespace T
def val:List Nat→Nat
 | []=>0
 | a::l=>a+10*val l
def jb:Nat→Nat→List Nat
 | 0,_=>[]
 | k+1,n=>if n=0 then [] else n % 10::jb k (n / 10)
def aA (n:Nat):List Nat:=jb (n.log2+1) n
def Dok (l:List Nat):Prop:=∀ x ∈ l,x<10
def ff (l:List Nat):List Nat:=(l.reverse.dropWhile (· == 0)).reverse
theorem Dok.nil:Dok []:=fun _ h=>by cases h
theorem Dok.cons {a:Nat}{l:List Nat}(h:a<10)(h':Dok l):Dok (a::l):=fun x hx=>by
 rcases List.mem_cons.1 hx with rfl | hx
 ·exact h
 ·exact h' x hx
theorem Dok.head {a:Nat}{l:List Nat}(h:Dok (a::l)):a<10:=h a (by simp)
theorem Dok.tail {a:Nat}{l:List Nat}(h:Dok (a::l)):Dok l:=fun x hx=>h x (by simp[hx])
theorem Dok.append {l m:List Nat}(h:Dok l)(h':Dok m):Dok (l++m):=fun x hx=>by
 rcases List.mem_append.1 hx with hx | hx
 ·exact h x hx
 ·exact h' x hx
theorem Dok.left {l m:List Nat}(h:Dok (l++m)):Dok l:=fun x hx=>h x (by simp[hx])
theorem Dok.right {l m:List Nat}(h:Dok (l++m)):Dok m:=fun x hx=>h x (by simp[hx])
theorem Dok.get {l:List Nat}(h:Dok l){i:Nat}(hi:i<l.length):l[i]<10:=h _ (List.getElem_mem hi)
theorem Dok.set {l:List Nat}(h:Dok l)(i:Nat){y:Nat}(hy:y<10):Dok (l.set i y):=fun x hx=>by
 rcases List.mem_or_eq_of_mem_set hx with hx | rfl
 ·exact h x hx
 ·exact hy
theorem Dok.IC (n:Nat):Dok (List.replicate n 0):=fun x hx=>by
 rw[(List.mem_replicate.1 hx).2];omega
theorem Dok.take {l:List Nat}(h:Dok l)(n:Nat):Dok (l.take n):=fun x hx=>h x (List.mem_of_mem_take hx)
theorem Dok.drop {l:List Nat}(h:Dok l)(n:Nat):Dok (l.drop n):=fun x hx=>h x (List.mem_of_mem_drop hx)
theorem gX (l m:List Nat):val (l++m)=val l+10 ^ l.length*val m:=by
 induction l with
 | nil=>simp[val]
 | cons a l ih =>
  simp only[List.cons_append,val,ih,List.length_cons,Nat.pow_succ]
  grind
theorem dz (l:List Nat)(a:Nat):val (l++[a])=val l+10 ^ l.length*a:=by
 rw[gX];simp[val]
theorem nm (n:Nat):val (List.replicate n 0)=0:=by
 induction n with
 | zero=>rfl
 | succ n ih=>simp[List.replicate_succ,val,ih]
theorem pa (l:List Nat)(i y:Nat)(hi:i<l.length):val (l.set i y)+l[i]*10 ^ i=val l+y*10 ^ i:=by
 induction l generalizing i with
 | nil=>simp at hi
 | cons a l ih =>
  cases i with
  | zero=>simp[val];omega
  | succ i =>
   have:=ih i (by simpa using hi)
   simp only[List.set_cons_succ,val,List.getElem_cons_succ,Nat.pow_succ]
   grind
theorem gK (l:List Nat)(i:Nat)(hi:i<l.length):val (l.take (i+1))=val (l.take i)+l[i]*10 ^ i:=by
 rw[List.take_succ_eq_append_getElem hi,dz,List.length_take,Nat.min_eq_left (by omega),Nat.mul_comm]
theorem eM {l:List Nat}(h:Dok l):val l<10 ^ l.length:=by
 induction l with
 | nil=>simp[val]
 | cons a l ih =>
  have h1:=ih h.tail
  have h2:=h.head
  simp only[val,List.length_cons,Nat.pow_succ]
  omega
theorem kH (l:List Nat)(i:Nat)(hi:i≤l.length):val l=val (l.take i)+10 ^ i*val (l.drop i):=by
 have h:=gX (l.take i) (l.drop i)
 rw[List.take_append_drop,List.length_take,Nat.min_eq_left hi] at h
 exact h
theorem mJ (n:Nat)(h:n≠0):(n / 10).log2+1≤n.log2∨n / 10=0:=by
 by_cases h0:n / 10=0
 ·exact .inr h0
 ·left
  have h1:2 ^ (n / 10).log2≤n / 10:=Nat.log2_self_le h0
  have h2:2 ^ ((n / 10).log2+1)≤n:=by
   rw[Nat.pow_succ];omega
  exact (Nat.le_log2 h).2 h2
theorem mV:∀ (k j n:Nat),n.log2<k→n.log2<j→jb k n=jb j n
 | 0,j,n,h,_=>by omega
 | k+1,0,n,_,h=>by omega
 | k+1,j+1,n,h,h'=>by
  unfold jb
  by_cases hn:n=0
  ·rw[if_pos hn,if_pos hn]
  ·rw[if_neg hn,if_neg hn]
   congr 1
   rcases mJ n hn with h1 | h1
   ·exact mV k j _ (by omega) (by omega)
   ·rw[h1]
    cases k <;> cases j <;> simp[jb]
theorem fj:aA 0=[]:=rfl
theorem dT {n:Nat}(h:n≠0):aA n=n % 10::aA (n / 10):=by
 unfold aA
 rw[jb,if_neg h]
 congr 1
 rcases mJ n h with h1 | h1
 ·exact mV _ _ _ (by omega) (by omega)
 ·rw[h1]
  cases n.log2 <;> simp[jb]
theorem rL {a:Nat}{l:List Nat}(ha:a<10)(h:a+10*val l≠0):aA (a+10*val l)=a::aA (val l):=by
 rw[dT h,Nat.add_mul_mod_self_left,Nat.mod_eq_of_lt ha,Nat.add_mul_div_left _ _ (by omega),Nat.div_eq_of_lt ha,Nat.zero_add]
theorem bQ (n:Nat):val (aA n)=n:=by
 induction n using Nat.strongRecOn with
 | _ n ih =>
  by_cases h:n=0
  ·subst h;rfl
  ·rw[dT h,val,ih _ (by omega)]
   omega
theorem bP (n:Nat):Dok (aA n):=by
 induction n using Nat.strongRecOn with
 | _ n ih =>
  by_cases h:n=0
  ·subst h;exact Dok.nil
  ·rw[dT h]
   exact (ih _ (by omega)).cons (by omega)
theorem eB (l:List Nat)(a:Nat):ff (l++[a])=if a=0 then ff l else l++[a]:=by
 unfold ff
 rw[List.reverse_append]
 by_cases h:a=0 <;> simp[h]
theorem iR {P:List Nat→Prop}(h0:P [])(h1:∀ l a,P l→P (l++[a])):∀ l,P l:=by
 intro l
 have:∀ m:List Nat,P m.reverse:=by
  intro m
  induction m with
  | nil=>exact h0
  | cons a m ih=>rw[List.reverse_cons];exact h1 _ a ih
 have:=this l.reverse
 rwa [List.reverse_reverse] at this
theorem qI (l:List Nat):val (ff l)=val l:=by
 induction l using iR with
 | h0=>rfl
 | h1 l a ih =>
  rw[eB]
  by_cases h:a=0
  ·rw[if_pos h,ih,h,dz,Nat.mul_zero,Nat.add_zero]
  ·rw[if_neg h]
theorem uu {l:List Nat}(h:Dok l):Dok (ff l):=by
 induction l using iR with
 | h0=>exact Dok.nil
 | h1 l a ih =>
  rw[eB]
  by_cases h':a=0
  ·rw[if_pos h'];exact ih h.left
  ·rw[if_neg h'];exact h
def Top (l:List Nat):Prop:=∀ m a,l=m++[a]→a≠0
theorem kJ (l:List Nat):Top (ff l):=by
 induction l using iR with
 | h0=>intro m a h;simp[ff] at h
 | h1 l a ih =>
  rw[eB]
  by_cases h:a=0
  ·rw[if_pos h];exact ih
  ·rw[if_neg h]
   intro m b e
   have:=List.append_inj' e rfl
   simp at this
   rw[← this.2];exact h
theorem Top.tail {a:Nat}{l:List Nat}(h:Top (a::l)):Top l:=fun m b e=>h (a::m) b (by rw[e];rfl)
theorem Top.pb {l:List Nat}(h:Top l)(hl:l≠[]):val l≠0:=by
 obtain⟨m,a,rfl⟩:∃ m a,l=m++[a]:=⟨l.dropLast,l.getLast hl,(List.dropLast_concat_getLast hl).symm⟩
 have ha:=h m a rfl
 rw[dz]
 have:0<10 ^ m.length*a:=Nat.mul_pos (Nat.pow_pos (by omega)) (by omega)
 omega
theorem jN {l:List Nat}(h:Dok l)(ht:Top l):aA (val l)=l:=by
 induction l with
 | nil=>rfl
 | cons a l ih =>
  rw[val,rL h.head,ih h.tail ht.tail]
  exact ht.pb (by simp)
theorem eC {l:List Nat}(h:Dok l):ff l=aA (val l):=by
 rw[← qI l,jN (uu h) (kJ l)]
theorem ja (n:Nat):Top (aA n):=by
 have h:=eC (bP n)
 rw[bQ] at h
 rw[← h]
 exact kJ _
theorem cP {n:Nat} : 0<(aA n).length ↔ n≠0:=by
 by_cases h:n=0
 ·subst h;simp[fj]
 ·rw[dT h];simp[h]
theorem wY {n:Nat}(h:aA n=[]):n=0:=by
 rw[← bQ n,h];rfl
theorem da {n k:Nat}(h:n<10 ^ k):(aA n).length≤k:=by
 by_cases h0:aA n=[]
 ·rw[h0];simp
 ·obtain⟨m,a,e⟩:∃ m a,aA n=m++[a]:=⟨(aA n).dropLast,(aA n).getLast h0,(List.dropLast_concat_getLast h0).symm⟩
  have ha:=ja n m a e
  have hv:=bQ n
  rw[e,dz] at hv
  rw[e,List.length_append,List.length_singleton]
  have h1:10 ^ m.length≤n:=by
   have:10 ^ m.length*1≤10 ^ m.length*a:=Nat.mul_le_mul_left _ (by omega)
   omega
  have h2:10 ^ m.length<10 ^ k:=by omega
  exact Nat.lt_of_not_le fun h3=>absurd (Nat.pow_le_pow_right (n:=10) (by omega) h3) (by omega)
theorem fy (n:Nat):n<10 ^ (aA n).length:=by
 have:=eM (bP n)
 rwa [bQ] at this
end T
def Sc1 {α:Type}(e:α→PV):Prop:=∀ a,(∃ k z,e a = .sc (.int k z))∨(∃ s,e a = .sc (.string s))∨∃ b,e a = .sc (.bool b)
def lO {α:Type}(e:α→PV)(l:List α):PV:=.imm l.length false (l.map e)
section
variable {α:Type} {e:α→PV}
theorem Sc1.cells (h:Sc1 e)(a:α):(e a).cells?=some [e a]:=by
 rcases h a with ⟨k,z,h⟩| ⟨s,h⟩| ⟨b,h⟩ <;> rw[h] <;> rfl
theorem Sc1.okc (h:Sc1 e)(a:α):eG (e a)=true:=by
 rcases h a with ⟨k,z,h⟩| ⟨s,h⟩| ⟨b,h⟩ <;> rw[h] <;> rfl
theorem Sc1.canon (h:Sc1 e)(a:α):Ab.canon (e a)=e a:=by
 rcases h a with ⟨k,z,h⟩| ⟨s,h⟩| ⟨b,h⟩ <;> rw[h] <;> rfl
theorem Sc1.snap (h:Sc1 e)(hp:List Blk)(d:Nat)(a:α):Ab.snap hp (d+1) (e a)=some (e a,[]):=by
 rcases h a with ⟨k,z,h⟩| ⟨s,h⟩| ⟨b,h⟩ <;> rw[h] <;> rfl
theorem Sc1.idf (h:Sc1 e)(a:α):(e a).cC=true:=by
 rcases h a with ⟨k,z,h⟩| ⟨s,h⟩| ⟨b,h⟩ <;> rw[h] <;> rfl
theorem Sc1.R1 (h:Sc1 e):∀ l:List α,bc (l.map e)=true
 | []=>rfl
 | a::l=>by simp only[List.map_cons,bc,h.okc,h.R1 l,Bool.and_self]
theorem Sc1.aJ (h:Sc1 e):∀ l:List α,Ab.aJ (l.map e)=l.map e
 | []=>rfl
 | a::l=>by simp only[List.map_cons,Ab.aJ,h.aJ l,h.canon]
theorem Sc1.IY (h:Sc1 e)(hp:List Blk)(d:Nat):∀ l:List α,bq (Ab.snap hp (d+1)) (l.map e)=some (l.map e,[])
 | []=>rfl
 | a::l=>by simp only[List.map_cons,bq,h.IY hp d l,h.snap];rfl
theorem Sc1.ZX (h:Sc1 e)(n:Nat)(x:Bool)(l:List α)(hl:l.length=n):Ab.canon (.imm n x (l.map e))=lO e l:=by
 rw[Ab.canon,h.aJ,lO,hl]
theorem Sc1.HL (h:Sc1 e)(l:List α):Ab.canon (lO e l)=lO e l:=h.ZX _ _ l rfl
theorem adp (l:List α)(i:Nat)(h:i<l.length):br (l.map e) i=e l[i]::(l.drop (i+1)).map e:=by
 rw[cM,← List.map_drop,List.drop_eq_getElem_cons h];rfl
theorem ku (l:List α)(i:Nat)(h:i<l.length):(br (l.map e) i).head?=some (e l[i]):=by
 rw[adp l i h];rfl
theorem lF:∀ (l:List α) (i:Nat) (y:α),i<l.length→bX (l.map e) i [e y]=some ((l.set i y).map e)
 | [],i,y,h=>by simp at h
 | a::l,0,y,h=>by simp[bX]
 | a::l,i+1,y,h=>by
  have:=lF l i y (by simpa using h)
  simp only[List.map_cons,bX,this,List.set_cons_succ]
theorem Ao (l:List α)(n:Nat)(h:n≤l.length):bE (br (l.map e) 0) (n*1)=some ((l.take n).map e):=by
 rw[cM,List.drop_zero,Nat.mul_one,dS (by simpa using h),List.map_take]
theorem aeJ (n:Nat)(a:α):rep n [e a]=(List.replicate n a).map e:=by
 induction n with
 | zero=>rfl
 | succ n ih=>simp[rep,ih,List.replicate_succ]
def jy (e:α→PV)(b:Nat)(hp:List Blk)(l:List α)(p:PV):Prop :=
 b≤hp.length∧((l=[]∧p = .sc (.slice none 0 0))∨∃ id m x,b≤id∧id<hp.length∧p = .own id 1 0 l.length x∧(x=true→m=[])∧aZ hp id=some ⟨.live,(l++m).map e⟩)
theorem jy.nil {b:Nat}{hp:List Blk}(h:b≤hp.length):jy e b hp [] (.sc (.slice none 0 0)):=⟨h,.inl ⟨rfl,rfl⟩⟩
theorem jy.len {b:Nat}{hp:List Blk}{l:List α}{p:PV}(h:jy e b hp l p):dQ p=some l.length:=by
 rcases h.2 with ⟨rfl,rfl⟩| ⟨id,m,x,_,_,rfl,_,h⟩ <;> rfl
theorem jy.cells {b:Nat}{hp:List Blk}{l:List α}{p:PV}(h:jy e b hp l p):p.cells?=some [p]:=by
 rcases h.2 with ⟨rfl,rfl⟩| ⟨id,m,x,_,_,rfl,_,h⟩ <;> rfl
theorem jy.okc {b:Nat}{hp:List Blk}{l:List α}{p:PV}(h:jy e b hp l p):eG p=true:=by
 rcases h.2 with ⟨rfl,rfl⟩| ⟨id,m,x,_,_,rfl,_,h⟩ <;> rfl
def dk (e:α→PV)(b:Nat)(hp:List Blk)(l:List α)(p:PV):Prop :=
 b≤hp.length∧((l=[]∧p = .sc (.slice none 0 0))∨∃ id m,b≤id∧id<hp.length∧p = .own id 1 0 l.length false∧aZ hp id=some ⟨.live,(l++m).map e⟩)
theorem dk.nil {b:Nat}{hp:List Blk}(h:b≤hp.length):dk e b hp [] (.sc (.slice none 0 0)):=⟨h,.inl ⟨rfl,rfl⟩⟩
theorem dk.s {b:Nat}{hp:List Blk}{l:List α}{p:PV}(h:dk e b hp l p):jy e b hp l p:=by
 obtain⟨hb,h⟩:=h
 rcases h with ⟨rfl,rfl⟩| ⟨id,m,h1,h2,rfl,h⟩
 ·exact .nil hb
 ·exact⟨hb,.inr ⟨id,m,false,h1,h2,rfl,nofun,h⟩⟩
theorem dk.app {b:Nat}{hp:List Blk}{l:List α}{p:PV}(h:dk e b hp l p)(a:α)(hl:l.length<100000000) :
  ∃ p' hp' fp,cV hp 1 p 1 [e a]=some (p',hp',fp)∧dk e b hp' (l++[a]) p'∧∀ i,i<b→aZ hp' i=aZ hp i:=by
 obtain⟨hb,h⟩:=h
 rcases h with ⟨rfl,rfl⟩| ⟨id,m,hid,hid2,rfl,h⟩
 ·refine⟨.own hp.length 1 0 1 false,aP hp [e a],⟨[],[hp.length],true,false⟩,by simp[cV,cL],⟨by simp[aP];omega,.inr ⟨hp.length,[],hb,by simp[aP],rfl,?_⟩⟩,fun i hi => ?_⟩
  ·rw[bO,if_pos rfl];rfl
  ·rw[bO,if_neg (by omega)]
 ·have ht:bE (br ((l++m).map e) 0) (l.length*1)=some (l.map e):=by
   rw[Ao _ _ (by simp)];simp
  refine⟨.own hp.length 1 0 (l.length+1) false,aP (cf hp id ⟨.dead,[]⟩) (l.map e++[e a]),⟨[],[id,hp.length],true,false⟩,?_,⟨by simp[aP,bG];omega,.inr ⟨hp.length,[],hb,by simp[aP,bG],by simp,?_⟩⟩,fun i hi => ?_⟩
  ·simp only[cV,h]
   rw[ht]
   simp[cL]
   omega
  ·rw[bO,bG,if_pos rfl];simp
  ·rw[bO,bG,if_neg (by omega),cJ h,if_neg (by omega)]
theorem jy.snap (he:Sc1 e){b:Nat}{hp:List Blk}{l:List α}{p:PV}(h:jy e b hp l p)(d:Nat):∃ q ids,Ab.snap hp (d+2) p=some (q,ids)∧Wk q (lO e l)∧Ab.canon q=lO e l∧∀ i ∈ ids,b≤i:=by
 obtain⟨hb,h⟩:=h
 rcases h with ⟨rfl,rfl⟩| ⟨id,m,x,hid,_,rfl,_,h⟩
 ·exact⟨.sc (.slice none 0 0),[],rfl,Wk.nil false,rfl,by simp⟩
 ·have ht:bE (br ((l++m).map e) 0) (l.length*1)=some (l.map e):=by
   rw[Ao _ _ (by simp)];simp
  refine⟨.imm l.length x (l.map e),[id],?_,?_,he.ZX _ x l rfl,by simpa using hid⟩
  ·rw[Ab.snap]
   simp only[h]
   rw[if_neg (by simp),ht]
   simp only[he.IY hp d l]
  ·cases x
   ·exact Wk.refl (by simp[PV.cC])
   ·exact Wk.imm _ _ _
theorem jy.G3 (he:Sc1 e){b:Nat}{hp:List Blk}{l:List α}{p:PV}(h:jy e b hp l p) :
  ∃ rs ids,bq (Ab.snap hp bj) [p]=some (rs,ids)∧WkL rs [lO e l]:=by
 obtain⟨q,ids,h1,h2,h3,-⟩:=h.snap he 10
 refine⟨[q],ids++[],?_,h2,trivial⟩
 simp only[bj,bq,h1]
theorem jy.arg (he:Sc1 e){b:Nat}{hp:List Blk}{l:List α}{p:PV}(h:jy e b hp l p) :
  ∃ q ids,(∀ d,Ab.snap hp (d+2) p=some (q,ids))∧Ab.canon q=lO e l∧∀ i,i<b→aZ (roB hp ids) i=aZ hp i:=by
 obtain⟨hb,h⟩:=h
 rcases h with ⟨rfl,rfl⟩| ⟨id,m,x,hid,_,rfl,_,h⟩
 ·exact⟨.sc (.slice none 0 0),[],fun _=>rfl,rfl,fun _ _=>rfl⟩
 ·have ht:bE (br ((l++m).map e) 0) (l.length*1)=some (l.map e):=by
   rw[Ao _ _ (by simp)];simp
  refine⟨.imm l.length x (l.map e),[id],fun d => ?_,he.ZX _ x l rfl,fun i hi=>AE hp id i (by omega)⟩
  rw[Ab.snap]
  simp only[h]
  rw[if_neg (by simp),ht]
  simp only[he.IY hp d l]
theorem jy.set {b:Nat}{hp:List Blk}{l:List α}{p:PV}(h:jy e b hp l p)(i:Nat)(x:Blk)(hi:i<b):jy e b (cf hp i x) l p:=by
 obtain⟨hb,h⟩:=h
 refine⟨by rw[bG];exact hb,?_⟩
 rcases h with ⟨rfl,rfl⟩| ⟨id,m,y,h1,h2,rfl,h3,h⟩
 ·exact .inl ⟨rfl,rfl⟩
 ·refine .inr ⟨id,m,y,h1,by rw[bG];exact h2,rfl,h3,?_⟩
  rw[fQ,ct,List.getElem?_set_ne (by omega),← ct]
  exact h
end
def iv (n:Nat):PV:=.sc (.int .i64 n)
theorem iz:Sc1 iv:=fun _=>.inl ⟨_,_,rfl⟩
theorem fz (l:List Nat)(i:Nat)(h:i<l.length):(br (l.map iv) i).head?=some (.sc (.int .i64 (at0 l i:Int))):=by
 rw[ku l i h,cY h];rfl
def bw (l:List Nat):PV:=lO iv l
def Hs:List PV→Option (List Nat)
 | []=>some []
 | .sc (.int .i64 (.ofNat n))::r=>bif n.blt 10 then (Hs r).map (n :: ·) else none
 | _=>none
def ma:PV→Option (List Nat)
 | .imm n false cs=>match Hs cs with
  | some l=>bif n.beq l.length && n.blt 10000000 then some l else none
  | none=>none
 | _=>none
theorem zt:∀ {cs:List PV} {l:List Nat},Hs cs=some l→cs=l.map iv∧T.Dok l
 | [],l,h=>by simp[Hs] at h;subst h;exact⟨rfl,T.Dok.nil⟩
 | c::r,l,h=>by
  unfold Hs at h
  split at h
  ·cases ‹c::r=[]›
  ·rename_i n r' e
   cases hb:n.blt 10 with
   | false=>rw[hb] at h;cases h
   | true =>
    rw[hb] at h
    simp only[cond_true,Option.map_eq_some_iff] at h
    obtain⟨l',h1,rfl⟩:=h
    cases e
    obtain⟨e2,h3⟩:=zt h1
    exact⟨by rw[e2];rfl,h3.cons (by simpa [Nat.blt_eq] using hb)⟩
  ·cases h
theorem DI:∀ {l:List Nat},T.Dok l→Hs (l.map iv)=some l
 | [],_=>rfl
 | a::l,h=>by
  have h1:a.blt 10=true:=by rw[Nat.blt_eq];exact h.head
  show (bif a.blt 10 then (Hs (l.map iv)).map (a :: ·) else none)=_
  rw[h1,DI h.tail];rfl
theorem fY {p:PV}{l:List Nat}(h:ma p=some l):p=bw l∧T.Dok l∧l.length<10000000:=by
 unfold ma at h
 split at h
 ·split at h
  ·rename_i n cs _ l' e
   cases hb:n.beq l'.length && n.blt 10000000 with
   | false=>rw[hb] at h;cases h
   | true =>
    rw[hb] at h
    simp only[cond_true,Option.some.injEq] at h
    subst h
    simp only[Bool.and_eq_true,Nat.blt_eq] at hb
    obtain⟨rfl,h3⟩:=zt e
    have:=Nat.eq_of_beq_eq_true hb.1
    subst this
    exact⟨rfl,h3,hb.2⟩
  ·cases h
 ·cases h
theorem dK {l:List Nat}(h:T.Dok l)(hl:l.length<10000000):ma (bw l)=some l:=by
 have h1:l.length.blt 10000000=true:=by rw[Nat.blt_eq];exact hl
 simp[ma,bw,lO,DI h,h1]
theorem oS (l:List Nat):canon (bw l)=bw l:=iz.HL l
end Go.Ab
namespace Go.Ab.T
open Go
def cX:Nat→Nat→List Nat
 | 0,_=>[]
 | n+1,v=>v % 10::cX n (v / 10)
theorem di:∀ n v,(cX n v).length=n
 | 0,_=>rfl
 | n+1,v=>by simp[cX,di n]
theorem gu:∀ n v,Dok (cX n v)
 | 0,_=>Dok.nil
 | n+1,v=>(gu n _).cons (by omega)
theorem fh:∀ n v,v<10 ^ n→val (cX n v)=v
 | 0,v,h=>by simp at h;subst h;rfl
 | n+1,v,h=>by
  rw[cX,val,fh n _ (by rw[Nat.pow_succ] at h;omega)]
  omega
theorem mE:∀ {l:List Nat},Dok l→cX l.length (val l)=l
 | [],_=>rfl
 | a::l,h=>by
  have ha:=h.head
  rw[List.length_cons,cX,val,Nat.add_mul_mod_self_left,Nat.mod_eq_of_lt ha,Nat.add_mul_div_left _ _ (by omega),Nat.div_eq_of_lt ha,Nat.zero_add,mE h.tail]
theorem Dok.oL {l:List Nat}{n v:Nat}(h:Dok l)(hl:l.length=n)(hv:val l=v):l=cX n v:=by
 subst hl;subst hv;exact (mE h).symm
theorem kG {a:List Nat}{m:Nat}(hm:m<a.length):val a=val (a.take m)+(a[m]*10 ^ m+10 ^ (m+1)*val (a.drop (m+1))):=by
 rw[kH a (m+1) (by omega),gK a m hm]
 omega
theorem kF {a b:List Nat}{m:Nat}(ha:Dok a)(hma:m<a.length)(hmb:m<b.length)(hd:a.drop (m+1)=b.drop (m+1))(h:a[m]<b[m]):val a<val b:=by
 rw[kG hma,kG hmb,hd]
 have h1:=eM (ha.take m)
 rw[List.length_take,Nat.min_eq_left (by omega)] at h1
 have h2:a[m]*10 ^ m+10 ^ m≤b[m]*10 ^ m:=by
  have:=Nat.mul_le_mul_right (10 ^ m) (show a[m]+1≤b[m] from h)
  rw[Nat.add_mul,Nat.one_mul] at this
  exact this
 omega
theorem cA (l:List Nat)(i:Nat)(h:l.length≤i):val (l.take i)=val l:=by
 rw[List.take_of_length_le h]
open Go
theorem cj {l:List Nat}(h:Dok l)(i:Nat):at0 l i<10:=by
 by_cases hi:i<l.length
 ·rw[cY hi];exact h.get hi
 ·rw[iE (by omega)];omega
theorem cq (l:List Nat)(i:Nat):val (l.take (i+1))=val (l.take i)+at0 l i*10 ^ i:=by
 by_cases hi:i<l.length
 ·rw[cY hi,gK l i hi]
 ·rw[iE (by omega),cA l _ (by omega),cA l _ (by omega)];simp
theorem SX {T:Tab}{t e:Nat}(hu:und T t=some (.slice e))(hs:cR T e=some 1)(hz:dV T e=some [dg 0])(n:Nat) :
  eY T t 1 [(0,dg n)]=some (1,[dg n]):=by
 simp[eY,hu,hs,hz,rep,dn,fZ,bX]
theorem mv (hp:List Blk)(n:Nat):fi hp 1 (.imm 1 true [dg n])=some (1,[dg n],[]):=by simp[fi]
theorem jk (n:Nat):bM [dg n]=true:=(rfl)
theorem gM (n:Nat):PV.sc (.int .u32 (n:Int))=dg n:=(rfl)
open Go
theorem UI (s:Nat):((s:Int) / 10)=((s / 10:Nat):Int):=by omega
theorem ji (k:IntKind)(a s:Nat)(h:s=a / 10)(hs:s≤hiN k):bA k ((a:Int) / 10)=(s:Int):=by
 subst h
 rw[UI];exact dm k _ hs
theorem kK (a s:Nat)(h:s=a % 10):(a:Int).tmod 10=(s:Int):=by
 subst h
 rw[Int.tmod_eq_emod_of_nonneg (by omega)];omega
theorem lj (k:IntKind)(a s:Nat)(h:s=a*10)(hs:s≤hiN k):bA k ((a:Int)*10)=(s:Int):=by
 have e:((a:Int)*10)=(s:Int):=by omega
 rw[e];exact dm k _ hs
open Go
theorem cw {x y:Nat}(h:x≤y):(aA x).length≤(aA y).length:=da (Nat.lt_of_le_of_lt h (fy y))
open Go
theorem kz {l:List Nat}{m y:Nat}(h:m<l.length):(l.set m y).drop m=y::l.drop (m+1):=by
 rw[List.drop_eq_getElem_cons (by simpa using h)]
 simp[List.drop_set]
theorem ia (l:List Nat)(m:Nat)(h:m<l.length):val (l.drop m)=at0 l m+10*val (l.drop (m+1)):=by
 rw[List.drop_eq_getElem_cons h,val,cY h]
theorem Ee {V V' Q R a b:Nat}(hb:0<b)(hV:V'=a+10*V)(hQ:Q=V / b)(hR:R=V % b) :
  (R*10+a) / b+10*Q=V' / b∧(R*10+a) % b=V' % b:=by
 have e:V'=(R*10+a)+b*(10*Q):=by
  have h:=Nat.div_add_mod V b
  rw[← hQ,← hR] at h
  rw[hV,← h]
  grind
 rw[e,Nat.add_mul_div_left _ _ hb,Nat.add_mul_mod_self_left]
 exact⟨rfl,rfl⟩
end Go.Ab.T
namespace Go.Ab
open Go
theorem dH (l:List Nat):dQ (bw l)=some l.length:=(rfl)
theorem qg (n:Nat):(iv n).cells?=some [iv n]:=(rfl)
theorem dJ (n:Nat):eG (iv n)=true:=(rfl)
theorem G5 (s:ByteArray):eG (PV.sc (.string s))=true:=(rfl)
theorem pq (n:Nat):PV.sc (.int .i64 (n:Int))=iv n:=(rfl)
theorem kP (hp:List Blk)(n:Nat):fi hp 1 (.imm 1 true [iv n])=some (1,[iv n],[]):=by simp[fi]
theorem Jc (hp:List Blk)(n:Nat):fi hp 1 (.imm 1 true [u8v n])=some (1,[u8v n],[]):=by simp[fi]
theorem il (n:Nat):bM [iv n]=true:=(rfl)
theorem rI (n:Nat):bM [u8v n]=true:=(rfl)
theorem aar (n:Nat):PV.sc (.int .u8 (n:Int))=u8v n:=(rfl)
theorem Ew (n:Nat):(u8v n).cells?=some [u8v n]:=(rfl)
theorem kS (n:Nat):eG (u8v n)=true:=(rfl)
theorem acH {T:Tab}{t e:Nat}(hu:und T t=some (.slice e))(hs:cR T e=some 1)(hz:dV T e=some [iv 0])(n:Nat) :
  eY T t 1 [(0,iv n)]=some (1,[iv n]):=by
 simp[eY,hu,hs,hz,rep,dn,qg,bX]
theorem acE {T:Tab}{t e:Nat}(hu:und T t=some (.slice e))(hs:cR T e=some 1)(hz:dV T e=some [u8v 0])(n:Nat) :
  eY T t 1 [(0,u8v n)]=some (1,[u8v n]):=by
 simp[eY,hu,hs,hz,rep,dn,Ew,bX]
def tx (l:List Nat):ByteArray:=mkStr (l.map UInt8.ofNat)
def Bok (l:List Nat):Prop:=∀ x ∈ l,x<256
theorem lT (s:ByteArray):Bok (bys s):=fun x hx=>by
 simp only[bys,List.mem_map] at hx
 obtain⟨b,-,rfl⟩:=hx
 exact b.toNat_lt
theorem ib (s:ByteArray):tx (bys s)=s:=by
 unfold tx bys
 rw[List.map_map]
 have:(UInt8.ofNat ∘ UInt8.toNat)=id:=by funext b;simp
 rw[this,List.map_id,fx]
theorem jm {l:List Nat}(h:Bok l):bys (tx l)=l:=by
 unfold tx bys
 rw[fg,List.map_map]
 conv=>rhs;rw[← List.map_id l]
 exact List.map_congr_left fun x hx=>by
  have:=h x hx
  simp[Nat.mod_eq_of_lt this]
theorem dG (l:List Nat):(bH (tx l)).length=l.length:=by simp[tx,fg]
theorem eZ {T:Tab}{t:Nat}(hu:und T t=some .string){l:List Nat}(h:Bok l)(k:IntKind)(i:Nat)(hi:i<l.length) :
  gI T t (.sc (.string (tx l))) (.sc (.int k (i:Int)))=some (.sc (.int .u8 (at0 l i:Int))):=by
 have h1:Dr (bH (tx l)) i=some (UInt8.ofNat l[i]):=by
  rw[tx,fg,Jr]
  simp[hi]
 have h2:fF (.sc (.int k (i:Int)))=some i:=bk k i
 simp only[gI,hu,h2,h1,Option.map_some]
 have:=h _ (List.getElem_mem hi)
 rw[cY hi]
 simp[Nat.mod_eq_of_lt this]
theorem Bok.nil:Bok []:=fun _ h=>by cases h
theorem Bok.cons {a:Nat}{l:List Nat}(h:a<256)(h':Bok l):Bok (a::l):=fun x hx=>by
 rcases List.mem_cons.1 hx with rfl | hx
 ·exact h
 ·exact h' x hx
theorem Bok.append {l m:List Nat}(h:Bok l)(h':Bok m):Bok (l++m):=fun x hx=>by
 rcases List.mem_append.1 hx with hx | hx
 ·exact h x hx
 ·exact h' x hx
theorem Bok.take {l:List Nat}(h:Bok l)(n:Nat):Bok (l.take n):=fun x hx=>h x (List.mem_of_mem_take hx)
theorem Bok.drop {l:List Nat}(h:Bok l)(n:Nat):Bok (l.drop n):=fun x hx=>h x (List.mem_of_mem_drop hx)
theorem Bok.get {l:List Nat}(h:Bok l){i:Nat}(hi:i<l.length):l[i]<256:=h _ (List.getElem_mem hi)
theorem Bok.at {l:List Nat}(h:Bok l)(i:Nat):at0 l i<256:=by
 by_cases hi:i<l.length
 ·rw[cY hi];exact h.get hi
 ·rw[iE (by omega)];omega
theorem EH {l:List Nat}(h:Bok l):jg (l.map u8v)=some (l.map UInt8.ofNat):=by
 induction l with
 | nil=>rfl
 | cons a l ih =>
  have ha:a<256:=h a (by simp)
  have:=ih (fun x hx=>h x (by simp[hx]))
  simp only[List.map_cons,u8v,jg] at this ⊢
  simp[this]
end Go.Ab
namespace Go.Proofs.YtjdmodeenbdfpaaGreat
open Go Go.Ab
theorem uL:und TT 24=some (.slice 3):=by kernel_rfl
theorem sI:cR TT 3=some 1:=by kernel_rfl
theorem aI:fW TT 3=some false:=by kernel_rfl
theorem bI:gh TT 3=some 8:=by kernel_rfl
theorem zI:dV TT 3=some [iv 0]:=by kernel_rfl
theorem uAR:und TT 27=some .string:=by kernel_rfl
theorem EV:base.F.get 156=some Tryz.f156:=by kernel_rfl
theorem kN:base.shared 156=false:=by kernel_rfl
theorem xW:base.F.get 115=some Tryz.f115:=by kernel_rfl
theorem sa:base.shared 115=false:=by kernel_rfl
theorem tt:base.F.get 116=some Tryz.f116:=by kernel_rfl
theorem jC:base.shared 116=false:=by kernel_rfl
theorem qB:base.F.get 113=some Tryz.f113:=by kernel_rfl
theorem uN:base.shared 113=false:=by kernel_rfl
theorem oq:base.F.get 114=some Tryz.f114:=by kernel_rfl
theorem sb:base.shared 114=false:=by kernel_rfl
theorem nj:base.F.get 118=some Tryz.f118:=by kernel_rfl
theorem yp:base.shared 118=false:=by kernel_rfl
theorem Ig:base.F.get 117=some Tryz.f117:=by kernel_rfl
theorem O6:base.shared 117=false:=by kernel_rfl
theorem EW:base.F.get 119=some Tryz.f119:=by kernel_rfl
theorem yq:base.shared 119=false:=by kernel_rfl
theorem Ij:base.F.get 120=some Tryz.f120:=by kernel_rfl
theorem Cf:base.shared 120=false:=by kernel_rfl
theorem Ii:base.F.get 155=some Tryz.f155:=by kernel_rfl
theorem Ce:base.shared 155=false:=by kernel_rfl
theorem Il:base.F.get 69=some Tryz.f69:=by kernel_rfl
theorem Ci:base.shared 69=false:=by kernel_rfl
theorem EX:base.F.get 66=some Tryz.f66:=by kernel_rfl
theorem qO:base.shared 66=false:=by kernel_rfl
theorem xX:base.F.get 147=some Tryz.f147:=by kernel_rfl
theorem Ch:base.shared 147=false:=by kernel_rfl
theorem EY:base.F.get 100=some Tryz.f100:=by kernel_rfl
theorem La:base.shared 100=false:=by kernel_rfl
theorem jz:base.F.get 111=some Tryz.f111:=by kernel_rfl
theorem FF:base.shared 111=false:=by kernel_rfl
theorem BD:base.F.get 68=some Tryz.f68:=by kernel_rfl
theorem uO:base.shared 68=false:=by kernel_rfl
theorem Ih:base.F.get 121=some Tryz.f121:=by kernel_rfl
theorem Cd:base.shared 121=false:=by kernel_rfl
theorem Ik:base.F.get 112=some Tryz.f112:=by kernel_rfl
theorem Cg:base.shared 112=false:=by kernel_rfl
theorem BE:base.F.get 157=some Tryz.f157:=by kernel_rfl
theorem FG:base.shared 157=false:=by kernel_rfl
noncomputable def j7:Code:=((Tryz.f156.body).bind aF).getD .skip
theorem QW (l:List Nat)(a:Nat)(hp:List Blk):dC TT hp 24 (bw (l++[a])) none (some (.sc (.int .i64 (l.length:Int)))) none=some (bw l):=by
 have h:bw (l++[a]) = .imm (l.length+1) false ((l++[a]).map iv):=by simp[bw,lO]
 rw[h]
 simp only[dC,uL,iJ,sI,bnd,fN,fF,Option.map]
 simp[gE,br]
 rw[dS (by simp)]
 simp[bw,lO]
set_option maxHeartbeats 1000000 in
theorem CR (L:Lst)(run:aq)(k:Nat)(fr:List PV)(hp:List Blk)(wr:List Nat)(l:List Nat)(a:Nat)(hl:l.length<10000000)(ha:a≠0)
  (h21:fr.length=21) (h0:nth fr 0=bw (l++[a])) :
  ∃ fr',af (CC L) run k j7 ⟨fr,hp,wr⟩=some (.exit 0,⟨fr',hp,wr⟩)∧nth fr' 0=nth fr 0∧fr'.length=21:=by
 have hw:bA .i64 ((l.length+1:Nat) - 1:Int)=Int.ofNat l.length:=by
  have:=dm .i64 l.length (by simp[hiN];omega)
  rw[← this];congr 1;omega
 have hw':bA .i64 (l.length:Int)=Int.ofNat l.length:=dm .i64 l.length (by simp[hiN];omega)
 have h:bw (l++[a]) = .imm (l.length+1) false ((l++[a]).map iv):=by simp[bw,lO]
 have hd:(br ((l++[a]).map iv) l.length).head?=some (.sc (.int .i64 a)):=by
  rw[ku _ _ (by simp)];simp[iv]
 rw[h] at h0
 have ha':((a:Int) == 0)=false:=by simp;exact ha
 simp[j7,Tryz.f156,aF,af,aH,an,ao,aG,ag,ai,aj,ak,aC,az,FP.none,aY,au,bf,av,bK,bg,bk,partOf,aa,ae,ab,bh,cN,h21,h0,uL,sI,aI,hw',hd,ha',aU,-List.map_append]
set_option maxHeartbeats 1000000 in
theorem Gn (L:Lst)(run:aq)(k:Nat)(fr:List PV)(hp:List Blk)(wr:List Nat)(h21:fr.length=21)(h0:nth fr 0=bw []) :
  ∃ fr',af (CC L) run k j7 ⟨fr,hp,wr⟩=some (.exit 0,⟨fr',hp,wr⟩)∧nth fr' 0=nth fr 0∧fr'.length=21:=by
 have h:bw [] = .imm 0 false []:=rfl
 rw[h] at h0
 simp[j7,Tryz.f156,aF,af,aH,an,ao,aG,ag,ai,aj,ak,aC,az,FP.none,aY,au,bf,av,bK,aa,ae,ab,bh,cN,h21,h0,uL,-List.map_append]
set_option maxHeartbeats 1000000 in
theorem LS (L:Lst)(run:aq)(k:Nat)(fr:List PV)(hp:List Blk)(wr:List Nat)(l:List Nat)(hl:l.length<10000000)
  (h21:fr.length=21) (h0:nth fr 0=bw (l++[0])) :
  ∃ fr',af (CC L) run k j7 ⟨fr,hp,wr⟩=some (.normal,⟨fr',hp,wr⟩)∧nth fr' 0=bw l∧fr'.length=21:=by
 have hw':bA .i64 (l.length:Int)=Int.ofNat l.length:=dm .i64 l.length (by simp[hiN];omega)
 have h:bw (l++[0]) = .imm (l.length+1) false ((l++[0]).map iv):=by simp[bw,lO]
 have hd:(br ((l++[0]).map iv) l.length).head?=some (.sc (.int .i64 0)):=by
  rw[ku _ _ (by simp)];simp[iv]
 have hs:=QW l 0
 rw[h] at h0 hs
 simp[j7,Tryz.f156,aF,af,aH,an,ao,aG,ag,ai,aj,ak,aC,az,FP.none,aY,au,bf,av,bK,bg,bk,partOf,aa,ae,ab,bh,cN,h21,h0,uL,sI,aI,hw',hd,hs,aU,-List.map_append]
theorem sx (L:Lst)(run:aq)(k:Nat):∀ (n:Nat) (l:List Nat) (fr:List PV) (hp:List Blk) (wr:List Nat),l.length=n→n<10000000→fr.length=21→nth fr 0=bw l →
  ∃ fr',ca (af (CC L) run k j7) (n+1) ⟨fr,hp,wr⟩=some (.exit 0,⟨fr',hp,wr⟩)∧nth fr' 0=bw (T.ff l)∧fr'.length=21
 | 0,l,fr,hp,wr,hl,hn,h21,h0=>by
  have:l=[]:=List.length_eq_zero_iff.1 hl
  subst this
  obtain⟨fr',h1,h2,h3⟩:=Gn L run k fr hp wr h21 h0
  exact⟨fr',bz h1,by rw[h2,h0];rfl,h3⟩
 | n+1,l,fr,hp,wr,hl,hn,h21,h0=>by
  obtain⟨l',a,rfl,hl'⟩:=Ar hl
  by_cases ha:a=0
  ·subst ha
   obtain⟨fr1,h1,h2,h3⟩:=LS L run k fr hp wr l' (by omega) h21 h0
   obtain⟨fr',g1,g2,g3⟩:=sx L run k n l' fr1 hp wr hl' (by omega) h3 h2
   exact⟨fr',by rw[bU h1];exact g1,by rw[g2,T.eB,if_pos rfl],g3⟩
  ·obtain⟨fr',h1,h2,h3⟩:=CR L run k fr hp wr l' a (by omega) ha h21 h0
   exact⟨fr',bz h1,by rw[h2,h0,T.eB,if_neg ha],h3⟩
noncomputable def lA:Code:=Tryz.f156.body.getD .skip
theorem AQ:ah 1 lA = .seq (.block 0 (.loop j7)) (ah 2 lA):=rfl
theorem Gm (L:Lst)(run:aq)(k:Nat)(p:PV):∃ fr,aX (CC L) run k 1 lA ⟨entry 21 [p],[],[]⟩=some ⟨fr,[],[]⟩∧fr.length=21∧nth fr 0=p:=by
 simp[lA,Tryz.f156,aX,entry,nth,js,af,aH,an,ao,aG,ag,ai,aj,ak,aC,az,FP.none,av]
theorem CS (L:Lst)(run:aq)(k:Nat)(fr:List PV)(hp:List Blk)(wr:List Nat)(p:PV)(h21:fr.length=21)(h0:nth fr 0=p) :
  ∃ st,af (CC L) run k (ah 2 lA) ⟨fr,hp,wr⟩=some (.ret,st)∧aV TT st.fr st.hp Tryz.f156.results.toList=some [p]:=by
 simp[lA,ah,Tryz.f156,af,aH,an,ao,aG,ag,ai,aj,ak,aC,az,FP.none,aa,ab,h21,h0,aV]
def ig:List PV→Option (List PV)
 | [p]=>match ma p with
  | some l=>some [bw (T.ff l)]
  | none=>none
 | _=>none
theorem oD (hp:List Blk)(l:List Nat):bq (snap hp bj) [bw l]=some ([bw l],[]):=rfl
theorem sw:Ab.Spec base.P 156 ig:=Ab.Spec.bN (C:=CC []) (cU trivial) fun args rs h=>by
 unfold ig at h
 split at h
 ·split at h
  ·rename_i l hl
   obtain⟨rfl,_,hlen⟩:=fY hl
   simp only[Option.some.injEq] at h
   subst h
   obtain⟨fr1,h1,h20,h0⟩:=Gm [] (runK (CC []) (l.length+1)) (l.length+1) (bw l)
   obtain⟨fr2,g1,g2,g3⟩:=sx [] (runK (CC []) (l.length+1)) (l.length+1) l.length l fr1 [] [] rfl (by omega) h20 h0
   obtain⟨st,e1,e2⟩:=CS [] (runK (CC []) (l.length+1)) (l.length+1) fr2 [] [] _ g3 g2
   have hx:af (CC []) (runK (CC []) (l.length+1)) (l.length+1) lA ⟨entry 21 [bw l],[],[]⟩=some (.ret,st):=by
    rw[aM 1 h1,AQ,aw (bF g1)]
    exact e1
   exact⟨l.length+2,_,_,_,_,_,aQ EV rfl hx e2,oD _ _,Wk.refl rfl,trivial⟩
  ·cases h
 ·cases h
noncomputable def iL:Code:=((Tryz.f118.body).bind aF).getD .skip
noncomputable def gr:Code:=Tryz.f118.body.getD .skip
set_option maxHeartbeats 1000000 in
theorem Gu (L:Lst)(run:aq)(k:Nat)(fr:List PV)(h41:fr.length=41)(h5:nth fr 5 = .sc (.int .i64 (-1))) :
  ∃ fr',af (CC L) run k iL ⟨fr,[],[]⟩=some (.exit 0,⟨fr',[],[]⟩)∧fr'.length=41:=by
 simp[iL,Tryz.f118,aF,af,aH,an,ao,aG,ag,ai,aj,ak,aC,az,FP.none,aY,au,bf,av,aa,ab,h41,h5]
set_option maxHeartbeats 1000000 in
theorem Ma (L:Lst)(run:aq)(k:Nat)(fr:List PV)(a b:List Nat)(m:Nat)(hma:m<a.length)(hmb:m<b.length)(hl:a.length<10000000)
  (h41:fr.length=41) (h0:nth fr 0=bw a) (h1:nth fr 1=bw b) (h5:nth fr 5 = .sc (.int .i64 (m:Int))) (h:a[m]=b[m]) :
  ∃ fr',af (CC L) run k iL ⟨fr,[],[]⟩=some (.normal,⟨fr',[],[]⟩)∧fr'.length=41∧nth fr' 0=bw a∧nth fr' 1=bw b∧nth fr' 5 = .sc (.int .i64 ((m:Int) - 1)):=by
 have hw:bA .i64 ((m:Int) - 1)=(m:Int) - 1:=cK m (by omega)
 have hda:=ku (e:=iv) a m hma
 have hdb:=ku (e:=iv) b m hmb
 rw[h] at hda
 generalize b[m]=y at *
 have e1:bw a = .imm a.length false (a.map iv):=rfl
 have e2:bw b = .imm b.length false (b.map iv):=rfl
 have hdg:iv y = .sc (.int .i64 (y:Int)):=rfl
 rw[e1] at h0 ⊢;rw[e2] at h1 ⊢;rw[hdg] at hda hdb
 simp[iL,Tryz.f118,aF,af,aH,an,ao,aG,ag,ai,aj,ak,aC,az,FP.none,aY,au,bf,av,bg,bk,partOf,aa,ae,ab,bh,h41,h0,h1,h5,uL,sI,aI,hma,hmb,hda,hdb,aU,number,FP.free,hw]
set_option maxHeartbeats 1000000 in
theorem L0 (L:Lst)(run:aq)(k:Nat)(fr:List PV)(a b:List Nat)(m:Nat)(hma:m<a.length)(hmb:m<b.length)(hl:a.length<10000000)
  (h41:fr.length=41) (h0:nth fr 0=bw a) (h1:nth fr 1=bw b) (h5:nth fr 5 = .sc (.int .i64 (m:Int))) (h:a[m]≠b[m]) :
  ∃ fr',af (CC L) run k iL ⟨fr,[],[]⟩=some (.ret,⟨fr',[],[]⟩)∧fr'.length=41∧nth fr' 4 = .sc (.int .i64 (if a[m]<b[m] then -1 else 1)):=by
 have hda:=ku (e:=iv) a m hma
 have hdb:=ku (e:=iv) b m hmb
 generalize b[m]=y at *
 generalize a[m]=x at *
 have e1:bw a = .imm a.length false (a.map iv):=rfl
 have e2:bw b = .imm b.length false (b.map iv):=rfl
 have hdx:iv x = .sc (.int .i64 (x:Int)):=rfl
 have hdy:iv y = .sc (.int .i64 (y:Int)):=rfl
 rw[e1] at h0;rw[e2] at h1;rw[hdx] at hda;rw[hdy] at hdb
 by_cases hxy:x<y
 ·simp[iL,Tryz.f118,aF,af,aH,an,ao,aG,ag,ai,aj,ak,aC,az,FP.none,aY,au,bf,av,bg,bk,partOf,aa,ae,ab,bh,h41,h0,h1,h5,uL,sI,aI,hma,hmb,hda,hdb,aU,number,FP.free,hxy]
 ·have hyx:y<x:=by omega
  simp[iL,Tryz.f118,aF,af,aH,an,ao,aG,ag,ai,aj,ak,aC,az,FP.none,aY,au,bf,av,bg,bk,partOf,aa,ae,ab,bh,h41,h0,h1,h5,uL,sI,aI,hma,hmb,hda,hdb,aU,number,FP.free,hxy,hyx]
theorem sG (L:Lst)(run:aq)(k:Nat)(a b:List Nat)(hab:a.length=b.length)(hl:a.length<10000000)(ha:T.Dok a)(hb:T.Dok b):∀ (m:Nat) (fr:List PV),m≤a.length →
  fr.length=41→nth fr 0=bw a→nth fr 1=bw b→nth fr 5 = .sc (.int .i64 ((m:Int) - 1))→a.drop m=b.drop m →
  (∃ fr',ca (af (CC L) run k iL) (m+1) ⟨fr,[],[]⟩=some (.exit 0,⟨fr',[],[]⟩)∧fr'.length=41∧dL (T.val a) (T.val b)=0) ∨
  (∃ fr',ca (af (CC L) run k iL) (m+1) ⟨fr,[],[]⟩=some (.ret,⟨fr',[],[]⟩)∧nth fr' 4 = .sc (.int .i64 (dL (T.val a) (T.val b))))
 | 0,fr,hm,h41,h0,h1,h5,hd=>by
  obtain⟨fr',g1,g2⟩:=Gu L run k fr h41 h5
  refine .inl ⟨fr',bz g1,g2,?_⟩
  simp at hd
  simp[dL,hd]
 | m+1,fr,hm,h41,h0,h1,h5,hd=>by
  have h5':nth fr 5 = .sc (.int .i64 (m:Int)):=by rw[h5];simp
  have hmb:m<b.length:=by omega
  have hma:m<a.length:=by omega
  by_cases h:a[m]=b[m]
  ·obtain⟨fr1,g1,g2,g3,g4,g5⟩:=Ma L run k fr a b m hma hmb hl h41 h0 h1 h5' h
   have hd':a.drop m=b.drop m:=by rw[List.drop_eq_getElem_cons hma,List.drop_eq_getElem_cons hmb,hd,h]
   rw[bU g1]
   exact sG L run k a b hab hl ha hb m fr1 (by omega) g2 g3 g4 g5 hd'
  ·obtain⟨fr1,g1,g2,g3⟩:=L0 L run k fr a b m hma hmb hl h41 h0 h1 h5' h
   refine .inr ⟨fr1,eH g1,?_⟩
   rw[g3]
   by_cases hxy:a[m]<b[m]
   ·have:=T.kF ha hma hmb hd hxy
    rw[if_pos hxy,dL,if_pos this]
   ·have:=T.kF hb hmb hma hd.symm (by omega)
    rw[if_neg hxy,dL,if_neg (by omega),if_neg (by omega)]
def j8 (a b:List Nat):Int:=if a.length<b.length then -1 else if b.length<a.length then 1 else dL (T.val a) (T.val b)
theorem CY (L:Lst)(run:aq)(k:Nat)(a b:List Nat)(h:a.length≠b.length) :
  ∃ st,af (CC L) run k gr ⟨entry 41 [bw a,bw b],[],[]⟩=some (.ret,st)∧aV TT st.fr st.hp Tryz.f118.results.toList=some [Ab.bC (j8 a b)]:=by
 by_cases hx:a.length<b.length
 ·simp[gr,Tryz.f118,entry,nth,js,af,aH,an,ao,aG,ag,ai,aj,ak,aC,az,FP.none,aY,au,bf,av,bK,bh,EI,dH,uL,h,hx,aV,j8,Ab.bC]
 ·have:b.length<a.length:=by omega
  simp[gr,Tryz.f118,entry,nth,js,af,aH,an,ao,aG,ag,ai,aj,ak,aC,az,FP.none,aY,au,bf,av,bK,bh,EI,dH,uL,h,hx,this,aV,j8,Ab.bC]
theorem CX (L:Lst)(run:aq)(k:Nat)(a b:List Nat)(h:a.length=b.length)(hl:a.length<10000000) :
  ∃ fr,aX (CC L) run k 2 gr ⟨entry 41 [bw a,bw b],[],[]⟩=some ⟨fr,[],[]⟩∧fr.length=41∧nth fr 0=bw a∧nth fr 1=bw b:=by
 simp[gr,Tryz.f118,aX,entry,nth,js,af,aH,an,ao,aG,ag,ai,aj,ak,aC,az,FP.none,aY,au,bf,av,bK,bh,dH,uL,h]
noncomputable def vy:Code:=seq1 (seq1 (ah 2 gr))
theorem pA:ah 2 gr = .seq (.seq vy (.block 0 (.loop iL))) (ah 3 gr):=rfl
theorem LZ (L:Lst)(run:aq)(k:Nat)(fr:List PV)(a b:List Nat)(hl:a.length<10000000)(h41:fr.length=41)(h0:nth fr 0=bw a)(h1:nth fr 1=bw b) :
  ∃ fr',af (CC L) run k vy ⟨fr,[],[]⟩=some (.normal,⟨fr',[],[]⟩)∧fr'.length=41∧nth fr' 0=bw a∧nth fr' 1=bw b∧nth fr' 5 = .sc (.int .i64 ((a.length:Int) - 1)):=by
 have hw:bA .i64 ((a.length:Int) - 1)=(a.length:Int) - 1:=cK _ (by omega)
 simp[vy,gr,ah,seq1,Tryz.f118,af,aH,an,ao,aG,ag,ai,aj,ak,aC,az,FP.none,aY,au,bf,av,bK,aa,ae,ab,bh,dH,uL,h41,h0,h1,hw]
theorem CZ (L:Lst)(run:aq)(k:Nat)(fr:List PV)(h41:fr.length=41) :
  ∃ st,af (CC L) run k (ah 3 gr) ⟨fr,[],[]⟩=some (.ret,st)∧aV TT st.fr st.hp Tryz.f118.results.toList=some [Ab.bC 0]:=by
 simp[gr,ah,Tryz.f118,af,aH,an,ao,aG,ag,ai,aj,ak,aC,az,FP.none,av,aa,h41,aV,Ab.bC]
def j9:List PV→Option (List PV)
 | [p,q]=>match ma p,ma q with
  | some a,some b=>some [Ab.bC (j8 a b)]
  | _,_=>none
 | _=>none
theorem sF:Ab.Spec base.P 118 j9:=Ab.Spec.bN (C:=CC []) (cU trivial) fun args rs h=>by
 unfold j9 at h
 split at h
 ·split at h
  ·rename_i a b ea eb
   obtain⟨rfl,ha,hla⟩:=fY ea
   obtain⟨rfl,hb,hlb⟩:=fY eb
   simp only[Option.some.injEq] at h
   subst h
   by_cases hab:a.length=b.length
   ·obtain⟨fr1,h1,h2,h3,h4⟩:=CX [] (runK (CC []) (a.length+1)) (a.length+1) a b hab hla
    obtain⟨fr2,g1,g2,g3,g4,g5⟩:=LZ [] (runK (CC []) (a.length+1)) (a.length+1) fr1 a b hla h2 h3 h4
    have hs:j8 a b=dL (T.val a) (T.val b):=by simp[j8,hab]
    rcases sG [] (runK (CC []) (a.length+1)) (a.length+1) a b hab hla ha hb a.length fr2 (Nat.le_refl _) g2 g3 g4 g5 (by simp[hab]) with ⟨fr3,q1,q2,q3⟩| ⟨fr3,q1,q2⟩
    ·obtain⟨st,e1,e2⟩:=CZ [] (runK (CC []) (a.length+1)) (a.length+1) fr3 q2
     have hx:af (CC []) (runK (CC []) (a.length+1)) (a.length+1) gr ⟨entry 41 [bw a,bw b],[],[]⟩=some (.ret,st):=by
      rw[aM 2 h1,pA,aw ((aw g1).trans (bF q1))]
      exact e1
     rw[hs,q3]
     exact⟨a.length+2,_,_,_,_,_,aQ nj rfl hx e2,eF _ _,Wk.refl rfl,trivial⟩
    ·have hx:af (CC []) (runK (CC []) (a.length+1)) (a.length+1) gr ⟨entry 41 [bw a,bw b],[],[]⟩=some (.ret,⟨fr3,[],[]⟩):=by
      rw[aM 2 h1,pA,cm ((aw g1).trans (cW q1))]
     have e2:aV TT fr3 [] Tryz.f118.results.toList=some [Ab.bC (dL (T.val a) (T.val b))]:=by
      simp[Tryz.f118,aV,q2,Ab.bC]
     rw[hs]
     exact⟨a.length+2,_,_,_,_,_,aQ nj rfl hx e2,eF _ _,Wk.refl rfl,trivial⟩
   ·obtain⟨st,e1,e2⟩:=CY [] (runK (CC []) 1) 1 a b hab
    exact⟨2,_,_,_,_,_,aQ nj rfl e1 e2,eF _ _,Wk.refl rfl,trivial⟩
  ·cases h
 ·cases h
end Go.Proofs.YtjdmodeenbdfpaaGreat
