/- An abstract interpreter over the model's code and its soundness, part 12 of the proof; each lemma states its own conditions. -/
import Derived.Test.YtjdmodeenbdfpaaGreatT10
import Derived.Test.YtjdmodeenbdfpaaGreatT11
set_option linter.unusedSimpArgs false
set_option linter.unusedVariables false
namespace Go.Ab
open Go List
def hiN:IntKind→Nat
 | .i8=>127 | .i16=>32767 | .i32=>2147483647 | .i64=>9223372036854775807
 | .u8=>255 | .u16=>65535 | .u32=>4294967295 | .u64=>18446744073709551615
theorem PZ {k:IntKind}{n:Nat}(h:Nat.ble n (hiN k)=true):bE k (Int.ofNat n)=Int.ofNat n:=by
 have h:=Nat.le_of_ble_eq_true h
 have:decide (loK k≤Int.ofNat n)=true∧decide (Int.ofNat n≤hiK k)=true:=by
  constructor <;> apply decide_eq_true <;> cases k <;> simp only[loK,hiK,hiN,Int.ofNat_eq_natCast] at h ⊢ <;> omega
 unfold bE
 rw[this.1,this.2];rfl
def val:List Nat→Nat
 | []=>0
 | a::l=>a+1000000000*val l
def jL:Nat→Nat→List Nat
 | 0,_=>[]
 | k+1,n=>if n=0 then [] else n % 1000000000::jL k (n / 1000000000)
def aK (n:Nat):List Nat:=jL (n.log2+1) n
def Dok (l:List Nat):Prop:=∀ x ∈ l,x<1000000000
def fw (l:List Nat):List Nat:=(l.reverse.dropWhile (· == 0)).reverse
theorem Dok.nil:Dok []:=fun _ h=>by cases h
theorem Dok.cons {a:Nat}{l:List Nat}(h:a<1000000000)(h':Dok l):Dok (a::l):=fun x hx=>by
 rcases mem_cons.1 hx with rfl | hx
 ·exact h
 ·exact h' x hx
theorem Dok.head {a:Nat}{l:List Nat}(h:Dok (a::l)):a<1000000000:=h a (by simp)
theorem Dok.tail {a:Nat}{l:List Nat}(h:Dok (a::l)):Dok l:=fun x hx=>h x (by simp[hx])
theorem Dok.append {l m:List Nat}(h:Dok l)(h':Dok m):Dok (l++m):=fun x hx=>by
 rcases mem_append.1 hx with hx | hx
 ·exact h x hx
 ·exact h' x hx
theorem Dok.left {l m:List Nat}(h:Dok (l++m)):Dok l:=fun x hx=>h x (by simp[hx])
theorem Dok.right {l m:List Nat}(h:Dok (l++m)):Dok m:=fun x hx=>h x (by simp[hx])
theorem Dok.get {l:List Nat}(h:Dok l){i:Nat}(hi:i<l.length):l[i]<1000000000:=h _ (getElem_mem hi)
theorem Dok.set {l:List Nat}(h:Dok l)(i:Nat){y:Nat}(hy:y<1000000000):Dok (l.set i y):=fun x hx=>by
 rcases mem_or_eq_of_mem_set hx with hx | rfl
 ·exact h x hx
 ·exact hy
theorem Dok.JH (n:Nat):Dok (List.replicate n 0):=fun x hx=>by
 rw[(mem_replicate.1 hx).2];omega
theorem Dok.take {l:List Nat}(h:Dok l)(n:Nat):Dok (l.take n):=fun x hx=>h x (mem_of_mem_take hx)
theorem Dok.drop {l:List Nat}(h:Dok l)(n:Nat):Dok (l.drop n):=fun x hx=>h x (mem_of_mem_drop hx)
theorem iz (l m:List Nat):val (l++m)=val l+1000000000 ^ l.length*val m:=by
 induction l with
 | nil=>simp[val]
 | cons a l ih =>
  simp only[cons_append,val,ih,length_cons,Nat.pow_succ]
  grind
theorem dP (l:List Nat)(a:Nat):val (l++[a])=val l+1000000000 ^ l.length*a:=by
 rw[iz];simp[val]
theorem oK (n:Nat):val (List.replicate n 0)=0:=by
 induction n with
 | zero=>rfl
 | succ n ih=>simp[replicate_succ,val,ih]
theorem qB (l:List Nat)(i y:Nat)(hi:i<l.length):val (l.set i y)+l[i]*1000000000 ^ i=val l+y*1000000000 ^ i:=by
 induction l generalizing i with
 | nil=>simp at hi
 | cons a l ih =>
  cases i with
  | zero=>simp[val];omega
  | succ i =>
   have:=ih i (by simpa using hi)
   simp only[set_cons_succ,val,getElem_cons_succ,Nat.pow_succ]
   grind
theorem ij (l:List Nat)(i:Nat)(hi:i<l.length):val (l.take (i+1))=val (l.take i)+l[i]*1000000000 ^ i:=by
 rw[take_succ_eq_append_getElem hi,dP,length_take,Nat.min_eq_left (by omega),Nat.mul_comm]
theorem fh {l:List Nat}(h:Dok l):val l<1000000000 ^ l.length:=by
 induction l with
 | nil=>simp[val]
 | cons a l ih =>
  have h1:=ih h.tail
  have h2:=h.head
  simp only[val,length_cons,Nat.pow_succ]
  omega
theorem lL (l:List Nat)(i:Nat)(hi:i≤l.length):val l=val (l.take i)+1000000000 ^ i*val (l.drop i):=by
 have h:=iz (l.take i) (l.drop i)
 rw[take_append_drop,length_take,Nat.min_eq_left hi] at h
 exact h
theorem oc (n:Nat)(h:n≠0):(n / 1000000000).log2+1≤n.log2∨n / 1000000000=0:=by
 by_cases h0:n / 1000000000=0
 ·exact .inr h0
 ·left
  have h1:2 ^ (n / 1000000000).log2≤n / 1000000000:=Nat.log2_self_le h0
  have h2:2 ^ ((n / 1000000000).log2+1)≤n:=by
   rw[Nat.pow_succ];omega
  exact (Nat.le_log2 h).2 h2
theorem ov:∀ (k j n:Nat),n.log2<k→n.log2<j→jL k n=jL j n
 | 0,j,n,h,_=>by omega
 | k+1,0,n,_,h=>by omega
 | k+1,j+1,n,h,h'=>by
  unfold jL
  by_cases hn:n=0
  ·rw[if_pos hn,if_pos hn]
  ·rw[if_neg hn,if_neg hn]
   congr 1
   rcases oc n hn with h1 | h1
   ·exact ov k j _ (by omega) (by omega)
   ·rw[h1]
    cases k <;> cases j <;> simp[jL]
theorem fB:aK 0=[]:=rfl
theorem eC {n:Nat}(h:n≠0):aK n=n % 1000000000::aK (n / 1000000000):=by
 unfold aK
 rw[jL,if_neg h]
 congr 1
 rcases oc n h with h1 | h1
 ·exact ov _ _ _ (by omega) (by omega)
 ·rw[h1]
  cases n.log2 <;> simp[jL]
theorem tm {a:Nat}{l:List Nat}(ha:a<1000000000)(h:a+1000000000*val l≠0):aK (a+1000000000*val l)=a::aK (val l):=by
 rw[eC h,Nat.add_mul_mod_self_left,Nat.mod_eq_of_lt ha,Nat.add_mul_div_left _ _ (by omega),Nat.div_eq_of_lt ha,Nat.zero_add]
theorem cj (n:Nat):val (aK n)=n:=by
 induction n using Nat.strongRecOn with
 | _ n ih =>
  by_cases h:n=0
  ·subst h;rfl
  ·rw[eC h,val,ih _ (by omega)]
   omega
theorem cb (n:Nat):Dok (aK n):=by
 induction n using Nat.strongRecOn with
 | _ n ih =>
  by_cases h:n=0
  ·subst h;exact Dok.nil
  ·rw[eC h]
   exact (ih _ (by omega)).cons (by omega)
theorem eW (l:List Nat)(a:Nat):fw (l++[a])=if a=0 then fw l else l++[a]:=by
 unfold fw
 rw[reverse_append]
 by_cases h:a=0 <;> simp[h]
theorem jC {P:List Nat→Prop}(h0:P [])(h1:∀ l a,P l→P (l++[a])):∀ l,P l:=by
 intro l
 have:∀ m:List Nat,P m.reverse:=by
  intro m
  induction m with
  | nil=>exact h0
  | cons a m ih=>rw[reverse_cons];exact h1 _ a ih
 have:=this l.reverse
 rwa [reverse_reverse] at this
theorem sh (l:List Nat):val (fw l)=val l:=by
 induction l using jC with
 | h0=>rfl
 | h1 l a ih =>
  rw[eW]
  by_cases h:a=0
  ·rw[if_pos h,ih,h,dP,Nat.mul_zero,Nat.add_zero]
  ·rw[if_neg h]
theorem v7 {l:List Nat}(h:Dok l):Dok (fw l):=by
 induction l using jC with
 | h0=>exact Dok.nil
 | h1 l a ih =>
  rw[eW]
  by_cases h':a=0
  ·rw[if_pos h'];exact ih h.left
  ·rw[if_neg h'];exact h
def Top (l:List Nat):Prop:=∀ m a,l=m++[a]→a≠0
theorem lN (l:List Nat):Top (fw l):=by
 induction l using jC with
 | h0=>intro m a h;simp[fw] at h
 | h1 l a ih =>
  rw[eW]
  by_cases h:a=0
  ·rw[if_pos h];exact ih
  ·rw[if_neg h]
   intro m b e
   have:=append_inj' e rfl
   simp at this
   rw[← this.2];exact h
theorem Top.tail {a:Nat}{l:List Nat}(h:Top (a::l)):Top l:=fun m b e=>h (a::m) b (by rw[e];rfl)
theorem Top.qD {l:List Nat}(h:Top l)(hl:l≠[]):val l≠0:=by
 obtain⟨m,a,rfl⟩:∃ m a,l=m++[a]:=⟨l.dropLast,l.getLast hl,(dropLast_concat_getLast hl).symm⟩
 have ha:=h m a rfl
 rw[dP]
 have:0<1000000000 ^ m.length*a:=Nat.mul_pos (Nat.pow_pos (by omega)) (by omega)
 omega
theorem kF {l:List Nat}(h:Dok l)(ht:Top l):aK (val l)=l:=by
 induction l with
 | nil=>rfl
 | cons a l ih =>
  rw[val,tm h.head,ih h.tail ht.tail]
  exact ht.qD (by simp)
theorem eX {l:List Nat}(h:Dok l):fw l=aK (val l):=by
 rw[← sh l,kF (v7 h) (lN l)]
theorem jK (n:Nat):Top (aK n):=by
 have h:=eX (cb n)
 rw[cj] at h
 rw[← h]
 exact lN _
theorem da {n:Nat} : 0<(aK n).length ↔ n≠0:=by
 by_cases h:n=0
 ·subst h;simp[fB]
 ·rw[eC h];simp[h]
theorem yh {n:Nat}(h:aK n=[]):n=0:=by
 rw[← cj n,h];rfl
theorem du {n k:Nat}(h:n<1000000000 ^ k):(aK n).length≤k:=by
 by_cases h0:aK n=[]
 ·rw[h0];simp
 ·obtain⟨m,a,e⟩:∃ m a,aK n=m++[a]:=⟨(aK n).dropLast,(aK n).getLast h0,(dropLast_concat_getLast h0).symm⟩
  have ha:=jK n m a e
  have hv:=cj n
  rw[e,dP] at hv
  rw[e,length_append,length_singleton]
  have h1:1000000000 ^ m.length≤n:=by
   have:1000000000 ^ m.length*1≤1000000000 ^ m.length*a:=Nat.mul_le_mul_left _ (by omega)
   omega
  have h2:1000000000 ^ m.length<1000000000 ^ k:=by omega
  exact Nat.lt_of_not_le fun h3=>absurd (Nat.pow_le_pow_right (n:=1000000000) (by omega) h3) (by omega)
theorem fL (n:Nat):n<1000000000 ^ (aK n).length:=by
 have:=fh (cb n)
 rwa [cj] at this
def dg (n:Nat):PV:=.sc (.int .u32 n)
def aQ (l:List Nat):PV:=.imm l.length false (l.map dg)
def wh (neg:Bool)(l:List Nat):PV:=.agg [.sc (.bool neg),aQ l]
def bA:Int→Bool
 | .ofNat _=>false
 | .negSucc _=>true
def bt (z:Int):PV:=wh (bA z) (aK z.natAbs)
def bz (z:Int):PV:=.sc (.int .i64 z)
mutual
def canon:PV→PV
 | .sc v=>match v with
  | .slice none 0 0=>.imm 0 false []
  | v=>.sc v
 | .imm n _ cs=>.imm n false (aJ cs)
 | .agg cs=>.agg (aJ cs)
 | v=>v
def aJ:List PV→List PV
 | []=>[]
 | c::cs=>canon c::aJ cs
end
theorem kL:∀ (cs:List PV) (k:Nat),(aJ cs)[k]?=(cs[k]?).map canon
 | [],k=>by simp[aJ]
 | c::cs,0=>by simp[aJ]
 | c::cs,k+1=>by simpa [aJ] using kL cs k
theorem lF:∀ (cs:List PV),(aJ cs).length=cs.length
 | []=>rfl
 | c::cs=>by simp[aJ,lF cs]
mutual
theorem Fq:(p:PV)→p.cO=true→Wk p (canon p)
 | .any,h=>by rw[canon];exact Wk.refl h;all_goals (intros;contradiction)
 | .sc v,h=>by
  unfold canon
  split
  ·exact Wk.nil false
  ·exact Wk.refl h
 | .imm n x cs,h=>by
  unfold canon
  refine⟨rfl,fun w M v hv => ?_⟩
  cases hv with
  | nil=>exact .nil false
  | imm _ _ _ a cap g h1 h2 h3 h4 =>
   refine .imm n false _ a cap g h1 (fun h=>by cases h) (fun k c hk => ?_) (fun k c hk => ?_)
   ·rw[kL] at hk
    obtain⟨c',h5,rfl⟩:=Option.map_eq_some_iff.1 hk
    obtain⟨h6,h7,h8,h9⟩:=h3 k c' h5
    exact⟨h6,(mb cs k c' h5 h7).1,h8,h9⟩
   ·rw[kL] at hk
    obtain⟨c',h5,rfl⟩:=Option.map_eq_some_iff.1 hk
    obtain⟨h6,h7,h8,h9⟩:=h3 k c' h5
    exact (mb cs k c' h5 h7).2 w M _ (h4 k c' h5)
 | .agg cs,h=>by
  unfold canon
  have hi:bU cs=true:=by simpa [PV.cO] using h
  refine⟨?_,fun w M v hv => ?_⟩
  ·simp only[PV.cO]
   exact lG cs hi
  ·cases hv with
   | agg _ vs g1 g2 =>
    refine .agg _ vs (by rw[lF];exact g1) fun k c v e1 e2 => ?_
    rw[kL] at e1
    obtain⟨c',h5,rfl⟩:=Option.map_eq_some_iff.1 e1
    exact (mb cs k c' h5 (eZ hi h5)).2 w M v (g2 k c' v h5 e2)
 | .own ..,h=>by simp[PV.cO] at h
 | .ptr ..,h=>by simp[PV.cO] at h
 | .iptr cs,h=>by rw[canon];exact Wk.refl h;all_goals (intros;contradiction)
 | .clos f cs,h=>by rw[canon];exact Wk.refl h;all_goals (intros;contradiction)
 | .bmet ..,h=>by simp[PV.cO] at h
 | .tup cs,h=>by rw[canon];exact Wk.refl h;all_goals (intros;contradiction)
theorem mb:(cs:List PV)→(k:Nat)→(c:PV)→cs[k]?=some c→c.cO=true→Wk c (canon c)
 | [],k,c,h,_=>by simp at h
 | d::cs,k,c,h,hc=>by
  cases k with
  | zero=>simp at h;subst h;exact Fq d hc
  | succ k=>exact mb cs k c (by simpa using h) hc
theorem lG:(cs:List PV)→bU cs=true→bU (aJ cs)=true
 | [],_=>rfl
 | c::cs,h=>by
  simp only[bU,Bool.and_eq_true] at h
  simp only[aJ,bU,Bool.and_eq_true]
  exact⟨(Fq c h.1).1,lG cs h.2⟩
end
theorem Spec.canon {P:Program}{g:FuncId}{f:List PV→Option (List PV)}(h:Spec P g f):Spec P g fun a=>f (aJ a):=by
 intro args rs hf hi
 obtain⟨h1,h2⟩:=h (aJ args) rs hf (lG args hi)
 refine⟨h1,fun w M vs hM hvs=>h2 w M vs hM ⟨by rw[lF];exact hvs.1,fun k c v e1 e2 => ?_⟩⟩
 rw[kL] at e1
 obtain⟨c',h5,rfl⟩:=Option.map_eq_some_iff.1 e1
 exact (mb args k c' h5 (eZ hi h5)).2 w M v (hvs.2 k c' v h5 e2)
def Fe:List PV→Option (List Nat)
 | []=>some []
 | .sc (.int .u32 (.ofNat n))::r=>bif n.blt 1000000000 then (match Fe r with
  | some l=>some (n::l)
  | none=>none) else none
 | _=>none
def iw:PV→Option (List Nat)
 | .imm n false cs=>match Fe cs with
  | some l=>bif n.beq l.length && n.blt 1000000 then some l else none
  | none=>none
 | _=>none
def vc:List Nat→Bool
 | []=>true
 | [a] => !(a.beq 0)
 | _::l=>vc l
def fU:PV→Option Int
 | .agg [.sc (.bool neg),p]=>match iw p with
  | some l=>bif vc l && l.length.blt 400000 then
    (match neg,l with
    | true,[]=>none
    | true,l=>some (Int.negOfNat (val l))
    | false,l=>some (Int.ofNat (val l)))
   else none
  | none=>none
 | _=>none
theorem AV:∀ {cs:List PV} {l:List Nat},Fe cs=some l→cs=l.map dg∧Dok l
 | [],l,h=>by simp[Fe] at h;subst h;exact⟨rfl,Dok.nil⟩
 | c::cs,l,h=>by
  unfold Fe at h
  split at h
  ·rename_i e;cases e
  ·rename_i n r e
   cases e
   cases hb:n.blt 1000000000 with
   | false=>rw[hb] at h;cases h
   | true =>
    rw[hb] at h
    simp only[cond_true] at h
    split at h
    ·rename_i l' e'
     simp at h;subst h
     obtain⟨h1,h2⟩:=AV e'
     rw[h1]
     refine⟨rfl,h2.cons ?_⟩
     simpa [Nat.blt_eq] using hb
    ·cases h
  ·cases h
theorem Fc:∀ {l:List Nat},Dok l→Fe (l.map dg)=some l
 | [],_=>rfl
 | a::l,h=>by
  have h1:a.blt 1000000000=true:=by rw[Nat.blt_eq];exact h.head
  show Fe (PV.sc (.int .u32 (Int.ofNat a))::l.map dg)=_
  simp only[Fe,Fc h.tail,h1,cond_true]
theorem dI {p:PV}{l:List Nat}(h:iw p=some l):p=aQ l∧Dok l∧l.length<1000000:=by
 unfold iw at h
 split at h
 ·split at h
  ·rename_i n cs _ l' e
   obtain⟨h1,h2⟩:=AV e
   cases hb:n.beq l'.length && n.blt 1000000 with
   | false=>rw[hb] at h;cases h
   | true =>
    rw[hb] at h
    simp at h
    subst h
    simp[Nat.blt_eq] at hb
    exact⟨by rw[hb.1,h1];rfl,h2,by omega⟩
  ·cases h
 ·cases h
theorem dc {l:List Nat}(h:Dok l)(hl:l.length<1000000):iw (aQ l)=some l:=by
 have h1:l.length.blt 1000000=true:=by rw[Nat.blt_eq];exact hl
 simp[iw,aQ,Fc h,h1]
theorem nC:∀ {l:List Nat},vc l=true→Top l
 | [],_=>fun m a e=>by simp at e
 | [b],h=>fun m a e=>by
  cases m with
  | nil =>
   simp at e;subst e
   cases b with
   | zero=>simp[vc] at h
   | succ b=>simp
  | cons c m=>simp at e
 | b::c::l,h=>fun m a e=>by
  cases m with
  | nil=>simp at e
  | cons d m =>
   simp only[cons_append,List.cons.injEq] at e
   exact nC (l:=c::l) (by simpa [vc] using h) m a e.2
theorem qG:∀ {l:List Nat},Top l→vc l=true
 | [],_=>rfl
 | [b],h=>by
  have:=h [] b rfl
  cases b with
  | zero=>simp at this
  | succ b=>rfl
 | b::c::l,h=>by
  have:=qG h.tail
  simpa [vc] using this
theorem ya (n:Nat):bt (Int.ofNat n)=wh false (aK n):=rfl
theorem cR (z:Int):bA z=decide (z<0):=by
 cases z with
 | ofNat n=>simp[bA]
 | negSucc n=>simp[bA]
theorem E6 {n:Nat}(h:n≠0):bt (Int.negOfNat n)=wh true (aK n):=by
 cases n with
 | zero=>simp at h
 | succ n=>rfl
theorem IL {p:PV}{z:Int}(h:fU p=some z):p=bt z∧(aK z.natAbs).length<400000:=by
 unfold fU at h
 split at h
 ·rename_i neg q
  split at h
  ·rename_i l e
   obtain⟨h1,h2,h3⟩:=dI e
   subst h1
   cases ht:vc l && l.length.blt 400000 with
   | false=>rw[ht] at h;cases h
   | true =>
    rw[ht] at h
    simp only[cond_true] at h
    simp only[Bool.and_eq_true,Nat.blt_eq] at ht
    obtain⟨ht,h3⟩:=ht
    have hd:=kF h2 (nC ht)
    split at h
    ·cases h
    ·rename_i hne
     simp only[OiE] at h
     subst h
     have hv:val l≠0:=(nC ht).qD (by intro h;exact hne h)
     refine⟨?_,?_⟩
     ·rw[E6 hv,hd];rfl
     ·have:(Int.negOfNat (val l)).natAbs=val l:=Int.natAbs_negOfNat _
      rw[this,hd];exact h3
    ·simp only[OiE] at h
     subst h
     refine⟨?_,?_⟩
     ·rw[ya,hd];rfl
     ·have:(Int.ofNat (val l)).natAbs=val l:=rfl
      rw[this,hd];exact h3
  ·cases h
 ·cases h
theorem O0 (z:Int)(hl:(aK z.natAbs).length<400000):fU (bt z)=some z:=by
 have h1:=dc (cb z.natAbs) (Nat.lt_trans hl (by decide))
 have h3:(aK z.natAbs).length.blt 400000=true:=by rw[Nat.blt_eq];exact hl
 have h2:=qG (jK z.natAbs)
 cases z with
 | ofNat n =>
  rw[ya]
  have e:(Int.ofNat n).natAbs=n:=rfl
  rw[e] at h1 h2 h3
  simp only[fU,wh,h1,h2,h3,Bool.and_self,cond_true,cj]
 | negSucc n =>
  have e:bt (Int.negSucc n)=wh true (aK (n+1)):=rfl
  rw[e]
  have e:(Int.negSucc n).natAbs=n+1:=rfl
  rw[e] at h1 h2 h3
  have hd:aK (n+1)=(n+1) % 1000000000::aK ((n+1) / 1000000000):=eC (by omega)
  simp only[fU,wh,h1,h2,h3,Bool.and_self,cond_true]
  rw[hd]
  simp only
  rw[← hd,cj]
  rfl
theorem gH (n:Nat):(dg n).cells?=some [dg n]:=(rfl)
theorem dE (n:Nat):dk (dg n)=true:=(rfl)
theorem sF (n:Nat):rep n [dg 0]=(List.replicate n 0).map dg:=by
 induction n with
 | zero=>rfl
 | succ n ih=>simp[rep,ih,replicate_succ]
theorem acw (l:List Nat)(i:Nat)(h:i<l.length):br (l.map dg) i=dg l[i]::(l.drop (i+1)).map dg:=by
 rw[cA,← map_drop,drop_eq_getElem_cons h];rfl
theorem ff (l:List Nat)(i:Nat)(h:i<l.length):(br (l.map dg) i).head?=some (dg l[i]):=by
 rw[acw l i h];rfl
theorem jw:∀ (l:List Nat) (i y:Nat),i<l.length→cq (l.map dg) i [dg y]=some ((l.set i y).map dg)
 | [],i,y,h=>by simp at h
 | a::l,0,y,h=>by simp[cq]
 | a::l,i+1,y,h=>by
  have:=jw l i y (by simpa using h)
  simp only[map_cons,cq,this,set_cons_succ]
theorem YD (l:List Nat):bF (l.map dg) l.length=some (l.map dg):=by
 rw[dh (by simp),take_of_length_le (by simp)]
theorem CN (l:List Nat):bF (br (l.map dg) 0) (l.length*1)=some (l.map dg):=by
 rw[cA,drop_zero,Nat.mul_one,YD]
theorem kn (hp:List Blk)(d:Nat):∀ l:List Nat,bq (snap hp (d+1)) (l.map dg)=some (l.map dg,[])
 | []=>rfl
 | a::l=>by
  simp only[map_cons,bq,kn hp d l]
  rfl
theorem jo:∀ l:List Nat,aJ (l.map dg)=l.map dg
 | []=>rfl
 | a::l=>by simp only[map_cons,aJ,jo l];rfl
theorem fP (l:List Nat):canon (aQ l)=aQ l:=by
 simp only[aQ,canon,jo]
theorem WW (n:Bool)(l:List Nat):canon (wh n l)=wh n l:=by
 simp only[wh,canon,aJ,fP]
theorem yp (z:Int):canon (bt z)=bt z:=WW _ _
theorem dG (k:IntKind)(n:Nat)(h:n≤hiN k):bE k (n:Int)=Int.ofNat n:=PZ (n:=n) (Nat.ble_eq ▸ h)
def dU (b:Nat)(hp:List Blk)(l:List Nat)(p:PV):Prop :=
 b≤hp.length∧((l=[]∧p = .sc (.slice none 0 0))∨∃ id m,b≤id∧id<hp.length∧p = .own id 1 0 l.length false∧aY hp id=some ⟨.live,(l++m).map dg⟩)
theorem dU.nil {b:Nat}{hp:List Blk}(h:b≤hp.length):dU b hp [] (.sc (.slice none 0 0)):=⟨h,.inl ⟨rfl,rfl⟩⟩
theorem dU.len {b:Nat}{hp:List Blk}{l:List Nat}{p:PV}(h:dU b hp l p):dn p=some l.length:=by
 rcases h.2 with ⟨rfl,rfl⟩| ⟨id,m,_,_,rfl,h⟩ <;> rfl
theorem dU.cells {b:Nat}{hp:List Blk}{l:List Nat}{p:PV}(h:dU b hp l p):p.cells?=some [p]:=by
 rcases h.2 with ⟨rfl,rfl⟩| ⟨id,m,_,_,rfl,h⟩ <;> rfl
theorem dU.okc {b:Nat}{hp:List Blk}{l:List Nat}{p:PV}(h:dU b hp l p):dk p=true:=by
 rcases h.2 with ⟨rfl,rfl⟩| ⟨id,m,_,_,rfl,h⟩ <;> rfl
theorem dU.app {b:Nat}{hp:List Blk}{l:List Nat}{p:PV}(h:dU b hp l p)(a:Nat)(hl:l.length<100000000) :
  ∃ p' hp' fp,cJ hp 1 p 1 [dg a]=some (p',hp',fp)∧dU b hp' (l++[a]) p'∧∀ i,i<b→aY hp' i=aY hp i:=by
 obtain⟨hb,h⟩:=h
 rcases h with ⟨rfl,rfl⟩| ⟨id,m,hid,hid2,rfl,h⟩
 ·refine⟨.own hp.length 1 0 1 false,aM hp [dg a],⟨[],[hp.length],true,false⟩,by simp[cJ,cS],⟨by simp[aM];omega,.inr ⟨hp.length,[],hb,by simp[aM],rfl,?_⟩⟩,fun i hi => ?_⟩
  ·rw[bK,if_pos rfl];rfl
  ·rw[bK,if_neg (by omega)]
 ·have ht:bF (br ((l++m).map dg) 0) (l.length*1)=some (l.map dg):=by
   rw[cA,dh (by simp)]
   simp
  refine⟨.own hp.length 1 0 (l.length+1) false,aM (bZ hp id ⟨.dead,[]⟩) (l.map dg++[dg a]),⟨[],[id,hp.length],true,false⟩,?_,⟨by simp[aM,bL];omega,.inr ⟨hp.length,[],hb,by simp[aM,bL],by simp,?_⟩⟩,fun i hi => ?_⟩
  ·simp only[cJ,h]
   rw[ht]
   simp[cS]
   omega
  ·rw[bK,bL,if_pos rfl];simp
  ·rw[bK,bL,if_neg (by omega),cT h,if_neg (by omega)]
theorem dU.snap {b:Nat}{hp:List Blk}{l:List Nat}{p:PV}(h:dU b hp l p)(d:Nat):∃ q ids,Ab.snap hp (d+2) p=some (q,ids)∧Wk q (aQ l)∧canon q=aQ l:=by
 obtain⟨hb,h⟩:=h
 rcases h with ⟨rfl,rfl⟩| ⟨id,m,_,_,rfl,h⟩
 ·exact⟨.sc (.slice none 0 0),[],rfl,Wk.nil false,rfl⟩
 ·have ht:bF (br ((l++m).map dg) 0) (l.length*1)=some (l.map dg):=by
   rw[cA,dh (by simp)]
   simp
  refine⟨.imm l.length false (l.map dg),[id],?_,Wk.refl rfl,fP l⟩
  have hs:=kn hp d l
  rw[Ab.snap]
  simp only[h]
  rw[if_neg (by simp),ht]
  simp only[hs]
theorem kl {C:Cfg}{run:ar}{dr:Bool}{hp:List Blk}{g:FuncId}{args args' rs:List PV}{ids:List Nat}
  (h1:C.shared g=false) (h2:bq (snap hp bn) args=some (args',ids)) (h3:C.orc g args'=some rs) (h4:rs.all eE=true) :
  bX C run dr hp g args=some (jk rs,hp,⟨ids,[],false,false⟩):=by
 unfold bX
 simp[h1,h2,h3,h4]
theorem eJ {C:Cfg}{run:ar}{dr:Bool}{hp:List Blk}{g:FuncId}{args args' rs:List PV}{ids:List Nat}
  (h1:C.shared g=false) (h2:bq (snap hp bn) args=some (args',ids)) (h3:C.orc g args'=some rs) (h4:rs.all eE=false) :
  bX C run dr hp g args=some (jk rs,roB hp ids,⟨ids,ids,false,false⟩):=by
 unfold bX
 simp[h1,h2,h3,h4]
def aC:Code→Option Code
 | .loop b=>some b
 | .seq a b=>(aC a).or (aC b)
 | .block _ b=>aC b
 | .scope b=>aC b
 | .cond _ a b=>(aC a).or (aC b)
 | _=>none
def seq1:Code→Code
 | .seq a _=>a
 | c=>c
def cw:Code→Code
 | .seq _ b=>b
 | c=>c
theorem Bg {l:List Nat}{n:Nat}(h:l.length=n+1):∃ l' a,l=l'++[a]∧l'.length=n:=by
 have hne:l≠[]:=by intro e;subst e;simp at h
 exact⟨l.dropLast,l.getLast hne,(dropLast_concat_getLast hne).symm,by simp[h]⟩
def bu:List (Nat × (List PV→Option (List PV)))→Nat→List PV→Option (List PV)
 | [],_=>fun _=>none
 | (n,f)::r,g=>bif g.beq n then fun a=>f (aJ a) else bu r g
def dw (P:Program):List (Nat × (List PV→Option (List PV)))→Prop
 | []=>True
 | (n,f)::r=>Spec P n f∧dw P r
theorem Ed {P:Program} : ∀ {L:List (Nat × (List PV→Option (List PV)))},dw P L→∀ g,Spec P g (bu L g)
 | [],_,g=>Spec.no P g
 | (n,f)::r,h,g=>by
  unfold bu
  cases e:g.beq n with
  | true =>
   have:=Nat.eq_of_beq_eq_true e
   subst this
   exact h.1.canon
  | false=>exact Ed h.2 g
end Go.Ab
namespace Go.Proofs.YtjdmodeenbdfpaaGreat
open Go Go.Ab List Tryz
noncomputable def TT:Tab:=base.T.get
noncomputable def CC (L:List (Nat × (List PV→Option (List PV)))):Cfg:=base.cfg (bu L)
theorem bd (L:List (Nat × (List PV→Option (List PV)))):(CC L).T=TT:=(rfl)
theorem cP {L:List (Nat × (List PV→Option (List PV)))}(h:dw base.P L):uX (CC L):=agN.cfg (Ed h)
theorem aa {fr:List PV}{d:Nat}{v:PV}(h:d<fr.length):nth (dR fr d v) d=v:=by
 rw[sY,j6];simp[h]
theorem ae {fr:List PV}{d t:Nat}{v:PV}(h:t≠d):nth (dR fr d v) t=nth fr t:=kD h
theorem ab (fr:List PV)(d:Nat)(v:PV):(dR fr d v).length=fr.length:=by
 rw[j6];simp
def wf0:Field:={ name := "neg",type:=4,offset:=0,embedded:=false,tag := "",pkgPath := "torus/num",byteOffset:=0 }
def wf1:Field:={ name := "d",type:=68,offset:=1,embedded:=false,tag := "",pkgPath := "torus/num",byteOffset:=8 }
theorem uW:und TT 70=some (.struct #[wf0,wf1]):=by kernel_rfl
theorem uD:und TT 68=some (.slice 171):=by kernel_rfl
theorem u32:und TT 171=some (.int .u32):=by kernel_rfl
theorem u64:und TT 174=some (.int .u64):=by kernel_rfl
theorem uI:und TT 3=some (.int .i64):=by kernel_rfl
theorem uB:und TT 4=some .bool:=by kernel_rfl
theorem sB:dt TT 4=some 1:=by kernel_rfl
theorem sD:dt TT 68=some 1:=by kernel_rfl
theorem sW:dt TT 70=some 2:=by kernel_rfl
theorem s32:dt TT 171=some 1:=by kernel_rfl
theorem b32:ie TT 171=some 4:=by kernel_rfl
theorem z32:eK TT 171=some [dg 0]:=by kernel_rfl
theorem zW:eK TT 70=some [.sc (.bool false),.sc (.slice none 0 0)]:=by kernel_rfl
theorem aW:fZ TT 70=some true:=by kernel_rfl
theorem aB:fZ TT 4=some false:=by kernel_rfl
theorem aD:fZ TT 68=some false:=by kernel_rfl
theorem a32:fZ TT 171=some false:=by kernel_rfl
theorem PD:base.F.get 167=some f167:=by kernel_rfl
theorem FK:base.F.get 152=some f152:=by kernel_rfl
theorem ac3:base.F.get 97=some f97:=by kernel_rfl
theorem PJ:base.F.get 101=some f101:=by kernel_rfl
theorem XW:base.F.get 149=some f149:=by kernel_rfl
theorem X1:base.F.get 96=some f96:=by kernel_rfl
theorem tz:base.F.get 146=some f146:=by kernel_rfl
theorem PG:base.F.get 160=some f160:=by kernel_rfl
theorem Jx:base.F.get 161=some f161:=by kernel_rfl
theorem X2:base.F.get 139=some f139:=by kernel_rfl
theorem XV:base.F.get 168=some f168:=by kernel_rfl
theorem XX:base.F.get 105=some f105:=by kernel_rfl
theorem Jl:base.F.get 181=some f181:=by kernel_rfl
theorem qm:base.F.get 166=some f166:=by kernel_rfl
theorem F5:base.F.get 151=some f151:=by kernel_rfl
theorem F4:base.F.get 150=some f150:=by kernel_rfl
theorem PC:base.F.get 165=some f165:=by kernel_rfl
theorem Jk:base.F.get 164=some f164:=by kernel_rfl
theorem vr:base.shared 167=false:=by kernel_rfl
theorem oO:base.shared 152=false:=by kernel_rfl
theorem zF:base.shared 97=false:=by kernel_rfl
theorem vt:base.shared 101=false:=by kernel_rfl
theorem GP:base.shared 149=false:=by kernel_rfl
theorem GR:base.shared 96=false:=by kernel_rfl
theorem J0:base.shared 146=false:=by kernel_rfl
theorem YT:base.shared 160=false:=by kernel_rfl
theorem Ri:base.shared 161=false:=by kernel_rfl
theorem GS:base.shared 139=false:=by kernel_rfl
theorem ad8:base.shared 168=false:=by kernel_rfl
theorem Rv:base.shared 105=false:=by kernel_rfl
theorem C3:base.shared 181=false:=by kernel_rfl
theorem Dd:base.shared 166=false:=by kernel_rfl
theorem MK:base.shared 151=false:=by kernel_rfl
theorem Ry:base.shared 150=false:=by kernel_rfl
theorem YQ:base.shared 165=false:=by kernel_rfl
theorem QZ:base.shared 164=false:=by kernel_rfl
end Go.Proofs.YtjdmodeenbdfpaaGreat
namespace Go.Ab
open Go List
def ah:Nat→Code→Code
 | 0,c=>c
 | n+1,.seq _ b=>ah n b
 | _+1,c=>c
def aX (C:Cfg)(run:ar)(k:Nat):Nat→Code→St→Option St
 | 0,_,st=>some st
 | n+1,.seq a b,st=>match af C run k a st with
  | some (.normal,st')=>aX C run k n b st'
  | _=>none
 | _+1,_,_=>none
theorem aO {C:Cfg}{run:ar}{k:Nat} : ∀ (n:Nat) {c:Code} {st st':St},aX C run k n c st=some st'→af C run k c st=af C run k (ah n c) st'
 | 0,c,st,st',h=>by simp[aX] at h;subst h;rfl
 | n+1,c,st,st',h=>by
  cases c with
  | seq a b =>
   simp only[aX] at h
   split at h
   ·rename_i st1 e
    simp only[af,e,ah]
    exact aO n h
   ·cases h
  | _=>simp[aX] at h
theorem av {C:Cfg}{run:ar}{k:Nat}{a b:Code}{st st':St}(h:af C run k a st=some (.normal,st')):af C run k (.seq a b) st=af C run k b st':=by
 simp only[af,h]
theorem bN {C:Cfg}{run:ar}{k i:Nat}{b:Code}{st st':St}(h:cu (af C run k b) k st=some (.exit i,st')):af C run k (.block i (.loop b)) st=some (.normal,st'):=by
 simp only[af,h,if_true]
theorem dH {C:Cfg}{run:ar}{k i:Nat}{b:Code}{st st':St}(h:af C run k b st=some (.normal,st')):af C run k (.block i b) st=some (.normal,st'):=by
 simp only[af,h]
theorem ct {f:St→Option (Ex × St)}{n:Nat}{st st':St}(h:f st=some (.normal,st')):cu f (n+1) st=cu f n st':=by
 simp only[cu,h]
theorem bD {f:St→Option (Ex × St)}{n i:Nat}{st st':St}(h:f st=some (.exit i,st')):cu f (n+1) st=some (.exit i,st'):=by
 simp only[cu,h]
theorem eM {f:St→Option (Ex × St)}{n:Nat}{st st':St}(h:f st=some (.ret,st')):cu f (n+1) st=some (.ret,st'):=by
 simp only[cu,h]
theorem Po {C:Cfg}{run:ar}{k:Nat}{g:FuncId}{args:List PV}{fn:Func}{c:Code}{st:St}{rs:List PV}
  (hF:C.F g=some fn) (hb:fn.body=some c) (hx:af C run k c ⟨entry fn.ntmps args,[],[]⟩=some (.ret,st)) (hr:aU C.T st.fr st.hp fn.results.toList=some rs) :
  uK C run k g args []=some (rs,st.hp,st.wr):=by
 simp only[uK,hF,hb,hx,hr]
theorem aP {C:Cfg}{k:Nat}{g:FuncId}{args:List PV}{fn:Func}{c:Code}{st:St}{rs:List PV}
  (hF:C.F g=some fn) (hb:fn.body=some c) (hx:af C (runK C k) k c ⟨entry fn.ntmps args,[],[]⟩=some (.ret,st)) (hr:aU C.T st.fr st.hp fn.results.toList=some rs) (hs:C.sorc g=none:=by rfl) :
  runK C (k+1) g args []=some (rs,st.hp,st.wr):=by
 simp only[runK,hs]
 exact Po hF hb hx hr
theorem gX:∀ (n:Nat) (l:List PV),l.length≤n→(entry n l).length=n
 | 0,l,h=>by simp at h;subst h;rfl
 | n+1,[],_=>by simp[entry,gX n [] (by simp)]
 | n+1,a::l,h=>by simp[entry,gX n l (by simpa using h)]
theorem ca {f:St→Option (Ex × St)}{r:Ex × St} : ∀ {n m:Nat} {st:St},cu f n st=some r→n≤m→cu f m st=some r
 | 0,m,st,h,_=>by simp[cu] at h
 | n+1,0,st,_,h=>by omega
 | n+1,m+1,st,h,hm=>by
  simp only[cu] at h ⊢
  split at h
  ·exact ca h (by omega)
  ·exact h
theorem dU.set {b:Nat}{hp:List Blk}{l:List Nat}{p:PV}(h:dU b hp l p)(i:Nat)(x:Blk)(hi:i<b):dU b (bZ hp i x) l p:=by
 obtain⟨hb,h⟩:=h
 refine⟨by rw[bL];exact hb,?_⟩
 rcases h with ⟨rfl,rfl⟩| ⟨id,m,h1,h2,rfl,h⟩
 ·exact .inl ⟨rfl,rfl⟩
 ·refine .inr ⟨id,m,h1,by rw[bL];exact h2,rfl,?_⟩
  rw[jt,cZ,getElem?_set_ne (by omega),← cZ]
  exact h
theorem dU.out {b:Nat}{hp:List Blk}{l:List Nat}{p:PV}(h:dU b hp l p)(n:Bool) :
  ∃ rs ids,bq (Ab.snap hp bn) [.agg [.sc (.bool n),p]]=some (rs,ids)∧WkL rs [wh n l]:=by
 obtain⟨q,ids,h1,h2,h3⟩:=h.snap 9
 refine⟨[.agg [.sc (.bool n),q]],ids++[]++[],?_,?_⟩
 ·have:Ab.snap hp 12 (.agg [.sc (.bool n),p])=some (.agg [.sc (.bool n),q],ids++[]):=by
   rw[Ab.snap]
   simp only[bq,h1]
   rfl
  simp only[bn,bq,this]
  try simp
 ·exact⟨Wk.agg ⟨Wk.refl rfl,h2,trivial⟩,trivial⟩
theorem dU.HW {b:Nat}{hp:List Blk}{l:List Nat}{p:PV}(h:dU b hp l p) :
  ∃ rs ids,bq (Ab.snap hp bn) [p]=some (rs,ids)∧WkL rs [aQ l]:=by
 obtain⟨q,ids,h1,h2,h3⟩:=h.snap 10
 refine⟨[q],ids++[],?_,h2,trivial⟩
 simp only[bn,bq,h1]
theorem vQ {n:Nat}(h:0<n)(h':n<18446744073709551616):bE .u64 (-(n:Int))=Int.ofNat (18446744073709551616 - n):=by
 have h1:decide (loK .u64 ≤ -(n:Int))=false:=by
  apply decide_eq_false
  simp[loK];omega
 unfold bE
 rw[h1]
 simp[IntKind.wrap,IntKind.bits,IntKind.signed]
 omega
theorem cX (n:Nat)(x:Bool)(cs:List PV):dn (.imm n x cs)=some n:=(rfl)
theorem gW (a b c n:Nat)(x:Bool):dn (.own a b c n x)=some n:=(rfl)
theorem cB (l:List Nat):dn (aQ l)=some l.length:=(rfl)
theorem yn (l:List Nat):(aQ l).cells?=some [aQ l]:=(rfl)
theorem bp (cs:List PV):(PV.agg cs).cells?=some cs:=(rfl)
theorem kJ (b:Bool):(PV.sc (.bool b)).cells?=some [.sc (.bool b)]:=(rfl)
theorem Pa (k:IntKind)(n:Int):(PV.sc (.int k n)).cells?=some [.sc (.int k n)]:=(rfl)
theorem O9 (a b c n:Nat)(x:Bool):(PV.own a b c n x).cells?=some [.own a b c n x]:=(rfl)
theorem ch (l:List Nat):dk (aQ l)=true:=(rfl)
theorem bG (b:Bool):dk (PV.sc (.bool b))=true:=(rfl)
theorem HZ (k:IntKind)(n:Int):dk (PV.sc (.int k n))=true:=(rfl)
theorem kC (a b c n:Nat)(x:Bool):dk (PV.own a b c n x)=true:=(rfl)
theorem fK:dk (PV.sc (.slice none 0 0))=true:=(rfl)
theorem ajO (a b:Nat):((a:Int) == (b:Int))=decide (a=b):=by
 by_cases h:a=b
 ·simp[h]
 ·rw[decide_eq_false h,beq_eq_false_iff_ne];omega
theorem FC (a b:Nat):((a:Int) != (b:Int)) = !decide (a=b):=by
 rw[bne,ajO]
theorem cU (m:Nat)(h:m<9223372036854775808):bE .i64 ((m:Int) - 1)=(m:Int) - 1:=by
 unfold bE
 have h1:decide (loK .i64≤(m:Int) - 1)=true:=decide_eq_true (by simp only[loK];omega)
 have h2:decide ((m:Int) - 1≤hiK .i64)=true:=decide_eq_true (by simp only[hiK];omega)
 rw[h1,h2];rfl
theorem bH (m:Nat)(h:m<9223372036854775807):bE .i64 ((m:Int)+1)=(m:Int)+1:=by
 unfold bE
 have h1:decide (loK .i64≤(m:Int)+1)=true:=decide_eq_true (by simp only[loK];omega)
 have h2:decide ((m:Int)+1≤hiK .i64)=true:=decide_eq_true (by simp only[hiK];omega)
 rw[h1,h2];rfl
theorem bm (k:IntKind)(n:Nat):gK (.sc (.int k (n:Int)))=some n:=(rfl)
theorem jr (k:IntKind)(n:Nat):gK (.sc (.int k ((n:Int)+1)))=some (n+1):=(rfl)
theorem ke (k:IntKind):gK (.sc (.int k 0))=some 0:=(rfl)
theorem acU (k:IntKind):gK (.sc (.int k 1))=some 1:=(rfl)
theorem iZ {n:Nat}(h:n≤4294967295):n≤hiN .u32:=h
theorem dK {n:Nat}(h:n≤18446744073709551615):n≤hiN .u64:=h
theorem hiI {n:Nat}(h:n≤9223372036854775807):n≤hiN .i64:=h
theorem cW (n:Nat)(p:PV):(entry (n+1) [p]).length=n+1∧nth (entry (n+1) [p]) 0=p:=⟨gX _ _ (by simp),rfl⟩
theorem cn (n:Nat)(p q:PV):(entry (n+2) [p,q]).length=n+2∧nth (entry (n+2) [p,q]) 0=p∧nth (entry (n+2) [p,q]) 1=q:=⟨gX _ _ (by simp),rfl,rfl⟩
theorem afV (n:Nat):((n:Int)≤2)=(n≤2):=by apply propext;omega
end Go.Ab
