/- An abstract interpreter over the model's code and its soundness, part 15; each lemma states its conditions. -/
import Derived.Test.YtjdmodeenbdfpaaGreatU14
set_option linter.unusedSimpArgs false
set_option linter.unusedVariables false
namespace Go.Ab
open List
theorem mJ (a b x:V2):cr a b x=(a.1 - x.1)*(b.2 - x.2) - (a.2 - x.2)*(b.1 - x.1):=by unfold cr;grind
theorem acK {S:V2→Prop}{x:V2}{g1 g2 h1 h2:Rat}(hD:g1*h2 - g2*h1≠0)(hS:∀ q,S q→q≠x∧0≤g1*(q.1 - x.1)+g2*(q.2 - x.2)∧0≤h1*(q.1 - x.1)+h2*(q.2 - x.2)) : ¬ InV S x:=by
 have van:∀ q:V2,g1*(q.1 - x.1)+g2*(q.2 - x.2)=0→h1*(q.1 - x.1)+h2*(q.2 - x.2)=0→q=x:=fun q e f=>by
  have k1:(g1*h2 - g2*h1)*(q.1 - x.1)=0:=by
   have:(g1*h2 - g2*h1)*(q.1 - x.1)=h2*(g1*(q.1 - x.1)+g2*(q.2 - x.2)) - g2*(h1*(q.1 - x.1)+h2*(q.2 - x.2)):=by grind
   rw[this,e,f];grind
  have k2:(g1*h2 - g2*h1)*(q.2 - x.2)=0:=by
   have:(g1*h2 - g2*h1)*(q.2 - x.2)=g1*(h1*(q.1 - x.1)+h2*(q.2 - x.2)) - h1*(g1*(q.1 - x.1)+g2*(q.2 - x.2)):=by grind
   rw[this,e,f];grind
  have e1:q.1 - x.1=0:=by
   rcases Rat.mul_eq_zero.1 k1 with e | e
   ·exact absurd e hD
   ·exact e
  have e2:q.2 - x.2=0:=by
   rcases Rat.mul_eq_zero.1 k2 with e | e
   ·exact absurd e hD
   ·exact e
  exact Prod.ext (by grind) (by grind)
 have ne0:∀ q:V2,q≠x→q.1 - x.1≠0∨q.2 - x.2≠0:=fun q hq=>by
  by_cases e1:q.1 - x.1=0
  ·by_cases e2:q.2 - x.2=0
   ·exact absurd (Prod.ext (by grind) (by grind)) hq
   ·exact .inr e2
  ·exact .inl e1
 rintro⟨a,b,ha,hb,⟨t1,t2⟩| ⟨c,hc,ht⟩⟩
 ·obtain⟨a0,a1,a2⟩:=hS a ha
  obtain⟨b0,b1,b2⟩:=hS b hb
  rw[mJ] at t1
  exact b0 (van b (vw t1 t2 (ne0 a a0) a1 b1) (vw t1 t2 (ne0 a a0) a2 b2))
 ·obtain⟨a0,a1,a2⟩:=hS a ha
  obtain⟨b0,b1,b2⟩:=hS b hb
  obtain⟨c0,c1,c2⟩:=hS c hc
  have id:∀ g h:Rat,cr b c x*(g*(a.1 - x.1)+h*(a.2 - x.2))+cr c a x*(g*(b.1 - x.1)+h*(b.2 - x.2))+cr a b x*(g*(c.1 - x.1)+h*(c.2 - x.2))=0:=fun g h=>by
   rw[mJ,mJ,mJ];grind
  rcases ht with ⟨t1,t2,t3⟩| ⟨t1,t2,t3⟩
  ·exact a0 (van a (oS (id g1 g2) t2 t3 t1 a1 b1 c1).1 (oS (id h1 h2) t2 t3 t1 a2 b2 c2).1)
  ·have id':∀ g h:Rat,-cr b c x*(g*(a.1 - x.1)+h*(a.2 - x.2)) + -cr c a x*(g*(b.1 - x.1)+h*(b.2 - x.2)) + -cr a b x*(g*(c.1 - x.1)+h*(c.2 - x.2))=0:=fun g h=>by
    have:=id g h;grind
   exact a0 (van a (oS (id' g1 g2) (by grind) (by grind) (by grind) a1 b1 c1).1 (oS (id' h1 h2) (by grind) (by grind) (by grind) a2 b2 c2).1)
theorem I4 {S:V2→Prop}{a x c:V2}(ht:0<cr a x c)(hS:∀ q,S q→q≠x∧0≤cr a x q∧0≤cr x c q) : ¬ InV S x:=by
 refine acK (g1 := -(x.2 - a.2)) (g2:=x.1 - a.1) (h1 := -(c.2 - x.2)) (h2:=c.1 - x.1) ?_ fun q hq => ?_
 ·unfold cr at ht;grind
 ·obtain⟨k1,k2,k3⟩:=hS q hq
  refine⟨k1,?_,?_⟩
  ·unfold cr at k2;grind
  ·unfold cr at k3;grind
theorem acL {S:V2→Prop}{x:V2}{σ:Rat}(hσ:σ=1∨σ = -1)(hS:∀ q,S q→0<σ*(q.1 - x.1)∨q.1 - x.1=0∧0<σ*(q.2 - x.2)) : ¬ InV S x:=by
 have pos:∀ q,S q→0≤σ*(q.1 - x.1)+0*(q.2 - x.2):=fun q hq=>by
  rcases hS q hq with h | ⟨h,-⟩
  ·grind
  ·rw[h];grind
 have ne0:∀ q:V2,S q→q.1 - x.1≠0∨q.2 - x.2≠0:=fun q hq=>by
  rcases hS q hq with h | ⟨-,h⟩
  ·refine .inl fun e => ?_
   rw[e,Rat.mul_zero] at h;grind
  ·refine .inr fun e => ?_
   rw[e,Rat.mul_zero] at h;grind
 have z1:∀ q:V2,σ*(q.1 - x.1)+0*(q.2 - x.2)=0→q.1 - x.1=0:=fun q h=>by
  rcases hσ with rfl | rfl <;> grind
 rintro⟨a,b,ha,hb,⟨t1,t2⟩| ⟨c,hc,ht⟩⟩
 ·rw[mJ] at t1
  have eb:=z1 b (vw t1 t2 (ne0 a ha) (pos a ha) (pos b hb))
  have ea:=z1 a (vw (p1:=b.1 - x.1) (p2:=b.2 - x.2) (by grind) (by grind) (ne0 b hb) (pos b hb) (pos a ha))
  have pa:0<σ*(a.2 - x.2):=by
   rcases hS a ha with h | ⟨-,h⟩
   ·rw[ea,Rat.mul_zero] at h;grind
   ·exact h
  have pb:0<σ*(b.2 - x.2):=by
   rcases hS b hb with h | ⟨-,h⟩
   ·rw[eb,Rat.mul_zero] at h;grind
   ·exact h
  have pp:=Rat.mul_pos pa pb
  rw[ea,eb] at t2
  rcases hσ with rfl | rfl <;> grind
 ·have id:∀ g h:Rat,cr b c x*(g*(a.1 - x.1)+h*(a.2 - x.2))+cr c a x*(g*(b.1 - x.1)+h*(b.2 - x.2))+cr a b x*(g*(c.1 - x.1)+h*(c.2 - x.2))=0:=fun g h=>by
   rw[mJ,mJ,mJ];grind
  have key:a.1 - x.1=0∧b.1 - x.1=0:=by
   rcases ht with ⟨t1,t2,t3⟩| ⟨t1,t2,t3⟩
   ·have k:=oS (id σ 0) t2 t3 t1 (pos a ha) (pos b hb) (pos c hc)
    exact⟨z1 a k.1,z1 b k.2.1⟩
   ·have k:=oS (α := -cr b c x) (β := -cr c a x) (γ := -cr a b x) (by have:=id σ 0;grind) (by grind) (by grind) (by grind) (pos a ha) (pos b hb) (pos c hc)
    exact⟨z1 a k.1,z1 b k.2.1⟩
  have e:cr a b x=0:=by rw[mJ,key.1,key.2];grind
  rcases ht with ⟨t1,-⟩| ⟨t1,-⟩ <;> grind
end Go.Ab
namespace Go.Ab
open List
theorem fz {l:List V2}{x:V2} : ng x ∈ l.map ng ↔ x ∈ l:=by
 rw[mem_map]
 exact⟨fun ⟨y,h,e⟩=>nK e ▸ h,fun h=>⟨x,h,rfl⟩⟩
theorem vk {a b x:V2}(h1:lx a x)(h2:lx x b)(t:cr a b x=0):uQ a b x:=⟨t,aeC h1 h2 t⟩
theorem uQ.symm {a b x:V2}(h:uQ a b x):uQ b a x:=by
 unfold uQ cr at *
 grind
theorem ai2 {Q s t:List V2}{m c m' c' x:V2}(h:ChI Q s m c)(k:ChI (Q.map ng) (t.map ng) (ng m') (ng c'))(hx:x ∈ Q)(hs:x ∉ s)(ht:x ∉ t):InV (fun q=>q ∈ Q∧q≠x) x:=by
 obtain⟨a,b,ha,hb,l1,l2,u1⟩:=h.ajj hx hs
 obtain⟨b',a',hb',ha',l3,l4,u2⟩:=k.ajj (fz.2 hx) (fun h=>ht (fz.1 h))
 rw[← qY b',← qY a'] at *
 generalize ng b'=B at *
 generalize ng a'=A at *
 rw[EL] at l3 l4
 rw[rN] at u2
 rw[fz] at hb' ha'
 have ne:∀ q,lx q x∨lx x q→q≠x:=fun q h e=>by
  subst e
  rcases h with h | h <;> exact ee _ h
 have mem:∀ q,q ∈ t→q ∈ Q:=fun q hq=>fz.1 (k.sub _ (fz.2 hq))
 have Sa:a ∈ Q∧a≠x:=⟨h.sub a ha,ne a (.inl l1)⟩
 have Sb:b ∈ Q∧b≠x:=⟨h.sub b hb,ne b (.inr l2)⟩
 have SA:A ∈ Q∧A≠x:=⟨mem A ha',ne A (.inl l4)⟩
 have SB:B ∈ Q∧B≠x:=⟨mem B hb',ne B (.inr l3)⟩
 rcases afI l1 l2 l4 l3 u1 u2 with e | e | e | ⟨e1,e2,e3⟩| ⟨e1,e2,e3⟩
 ·exact⟨a,b,Sa,Sb,.inl (vk l1 l2 e)⟩
 ·refine⟨A,B,SA,SB,.inl (vk l4 l3 ?_)⟩
  unfold cr at *;grind
 ·exact⟨a,B,Sa,SB,.inl (vk l1 l3 e)⟩
 ·exact⟨a,b,Sa,Sb,.inr ⟨B,SB,.inl ⟨e1,e2,e3⟩⟩⟩
 ·exact⟨a,B,Sa,SB,.inr ⟨A,SA,.inl ⟨e1,e2,e3⟩⟩⟩
theorem I3 {Q:List V2}{m x:V2}(hm:∀ q ∈ Q,q=m∨lx m q):∀ {s:List V2},s.getLast?=some m→Cvx Q s→x ∈ s→(∀ b ∈ s.head?,x≠b) → ¬ InV (fun q=>q ∈ Q∧q≠x) x
 | [],h,_,_,_=>by cases h
 | [b],_,_,hx,hb=>absurd (by simpa using hx) (hb b rfl)
 | [b,a],h,hv,hx,hb=>by
  have e:a=m:=by simpa using h
  subst e
  have hxa:x=a:=by
   simp only[mem_cons,not_mem_nil,or_false] at hx
   rcases hx with h | h
   ·exact absurd h (hb b rfl)
   ·exact h
  subst hxa
  refine acL (σ:=1) (.inl rfl) fun q ⟨hq,hn⟩ => ?_
  rcases hm q hq with e | e
  ·exact absurd e hn
  ·have:=eZ e
   grind
 | b::a::z::r,h,hv,hx,hb=>by
  obtain⟨h1,h2,h3,h4⟩:=hv
  by_cases hxa:x=a
  ·subst hxa
   exact I4 (a:=z) (c:=b) (h3 z rfl) fun q ⟨hq,hn⟩=>⟨hn,h4.2.1 q hq,h2 q hq⟩
  ·refine I3 hm (s:=a::z::r) (by simpa using h) h4 ?_ (fun b' hb' => ?_)
   ·rcases mem_cons.1 hx with h | h
    ·exact absurd h (hb b rfl)
    ·exact h
   ·obtain rfl:a=b':=by simpa using hb'
    exact hxa
end Go.Ab
namespace Go.Ab
open List
def iT (l:List V2):List V2:=(l.foldl fg []).tail.reverse++(l.reverse.foldl fg []).tail.reverse
theorem ZK {a b x:V2} : uQ (ng a) (ng b) (ng x) ↔ uQ a b x:=by
 unfold uQ
 rw[rN]
 unfold ng
 constructor <;> (rintro⟨h,k⟩;refine⟨h,?_⟩;grind)
theorem YP {a b c x:V2} : pA (ng a) (ng b) (ng c) (ng x) ↔ pA a b c x:=by
 unfold pA
 rw[rN,rN,rN]
theorem InV.mono {S T:V2→Prop}{x:V2}(h:∀ q,S q→T q):InV S x→InV T x:=by
 rintro⟨a,b,ha,hb,t | ⟨c,hc,t⟩⟩
 ·exact⟨a,b,h a ha,h b hb,.inl t⟩
 ·exact⟨a,b,h a ha,h b hb,.inr ⟨c,h c hc,t⟩⟩
theorem InV.ng {S:V2→Prop}{x:V2} : InV S x→InV (fun q=>S (ng q)) (ng x):=by
 have k:∀ q,S q→(fun q=>S (Ab.ng q)) (Ab.ng q):=fun q hq=>by
  show S (Ab.ng (Ab.ng q))
  rw[qY];exact hq
 rintro⟨a,b,ha,hb,t | ⟨c,hc,t⟩⟩
 ·exact⟨Ab.ng a,Ab.ng b,k a ha,k b hb,.inl (ZK.2 t)⟩
 ·exact⟨Ab.ng a,Ab.ng b,k a ha,k b hb,.inr ⟨Ab.ng c,k c hc,YP.2 t⟩⟩
theorem Cvx.mono {Q R:List V2}(h:∀ q ∈ R,q ∈ Q):∀ {s:List V2},Cvx Q s→Cvx R s
 | [],_=>trivial
 | [_],_=>trivial
 | b::a::r,hv=>⟨hv.1,fun q hq=>hv.2.1 q (h q hq),hv.2.2.1,Cvx.mono h hv.2.2.2⟩
theorem ChI.mono {Q R s:List V2}{m c:V2}(h:ChI Q s m c)(e:∀ q,q ∈ R ↔ q ∈ Q):ChI R s m c :=
 ⟨h.last,h.head,h.cvx.mono fun q hq=>(e q).1 hq,fun x hx=>(e x).2 (h.sub x hx),fun q hq=>h.low q ((e q).1 hq),fun q hq=>h.top q ((e q).1 hq)⟩
theorem Cvx.sorted {Q:List V2} : ∀ {s:List V2},Cvx Q s→s.Pairwise fun a b=>lx b a
 | [],_=>.nil
 | [_],_=>pairwise_singleton _ _
 | b::a::r,hv=>by
  have k:=Cvx.sorted hv.2.2.2
  refine pairwise_cons.2 ⟨fun x hx => ?_,k⟩
  rcases mem_cons.1 hx with rfl | hx
  ·exact hv.1
  ·exact eD ((pairwise_cons.1 k).1 x hx) hv.1
theorem both {l:List V2}(h:l.Pairwise lx)(hne:l≠[]):∃ m c,ChI l (l.foldl fg []) m c∧ChI (l.map ng) ((l.reverse.foldl fg []).map ng) (ng c) (ng m)∧l.head?=some m∧l.getLast?=some c:=by
 obtain⟨p,l',rfl⟩:=exists_cons_of_ne_nil hne
 obtain⟨c,k⟩:=FG h
 have k1:ChI (p::l') ((p::l').foldl fg []) p c:=k.mono fun q=>by simp[or_comm]
 have hr:(p::l').reverse≠[]:=by simp
 obtain⟨d,r',e⟩:=exists_cons_of_ne_nil hr
 have h':(d::r').Pairwise fun a b=>lx b a:=by
  rw[← e,pairwise_reverse]
  exact h
 obtain⟨c',k'⟩:=W2 h'
 have el:p::l'=r'.reverse++[d]:=by
  have:=congrArg List.reverse e
  rw[reverse_reverse] at this
  rw[this];simp
 have k2:ChI ((p::l').map ng) (((p::l').reverse.foldl fg []).map ng) (ng d) (ng c'):=by
  rw[e,el];exact k'
 have hd:d ∈ p::l':=by rw[el];simp
 have hdc:d=c:=by
  rcases k1.top d hd with e | e
  ·exact e
  ·rcases k2.low (ng c) (fz.2 (k1.sub c (mem_of_mem_head? (by rw[k1.head];rfl)))) with e' | e'
   ·exact (nK e').symm
   ·exact absurd (eD e (EL.1 e')) (ee _)
 subst hdc
 have hpc:c'=p:=by
  have hc':c' ∈ p::l':=fz.1 (k2.sub _ (mem_of_mem_head? (by rw[k2.head];rfl)))
  rcases k1.low c' hc' with e | e
  ·exact e
  ·rcases k2.top (ng p) (fz.2 mem_cons_self) with e' | e'
   ·exact (nK e').symm
   ·exact absurd (eD e (EL.1 e')) (ee _)
 subst hpc
 exact⟨c',d,k1,k2,rfl,by rw[el];simp⟩
end Go.Ab
namespace Go.Ab
open List
theorem oA {s:List V2}{m c:V2}(hl:s.getLast?=some m)(hh:s.head?=some c)(hne:m≠c):∃ r,s=c::r∧m ∈ r:=by
 cases s with
 | nil=>cases hh
 | cons b r =>
  obtain rfl:b=c:=by simpa using hh
  refine⟨r,rfl,?_⟩
  cases r with
  | nil=>exact absurd (by simpa using hl) (Ne.symm hne)
  | cons a r =>
   rw[getLast?_cons_cons] at hl
   exact mem_of_getLast? hl
theorem pO {t:List V2}{c:V2}(h:(t.map ng).getLast?=some (ng c)):t.getLast?=some c:=by
 rw[getLast?_map] at h
 cases e:t.getLast? with
 | none=>rw[e] at h;cases h
 | some d =>
  rw[e] at h
  have:ng d=ng c:=by simpa using h
  rw[nK this]
theorem B5 {t:List V2}{c:V2}(h:(t.map ng).head?=some (ng c)):t.head?=some c:=by
 cases t with
 | nil=>cases h
 | cons d t =>
  have:ng d=ng c:=by simpa using h
  rw[nK this];rfl
theorem EI {l:List V2}(h:l.Pairwise lx)(h2:2≤l.length){x:V2}(hx:x ∈ l):x ∈ iT l ↔ ¬ InV (fun q=>q ∈ l∧q≠x) x:=by
 have hne:l≠[]:=fun e=>by rw[e] at h2;simp at h2
 obtain⟨m,c,k1,k2,e1,e2⟩:=both h hne
 have hmc:m≠c:=by
  intro e
  subst e
  obtain⟨p,q,r,rfl⟩:∃ p q r,l=p::q::r:=by
   match l,h2 with
   | p::q::r,_=>exact⟨p,q,r,rfl⟩
  obtain rfl:p=m:=by simpa using e1
  have hq:=(pairwise_cons.1 h).1 q (by simp)
  rcases k1.top q (by simp) with e | e
  ·subst e;exact ee _ hq
  ·exact ee _ (eD hq e)
 unfold iT
 have g1:=k1.cvx.sorted
 obtain⟨s',es,hs'⟩:=oA k1.last k1.head hmc
 obtain⟨t',et,ht'⟩:=oA (pO k2.last) (B5 k2.head) (Ne.symm hmc)
 generalize l.foldl fg []=s at *
 generalize l.reverse.foldl fg []=t at *
 subst es;subst et
 simp only[tail_cons,mem_append,mem_reverse]
 constructor
 ·rintro (hm | hm)
  ·refine I3 k1.low k1.last k1.cvx (mem_cons_of_mem _ hm) fun b hb e => ?_
   obtain rfl:c=b:=by simpa using hb
   subst e
   exact ee _ ((pairwise_cons.1 g1).1 _ hm)
  ·intro hi
   have g2:=k2.cvx.sorted
   refine I3 (x:=ng x) k2.low k2.last k2.cvx (fz.2 (mem_cons_of_mem _ hm)) (fun b hb e => ?_) (InV.mono (fun q hq => ?_) hi.ng)
   ·have hb':ng m=b:=by simpa using hb
    rw[← hb'] at e
    have:=nK e
    subst this
    rw[map_cons] at g2
    exact ee _ ((pairwise_cons.1 g2).1 _ (fz.2 hm))
   ·refine⟨?_,fun e=>hq.2 (by rw[e,qY])⟩
    have:=fz.2 hq.1
    rwa [qY] at this
 ·intro hi
  by_cases hs:x ∈ c::s'
  ·rcases mem_cons.1 hs with rfl | hs
   ·exact .inr ht'
   ·exact .inl hs
  ·by_cases ht:x ∈ m::t'
   ·rcases mem_cons.1 ht with rfl | ht
    ·exact .inl hs'
    ·exact .inr ht
   ·exact absurd (ai2 k1 k2 hx hs ht) hi
end Go.Ab
namespace Go.Ab
open List
def Lk (P:V2→V2→Prop):List V2→Prop
  | a::b::r=>P a b∧Lk P (b::r)
  | _=>True
theorem Lk.snoc {P:V2→V2→Prop}{a b:V2}(h:P a b):∀ {u:List V2},Lk P (u++[a])→Lk P (u++[a,b])
  | [],_=>⟨h,trivial⟩
  | [_],k=>⟨k.1,h,trivial⟩
  | _::y::u,k=>⟨k.1,Lk.snoc h (u:=y::u) k.2⟩
theorem Lk.join {P:V2→V2→Prop}{a:V2}{v:List V2}(h:Lk P (a::v)):∀ {u:List V2},Lk P (u++[a])→Lk P (u++a::v)
  | [],_=>h
  | [_],k=>⟨k.1,h⟩
  | _::y::u,k=>⟨k.1,Lk.join h (u:=y::u) k.2⟩
theorem Cvx.lk {Q:List V2} : ∀ {s:List V2},Cvx Q s→Lk (fun a b=>∀ q ∈ Q,0≤cr a b q) s.reverse
  | [],_=>trivial
  | [_],_=>trivial
  | b::a::r,hv=>by
    have k:=Cvx.lk (s:=a::r) hv.2.2.2
    rw[reverse_cons] at k
    rw[reverse_cons,reverse_cons,append_assoc]
    exact Lk.snoc hv.2.1 k
theorem Lk.ng {Q:List V2} : ∀ {s:List V2},Lk (fun a b=>∀ q ∈ Q.map ng,0≤cr a b q) (s.map ng)→Lk (fun a b=>∀ q ∈ Q,0≤cr a b q) s
  | [],_=>trivial
  | [_],_=>trivial
  | a::b::r,h=>⟨fun q hq=>by
      have:=h.1 (Ab.ng q) (fz.2 hq)
      rwa [rN] at this,Lk.ng (s:=b::r) h.2⟩
theorem Lr {l:List V2}(h:l.Pairwise lx)(h2:2≤l.length):∃ m w,iT l=m::w∧l.head?=some m∧Lk (fun a b=>∀ q ∈ l,0≤cr a b q) (m::w++[m]):=by
  have hne:l≠[]:=fun e=>by rw[e] at h2;simp at h2
  obtain⟨m,c,k1,k2,e1,e2⟩:=both h hne
  have hmc:m≠c:=by
    intro e
    subst e
    obtain⟨p,q,r,rfl⟩:∃ p q r,l=p::q::r:=by
      match l,h2 with
      | p::q::r,_=>exact⟨p,q,r,rfl⟩
    obtain rfl:p=m:=by simpa using e1
    have hq:=(pairwise_cons.1 h).1 q (by simp)
    rcases k1.top q (by simp) with e | e
    · subst e;exact ee _ hq
    · exact ee _ (eD hq e)
  unfold iT
  obtain⟨s',es,hs'⟩:=oA k1.last k1.head hmc
  have lt:=pO k2.last
  obtain⟨t',et,ht'⟩:=oA lt (B5 k2.head) (Ne.symm hmc)
  have a1:=k1.cvx.lk
  have a2:Lk (fun a b=>∀ q ∈ l,0≤cr a b q) (l.reverse.foldl fg []).reverse:=by
    have:=k2.cvx.lk
    rw[← map_reverse] at this
    exact this.ng
  have ls:=k1.last
  generalize l.foldl fg []=s at *
  generalize l.reverse.foldl fg []=t at *
  subst es;subst et
  simp only[tail_cons]
  rw[reverse_cons] at a1 a2
  have ht:t'.getLast?=some c:=by
    cases t' with
    | nil=>cases ht'
    | cons d t'=>rwa [getLast?_cons_cons] at lt
  have hs:s'.getLast?=some m:=by
    cases s' with
    | nil=>cases hs'
    | cons d s'=>rwa [getLast?_cons_cons] at ls
  obtain⟨u,eu⟩:∃ u,t'.reverse=c::u:=by
    have:t'.reverse.head?=some c:=by rw[head?_reverse];exact ht
    cases e:t'.reverse with
    | nil=>rw[e] at this;cases this
    | cons d u=>rw[e] at this;obtain rfl:d=c:=(by simpa using this);exact⟨u,rfl⟩
  obtain⟨v,ev⟩:∃ v,s'.reverse=m::v:=by
    have:s'.reverse.head?=some m:=by rw[head?_reverse];exact hs
    cases e:s'.reverse with
    | nil=>rw[e] at this;cases this
    | cons d u=>rw[e] at this;obtain rfl:d=m:=(by simpa using this);exact⟨u,rfl⟩
  refine⟨m,v++c::u,by rw[ev,eu];rfl,e1,?_⟩
  rw[eu] at a2
  rw[ev] at a1
  have:=Lk.join (u:=m::v) (a:=c) (v:=u++[m]) a2 a1
  simpa using this
end Go.Ab
namespace Go.Ab
open List
theorem xO {Q:List V2}{m x:V2} : ∀ {s:List V2},s.getLast?=some m→Cvx Q s→x ∈ s→x≠m→(∀ b ∈ s.head?,x≠b)→∃ z b,z ∈ s∧b ∈ s∧lx z x∧lx x b∧0<cr z x b∧(∀ q ∈ Q,0≤cr z x q)∧∀ q ∈ Q,0≤cr x b q
 | [],h,_,_,_,_=>by cases h
 | [b],_,_,hx,_,hb=>absurd (by simpa using hx) (hb b rfl)
 | [b,a],h,_,hx,hm,hb=>by
  have e:a=m:=by simpa using h
  simp only[mem_cons,not_mem_nil,or_false] at hx
  rcases hx with h' | h'
  ·exact absurd h' (hb b rfl)
  ·exact absurd (h'.trans e) hm
 | b::a::z::r,h,hv,hx,hm,hb=>by
  obtain⟨h1,h2,h3,h4⟩:=hv
  by_cases hxa:x=a
  ·subst hxa
   exact⟨z,b,by simp,by simp,h4.1,h1,h3 z rfl,h4.2.1,h2⟩
  ·obtain⟨z',b',k1,k2,k3⟩:=xO (s:=a::z::r) (by simpa using h) h4 (by
    rcases mem_cons.1 hx with h' | h'
    ·exact absurd h' (hb b rfl)
    ·exact h') hm (fun b' hb'=>by
    obtain rfl:a=b':=by simpa using hb'
    exact hxa)
   exact⟨z',b',mem_cons_of_mem _ k1,mem_cons_of_mem _ k2,k3⟩
theorem UI {z x b B:V2}(h1:lx z x)(h2:lx x b)(h3:lx x B)(t:0<cr z x b)(k1:0≤cr z x B)(k2:0≤cr B x z)(k3:0≤cr B x b):False:=by
 have s:=GQ (eZ h3) (eZ h1) (eZ h2) (by unfold cr at *;grind) (by unfold cr at t;grind)
 unfold cr at *
 grind
theorem xS {l:List V2}(h:l.Pairwise lx)(h2:2≤l.length):(iT l).Nodup:=by
 have hne:l≠[]:=fun e=>by rw[e] at h2;simp at h2
 obtain⟨m,c,k1,k2,e1,e2⟩:=both h hne
 have hmc:m≠c:=by
  intro e
  subst e
  obtain⟨p,q,r,rfl⟩:∃ p q r,l=p::q::r:=by
   match l,h2 with
   | p::q::r,_=>exact⟨p,q,r,rfl⟩
  obtain rfl:p=m:=by simpa using e1
  have hq:=(pairwise_cons.1 h).1 q (by simp)
  rcases k1.top q (by simp) with e | e
  ·subst e;exact ee _ hq
  ·exact ee _ (eD hq e)
 unfold iT
 have g1:=k1.cvx.sorted
 have g2:=k2.cvx.sorted
 obtain⟨s',es,hs'⟩:=oA k1.last k1.head hmc
 obtain⟨t',et,ht'⟩:=oA (pO k2.last) (B5 k2.head) (Ne.symm hmc)
 generalize l.foldl fg []=s at *
 generalize l.reverse.foldl fg []=t at *
 subst es;subst et
 simp only[tail_cons]
 have n1:s'.Nodup:=(pairwise_cons.1 g1).2.imp fun h e=>by subst e;exact ee _ h
 have n2:t'.Nodup:=by
  rw[map_cons] at g2
  have:=(pairwise_cons.1 g2).2
  rw[pairwise_map] at this
  exact this.imp fun h e=>by subst e;exact ee _ h
 rw[nodup_append]
 refine⟨pairwise_reverse.2 (n1.imp Ne.symm),pairwise_reverse.2 (n2.imp Ne.symm),fun x hx y hy e => ?_⟩
 subst e
 rw[mem_reverse] at hx hy
 have xc:x≠c:=fun e=>by
  subst e
  exact ee _ ((pairwise_cons.1 g1).1 _ hx)
 have xm:x≠m:=fun e=>by
  subst e
  rw[map_cons] at g2
  exact ee _ ((pairwise_cons.1 g2).1 _ (fz.2 hy))
 obtain⟨z,b,z1,b1,o1,o2,o3,o4,o5⟩:=xO k1.last k1.cvx (mem_cons_of_mem _ hx) xm (fun b hb e=>by
  obtain rfl:c=b:=by simpa using hb
  exact xc e)
 obtain⟨B,A,B1,-,p1,-,-,p4,-⟩:=xO (x:=ng x) k2.last k2.cvx (fz.2 (mem_cons_of_mem _ hy)) (fun e=>xc (nK e)) (fun b hb e=>by
  have hb':ng m=b:=by simpa using hb
  rw[← hb'] at e
  exact xm (nK e))
 rw[← qY B] at p1 p4 B1
 rw[EL] at p1
 have hB:ng B ∈ l:=by
  have:=k2.sub _ B1
  exact fz.1 this
 refine UI o1 o2 p1 o3 (o4 _ hB) ?_ ?_
 ·have:=p4 (ng z) (fz.2 (k1.sub z z1))
  rwa [rN] at this
 ·have:=p4 (ng b) (fz.2 (k1.sub b b1))
  rwa [rN] at this
theorem UH {S:V2→Prop}{a b c:V2}(ha:S a)(hb:S b)(hc:S c)(h1:a≠b)(h2:b≠c)(h3:a≠c)(ea : ¬ InV (fun q=>S q∧q≠a) a)(eb : ¬ InV (fun q=>S q∧q≠b) b)(ec : ¬ InV (fun q=>S q∧q≠c) c):cr a b c≠0:=by
 intro e
 have key:∀ {x y z:V2},S x→S z→x≠y→z≠y→lx x y→lx y z→cr x z y=0 → ¬ InV (fun q=>S q∧q≠y) y→False:=fun hx hz n1 n2 l1 l2 t hy=>hy ⟨_,_,⟨hx,n1⟩,⟨hz,n2⟩,.inl (vk l1 l2 t)⟩
 rcases kW a b with l1 | l1 | l1
 ·rcases kW b c with l2 | l2 | l2
  ·exact key ha hc h1 h2.symm l1 l2 (by unfold cr at *;grind) eb
  ·exact h2 l2
  ·rcases kW a c with l3 | l3 | l3
   ·exact key ha hb h3 h2 l3 l2 (by unfold cr at *;grind) ec
   ·exact h3 l3
   ·exact key hc hb h3.symm h1.symm l3 l1 (by unfold cr at *;grind) ea
 ·exact h1 l1
 ·rcases kW b c with l2 | l2 | l2
  ·rcases kW a c with l3 | l3 | l3
   ·exact key hb hc h1.symm h3.symm l1 l3 (by unfold cr at *;grind) ea
   ·exact h3 l3
   ·exact key hb ha h2 h3 l2 l3 (by unfold cr at *;grind) ec
  ·exact h2 l2
  ·exact key hc ha h2.symm h1 l2 l1 (by unfold cr at *;grind) eb
end Go.Ab
namespace Go.Ab
open List
def gwS (C:Nat→V2)(at_ next i:Nat):Nat:=if i≠at_∧(next=at_∨cr (C at_) (C next) (C i)<0) then i else next
def gwN (C:Nat→V2)(at_:Nat):Nat→Nat
 | 0=>at_
 | i+1=>gwS C at_ (gwN C at_ i) i
theorem B6 {C:Nat→V2}{at_ n:Nat}(ha:at_<n):∀ i,i≤n→gwN C at_ i<n
 | 0,_=>ha
 | i+1,h=>by
  unfold gwN gwS
  split
  ·exact h
  ·exact B6 ha i (by omega)
theorem VP {C:Nat→V2}{at_ j n:Nat}(hn:at_<n)(hj:j≠at_)(hs:∀ i,i<n→i≠at_→i≠j→0<cr (C at_) (C j) (C i)):∀ i,i≤n→j<i→gwN C at_ i=j
 | 0,_,h=>by omega
 | i+1,h,hji=>by
  have hlt:=B6 (C:=C) hn i (by omega)
  unfold gwN gwS
  by_cases e:i=j
  ·subst e
   by_cases e2:gwN C at_ i=i
   ·rw[e2]
    exact ite_self i
   ·have hc:i≠at_∧(gwN C at_ i=at_∨cr (C at_) (C (gwN C at_ i)) (C i)<0):=by
     refine⟨hj,?_⟩
     by_cases e3:gwN C at_ i=at_
     ·exact .inl e3
     ·have:=hs _ hlt e3 e2
      refine .inr ?_
      unfold cr at *
      grind
    exact if_pos hc
  ·rw[VP hn hj hs i (by omega) (by omega),if_neg]
   rintro⟨k1,k2 | k2⟩
   ·exact hj k2
   ·have:=hs i (by omega) k1 e
    grind
end Go.Ab
namespace Go.Ab
open List
def atK (C:Nat→V2)(n a:Nat):Nat→Nat
 | 0=>a
 | k+1=>gwN C (atK C n a k) n
theorem Lk.at {P:V2→V2→Prop} : ∀ {L:List V2} {k:Nat} {x y:V2},Lk P L→L[k]?=some x→L[k+1]?=some y→P x y
 | [],_,_,_,_,h,_=>by cases h
 | [_],_,_,_,_,_,h=>by cases h
 | a::b::r,0,x,y,h,hx,hy=>by
  obtain rfl:a=x:=by simpa using hx
  obtain rfl:b=y:=by simpa using hy
  exact h.1
 | a::b::r,k+1,x,y,h,hx,hy=>Lk.at (L:=b::r) (k:=k) h.2 (by simpa using hx) (by simpa using hy)
theorem E7 {l:List V2}(h:l.Pairwise lx)(hne:l≠[]){x:V2}(hx:x ∈ iT l):x ∈ l:=by
 obtain⟨m,c,k1,k2,-,-⟩:=both h hne
 unfold iT at hx
 simp only[mem_append,mem_reverse] at hx
 rcases hx with hx | hx
 ·exact k1.sub x (mem_of_mem_tail hx)
 ·exact fz.1 (k2.sub _ (fz.2 (mem_of_mem_tail hx)))
theorem Yx {l:List V2}(h:l.Pairwise lx)(h2:2≤l.length){n a:Nat}{C:Nat→V2}(hn:(iT l).length=n)(hC:∀ i,i<n→C i ∈ iT l)(sC:∀ x ∈ iT l,∃ i,i<n∧C i=x)(inj:∀ i j,i<n→j<n→C i=C j→i=j)(ha:a<n)(h0:l.head?=some (C a)):∀ k,k<n→atK C n a k<n∧(iT l)[k]?=some (C (atK C n a k)):=by
 have hne:l≠[]:=fun e=>by rw[e] at h2;simp at h2
 obtain⟨m,w,e1,e2,e3⟩:=Lr h h2
 have nd:=xS h h2
 intro k
 induction k with
 | zero =>
  intro _
  refine⟨ha,?_⟩
  rw[h0] at e2
  rw[e1]
  simpa [atK] using e2.symm
 | succ k ih =>
  intro hk
  obtain⟨i1,i2⟩:=ih (by omega)
  have hl:k+1<(iT l).length:=by omega
  have g1:=List.getElem?_eq_getElem hl
  generalize (iT l)[k+1]=y at *
  have ym:y ∈ iT l:=mem_of_getElem? g1
  obtain⟨j,hj,rfl⟩:=sC y ym
  have sup:∀ q ∈ l,0≤cr (C (atK C n a k)) (C j) q:=by
   refine e3.at (k:=k) ?_ ?_
   ·rw[← e1,getElem?_append_left (by omega)];exact i2
   ·rw[← e1,getElem?_append_left hl];exact g1
  have hja:j≠atK C n a k:=fun e=>by
   rw[e] at g1
   obtain⟨h1,f1⟩:=List.getElem?_eq_some_iff.1 i2
   obtain⟨h2',f2⟩:=List.getElem?_eq_some_iff.1 g1
   exact pairwise_iff_getElem.1 nd k (k+1) h1 h2' (by omega) (f1.trans f2.symm)
  have ext:∀ i,i<n→C i ∈ l ∧ ¬ InV (fun q=>q ∈ l∧q≠C i) (C i):=fun i hi=>by
   have hm:=E7 h hne (hC i hi)
   exact⟨hm,(EI h h2 hm).1 (hC i hi)⟩
  have key:atK C n a (k+1)=j:=by
   refine VP i1 hja (fun i hi hia hij => ?_) n (Nat.le_refl _) hj
   obtain⟨x1,x2⟩:=ext _ i1
   obtain⟨y1,y2⟩:=ext _ hj
   obtain⟨z1,z2⟩:=ext _ hi
   have n0:=UH (S:=fun q=>q ∈ l) x1 y1 z1 (fun e=>hja (inj _ _ hj i1 e.symm)) (fun e=>hij (inj _ _ hi hj e.symm)) (fun e=>hia (inj _ _ hi i1 e.symm)) x2 y2 z2
   have:=sup _ z1
   grind
  rw[key]
  exact⟨hj,g1⟩
end Go.Ab
namespace Go.Ab
open List
abbrev VN:=V2 × Nat
def lxn (a b:VN):Prop:=lx a.1 b.1∨a.1=b.1∧a.2<b.2
theorem Au {a b c:VN}(h:lxn a b)(k:lxn b c):lxn a c:=by
  rcases h with h | ⟨h,h'⟩
  · rcases k with k | ⟨k,k'⟩
    · exact .inl (eD h k)
    · exact .inl (k ▸ h)
  · rcases k with k | ⟨k,k'⟩
    · exact .inl (h ▸ k)
    · exact .inr ⟨h.trans k,by omega⟩
theorem abK (a:VN) : ¬ lxn a a:=by
  rintro (h | ⟨-,h⟩)
  · exact ee _ h
  · omega
theorem abJ (a b:VN):lxn a b∨a=b∨lxn b a:=by
  rcases kW a.1 b.1 with h | h | h
  · exact .inl (.inl h)
  · rcases Nat.lt_trichotomy a.2 b.2 with k | k | k
    · exact .inl (.inr ⟨h,k⟩)
    · exact .inr (.inl (Prod.ext h k))
    · exact .inr (.inr (.inr ⟨h.symm,k⟩))
  · exact .inr (.inr (.inl h))
def leN (a b:VN):Prop := ¬ lxn b a
theorem Ay {a b c:VN}(h:leN a b)(k:leN b c):leN a c:=by
  intro t
  rcases abJ a b with u | u | u
  · exact k (Au t u)
  · subst u;exact k t
  · exact h u
theorem Vw {a b:VN}(h:lxn a b):leN a b:=fun k=>abK _ (Au h k)
def ddp (p:Option V2):List VN→List VN
  | []=>[]
  | x::r=>if p=some x.1 then ddp p r else x::ddp (some x.1) r
theorem Ci:∀ {S:List VN} {p:Option V2},S.Pairwise leN→(∀ q,p=some q→∀ x ∈ S,q=x.1∨lx q x.1) →
    (∀ y ∈ ddp p S,y ∈ S∧∀ q,p=some q→lx q y.1)∧(∀ z ∈ S,p=some z.1∨∃ y ∈ ddp p S,y.1=z.1∧y.2≤z.2)∧((ddp p S).map fun y=>y.1).Pairwise lx
  | [],p,_,_=>⟨fun y h=>by simp[ddp] at h,fun z h=>by simp at h,by simp[ddp]⟩
  | x::r,p,hs,hp=>by
    obtain⟨h1,h2⟩:=pairwise_cons.1 hs
    by_cases e:p=some x.1
    · obtain⟨k1,k2,k3⟩:=Ci (p:=p) h2 fun q hq y hy=>hp q hq y (mem_cons_of_mem _ hy)
      have e':ddp p (x::r)=ddp p r:=by rw[ddp,if_pos e]
      rw[e']
      refine⟨fun y hy=>⟨mem_cons_of_mem _ (k1 y hy).1,(k1 y hy).2⟩,fun z hz => ?_,k3⟩
      rcases mem_cons.1 hz with rfl | hz
      · exact .inl e
      · exact k2 z hz
    · have hx:∀ y ∈ r,x.1=y.1∨lx x.1 y.1:=fun y hy=>by
        have:=h1 y hy
        rcases kW x.1 y.1 with t | t | t
        · exact .inr t
        · exact .inl t
        · exact absurd (.inl t) this
      obtain⟨k1,k2,k3⟩:=Ci (p:=some x.1) h2 fun q hq y hy=>by
        obtain rfl:x.1=q:=by simpa using hq
        exact hx y hy
      have e':ddp p (x::r)=x::ddp (some x.1) r:=by rw[ddp,if_neg e]
      rw[e']
      refine⟨fun y hy => ?_,fun z hz=>.inr ?_,?_⟩
      · have hpx:∀ q,p=some q→lx q x.1:=fun q hq=>by
          rcases hp q hq x (by simp) with t | t
          · exact absurd (by rw[hq,t]) e
          · exact t
        rcases mem_cons.1 hy with rfl | hy
        · exact⟨by simp,hpx⟩
        · obtain⟨u1,u2⟩:=k1 y hy
          exact⟨mem_cons_of_mem _ u1,fun q hq=>eD (hpx q hq) (u2 _ rfl)⟩
      · rcases mem_cons.1 hz with rfl | hz
        · exact⟨z,by simp,rfl,Nat.le_refl _⟩
        · rcases k2 z hz with t | ⟨y,hy,t⟩
          · have t:x.1=z.1:=by simpa using t
            refine⟨x,by simp,t,?_⟩
            have:=h1 z hz
            by_cases hlt:z.2<x.2
            · exact absurd (.inr ⟨t.symm,hlt⟩) this
            · omega
          · exact⟨y,mem_cons_of_mem _ hy,t⟩
      · rw[map_cons,pairwise_cons]
        refine⟨fun q hq => ?_,k3⟩
        obtain⟨y,hy,rfl⟩:=mem_map.1 hq
        exact (k1 y hy).2 _ rfl
theorem Lg:∀ {l k:List V2},l.Pairwise lx→k.Pairwise lx→(∀ x,x ∈ l ↔ x ∈ k)→l=k
  | [],[],_,_,_=>rfl
  | [],y::k,_,_,h=>absurd ((h y).2 (by simp)) (by simp)
  | x::l,[],_,_,h=>absurd ((h x).1 (by simp)) (by simp)
  | x::l,y::k,hl,hk,h=>by
    obtain⟨a1,a2⟩:=pairwise_cons.1 hl
    obtain⟨b1,b2⟩:=pairwise_cons.1 hk
    have e:x=y:=by
      rcases mem_cons.1 ((h x).1 (by simp)) with t | t
      · exact t
      · rcases mem_cons.1 ((h y).2 (by simp)) with u | u
        · exact u.symm
        · exact absurd (eD (b1 x t) (a1 y u)) (ee _)
    subst e
    rw[Lg a2 b2 fun z=>⟨fun hz => ?_,fun hz => ?_⟩]
    · rcases mem_cons.1 ((h z).1 (mem_cons_of_mem _ hz)) with t | t
      · subst t;exact absurd (a1 z hz) (ee _)
      · exact t
    · rcases mem_cons.1 ((h z).2 (mem_cons_of_mem _ hz)) with t | t
      · subst t;exact absurd (b1 z hz) (ee _)
      · exact t
instance (a b:V2):Decidable (lx a b):=by unfold lx;infer_instance
def uU (p:V2):List V2→List V2
  | []=>[p]
  | q::r=>if lx p q then p::q::r else if p=q then q::r else q::uU p r
theorem xM {p x:V2} : ∀ {l:List V2},x ∈ uU p l ↔ x=p∨x ∈ l
  | []=>by simp[uU]
  | q::r=>by
    unfold uU
    split
    · simp
    · split
      · next e=>subst e;simp
      · rw[mem_cons,xM,mem_cons]
        grind
theorem Lq {p:V2} : ∀ {l:List V2},l.Pairwise lx→(uU p l).Pairwise lx
  | [],_=>by simp[uU]
  | q::r,h=>by
    obtain⟨a1,a2⟩:=pairwise_cons.1 h
    unfold uU
    split
    · next t=>exact pairwise_cons.2 ⟨fun x hx=>by
        rcases mem_cons.1 hx with rfl | hx
        · exact t
        · exact eD t (a1 x hx),h⟩
    · next t=>
      split
      · exact h
      · next u=>exact pairwise_cons.2 ⟨fun x hx=>by
          rcases xM.1 hx with rfl | hx
          · rcases kW x q with v | v | v
            · exact absurd v t
            · exact absurd v u
            · exact v
          · exact a1 x hx,Lq a2⟩
def srt (X:List V2):List V2:=X.foldr uU []
theorem iq {x:V2} : ∀ {X:List V2},x ∈ srt X ↔ x ∈ X
  | []=>by simp[srt]
  | p::X=>by
    show x ∈ uU p (srt X) ↔ _
    rw[xM,iq,mem_cons]
theorem Bn:∀ (X:List V2),(srt X).Pairwise lx
  | []=>by simp[srt]
  | p::X=>Lq (Bn X)
theorem acV {L S:List VN}{X:List V2}{g:V2→Nat}(hL:S.Perm L)(hS:S.Pairwise leN)(hX:∀ x,x ∈ X ↔ ∃ z ∈ L,z.1=x)(hg:∀ x ∈ X,(x,g x) ∈ L)(hm:∀ z ∈ L,g z.1≤z.2) :
    ddp none S=(srt X).map fun x=>(x,g x):=by
  obtain⟨k1,k2,k3⟩:=Ci (p:=none) hS fun q hq=>by cases hq
  have e1:(ddp none S).map (fun y=>y.1)=srt X:=by
    refine Lg k3 (Bn X) fun x => ?_
    rw[iq,hX,mem_map]
    constructor
    · rintro⟨y,hy,e⟩
      exact⟨y,hL.mem_iff.1 (k1 y hy).1,e⟩
    · rintro⟨z,hz,e⟩
      rcases k2 z (hL.mem_iff.2 hz) with t | ⟨y,hy,t,-⟩
      · cases t
      · exact⟨y,hy,t.trans e⟩
  rw[← e1,map_map]
  conv=>lhs;rw[← map_id (ddp none S)]
  refine map_congr_left fun y hy => ?_
  have hyL:=hL.mem_iff.1 (k1 y hy).1
  have hx:y.1 ∈ X:=(hX _).2 ⟨y,hyL,rfl⟩
  have h1:=hm y hyL
  rcases k2 _ (hL.mem_iff.2 (hg _ hx)) with t | ⟨w,hw,t,t'⟩
  · cases t
  · have:w=y:=by
      obtain⟨i,hi,rfl⟩:=getElem_of_mem hw
      obtain⟨j,hj,rfl⟩:=getElem_of_mem hy
      have hp:=pairwise_iff_getElem.1 k3
      simp only[length_map,getElem_map] at hp
      simp only at t
      rcases Nat.lt_trichotomy i j with u | u | u
      · have:=hp i j hi hj u
        rw[t] at this;exact absurd this (ee _)
      · subst u;rfl
      · have:=hp j i hj hi u
        rw[t] at this;exact absurd this (ee _)
    subst this
    simp only at t'
    exact Prod.ext rfl (by simp;omega)
end Go.Ab
namespace Go.Ab
open List
def mg (p:VN):List VN→List VN
 | b::a::r=>if 0<cr a.1 b.1 p.1 then b::a::r else mg p (a::r)
 | l=>l
def dK (s:List VN)(p:VN):List VN:=p::mg p s
def Ls (l:List VN):List VN:=(l.foldl dK []).tail.reverse++(l.reverse.foldl dK []).tail.reverse
def j8 (l:List VN):List VN:=if l.length<3 then l else Ls l
def kp (l:List V2):List V2:=if l.length<2 then l else iT l
def AH (X:List V2):Ω:=(kp (srt X)).map fun x=>X.idxOf x
theorem Ef {f:V2→VN}(hf:∀ p,(f p).1=p)(p:V2):∀ s:List V2,mg (f p) (s.map f)=(qT p s).map f
 | []=>rfl
 | [_]=>rfl
 | b::a::r=>by
  show mg (f p) (f b::f a::r.map f)=_
  unfold mg qT
  rw[hf,hf,hf]
  split
  ·rfl
  ·exact Ef hf p (a::r)
theorem AN {f:V2→VN}(hf:∀ p,(f p).1=p):∀ (l s:List V2),(l.map f).foldl dK (s.map f)=(l.foldl fg s).map f
 | [],_=>rfl
 | p::l,s=>by
  rw[map_cons,foldl_cons,foldl_cons]
  have:dK (s.map f) (f p)=(fg s p).map f:=by
   unfold dK fg
   rw[Ef hf,map_cons]
  rw[this,AN hf l]
theorem Eo {f:V2→VN}(hf:∀ p,(f p).1=p)(l:List V2):j8 (l.map f)=(kp l).map f:=by
 unfold j8 kp
 rw[length_map]
 by_cases h2:l.length<2
 ·rw[if_pos (by omega),if_pos h2]
 rw[if_neg h2]
 by_cases h3:l.length<3
 ·rw[if_pos h3]
  match l,h2,h3 with
  | [a,b],_,_=>rfl
  | [],h,_=>simp at h
  | [_],h,_=>simp at h
  | _::_::_::_,_,h=>exact absurd h (by simp only[length_cons];omega)
 ·rw[if_neg h3]
  unfold Ls iT
  have k:=fun l'=>AN hf l' []
  simp only[map_nil] at k
  rw[← map_reverse,k,k,map_append,map_reverse,map_reverse,map_tail,map_tail]
theorem rh {l:List V2}(h:l.Pairwise lx){x:V2}(hx:x ∈ l):x ∈ kp l ↔ ¬ InV (fun q=>q ∈ l∧q≠x) x:=by
 unfold kp
 split
 ·next h2 =>
  match l,h2,hx with
  | [],_,h=>simp at h
  | [y],_,hx =>
   obtain rfl:x=y:=by simpa using hx
   refine⟨fun _ => ?_,fun _=>by simp⟩
   rintro⟨a,b,⟨ha,ha'⟩,-⟩
   exact ha' (by simpa using ha)
  | _::_::_,h,_=>exact absurd h (by simp only[length_cons];omega)
 ·next h2=>exact EI h (by omega) hx
theorem Ep {l:List V2}(h:l.Pairwise lx){x:V2}(hx:x ∈ kp l):x ∈ l:=by
 unfold kp at hx
 split at hx
 ·exact hx
 ·next h2=>exact E7 h (fun e=>h2 (by rw[e];simp)) hx
theorem UY {l:List V2}(h:l.Pairwise lx):l.Nodup:=List.Pairwise.imp (fun {a b} (k:lx a b) (e:a=b)=>ee a (by rw[← e] at k;exact k)) h
theorem It {l:List V2}(h:l.Pairwise lx):(kp l).Nodup:=by
 unfold kp
 split
 ·exact UY h
 ·next h2=>exact xS h (by omega)
theorem Uc {L S:List VN}{X:List V2}{g:V2→Nat}(hL:S.Perm L)(hS:S.Pairwise leN)(hX:∀ x,x ∈ X ↔ ∃ z ∈ L,z.1=x)(hg:∀ x ∈ X,(x,g x) ∈ L)(hm:∀ z ∈ L,g z.1≤z.2) :
  j8 (ddp none S)=(kp (srt X)).map fun x=>(x,g x):=by
 rw[acV hL hS hX hg hm,Eo (f:=fun x=>(x,g x)) fun _=>rfl]
theorem xQ {X:List V2}{x:V2}(h:x ∈ X):X.idxOf x<X.length:=idxOf_lt_length_iff.2 h
theorem xR:∀ {X:List V2} {i:Nat} {x:V2},X[i]?=some x→X.idxOf x≤i
 | [],_,_,h=>by simp at h
 | y::X,0,x,h=>by
  obtain rfl:y=x:=by simpa using h
  simp
 | y::X,i+1,x,h=>by
  rw[idxOf_cons]
  have:=xR (X:=X) (i:=i) (x:=x) (by simpa using h)
  cases y == x
  ·simpa using this
  ·simp
theorem oT {X:List V2}{x:V2}(h:x ∈ X):X[X.idxOf x]?=some x:=by
 rw[List.getElem?_eq_getElem (xQ h),getElem_idxOf (xQ h)]
theorem jJ {X:List V2}{z:VN} : z ∈ X.zipIdx ↔ X[z.2]?=some z.1:=by
 rw[mem_zipIdx_iff_getElem?]
theorem O0 {X:List V2}{S:List VN}(hL:S.Perm X.zipIdx)(hS:S.Pairwise leN):(j8 (ddp none S)).map (fun y=>y.2)=AH X:=by
 rw[Uc (X:=X) (g:=fun x=>X.idxOf x) hL hS,map_map]
 ·rfl
 ·intro x
  constructor
  ·intro h
   exact⟨(x,X.idxOf x),jJ.2 (oT h),rfl⟩
  ·rintro⟨z,hz,rfl⟩
   exact mem_of_getElem? (jJ.1 hz)
 ·exact fun x hx=>jJ.2 (oT hx)
 ·exact fun z hz=>xR (jJ.1 hz)
theorem CM {X:List V2}{p:V2}{S:List VN}(hL:S.Perm ((p,X.length)::X.zipIdx))(hS:S.Pairwise leN):(∃ y ∈ j8 (ddp none S),y.2=X.length) ↔ ¬ InV (fun q=>q ∈ X) p:=by
 rw[Uc (X:=p::X) (g:=fun x=>X.idxOf x) hL hS]
 ·have hs:=Bn (p::X)
  have hp:p ∈ srt (p::X):=iq.2 (by simp)
  constructor
  ·rintro⟨y,hy,e⟩ hin
   obtain⟨x,hx,rfl⟩:=mem_map.1 hy
   have hn:x ∉ X:=fun h=>by
    have:=xQ h
    have e:X.idxOf x=X.length:=e
    omega
   obtain rfl:x=p:=by
    have:=iq.1 (Ep hs hx)
    rcases mem_cons.1 this with t | t
    ·exact t
    ·exact absurd t hn
   refine (rh hs hp).1 hx (hin.mono fun q hq=>⟨iq.2 (mem_cons_of_mem _ hq),fun e=>hn (e ▸ hq)⟩)
  ·intro hn
   have hpX:p ∉ X:=fun h=>hn ⟨p,p,h,h,.inl (by unfold uQ cr;grind)⟩
   refine⟨(p,X.idxOf p),mem_map.2 ⟨p,(rh hs hp).2 fun hin=>hn (hin.mono fun q hq => ?_),rfl⟩,idxOf_eq_length hpX⟩
   rcases mem_cons.1 (iq.1 hq.1) with t | t
   ·exact absurd t hq.2
   ·exact t
 ·intro x
  constructor
  ·intro h
   rcases mem_cons.1 h with rfl | h
   ·exact⟨(x,X.length),by simp,rfl⟩
   ·exact⟨(x,X.idxOf x),mem_cons_of_mem _ (jJ.2 (oT h)),rfl⟩
  ·rintro⟨z,hz,rfl⟩
   rcases mem_cons.1 hz with rfl | hz
   ·simp
   ·exact mem_cons_of_mem _ (mem_of_getElem? (jJ.1 hz))
 ·intro x hx
  by_cases h:x ∈ X
  ·exact mem_cons_of_mem _ (jJ.2 (oT h))
  ·rcases mem_cons.1 hx with rfl | hx
   ·rw[idxOf_eq_length h];simp
   ·exact absurd hx h
 ·intro z hz
  rcases mem_cons.1 hz with rfl | hz
  ·exact idxOf_le_length
  ·exact xR (jJ.1 hz)
end Go.Ab
