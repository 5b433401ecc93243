/- An abstract interpreter over the model's code and its soundness, part 9; each lemma states its conditions. -/
import Derived.Test.YtjdmodeenbdfpaaGreatU08
set_option linter.unusedSimpArgs false
set_option linter.unusedVariables false
namespace Go.Ab
open Go List
abbrev X:=Ψ × Θ
section
variable {C:Cfg} {run:av} {ops:Array Oper} {Φ:List FP}
def yB (C:Cfg)(run:av)(ops:Array Oper)(Φ:List FP)(i:Nat)(x y:X):Prop :=
 ∃ o v fp,ops[i]?=some o∧aF C run true ops o x.1 x.2=some (v,y.2,fp)∧Φ[i]?=some fp∧y.1=aC x.1 o.dst v
def Fold (C:Cfg)(run:av)(ops:Array Oper)(Φ:List FP):Ω→X→X→Prop
 | [],x,y=>x=y
 | i::l,x,y=>∃ z,yB C run ops Φ i x z∧Fold C run ops Φ l z y
def Comm (C:Cfg)(run:av)(ops:Array Oper)(Φ:List FP)(i j:Nat):Prop :=
 ∀ x y z,yB C run ops Φ i x y→yB C run ops Φ j y z→∃ y',yB C run ops Φ j x y'∧yB C run ops Φ i y' z
theorem XD {i:Nat}{B:Ω} : ∀ (A:Ω) (x z:X),Fold C run ops Φ (A++i::B) x z→(∀ a ∈ A,Comm C run ops Φ a i)→∃ y,yB C run ops Φ i x y∧Fold C run ops Φ (A++B) y z
 | [],x,z,h,_=>h
 | a::A,x,z,h,hc=>by
  obtain⟨y,h1,h2⟩:=h
  obtain⟨y2,h3,h4⟩:=XD A y z h2 fun b hb=>hc b (by simp[hb])
  obtain⟨y3,h5,h6⟩:=hc a (by simp) x y y2 h1 h3
  exact⟨y3,h5,y2,h6,h4⟩
theorem N4 {fr:Ψ}{d1 d2:Option Tmp}{v1 v2:PV}(h:∀ d,d1=some d→d2≠some d):aC (aC fr d1 v1) d2 v2=aC (aC fr d2 v2) d1 v1:=by
 cases d1 with
 | none=>rfl
 | some a=>cases d2 with
  | none=>rfl
  | some b =>
   have:a≠b:=fun e=>h a rfl (by rw[e])
   simp only[aC,jK]
   exact set_comm _ _ this
theorem sY {l m:Ω}(h:(l.any fun i=>m.contains i)=false){i:Nat}(h1:i ∈ l):i ∉ m:=by
 intro h2
 have:(l.any fun i=>m.contains i)=true:=any_eq_true.2 ⟨i,h1,by simpa using h2⟩
 rw[h] at this;cases this
structure Gv (a b:FP):Prop where
 wr:∀ i ∈ a.wr,i ∉ b.rd
 ww:∀ i ∈ a.wr,i ∉ b.wr
 rw:∀ i ∈ b.wr,i ∉ a.rd
 al:a.al=true→b.al=false
 alla:a.all=true→b.wr=[]
 allb:b.all=true→a.wr=[]
theorem XK {a b:FP}(h:a.apart b=true):Gv a b:=by
 unfold FP.apart at h
 simp only[Bool.and_eq_true,Bool.not_eq_true'] at h
 obtain⟨⟨⟨⟨h1,h2⟩,h3⟩,h4⟩,h5⟩:=h
 have key:∀ i ∈ a.wr,i ∉ b.rd∧i ∉ b.wr:=fun i hi=>by
  have:=(any_eq_false.1 h1) i hi
  simp at this
  exact this
 refine⟨fun i hi=>(key i hi).1,fun i hi=>(key i hi).2,fun i hi=>sY h2 hi,fun e => ?_,fun e => ?_,fun e => ?_⟩
 ·rw[e] at h3;simpa using h3
 ·rw[e] at h4;simpa using h4
 ·rw[e] at h5;simpa using h5
theorem yy {a b:FP}(h:a.free=true∨b.free=true):Gv a b:=by
 rcases h with h | h <;> (simp only[FP.free,Bool.and_eq_true,isEmpty_iff,Bool.not_eq_true'] at h;obtain⟨⟨⟨h1,h2⟩,h3⟩,h4⟩:=h)
 ·exact⟨by simp[h2],by simp[h2],by simp[h1],by simp[h3],by simp[h4],fun _=>h2⟩
 ·exact⟨by simp[h1],by simp[h2],by simp[h2],fun _=>h3,fun _=>h2,by simp[h4]⟩
theorem ac1 (hE:fQ run){i j:Nat}{o1 o2:Oper}{F1 F2:FP}(h1:ops[i]?=some o1)(h2:ops[j]?=some o2)(hf1:Φ[i]?=some F1)(hf2:Φ[j]?=some F2)(ht:o1.apart ops o2=true)(hA:Gv F1 F2) :
  Comm C run ops Φ i j:=by
 rintro⟨fr,hp⟩ ⟨fr1,hp1⟩ ⟨fr2,hp2⟩ ⟨o1',v1,F1',e1,s1,g1,p1⟩ ⟨o2',v2,F2',e2,s2,g2,p2⟩
 rw[h1] at e1;cases e1
 rw[h2] at e2;cases e2
 rw[hf1] at g1;cases g1
 rw[hf2] at g2;cases g2
 obtain⟨t1,t2,t3⟩:=Oper.apart_spec ht
 dsimp only at s1 s2 p1 p2
 subst p1;subst p2
 rw[CT t1] at s2
 have L1:=vU (C:=C) hE true ops o1 fr
 have L2:=vU (C:=C) hE true ops o2 fr
 obtain⟨E1,E1l,E1w⟩:=L1.E _ _ _ _ s1
 obtain⟨E2,E2l,E2w⟩:=L2.E _ _ _ _ s2
 suffices hs:∃ hp',aF C run true ops o2 fr hp=some (v2,hp',F2)∧aF C run true ops o1 fr hp'=some (v1,hp2,F1) by
  obtain⟨hp',q1,q2⟩:=hs
  refine⟨(aC fr o2.dst v2,hp'),⟨o2,v2,F2,h2,q1,hf2,rfl⟩,o1,v1,F1,h1,?_,hf1,(N4 t2)⟩
  dsimp only
  rw[CT t3];exact q2
 by_cases ha1:F1.all=true
 ·have w2:=hA.alla ha1
  have e2:hp2=hp1:=O9 fun i=>E2 i (by simp[w2])
  subst e2
  by_cases ha2:F2.all=true
  ·have w1:=hA.allb ha2
   have e1:hp2=hp:=O9 fun i=>E1 i (by simp[w1])
   subst e1
   exact⟨hp2,s2,s1⟩
  ·have ha2:F2.all=false:=by simpa using ha2
   have hal:=E2w ha2 w2
   obtain⟨hp',q1,_⟩:=L2.D hp2 hp v2 hp2 F2 s2 ha2 (fun i hi=>(E1 i fun hw=>hA.wr i hw hi).symm) (by simp[Ag,w2]) (by simp[hal])
   have:hp'=hp:=O9 fun i=>(L2.E _ _ _ _ q1).1 i (by simp[w2])
   subst this
   exact⟨hp',q1,s1⟩
 ·have ha1:F1.all=false:=by simpa using ha1
  by_cases ha2:F2.all=true
  ·have w1:=hA.allb ha2
   have e1:hp1=hp:=O9 fun i=>E1 i (by simp[w1])
   subst e1
   have hal:=E1w ha1 w1
   obtain⟨hp',q1,_⟩:=L1.D hp1 hp2 v1 hp1 F1 s1 ha1 (fun i hi=>E2 i fun hw=>hA.rw i hw hi) (by simp[Ag,w1]) (by simp[hal])
   have:hp'=hp2:=O9 fun i=>(L1.E _ _ _ _ q1).1 i (by simp[w1])
   subst this
   exact⟨hp',s2,q1⟩
  ·have ha2:F2.all=false:=by simpa using ha2
   obtain⟨h2',q1,q1w⟩:=L2.D hp1 hp v2 hp2 F2 s2 ha2 (fun i hi=>(E1 i fun hw=>hA.wr i hw hi).symm) (fun i hi=>(E1 i fun hw=>hA.ww i hw hi).symm) (fun hal=>by
    have:F1.al=false:=by
     cases h:F1.al with
     | false=>rfl
     | true=>rw[hA.al h] at hal;cases hal
    exact (E1l ha1 this).symm)
   obtain⟨E3,E3l,_⟩:=L2.E _ _ _ _ q1
   obtain⟨h2'',q2,q2w⟩:=L1.D hp h2' v1 hp1 F1 s1 ha1 (fun i hi=>E3 i fun hw=>hA.rw i hw hi) (fun i hi=>E3 i fun hw=>hA.ww i hi hw) (fun hal=>E3l ha2 (hA.al hal))
   obtain⟨E4,_,_⟩:=L1.E _ _ _ _ q2
   have:h2''=hp2:=O9 fun i=>by
    by_cases i1:i ∈ F1.wr
    ·rw[q2w i i1,E2 i (hA.ww i i1)]
    ·rw[E4 i i1]
     by_cases i2:i ∈ F2.wr
     ·exact q1w i i2
     ·rw[E3 i i2,E2 i i2,E1 i i1]
   subst this
   exact⟨h2',q1,q2⟩
def J4 (ops:Array Oper)(bs:Array Nat):Prop:=∀ j,j<bs.size→∀ i,(bs.getD j 0).testBit i=true→∃ o,ops[j]?=some o∧∃ e ∈ o.after,Region.binds .any e=true∧(i=e.on∨(e.on<bs.size∧(bs.getD e.on 0).testBit i=true))
theorem xP (acc:Array Nat)(i:Nat):∀ (l:List Edge) (s:Nat),(l.foldl (fun s e=>if Region.binds .any e then s ||| 2 ^ e.on ||| acc.getD e.on 0 else s) s).testBit i=true →
  s.testBit i=true∨∃ e ∈ l,Region.binds .any e=true∧(i=e.on∨(acc.getD e.on 0).testBit i=true)
 | [],s,h=>.inl h
 | e::l,s,h=>by
  rw[foldl_cons] at h
  rcases xP acc i l _ h with h1 | ⟨e',h1,h2⟩
  ·split at h1
   ·rename_i hb
    rw[Nat.testBit_or,Nat.testBit_or,Bool.or_eq_true,Bool.or_eq_true] at h1
    rcases h1 with (h1 | h1) | h1
    ·exact .inl h1
    ·rw[Nat.testBit_two_pow] at h1
     exact .inr ⟨e,by simp,hb,.inl (by simpa using (of_decide_eq_true h1).symm)⟩
    ·exact .inr ⟨e,by simp,hb,.inr h1⟩
   ·exact .inl h1
  ·exact .inr ⟨e',by simp[h1],h2⟩
theorem A8:∀ (l:List Oper) (acc:Array Nat),(∀ k,k<l.length→ops[acc.size+k]?=l[k]?)→J4 ops acc →
  J4 ops (l.foldl (fun acc o=>acc.push (o.after.foldl (fun s e=>if Region.binds .any e then s ||| 2 ^ e.on ||| acc.getD e.on 0 else s) 0)) acc) ∧
  (l.foldl (fun acc o=>acc.push (o.after.foldl (fun s e=>if Region.binds .any e then s ||| 2 ^ e.on ||| acc.getD e.on 0 else s) 0)) acc).size=acc.size+l.length
 | [],acc,_,h=>⟨h,by simp⟩
 | o::l,acc,hl,h=>by
  rw[foldl_cons]
  have key:∀ (v:Nat) (k:Nat),k<acc.size→(acc.push v).getD k 0=acc.getD k 0:=fun v k hk=>by
   rw[Array.getD_eq_getD_getElem?,Array.getD_eq_getD_getElem?,Array.getElem?_push_lt hk,Array.getElem?_eq_getElem hk]
  generalize hv:o.after.foldl (fun s e=>if Region.binds .any e then s ||| 2 ^ e.on ||| acc.getD e.on 0 else s) 0=v
  have:=A8 l (acc.push v) (fun k hk=>by
   have:=hl (k+1) (by simpa using hk)
   simp only[Array.size_push]
   rw[show acc.size+1+k=acc.size+(k+1) by omega,this];simp) (fun j hj i hb=>by
    rw[Array.size_push] at hj ⊢
    by_cases hjl:j<acc.size
    ·rw[key v j hjl] at hb
     obtain⟨o',h1,e,h2,h3,h4⟩:=h j hjl i hb
     refine⟨o',h1,e,h2,h3,h4.imp id fun ⟨h5,h6⟩=>⟨by omega,by rw[key v _ h5];exact h6⟩⟩
    ·have hj:j=acc.size:=by omega
     subst hj
     have e0:(acc.push v).getD acc.size 0=v:=by simp
     rw[e0,← hv,← Array.foldl_toList] at hb
     refine⟨o,by have:=hl 0 (by simp);simpa using this,?_⟩
     rcases xP acc i _ _ hb with h1 | ⟨e,h1,h2,h3⟩
     ·simp at h1
     ·refine⟨e,by simpa using h1,h2,h3.imp id fun h4 => ?_⟩
      have hlt:e.on<acc.size:=by
       rcases Nat.lt_or_ge e.on acc.size with h' | h'
       ·exact h'
       ·rw[Array.getD_eq_getD_getElem?,Array.getElem?_eq_none h'] at h4;simp at h4
      exact⟨by omega,by rw[key v _ hlt];exact h4⟩)
  rw[Array.size_push] at this
  exact⟨this.1,by rw[this.2];simp;omega⟩
theorem F0 (ops:Array Oper):J4 ops (Region.before ops)∧(Region.before ops).size=ops.size:=by
 unfold Region.before
 have:=A8 (ops:=ops) ops.toList #[] (fun k hk=>by simp) (fun j hj=>by simp at hj)
 rw[Array.foldl_toList] at this
 simpa using this
end
section
variable {C:Cfg} {run:av} {ops:Array Oper} {Φ:List FP}
theorem tF (h:vZ ops=true){j:Nat}{oj:Oper}(hj:ops[j]?=some oj) :
  (∀ e ∈ oj.after,Region.binds .any e=true→e.on<j)∧∀ i oi,i<j→ops[i]?=some oi→((Region.before ops).getD j 0).testBit i=true∨oi.apart ops oj=true:=by
 unfold vZ at h
 have:=(all_eq_true.1 h) j (mem_range.2 (Array.getElem?_eq_some_iff.1 hj).1)
 simp only[hj,Bool.and_eq_true] at this
 obtain⟨h1,h2⟩:=this
 refine⟨fun e he hb => ?_,fun i oi hi ho => ?_⟩
 ·have:=Array.all_eq_true_iff_forall_mem.1 h1 e he
  simp only[hb,Bool.not_true,Bool.false_or] at this
  exact jP.1 this
 ·have:=(all_eq_true.1 h2) i (mem_range.2 hi)
  simp only[Bool.or_eq_true,Md,ho] at this
  exact this
def unl (n:Nat)(listed:Array Bool):Ω:=(List.range n).filter fun i => !listed.getD i true
theorem tR {n i:Nat}(h:i<n):List.range n=List.range i++i::List.range' (i+1) (n - i - 1):=by
 have h1:n=i+(1+(n - i - 1)):=by omega
 conv=>lhs;rw[range_eq_range',h1,← range'_append (step:=1)]
 simp only[Nat.zero_add,Nat.one_mul]
 rw[Nat.add_comm 1 (n - i - 1),range'_succ,range_eq_range']
theorem Mq {n i:Nat}{listed:Array Bool}(hi:i<n)(hu:listed.getD i true=false)(hs:listed.size=n) :
  ∃ A B,unl n listed=A++i::B∧unl n (listed.setIfInBounds i true)=A++B∧∀ a ∈ A,a<i∧listed.getD a true=false:=by
 refine⟨(List.range i).filter fun k => !listed.getD k true,(List.range' (i+1) (n - i - 1)).filter fun k => !listed.getD k true,?_,?_,?_⟩
 ·unfold unl
  rw[tR hi,filter_append,filter_cons,if_pos (by simp[hu])]
 ·unfold unl
  rw[tR hi,filter_append,filter_cons,if_neg]
  ·congr 1
   ·apply filter_congr
    intro k hk
    rw[getD_set_ne true (by simp at hk;omega)]
   ·apply filter_congr
    intro k hk
    rw[getD_set_ne true (by simp[mem_range'] at hk;omega)]
  ·simp[hs,hi]
 ·intro a ha
  simp only[mem_filter,mem_range,Bool.not_eq_true'] at ha
  exact ha
def X8 (ops:Array Oper)(listed:Array Bool):Prop :=
 ∀ j,j<ops.size→listed.getD j true=true→∀ i,((Region.before ops).getD j 0).testBit i=true→listed.getD i true=true
theorem B8 {listed:Array Bool}{i:Nat}(h:listed.getD i false=true):listed.getD i true=true:=by
 rcases Nat.lt_or_ge i listed.size with h' | h'
 ·simpa [h'] using h
 ·simp[Array.getElem?_eq_none h']
theorem wE {i:Nat}{listed:Array Bool}(hc:X8 ops listed)(hr:i ∈ Region.ready .any ops listed):i<ops.size∧listed.getD i true=false∧∀ k,((Region.before ops).getD i 0).testBit k=true→listed.getD k true=true:=by
 obtain⟨h0,o,ho,hall⟩:=mem_ready.1 hr
 have hlt:=(Array.getElem?_eq_some_iff.1 ho).1
 refine⟨hlt,h0,fun k hk => ?_⟩
 obtain⟨hb,hs⟩:=F0 ops
 obtain⟨o',h1,e,h2,h3,h4⟩:=hb i (by omega) k hk
 rw[ho] at h1;cases h1
 have hl:=B8 (hall e h2 h3)
 rcases h4 with rfl | ⟨h5,h6⟩
 ·exact hl
 ·exact hc e.on (by omega) hl k h6
theorem agO {Q:Exit→Act→World→Prop}{G:X→Act→World→Prop}(hst:vZ ops=true)
  (hcomm:∀ i j,i<j→j<ops.size→((Region.before ops).getD j 0).testBit i=false→Comm C run ops Φ i j)
  (hG:∀ i x y a w K,yB C run ops Φ i x y→G x a w→(∀ a w,G y a w→K a w)→wpOp C.P ops Q i K a w) (z:X) (hQ:∀ a w,G z a w→Q .normal a w) :
  ∀ (fuel:Nat) (listed:Array Bool) (x:X) (a:Act) (w:World),listed.size=ops.size→X8 ops listed→(unl ops.size listed).length≤fuel→Fold C run ops Φ (unl ops.size listed) x z→G x a w→wpAny C.P .any ops Q fuel listed a w:=by
 have hready:∀ listed:Array Bool,listed.size=ops.size→Region.ready .any ops listed=[]→unl ops.size listed=[]:=fun listed hs hr=>by
  have key:∀ m,∀ i,i<m→i<ops.size→listed.getD i true=true:=by
   intro m
   induction m with
   | zero=>intro i h;omega
   | succ m ih =>
    intro i him hi
    cases hl:listed.getD i true with
    | true=>rfl
    | false =>
     have ho:ops[i]?=some ops[i]:=Array.getElem?_eq_getElem hi
     have:i ∈ Region.ready .any ops listed:=mem_ready.2 ⟨hl,ops[i],ho,fun e he hb=>by
      have hlt:=(tF hst ho).1 e he hb
      have:=ih e.on (by omega) (by omega)
      have hls:e.on<listed.size:=by omega
      simp[hls] at this
      simp[hls,this]⟩
     rw[hr] at this;cases this
  unfold unl
  rw[filter_eq_nil_iff]
  intro i hi
  have:=key (i+1) i (by omega) (mem_range.1 hi)
  simp at this
  simp[this]
 intro fuel
 induction fuel with
 | zero =>
  intro listed x a w hs hc hl hf hg
  have hu:unl ops.size listed=[]:=length_eq_zero_iff.1 (by omega)
  rw[hu] at hf
  cases hf
  refine⟨?_,hQ _ _ hg⟩
  cases hr:Region.ready .any ops listed with
  | nil=>rfl
  | cons i l =>
   obtain⟨h1,h2,_⟩:=wE hc (i:=i) (by rw[hr];simp)
   have:i ∈ unl ops.size listed:=mem_filter.2 ⟨mem_range.2 h1,by rw[h2];rfl⟩
   rw[hu] at this;cases this
 | succ fuel ih =>
  intro listed x a w hs hc hl hf hg
  refine⟨fun hr => ?_,fun i hi => ?_⟩
  ·have hu:=hready listed hs hr
   rw[hu] at hf
   cases hf
   exact hQ _ _ hg
  ·obtain⟨h1,h2,h3⟩:=wE hc hi
   obtain⟨A,B,e1,e2,e3⟩:=Mq h1 h2 hs
   rw[e1] at hf hl
   obtain⟨y,s1,s2⟩:=XD A x z hf fun b hb=>by
    obtain⟨h4,h5⟩:=e3 b hb
    refine hcomm b i h4 h1 ?_
    cases hbit:((Region.before ops).getD i 0).testBit b with
    | false=>rfl
    | true=>have:=h3 b hbit;rw[h5] at this;cases this
   refine hG i x y a w _ s1 hg fun a' w' hg'=>ih (listed.setIfInBounds i true) y a' w' (by simpa using hs) ?_ ?_ ?_ hg'
   ·intro j hj hlj k hk
    by_cases hji:j=i
    ·subst hji
     have:=h3 k hk
     by_cases hkj:k=j
     ·subst hkj;exact hlj
     ·rw[getD_set_ne true (Ne.symm hkj)];exact this
    ·rw[getD_set_ne true (Ne.symm hji)] at hlj
     have:=hc j hj hlj k hk
     by_cases hki:k=i
     ·subst hki
      rw[h2] at this;cases this
     ·rw[getD_set_ne true (Ne.symm hki)];exact this
   ·rw[e2];simp at hl ⊢;omega
   ·rw[e2];exact s2
theorem LC:∀ (l:List Oper) (st st':St) (fps:List FP) (k:Nat),aq C run true ops l st=some (st',fps)→(∀ j,j<l.length→ops[k+j]?=l[j]?)→(∀ j,j<l.length→Φ[k+j]?=fps[j]?) →
  Fold C run ops Φ (List.range' k l.length) (st.fr,st.hp) (st'.fr,st'.hp)∧fps.length=l.length
 | [],st,st',fps,k,h,_,_=>by
  simp only[aq,OiE,PiE] at h
  obtain⟨rfl,rfl⟩:=h
  exact⟨rfl,rfl⟩
 | o::l,st,st',fps,k,h,h1,h2=>by
  simp only[aq] at h
  split at h
  ·rename_i st1 fp ho
   split at h
   ·rename_i st2 fps' hl
    simp only[OiE,PiE] at h
    obtain⟨rfl,rfl⟩:=h
    obtain⟨h3,h4⟩:=LC l st1 st2 fps' (k+1) hl (fun j hj=>by have:=h1 (j+1) (by simpa using hj);rw[show k+1+j=k+(j+1) by omega,this];simp)
     (fun j hj=>by have:=h2 (j+1) (by simpa using hj);rw[show k+1+j=k+(j+1) by omega,this];simp)
    refine⟨?_,by simp[h4]⟩
    rw[length_cons,range'_succ]
    refine⟨(st1.fr,st1.hp),?_,h3⟩
    unfold ar at ho
    split at ho
    ·rename_i v hp fp' e
     simp only[OiE,PiE] at ho
     obtain⟨rfl,rfl⟩:=ho
     exact⟨o,v,fp',by have:=h1 0 (by simp);simpa using this,e,by have:=h2 0 (by simp);simpa using this,rfl⟩
    ·cases ho
   ·cases h
  ·cases h
theorem mo:∀ (fps:List FP) (n i:Nat) (F:FP),fps[i]?=some F→F.free=false→(n+i,F) ∈ number n fps
 | [],n,i,F,h,_=>by simp at h
 | a::l,n,i,F,h,hF=>by
  unfold number
  cases i with
  | zero =>
   simp at h;subst h
   simp[hF]
  | succ i =>
   simp at h
   have:=mo l (n+1) i F h hF
   rw[show n+1+i=n+(i+1) by omega] at this
   cases ha:a.free with
   | true=>simpa using this
   | false=>simp[this]
theorem xt {bs:Array Nat} : ∀ (fps:List FP) (n i j:Nat) (F G:FP),cC bs (number n fps)=true→i<j→fps[i]?=some F→fps[j]?=some G→F.free=false→G.free=false→F.apart G=true∨(bs.getD (n+j) 0).testBit (n+i)=true
 | [],n,i,j,F,G,_,_,h,_,_,_=>by simp at h
 | a::l,n,i,j,F,G,hp,hij,hi,hj,hF,hG=>by
  obtain⟨j,rfl⟩:∃ j',j=j'+1:=⟨j - 1,by omega⟩
  simp at hj
  cases i with
  | zero =>
   simp at hi;subst hi
   unfold number at hp
   simp only[hF,cond_false,cC,Bool.and_eq_true,all_eq_true,Bool.or_eq_true] at hp
   have:=hp.1 _ (mo l (n+1) j G hj hG)
   rw[show n+1+j=n+(j+1) by omega] at this
   exact this
  | succ i =>
   simp at hi
   have hp':cC bs (number (n+1) l)=true:=by
    unfold number at hp
    cases ha:a.free with
    | true=>simpa [ha] using hp
    | false=>simp only[ha,cond_false,cC,Bool.and_eq_true] at hp;exact hp.2
   have:=xt l (n+1) i j F G hp' (by omega) hi hj hF hG
   rw[show n+1+j=n+(j+1) by omega,show n+1+i=n+(i+1) by omega] at this
   exact this
theorem uu {fps:List FP}{n i j:Nat}{F G:FP}(hij:i≠j)(hi:fps[i]?=some F)(hj:fps[j]?=some G)(hF:F.free=false)(hG:G.free=false):2≤(number n fps).length:=by
 have h1:=mo fps n i F hi hF
 have h2:=mo fps n j G hj hG
 cases h:number n fps with
 | nil=>rw[h] at h1;cases h1
 | cons a l=>cases l with
  | nil =>
   rw[h] at h1 h2
   simp at h1 h2
   have:=congrArg Prod.fst (h1.trans h2.symm)
   simp at this
   omega
  | cons b l=>simp
variable {H:Nat→Prop} {w0:World} {σ0:List Addr} {hp0:Θ}
theorem V.drawn {w:World}{n:Nat}{M:Nat→Prop}{σ:List Addr}{L:Nat→Prop}{p:PV}{v:Value}(h:V w M σ L p v):V { w with drawn:=n } M σ L p v:=by
 have:Step w M σ L { w with drawn:=n } M σ L:=⟨rfl,rfl,rfl,Nat.le_refl _,fun _ _ h=>h,fun _ _ _=>rfl,ir fun _ c _ _ h=>⟨c,h,rfl⟩,fun _ _ h=>h,fun _ _ h=>h⟩
 have h':V w (fun b=>False∨M b) σ L p v:=by simpa using h
 simpa using V.stepG (H:=fun _=>False) this h'
theorem gJ.drawn {w:World}{n:Nat}{M:Nat→Prop}{σ:List Addr}{L:Nat→Prop} : ∀ {cs:Ψ} {es:List MapEntry},gJ w M σ L cs es→gJ { w with drawn:=n } M σ L cs es
 | [],[],_=>trivial
 | k::v::r,e::es,hr=>⟨hr.1.drawn,hr.2.1.drawn,gJ.drawn hr.2.2⟩
 | [],_::_,hr=>hr.elim
 | [_],[],hr=>hr.elim
 | [_],_::_,hr=>hr.elim
 | _::_::_,[],hr=>hr.elim
theorem Good.drawn {st:St}{a:Act}{w:World}(h:Good H w0 σ0 hp0 st a w)(n:Nat):Good H w0 σ0 hp0 st a { w with drawn:=n } := by
 obtain⟨σ,S,hf,stp,hd⟩:=h
 refine⟨σ,⟨S.len,S.spot,S.foreign,fun i st cs a h1 h2 h3 k c h4 => ?_,S.own,S.live,S.inj,fun i cs a h1 h2 => ?_,S.injm⟩,⟨hf.len,fun k p v h1 h2=>(hf.get k p v h1 h2).drawn⟩,⟨stp.os,stp.tape,stp.output,stp.size,stp.pre,stp.same,stp.shape,stp.hot,stp.live⟩,hd⟩
 ·obtain⟨v,h5,h6⟩:=S.cells i st cs a h1 h2 h3 k c h4
  exact⟨v,h5,h6.drawn⟩
 ·obtain⟨h3,es,ck,h4,h5⟩:=S.maps i cs a h1 h2
  exact⟨h3,es,ck,h4,h5.drawn⟩
theorem Z3 (hm:C.P.follows .mixedOrders=true)(hT:gh C.P C.T)(hR:uF C run)(hE:fQ run)(hO:uG C){dr:Bool}{id:Nat}{st st':St}{a:Act}{w:World}(hst:dr=true→vZ ops=true)(h:aH C run ops dr st=some st')
  {Q:Exit→Act→World→Prop} (hg:Good H w0 σ0 hp0 st a w) (hQ:∀ a' w',Good H w0 σ0 hp0 st' a' w'→Q .normal a' w'):(Code.region id ops dr).wp C.P Q a w:=by
 unfold aH at h
 split at h
 ·rename_i st1 fps e
  cases dr with
  | false =>
   simp only[cond_false,OiE] at h
   subst h
   exact wp_region_list (Fb hT hR hE hO _ _ _ _ _ _ e hg hQ)
  | true =>
   have hst:=hst rfl
   simp only[cond_true] at h
   have hsm:∀ {i:Nat} {o:Oper},ops[i]?=some o→i<ops.size:=fun h=>(Array.getElem?_eq_some_iff.1 h).1
   obtain⟨hfold,hlen⟩:=LC (Φ:=fps) ops.toList st st1 fps 0 e (fun j hj=>by simp) (fun j hj=>by simp)
   have hst':st'=st1∧∀ i j F G,i<j→fps[i]?=some F→fps[j]?=some G→((Region.before ops).getD j 0).testBit i=false→Gv F G:=by
    have hmain:∀ i j F G,i<j→fps[i]?=some F→fps[j]?=some G→((Region.before ops).getD j 0).testBit i=false→(F.free=false→G.free=false→cC (Region.before ops) (number 0 fps)=true)→Gv F G:=fun i j F G hij hi hj hb hh=>by
     cases hF:F.free with
     | true=>exact yy (.inl hF)
     | false=>cases hG:G.free with
      | true=>exact yy (.inr hG)
      | false =>
       rcases xt fps 0 i j F G (hh hF hG) hij hi hj hF hG with h1 | h1
       ·exact XK h1
       ·simp only[Nat.zero_add] at h1;rw[hb] at h1;cases h1
    split at h
    ·rename_i en
     refine⟨by simpa using h.symm,fun i j F G hij hi hj hb=>hmain i j F G hij hi hj hb fun hF hG => ?_⟩
     have:=uu (n:=0) (Nat.ne_of_lt hij) hi hj hF hG
     rw[en] at this;simp at this
    ·rename_i en
     refine⟨by simpa using h.symm,fun i j F G hij hi hj hb=>hmain i j F G hij hi hj hb fun hF hG => ?_⟩
     have:=uu (n:=0) (Nat.ne_of_lt hij) hi hj hF hG
     rw[en] at this;simp at this
    ·cases hp:cC (Region.before ops) (number 0 fps) with
     | true =>
      rw[hp] at h
      refine⟨by simpa using h.symm,fun i j F G hij hi hj hb=>hmain i j F G hij hi hj hb fun _ _=>hp⟩
     | false=>rw[hp] at h;cases h
   obtain⟨rfl,hap⟩:=hst'
   refine wp_region_any hm ?_
   refine agO (run:=run) (Φ:=fps) (G:=fun x a w=>Good H w0 σ0 hp0 ⟨x.1,x.2,[]⟩ a w) hst ?_ ?_ (st'.fr,st'.hp) (fun a w hg=>hQ a w hg) ops.size _ (st.fr,st.hp) a _ (by simp) ?_ ?_ ?_ (Good.drawn hg _)
   ·intro i j hij hj hb
    have ho1:ops[i]?=some (ops[i]'(by omega)):=Array.getElem?_eq_getElem (by omega)
    have ho2:ops[j]?=some (ops[j]'hj):=Array.getElem?_eq_getElem hj
    have hl:fps.length=ops.size:=by simpa using hlen
    have hf1:fps[i]?=some (fps[i]'(by omega)):=getElem?_eq_getElem (by omega)
    have hf2:fps[j]?=some (fps[j]'(by omega)):=getElem?_eq_getElem (by omega)
    refine ac1 hE ho1 ho2 hf1 hf2 ?_ (hap i j _ _ hij hf1 hf2 hb)
    rcases (tF hst ho2).2 i _ hij ho1 with h1 | h1
    ·rw[hb] at h1;cases h1
    ·exact h1
   ·rintro i ⟨fr,hp⟩ ⟨fr',hp'⟩ a w K ⟨o,v,fp,h1,h2,h3,h4⟩ hg hK
    dsimp only at h2 h4 hg hK
    subst h4
    have hop:ar C run true ops o ⟨fr,hp,[]⟩=some (⟨aC fr o.dst v,hp',aG fp.wr []⟩,fp):=by
     unfold ar;rw[h2]
    have:=Es (Q:=Q) hT hR hE hO hop hg (K:=K) fun a' w' hg'=>hK a' w' hg'
    unfold wpOp
    rw[h1]
    dsimp only
    split
    ·rename_i hw;rw[if_pos hw] at this;exact .inl this
    ·rename_i hw;rw[if_neg hw] at this;exact this
   ·intro j hj hl
    simp[hj] at hl
   ·unfold unl;exact Nat.le_trans (length_filter_le _ _) (by simp)
   ·have:unl ops.size (Array.replicate ops.size false)=List.range' 0 ops.toList.length:=by
     unfold unl
     rw[filter_eq_self.2]
     ·simp[range_eq_range']
     ·intro i hi
      simp[mem_range.1 hi]
    rw[this];exact hfold
 ·cases h
end
end Go.Ab
