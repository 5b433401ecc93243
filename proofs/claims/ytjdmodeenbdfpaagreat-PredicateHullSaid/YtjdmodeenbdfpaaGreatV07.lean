/- An abstract interpreter over the model's code and its soundness, part 7; each lemma states its conditions. -/
import Derived.Test.YtjdmodeenbdfpaaGreatV06
import Derived.Below
import Derived.Carry
import Derived.OpenShut
import Derived.ChangeArms
import Derived.ChangeSlices
import Derived.DataReads
import Derived.WideShapes
import Derived.SizedLaws
set_option linter.unusedSimpArgs false
set_option linter.unusedVariables false
namespace Go.Ab
open Go List
structure Lp where
 (r1 r3 e e2 i x a b c d u v:Nat)
 (t q1 q2 q3 q4 q5 q6 q7 qa qb qc qd:TypeId)
 (s1 s2 s3 s4 s5 s6 s7:String)
 (g1 g2 g3 g4 g5 g6 g7:Array Edge)
 deriving Inhabited
def y7:Code→Lp
 | .seq (.seq (.region r1 o1 _) (.cond _ _ (.exit e))) (.seq (.block e2 _) (.region r3 o3 _)) =>
  match o1.toList,o3.toList with
  | [⟨some a,.move (.tmp i),q1,s1,g1,_⟩,⟨some b,.move (.tmp x),q2,s2,g2,_⟩,⟨some c,.call ⟨_,_,ts⟩,q3,s3,g3,_⟩,⟨some d,.binOp _ qa _ _ qb,q4,s4,g4,_⟩],[⟨some u,_,q5,s5,g5,_⟩,⟨some v,.binOp _ qc _ _ qd,q6,s6,g6,_⟩,⟨_,_,q7,s7,g7,_⟩] =>
   ⟨r1,r3,e,e2,i,x,a,b,c,d,u,v,ts.getD 0 0,q1,q2,q3,q4,q5,q6,q7,qa,qb,qc,qd,s1,s2,s3,s4,s5,s6,s7,g1,g2,g3,g4,g5,g6,g7⟩
  | _,_=>default
 | _=>default
def jb:Code→Code
 | .seq _ (.seq (.block _ b) _)=>b
 | c=>c
def Lp.code (l:Lp)(body:Code):Code :=
 .seq (.seq (.region l.r1 #[
  { dst:=some l.a,op:=.move (.tmp l.i),type:=l.q1,pos:=l.s1,after:=l.g1,guard:=none },
  { dst:=some l.b,op:=.move (.tmp l.x),type:=l.q2,pos:=l.s2,after:=l.g2,guard:=none },
  { dst:=some l.c,op:=.call { callee:=.builtin .len,args:=#[.tmp l.b],argTypes:=#[l.t] },type:=l.q3,pos:=l.s3,after:=l.g3,guard:=none },
  { dst:=some l.d,op:=.binOp .lss l.qa (.tmp l.a) (.tmp l.c) l.qb,type:=l.q4,pos:=l.s4,after:=l.g4,guard:=none }] false)
  (.cond (.tmp l.d) .skip (.exit l.e)))
 (.seq (.block l.e2 body) (.region l.r3 #[
  { dst:=some l.u,op:=.move (.tmp l.i),type:=l.q5,pos:=l.s5,after:=l.g5,guard:=none },
  { dst:=some l.v,op:=.binOp .add l.qc (.tmp l.u) (.const (.int .i64 1)) l.qd,type:=l.q6,pos:=l.s6,after:=l.g6,guard:=none },
  { dst:=some l.i,op:=.assign (.tmp l.v),type:=l.q7,pos:=l.s7,after:=l.g7,guard:=none }] false))
def Lp.ok (l:Lp)(m:Nat):Bool :=
 decide (l.i<m∧l.x<m∧l.a<m∧l.b<m∧l.c<m∧l.d<m∧l.u<m∧l.v<m∧l.a≠l.b∧l.a≠l.c∧l.x≠l.i∧l.x≠l.a∧l.x≠l.b∧l.x≠l.c∧l.x≠l.d∧l.x≠l.u∧l.x≠l.v∧l.i≠l.a∧l.i≠l.b∧l.i≠l.c∧l.i≠l.d)
def Lp.own (l:Lp)(t:Nat):Bool:=t.beq l.i || t.beq l.a || t.beq l.b || t.beq l.c || t.beq l.d || t.beq l.u || t.beq l.v
theorem mO (fr:Ψ)(d t:Nat)(v:PV)(hd:d<fr.length):nth (eX fr d v) t=if t=d then v else nth fr t:=by
 by_cases h:t=d
 ·subst h;rw[if_pos rfl,th,jZ];simp[hd]
 ·rw[if_neg h];exact kz h
theorem j5 (fr:Ψ)(d:Nat)(v:PV):(eX fr d v).length=fr.length:=by rw[jZ];simp
section
variable {C:Cfg} {run:aw} {k m:Nat} {l:Lp} {body:Code}
theorem Lp.test (hok:l.ok m=true)(hu:∃ el,und C.T l.t=some (.slice el)){fr:Ψ}{hp:Θ}{wr:Ω}{j n:Nat}{p:PV}(h0:fr.length=m)(hi:nth fr l.i = .sc (.int .i64 (j:Int)))(hx:nth fr l.x=p)(hp':cX p=some n) :
  ∃ fr',ae C run k (seq1 (l.code body)) ⟨fr,hp,wr⟩=some (bif j.blt n then .normal else .exit l.e,⟨fr',hp,wr⟩):=by
 obtain⟨el,hu⟩:=hu
 have hok':=of_decide_eq_true hok
 clear hok
 obtain⟨o1,o2,o3,o4,o5,o6,o7,o8,n1,n2,n3,n4,n5,n6,n7,n8,n9,n10,n11,n12,n13⟩:=hok'
 rw[← h0] at o1 o2 o3 o4 o5 o6 o7 o8
 have e1:nth (eX fr l.a (.sc (.int .i64 (j:Int)))) l.x=p:=by rw[kz n4];exact hx
 have e2:nth (eX (eX fr l.a (.sc (.int .i64 (j:Int)))) l.b p) l.b=p:=by rw[mO _ _ _ _ (by rw[j5];exact o4),if_pos rfl]
 have e3:nth (eX (eX (eX fr l.a (.sc (.int .i64 (j:Int)))) l.b p) l.c (.sc (.int .i64 (n:Int)))) l.a = .sc (.int .i64 (j:Int)):=by
  rw[kz n2,kz n1,mO _ _ _ _ o3,if_pos rfl]
 have e4:nth (eX (eX (eX fr l.a (.sc (.int .i64 (j:Int)))) l.b p) l.c (.sc (.int .i64 (n:Int)))) l.c = .sc (.int .i64 (n:Int)):=by
  rw[mO _ _ _ _ (by rw[j5,j5];exact o5),if_pos rfl]
 have e5:∀ v,nth (eX (eX (eX (eX fr l.a (.sc (.int .i64 (j:Int)))) l.b p) l.c (.sc (.int .i64 (n:Int)))) l.d v) l.d=v:=fun v=>by
  rw[mO _ _ _ _ (by rw[j5,j5,j5];exact o6),if_pos rfl]
 have hl:((j:Int)<(n:Int)) ↔ j<n:=Int.ofNat_lt
 by_cases hj:j<n
 ·have hb:j.blt n=true:=by rw[Nat.blt_eq];exact hj
  simp[Lp.code,seq1,ae,aH,ao,aq,aG,ag,ah,an,aj,aF,aZ,au,bf,bL,FzZ,aC,hu,hp',hi,e1,e2,e3,e4,e5,hj,hb]
 ·have hb:j.blt n=false:=by cases e:j.blt n with | false=>rfl | true=>rw[Nat.blt_eq] at e;exact absurd e hj
  simp[Lp.code,seq1,ae,aH,ao,aq,aG,ag,ah,an,aj,aF,aZ,au,bf,bL,FzZ,aC,hu,hp',hi,e1,e2,e3,e4,e5,hj,hb]
theorem Lp.inc (hok:l.ok m=true){fr:Ψ}{hp:Θ}{wr:Ω}{j:Nat}(h0:fr.length=m)(hi:nth fr l.i = .sc (.int .i64 (j:Int)))(hj:j<9223372036854775807) :
  ∃ fr',ae C run k (aQ (aQ (l.code body))) ⟨fr,hp,wr⟩=some (.normal,⟨fr',hp,wr⟩)∧nth fr' l.i = .sc (.int .i64 ((j+1:Nat):Int)):=by
 have hok':=of_decide_eq_true hok
 clear hok
 obtain⟨o1,o2,o3,o4,o5,o6,o7,o8,-⟩:=hok'
 rw[← h0] at o1 o7 o8
 have hw:=bD j hj
 have e1:nth (eX fr l.u (.sc (.int .i64 (j:Int)))) l.u = .sc (.int .i64 (j:Int)):=by rw[mO _ _ _ _ o7,if_pos rfl]
 have e2:∀ v,nth (eX (eX fr l.u (.sc (.int .i64 (j:Int)))) l.v v) l.v=v:=fun v=>by rw[mO _ _ _ _ (by rw[j5];exact o8),if_pos rfl]
 have e3:∀ v w,nth (eX (eX (eX fr l.u (.sc (.int .i64 (j:Int)))) l.v v) l.i w) l.i=w:=fun v w=>by rw[mO _ _ _ _ (by rw[j5,j5];exact o1),if_pos rfl]
 simp[Lp.code,aQ,ae,aH,ao,aq,aG,ag,ah,an,aj,aF,aZ,au,bf,av,FzZ,aC,hi,e1,e2,e3,hw]
theorem Lp.split (b:Code):l.code b = .seq (seq1 (l.code b)) (.seq (.block l.e2 b) (aQ (aQ (l.code b)))):=rfl
theorem Lp.akU {B:Code}(hB:B=l.code body)(hok:l.ok m=true)(htb:dp body l.i=false)(hxt:dp B l.x=false)(hu:∃ el,und C.T l.t=some (.slice el)){n j0:Nat}(hk:n - j0<k)(hn:n<9223372036854775807)(hj0:j0≤n){J:Nat→(Nat→PV)→Θ→Prop}{R:St→Prop}{fr0:Ψ}{hp0:Θ}{wr0:Ω}{p:PV}(h0:fr0.length=m)(hx:nth fr0 l.x=p)(hp':cX p=some n)(hi:nth fr0 l.i = .sc (.int .i64 (j0:Int)))
  (hJ:∀ j f g hp,(∀ t,l.own t=false→f t=g t)→J j f hp→J j g hp)
  (step:∀ j fr hp wr,j0≤j→j<n→eL (dp B) fr0 fr→nth fr l.i = .sc (.int .i64 (j:Int))→J j (nth fr) hp→∃ e st',ae C run k (.block l.e2 body) ⟨fr,hp,wr⟩=some (e,st')∧((e = .normal∧J (j+1) (nth st'.fr) st'.hp)∨(e = .ret∧R st')))
  (hI:J j0 (nth fr0) hp0) :
  ∃ e st',ae C run k (.block l.e (.loop B)) ⟨fr0,hp0,wr0⟩=some (e,st')∧((e = .normal∧eL (dp B) fr0 st'.fr∧J n (nth st'.fr) st'.hp)∨(e = .ret∧R st')):=by
 subst hB
 have t1:∀ t,l.own t=false→dp (seq1 (l.code body)) t=false∧dp (aQ (aQ (l.code body))) t=false:=fun t ht=>by
  simp only[Lp.own,Bool.or_eq_false_iff] at ht
  obtain⟨⟨⟨⟨⟨⟨h1,h2⟩,h3⟩,h4⟩,h5⟩,h6⟩,h7⟩:=ht
  have c:∀ {x:Nat},t.beq x=false→x.beq t=false:=fun {x} h=>by
   cases e:x.beq t with
   | false=>rfl
   | true=>rw[Nat.eq_of_beq_eq_true e,Nat.beq_refl] at h;cases h
  simp only[Lp.code,seq1,aQ,dp,pS,c h1,c h2,c h3,c h4,c h5,c h6,c h7,Bool.or_self,and_self]
 have kk:∀ {c:Code},(∀ t,dp (l.code body) t=false→dp c t=false)→∀ {st st':St} {e:Ex},ae C run k c st=some (e,st')→eL (dp (l.code body)) st.fr st'.fr:=fun hc _ _ _ h=>(bj _ h).mono hc
 have ks:∀ t,dp (l.code body) t=false→dp (seq1 (l.code body)) t=false∧dp (.block l.e2 body) t=false∧dp (aQ (aQ (l.code body))) t=false:=fun t ht=>by
  rw[Lp.split body] at ht
  simp only[dp,Bool.or_eq_false_iff] at ht
  exact⟨ht.1,ht.2.1,ht.2.2⟩
 have round:∀ j fr hp wr,j0≤j→j<n→eL (dp (l.code body)) fr0 fr→nth fr l.i = .sc (.int .i64 (j:Int))→J j (nth fr) hp→∃ e st',ae C run k (l.code body) ⟨fr,hp,wr⟩=some (e,st')∧((e = .normal∧eL (dp (l.code body)) fr0 st'.fr∧nth st'.fr l.i = .sc (.int .i64 ((j+1:Nat):Int))∧J (j+1) (nth st'.fr) st'.hp)∨(e = .ret∧R st')):=by
  intro j fr hp wr hj hjn hK hij hJj
  obtain⟨fr1,a1⟩:=Lp.test (C:=C) (run:=run) (k:=k) (body:=body) hok hu (wr:=wr) (hp:=hp) (hK.len h0) hij (hK.at hx hxt) hp'
  have hb:j.blt n=true:=by rw[Nat.blt_eq];exact hjn
  rw[hb,cond_true] at a1
  have k1:=bj _ a1
  have i1:nth fr1 l.i = .sc (.int .i64 (j:Int)):=by
   refine k1.at hij ?_
   have hok':=of_decide_eq_true hok
   obtain⟨-,-,-,-,-,-,-,-,-,-,-,-,-,-,-,-,-,n10,n11,n12,n13⟩:=hok'
   have c:∀ {x y:Nat},x≠y→y.beq x=false:=fun {x y} h=>by
    cases e:y.beq x with
    | false=>rfl
    | true=>exact absurd (Nat.eq_of_beq_eq_true e).symm h
   simp only[Lp.code,seq1,dp,pS,c n10,c n11,c n12,c n13,Bool.or_self]
  have K1:=hK.trans (kk (fun t ht=>(ks t ht).1) a1)
  obtain⟨e,st,b1,b2⟩:=step j fr1 hp wr hj hjn K1 i1 (hJ j _ _ hp (fun t ht=>(k1.2 t (t1 t ht).1).symm) hJj)
  rcases b2 with ⟨rfl,b2⟩| ⟨rfl,b2⟩
  ·obtain⟨fr2,hp2,wr2⟩:=st
   have k2:=bj _ b1
   have K2:=K1.trans (kk (fun t ht=>(ks t ht).2.1) b1)
   obtain⟨fr3,c1,c2⟩:=Lp.inc (C:=C) (run:=run) (k:=k) (body:=body) hok (wr:=wr2) (hp:=hp2) (K2.len h0) (k2.at i1 htb) (by omega)
   have k3:=bj _ c1
   refine⟨.normal,⟨fr3,hp2,wr2⟩,?_,.inl ⟨rfl,K2.trans (kk (fun t ht=>(ks t ht).2.2) c1),c2,hJ (j+1) _ _ hp2 (fun t ht=>(k3.2 t (t1 t ht).2).symm) b2⟩⟩
   rw[Lp.split body,ar a1,ar b1];exact c1
  ·refine⟨.ret,st,?_,.inr ⟨rfl,b2⟩⟩
   rw[Lp.split body,ar a1]
   simp only[ae] at b1 ⊢
   rw[b1]
 have loop:∀ (d j:Nat) (fr:Ψ) (hp:Θ) (wr:Ω),j+d=n→j0≤j→eL (dp (l.code body)) fr0 fr→nth fr l.i = .sc (.int .i64 (j:Int))→J j (nth fr) hp→∃ e st',cb (ae C run k (l.code body)) (d+1) ⟨fr,hp,wr⟩=some (e,st')∧((e = .exit l.e∧eL (dp (l.code body)) fr0 st'.fr∧J n (nth st'.fr) st'.hp)∨(e = .ret∧R st')):=by
  intro d
  induction d with
  | zero =>
   intro j fr hp wr hjn hj hK hij hJj
   have e:j=n:=by omega
   subst e
   obtain⟨fr1,a1⟩:=Lp.test (C:=C) (run:=run) (k:=k) (body:=body) hok hu (wr:=wr) (hp:=hp) (hK.len h0) hij (hK.at hx hxt) hp'
   have hb:j.blt j=false:=by cases e:j.blt j with | false=>rfl | true=>rw[Nat.blt_eq] at e;omega
   rw[hb,cond_false] at a1
   have k1:=bj _ a1
   refine⟨.exit l.e,⟨fr1,hp,wr⟩,bu ?_,.inl ⟨rfl,hK.trans (kk (fun t ht=>(ks t ht).1) a1),hJ j _ _ hp (fun t ht=>(k1.2 t (t1 t ht).1).symm) hJj⟩⟩
   rw[Lp.split body]
   have:=a1
   rw[ae]
   rw[this]
  | succ d ih =>
   intro j fr hp wr hjn hj hK hij hJj
   obtain⟨e,st,a1,a2⟩:=round j fr hp wr hj (by omega) hK hij hJj
   rcases a2 with ⟨rfl,a2,a3,a4⟩| ⟨rfl,a2⟩
   ·obtain⟨e',st',b1,b2⟩:=ih (j+1) st.fr st.hp st.wr (by omega) (by omega) a2 a3 a4
    exact⟨e',st',by rw[bT a1];exact b1,b2⟩
   ·exact⟨.ret,st,du a1,.inr ⟨rfl,a2⟩⟩
 obtain⟨e,st,a1,a2⟩:=loop (n - j0) j0 fr0 hp0 wr0 (by omega) (Nat.le_refl _) (eL.refl _ _) hi hI
 have a1':=bK a1 (show n - j0+1≤k by omega)
 rcases a2 with ⟨rfl,a2⟩| ⟨rfl,a2⟩
 ·exact⟨.normal,st,bE a1',.inl ⟨rfl,a2⟩⟩
 ·exact⟨.ret,st,by simp only[ae,a1'],.inr ⟨rfl,a2⟩⟩
theorem Lp.go {B:Code}(hB:B=l.code body)(hok:l.ok m=true)(htb:dp body l.i=false)(hxt:dp B l.x=false)(hu:∃ el,und C.T l.t=some (.slice el)){n j0:Nat}(hk:n - j0<k)(hn:n<9223372036854775807)(hj0:j0≤n){J:Nat→(Nat→PV)→Θ→Prop}{fr0:Ψ}{hp0:Θ}{wr0:Ω}{p:PV}(h0:fr0.length=m)(hx:nth fr0 l.x=p)(hp':cX p=some n)(hi:nth fr0 l.i = .sc (.int .i64 (j0:Int)))
  (hJ:∀ j f g hp,(∀ t,l.own t=false→f t=g t)→J j f hp→J j g hp)
  (step:∀ j fr hp wr,j0≤j→j<n→eL (dp B) fr0 fr→nth fr l.i = .sc (.int .i64 (j:Int))→J j (nth fr) hp→∃ fr' hp' wr',ae C run k (.block l.e2 body) ⟨fr,hp,wr⟩=some (.normal,⟨fr',hp',wr'⟩)∧J (j+1) (nth fr') hp')
  (hI:J j0 (nth fr0) hp0) :
  ∃ fr' hp' wr',ae C run k (.block l.e (.loop B)) ⟨fr0,hp0,wr0⟩=some (.normal,⟨fr',hp',wr'⟩)∧eL (dp B) fr0 fr'∧J n (nth fr') hp':=by
 obtain⟨e,st,a1,a2⟩:=Lp.akU (R:=fun _=>False) hB hok htb hxt hu hk hn hj0 h0 hx hp' hi hJ (fun j fr hp wr a b c d e=>by
  obtain⟨fr',hp',wr',x1,x2⟩:=step j fr hp wr a b c d e
  exact⟨.normal,⟨fr',hp',wr'⟩,x1,.inl ⟨rfl,x2⟩⟩) hI (wr0:=wr0)
 rcases a2 with ⟨rfl,a2⟩| ⟨-,a2⟩
 ·exact⟨st.fr,st.hp,st.wr,a1,a2⟩
 ·exact a2.elim
end
end Go.Ab
namespace Go.Ab
open List
abbrev V2:=Rat × Rat
def cr (a b p:V2):Rat:=(b.1 - a.1)*(p.2 - a.2) - (b.2 - a.2)*(p.1 - a.1)
def lx (a b:V2):Prop:=a.1<b.1∨a.1=b.1∧a.2<b.2
theorem G8 {ux uy vx vy wx wy:Rat}(hu:0<ux∨ux=0∧0<uy)(hv:0<vx∨vx=0∧0<vy)(hw:0<wx∨wx=0∧0<wy)(h1:0≤ux*vy - uy*vx)(h2:0≤vx*wy - vy*wx):0≤ux*wy - uy*wx:=by
 have ux0:0≤ux:=by grind
 have wx0:0≤wx:=by grind
 rcases hv with hv | ⟨hv,hv'⟩
 ·have a:=Rat.mul_nonneg ux0 h2
  have b:=Rat.mul_nonneg wx0 h1
  have id:vx*(ux*wy - uy*wx)=ux*(vx*wy - vy*wx)+wx*(ux*vy - uy*vx):=by grind
  by_cases h:0≤ux*wy - uy*wx
  ·exact h
  ·have c:=Rat.mul_pos (a:=vx) (b := -(ux*wy - uy*wx)) hv (by grind)
   grind
 ·subst hv
  have k:wx=0:=by
   by_cases h:wx=0
   ·exact h
   ·have:=Rat.mul_pos (a:=vy) (b:=wx) hv' (by grind)
    grind
  have wy0:0≤wy:=by grind
  have:=Rat.mul_nonneg ux0 wy0
  subst k
  grind
theorem R8 {ux uy vx vy wx wy:Rat}(hu:0<ux∨ux=0∧0<uy)(hv:0<vx∨vx=0∧0<vy)(hw:0<wx∨wx=0∧0<wy)(h1:0<ux*vy - uy*vx)(h2:0≤vx*wy - vy*wx):0<ux*wy - uy*wx:=by
 have h0:=G8 hu hv hw (by grind) h2
 by_cases he:ux*wy - uy*wx=0
 ·exfalso
  have ux0:0≤ux:=by grind
  have wx0:0≤wx:=by grind
  have vx0:0≤vx:=by grind
  have id:vx*(ux*wy - uy*wx)=ux*(vx*wy - vy*wx)+wx*(ux*vy - uy*vx):=by grind
  have a:=Rat.mul_nonneg ux0 h2
  have b:=Rat.mul_nonneg wx0 (b:=ux*vy - uy*vx) (by grind)
  rw[he,Rat.mul_zero] at id
  rcases hw with hw | ⟨hw,hw'⟩
  ·have c:=Rat.mul_pos hw h1
   grind
  ·subst hw
   rcases hu with hu | ⟨hu,hu'⟩
   ·have c:=Rat.mul_pos hu hw'
    grind
   ·subst hu
    have c:=Rat.mul_nonneg vx0 (b:=uy) (by grind)
    grind
 ·grind
theorem G7 {ux uy vx vy wx wy:Rat}(hu:0<ux∨ux=0∧0<uy)(hv:0<vx∨vx=0∧0<vy)(hw:0<wx∨wx=0∧0<wy)(h1:0≤ux*vy - uy*vx)(h2:0<vx*wy - vy*wx):0<ux*wy - uy*wx:=by
 have h0:=G8 hu hv hw h1 (by grind)
 by_cases he:ux*wy - uy*wx=0
 ·exfalso
  have ux0:0≤ux:=by grind
  have wx0:0≤wx:=by grind
  have vx0:0≤vx:=by grind
  have id:vx*(ux*wy - uy*wx)=ux*(vx*wy - vy*wx)+wx*(ux*vy - uy*vx):=by grind
  have a:=Rat.mul_nonneg ux0 (b:=vx*wy - vy*wx) (by grind)
  have b:=Rat.mul_nonneg wx0 h1
  rw[he,Rat.mul_zero] at id
  rcases hu with hu | ⟨hu,hu'⟩
  ·have c:=Rat.mul_pos hu h2
   grind
  ·subst hu
   rcases hw with hw | ⟨hw,hw'⟩
   ·have c:=Rat.mul_pos hu' hw
    grind
   ·subst hw
    by_cases e:vx=0
    ·subst e;grind
    ·have c:=Rat.mul_pos (a:=uy) (b:=vx) hu' (by grind)
     grind
 ·grind
theorem fg {a b:V2}(h:lx a b):0<b.1 - a.1∨b.1 - a.1=0∧0<b.2 - a.2:=by
 unfold lx at h
 grind
theorem fc {a b c:V2}(h:lx a b)(k:lx b c):lx a c:=by
 unfold lx at *
 grind
theorem ef (a:V2) : ¬ lx a a:=by
 unfold lx
 grind
theorem lD (a b:V2):lx a b∨a=b∨lx b a:=by
 obtain⟨x,y⟩:=a
 obtain⟨z,w⟩:=b
 unfold lx
 simp only[PiE]
 grind
end Go.Ab
namespace Go.Ab
open List
def rl (p:V2):List V2→List V2
 | b::a::r=>if 0<cr a b p then b::a::r else rl p (a::r)
 | l=>l
def fj (s:List V2)(p:V2):List V2:=p::rl p s
def Cvx (Q:List V2):List V2→Prop
 | b::a::r=>lx a b∧(∀ q ∈ Q,0≤cr a b q)∧(∀ z ∈ r.head?,0<cr z a b)∧Cvx Q (a::r)
 | _=>True
theorem ahE {a b c p:V2}(h1:lx a b)(h2:lx b c)(h3:lx c p)(t1:0<cr a b c)(t2:0<cr b c p):0<cr a b p:=by
 have s:=G7 (fg h1) (fg h2) (fg h3) (by unfold cr at t1;grind) (by unfold cr at t2;grind)
 unfold cr at *
 grind
theorem Cvx.add {Q:List V2}{p:V2} : ∀ {r:List V2} {a b:V2},Cvx Q (b::a::r)→0<cr a b p→lx b p→Cvx (p::Q) (b::a::r)
 | [],a,b,h,t,hb=>by
  obtain⟨h1,h2,h3,-⟩:=h
  refine⟨h1,fun q hq => ?_,h3,trivial⟩
  rcases mem_cons.1 hq with rfl | hq
  ·grind
  ·exact h2 q hq
 | z::r,a,b,h,t,hb=>by
  obtain⟨h1,h2,h3,h4⟩:=h
  have h5:=h3 z rfl
  have hza:lx z a:=by cases r <;> exact h4.1
  refine⟨h1,fun q hq => ?_,h3,Cvx.add h4 (ahE hza h1 hb h5 t) (fc h1 hb)⟩
  rcases mem_cons.1 hq with rfl | hq
  ·grind
  ·exact h2 q hq
theorem PZ {a b p q:V2}(h1:lx a b)(h2:lx b p)(hq:lx q b)(t:0<cr a b p)(hs:0≤cr a b q):0≤cr b p q:=by
 have s:=G7 (fg hq) (fg h1) (fg h2) (by unfold cr at hs;grind) (by unfold cr at t;grind)
 unfold cr at *
 grind
theorem XZ {a b p q:V2}(h1:lx a b)(h2:lx b p)(hq:lx a q)(t : ¬ 0<cr a b p)(hs:0≤cr a b q):0≤cr a p q:=by
 have s:=G8 (fg (fc h1 h2)) (fg h1) (fg hq) (by unfold cr at t;grind) (by unfold cr at hs;grind)
 unfold cr at *
 grind
theorem ME (a p:V2):cr a p a=0:=by unfold cr;grind
theorem FT (a p:V2):cr a p p=0:=by unfold cr;grind
theorem UA {Q:List V2}{p m:V2}(hQp:∀ q ∈ Q,lx q p)(hm:∀ q ∈ Q,q=m∨lx m q):∀ {s:List V2},s.getLast?=some m→Cvx Q s→(∀ x ∈ s,x ∈ Q)→(∀ b ∈ s.head?,∀ q ∈ Q,lx b q→0≤cr b p q)→Cvx (p::Q) (p::rl p s)∧(rl p s).getLast?=some m
 | [],h,_,_,_=>by cases h
 | [b],h,_,hs,hK=>by
  have hbm:b=m:=by simpa using h
  subst hbm
  have hb:=hs b (by simp)
  refine⟨⟨hQp b hb,fun q hq => ?_,(fun z hz=>by cases hz),trivial⟩,rfl⟩
  rcases mem_cons.1 hq with rfl | hq
  ·rw[FT];exact Rat.le_refl
  ·rcases hm q hq with rfl | h'
   ·rw[ME];exact Rat.le_refl
   ·exact hK b rfl q hq h'
 | b::a::r,h,hc,hs,hK=>by
  have hb:=hs b (by simp)
  have hbp:=hQp b hb
  obtain⟨h1,h2,h3,h4⟩:=id hc
  unfold rl
  by_cases t:0<cr a b p
  ·rw[if_pos t]
   refine⟨⟨hbp,fun q hq => ?_,fun z hz => ?_,hc.add t hbp⟩,h⟩
   ·rcases mem_cons.1 hq with rfl | hq
    ·rw[FT];exact Rat.le_refl
    ·rcases lD b q with h' | rfl | h'
     ·exact hK b rfl q hq h'
     ·rw[ME];exact Rat.le_refl
     ·exact PZ h1 hbp h' t (h2 q hq)
   ·obtain rfl:a=z:=by simpa using hz
    exact t
  ·rw[if_neg t]
   refine UA hQp hm (s:=a::r) (by simpa using h) h4 (fun x hx=>hs x (mem_cons_of_mem _ hx)) (fun b' hb' q hq hlt => ?_)
   obtain rfl:a=b':=by simpa using hb'
   exact XZ h1 hbp hlt t (h2 q hq)
theorem EB {p:V2} : ∀ {s:List V2} {x:V2},x ∈ rl p s→x ∈ s
 | [],_,h=>h
 | [_],_,h=>h
 | b::a::r,x,h=>by
  unfold rl at h
  by_cases t:0<cr a b p
  ·rw[if_pos t] at h;exact h
  ·rw[if_neg t] at h;exact mem_cons_of_mem _ (EB h)
end Go.Ab
namespace Go.Ab
open List
structure ChI (Q s:List V2) (m c:V2):Prop where
 last:s.getLast?=some m
 head:s.head?=some c
 cvx:Cvx Q s
 sub:∀ x ∈ s,x ∈ Q
 low:∀ q ∈ Q,q=m∨lx m q
 top:∀ q ∈ Q,q=c∨lx q c
theorem ChI.one (p:V2):ChI [p] [p] p p:=⟨rfl,rfl,trivial,fun _ h=>h,fun q h=>.inl (by simpa using h),fun q h=>.inl (by simpa using h)⟩
theorem ChI.step {Q s:List V2}{m c p:V2}(h:ChI Q s m c)(hp:∀ q ∈ Q,lx q p):ChI (p::Q) (fj s p) m p:=by
 have hK:∀ b ∈ s.head?,∀ q ∈ Q,lx b q→0≤cr b p q:=fun b hb q hq hlt=>by
  obtain rfl:c=b:=by rw[h.head] at hb;simpa using hb
  rcases h.top q hq with rfl | h'
  ·exact absurd hlt (ef _)
  ·exact absurd (fc hlt h') (ef _)
 obtain⟨a1,a2⟩:=UA hp h.low h.last h.cvx h.sub hK
 have hm:m ∈ Q:=h.sub m (mem_of_getLast? h.last)
 refine⟨?_,rfl,a1,fun x hx => ?_,fun q hq => ?_,fun q hq => ?_⟩
 ·unfold fj
  rw[getLast?_cons,a2];rfl
 ·rcases mem_cons.1 hx with rfl | hx
  ·exact mem_cons_self
  ·exact mem_cons_of_mem _ (h.sub x (EB hx))
 ·rcases mem_cons.1 hq with rfl | hq
  ·exact .inr (hp m hm)
  ·exact h.low q hq
 ·rcases mem_cons.1 hq with rfl | hq
  ·exact .inl rfl
  ·exact .inr (hp q hq)
theorem ChI.fold {m:V2} : ∀ {l Q s:List V2} {c:V2},ChI Q s m c→(∀ p ∈ l,∀ q ∈ Q,lx q p)→l.Pairwise lx→∃ c',ChI (l.reverse++Q) (l.foldl fj s) m c'
 | [],Q,s,c,h,_,_=>⟨c,h⟩
 | p::l,Q,s,c,h,hp,hl=>by
  have h1:=h.step (hp p (by simp))
  obtain⟨k1,k2⟩:=pairwise_cons.1 hl
  obtain⟨c',h2⟩:=h1.fold (l:=l) (fun p' hp' q hq=>by
   rcases mem_cons.1 hq with rfl | hq
   ·exact k1 p' hp'
   ·exact hp p' (mem_cons_of_mem _ hp') q hq) k2
  exact⟨c',by simpa using h2⟩
theorem FZ {p:V2}{l:List V2}(h:(p::l).Pairwise lx):∃ c,ChI (l.reverse++[p]) ((p::l).foldl fj []) p c:=by
 obtain⟨k1,k2⟩:=pairwise_cons.1 h
 exact ChI.fold (ChI.one p) (fun q hq x hx=>by
  obtain rfl:x=p:=by simpa using hx
  exact k1 q hq) k2
end Go.Ab
namespace Go.Ab
open List
theorem agA {a b a' b' x:V2}(h1:lx a x)(h2:lx x b)(h3:lx a' x)(h4:lx x b')(t1:0≤cr a b x)(t2:0≤cr b' a' x) :
  cr a b x=0∨cr b' a' x=0∨cr a b' x=0∨(0<cr a b x∧0<cr b b' x∧0<cr b' a x)∨(0<cr a b' x∧0<cr b' a' x∧0<cr a' a x):=by
 by_cases e1:cr a b x=0
 ·exact .inl e1
 by_cases e2:cr b' a' x=0
 ·exact .inr (.inl e2)
 by_cases e3:cr a b' x=0
 ·exact .inr (.inr (.inl e3))
 have p1:0<cr a b x:=by grind
 have p2:0<cr b' a' x:=by grind
 by_cases s:0<cr a b' x
 ·refine .inr (.inr (.inr (.inr ⟨s,p2,?_⟩)))
  have k:=R8 (fg h3) (fg h4) (fg h1) (by unfold cr at p2;grind) (by unfold cr at s;grind)
  unfold cr at *
  grind
 ·have s':0<cr b' a x:=by unfold cr at *;grind
  refine .inr (.inr (.inr (.inl ⟨p1,?_,s'⟩)))
  have k:=R8 (fg h2) (fg h1) (fg h4) (by unfold cr at p1;grind) (by unfold cr at s';grind)
  unfold cr at *
  grind
theorem afw {a b x:V2}(h1:lx a x)(h2:lx x b)(t:cr a b x=0):(a.1 - x.1)*(b.1 - x.1)+(a.2 - x.2)*(b.2 - x.2)≤0:=by
 have u:=fg h1
 have v:=fg h2
 have id:(x.1 - a.1)*(b.2 - x.2)=(x.2 - a.2)*(b.1 - x.1):=by unfold cr at t;grind
 have k1:0≤(x.1 - a.1)*(b.1 - x.1):=Rat.mul_nonneg (by grind) (by grind)
 have k2:0≤(x.2 - a.2)*(b.2 - x.2):=by
  rcases u with u | ⟨u,u'⟩
  ·rcases v with v | ⟨v,v'⟩
   ·have m1:=Rat.mul_nonneg (a:=(x.2 - a.2)*(x.2 - a.2)) (b:=(x.1 - a.1)*(b.1 - x.1)) (by
     by_cases h:0≤x.2 - a.2
     ·exact Rat.mul_nonneg h h
     ·have:=Rat.mul_nonneg (a := -(x.2 - a.2)) (b := -(x.2 - a.2)) (by grind) (by grind)
      grind) k1
    by_cases h:0≤(x.2 - a.2)*(b.2 - x.2)
    ·exact h
    ·exfalso
     have m2:=Rat.mul_pos (a:=(x.1 - a.1)*(x.1 - a.1)) (b := -((x.2 - a.2)*(b.2 - x.2))) (Rat.mul_pos u u) (by grind)
     have id2:(x.1 - a.1)*(x.1 - a.1)*((x.2 - a.2)*(b.2 - x.2))=(x.2 - a.2)*(x.2 - a.2)*((x.1 - a.1)*(b.1 - x.1)):=by
      have:(x.1 - a.1)*(x.1 - a.1)*((x.2 - a.2)*(b.2 - x.2))=(x.1 - a.1)*(x.2 - a.2)*((x.1 - a.1)*(b.2 - x.2)):=by grind
      rw[this,id]
      grind
     grind
   ·have z:(x.1 - a.1)*(b.2 - x.2)=0:=by rw[id,v];exact Rat.mul_zero _
    have:=Rat.mul_pos u v'
    grind
  ·rcases v with v | ⟨v,v'⟩
   ·have:=Rat.mul_pos u' v
    rw[u,Rat.zero_mul] at id
    grind
   ·exact Rat.mul_nonneg (by grind) (by grind)
 grind
end Go.Ab
namespace Go.Ab
open List
def ng (p:V2):V2:=(-p.1,-p.2)
theorem rB (p:V2):ng (ng p)=p:=by simp[ng]
theorem rZ (a b p:V2):cr (ng a) (ng b) (ng p)=cr a b p:=by unfold cr ng;grind
theorem E8 {a b:V2} : lx (ng a) (ng b) ↔ lx b a:=by unfold lx ng;grind
theorem od {a b:V2}(h:ng a=ng b):a=b:=by rw[← rB a,h,rB]
theorem Lv (p:V2):∀ s:List V2,rl (ng p) (s.map ng)=(rl p s).map ng
 | []=>rfl
 | [_]=>rfl
 | b::a::r=>by
  show rl (ng p) (ng b::ng a::r.map ng)=_
  unfold rl
  rw[rZ]
  by_cases t:0<cr a b p
  ·rw[if_pos t,if_pos t];rfl
  ·rw[if_neg t,if_neg t];exact Lv p (a::r)
theorem Mo:∀ (l s:List V2),(l.map ng).foldl fj (s.map ng)=(l.foldl fj s).map ng
 | [],_=>rfl
 | p::l,s=>by
  rw[map_cons,foldl_cons,foldl_cons]
  have:fj (s.map ng) (ng p)=(fj s p).map ng:=by
   show ng p::rl (ng p) (s.map ng)=_
   rw[Lv];rfl
  rw[this]
  exact Mo l (fj s p)
theorem Ys {p:V2}{l:List V2}(h:(p::l).Pairwise fun a b=>lx b a):∃ c,ChI ((l.reverse++[p]).map ng) (((p::l).foldl fj []).map ng) (ng p) (ng c):=by
 have h':((p::l).map ng).Pairwise lx:=by
  rw[pairwise_map]
  exact h.imp fun h=>E8.2 h
 obtain⟨c,k⟩:=FZ (p:=ng p) (l:=l.map ng) h'
 refine⟨ng c,?_⟩
 rw[rB]
 have e:(ng p::l.map ng).foldl fj []=((p::l).foldl fj []).map ng:=Mo (p::l) []
 rw[e] at k
 rw[map_append,map_reverse]
 exact k
end Go.Ab
namespace Go.Ab
open List
theorem Mw {Q:List V2}{x m:V2}(hm:lx m x):∀ {s:List V2} {c:V2},s.head?=some c→s.getLast?=some m→Cvx Q s→x ∈ Q→x ∉ s→lx x c→∃ a b,a ∈ s∧b ∈ s∧lx a x∧lx x b∧0≤cr a b x
 | [],_,h,_,_,_,_,_=>by cases h
 | [b],c,h,hl,_,_,_,hc=>by
  have e1:b=c:=by simpa using h
  have e2:b=m:=by simpa using hl
  subst e1;subst e2
  exact absurd (fc hm hc) (ef _)
 | b::a::r,c,h,hl,hv,hx,hn,hc=>by
  have e1:b=c:=by simpa using h
  subst e1
  obtain⟨h1,h2,-,h4⟩:=hv
  rcases lD a x with k | rfl | k
  ·exact⟨a,b,by simp,by simp,k,hc,h2 x hx⟩
  ·exact absurd (by simp) hn
  ·obtain⟨a',b',k1,k2,k3⟩:=Mw hm (s:=a::r) rfl (by simpa using hl) h4 hx (fun h=>hn (mem_cons_of_mem _ h)) k
   exact⟨a',b',mem_cons_of_mem _ k1,mem_cons_of_mem _ k2,k3⟩
theorem ChI.akj {Q s:List V2}{m c x:V2}(h:ChI Q s m c)(hx:x ∈ Q)(hn:x ∉ s):∃ a b,a ∈ s∧b ∈ s∧lx a x∧lx x b∧0≤cr a b x:=by
 have hm:lx m x:=by
  rcases h.low x hx with rfl | k
  ·exact absurd (mem_of_getLast? h.last) hn
  ·exact k
 have hc:lx x c:=by
  rcases h.top x hx with rfl | k
  ·exact absurd (mem_of_mem_head? (by rw[h.head];rfl)) hn
  ·exact k
 exact Mw hm h.head h.last h.cvx hx hn hc
def sO (a b x:V2):Prop:=cr a b x=0∧(a.1 - x.1)*(b.1 - x.1)+(a.2 - x.2)*(b.2 - x.2)≤0
def pR (a b c x:V2):Prop:=(0<cr a b x∧0<cr b c x∧0<cr c a x)∨(cr a b x<0∧cr b c x<0∧cr c a x<0)
def InV (S:V2→Prop)(x:V2):Prop:=∃ a b,S a∧S b∧(sO a b x∨∃ c,S c∧pR a b c x)
theorem sq_pos {p q:Rat}(h:p≠0∨q≠0):0<p*p+q*q:=by
 have k:∀ z:Rat,0≤z*z:=fun z=>by
  by_cases h:0≤z
  ·exact Rat.mul_nonneg h h
  ·have:=Rat.mul_nonneg (a := -z) (b := -z) (by grind) (by grind)
   grind
 have k1:=k p
 have k2:=k q
 by_cases e:p*p+q*q=0
 ·exfalso
  have e1:p*p=0:=by grind
  have e2:q*q=0:=by grind
  rcases Rat.mul_eq_zero.1 e1 with a | a <;> rcases Rat.mul_eq_zero.1 e2 with b | b <;> rcases h with h | h <;> contradiction
 ·grind
theorem vH {p1 p2 q1 q2 g1 g2:Rat}(hc:p1*q2 - p2*q1=0)(hd:p1*q1+p2*q2≤0)(hp:p1≠0∨p2≠0)(hg:0≤g1*p1+g2*p2)(hh:0≤g1*q1+g2*q2):g1*q1+g2*q2=0:=by
 have s:=sq_pos hp
 have id:(p1*p1+p2*p2)*(g1*q1+g2*q2)=(p1*q1+p2*q2)*(g1*p1+g2*p2)+(p1*q2 - p2*q1)*(g2*p1 - g1*p2):=by grind
 rw[hc,Rat.zero_mul,Rat.add_zero] at id
 by_cases e:g1*q1+g2*q2=0
 ·exact e
 ·have a:=Rat.mul_pos s (b:=g1*q1+g2*q2) (by grind)
  have b:=Rat.mul_nonneg (a := -(p1*q1+p2*q2)) (by grind) hg
  grind
theorem pj {α β γ a b c:Rat}(h:α*a+β*b+γ*c=0)(h1:0<α)(h2:0<β)(h3:0<γ)(ha:0≤a)(hb:0≤b)(hc:0≤c):a=0∧b=0∧c=0:=by
 have ka:=Rat.mul_nonneg (a:=α) (by grind) ha
 have kb:=Rat.mul_nonneg (a:=β) (by grind) hb
 have kc:=Rat.mul_nonneg (a:=γ) (by grind) hc
 have ea:α*a=0:=by grind
 have eb:β*b=0:=by grind
 have ec:γ*c=0:=by grind
 refine⟨?_,?_,?_⟩
 ·rcases Rat.mul_eq_zero.1 ea with e | e
  ·grind
  ·exact e
 ·rcases Rat.mul_eq_zero.1 eb with e | e
  ·grind
  ·exact e
 ·rcases Rat.mul_eq_zero.1 ec with e | e
  ·grind
  ·exact e
end Go.Ab
namespace Go.Ab
open List
theorem nc (a b x:V2):cr a b x=(a.1 - x.1)*(b.2 - x.2) - (a.2 - x.2)*(b.1 - x.1):=by unfold cr;grind
theorem ady {S:V2→Prop}{x:V2}{g1 g2 h1 h2:Rat}(hD:g1*h2 - g2*h1≠0)(hS:∀ q,S q→q≠x∧0≤g1*(q.1 - x.1)+g2*(q.2 - x.2)∧0≤h1*(q.1 - x.1)+h2*(q.2 - x.2)) : ¬ InV S x:=by
 have van:∀ q:V2,g1*(q.1 - x.1)+g2*(q.2 - x.2)=0→h1*(q.1 - x.1)+h2*(q.2 - x.2)=0→q=x:=fun q e f=>by
  have k1:(g1*h2 - g2*h1)*(q.1 - x.1)=0:=by
   have:(g1*h2 - g2*h1)*(q.1 - x.1)=h2*(g1*(q.1 - x.1)+g2*(q.2 - x.2)) - g2*(h1*(q.1 - x.1)+h2*(q.2 - x.2)):=by grind
   rw[this,e,f];grind
  have k2:(g1*h2 - g2*h1)*(q.2 - x.2)=0:=by
   have:(g1*h2 - g2*h1)*(q.2 - x.2)=g1*(h1*(q.1 - x.1)+h2*(q.2 - x.2)) - h1*(g1*(q.1 - x.1)+g2*(q.2 - x.2)):=by grind
   rw[this,e,f];grind
  have e1:q.1 - x.1=0:=by
   rcases Rat.mul_eq_zero.1 k1 with e | e
   ·exact absurd e hD
   ·exact e
  have e2:q.2 - x.2=0:=by
   rcases Rat.mul_eq_zero.1 k2 with e | e
   ·exact absurd e hD
   ·exact e
  exact Prod.ext (by grind) (by grind)
 have ne0:∀ q:V2,q≠x→q.1 - x.1≠0∨q.2 - x.2≠0:=fun q hq=>by
  by_cases e1:q.1 - x.1=0
  ·by_cases e2:q.2 - x.2=0
   ·exact absurd (Prod.ext (by grind) (by grind)) hq
   ·exact .inr e2
  ·exact .inl e1
 rintro⟨a,b,ha,hb,⟨t1,t2⟩| ⟨c,hc,ht⟩⟩
 ·obtain⟨a0,a1,a2⟩:=hS a ha
  obtain⟨b0,b1,b2⟩:=hS b hb
  rw[nc] at t1
  exact b0 (van b (vH t1 t2 (ne0 a a0) a1 b1) (vH t1 t2 (ne0 a a0) a2 b2))
 ·obtain⟨a0,a1,a2⟩:=hS a ha
  obtain⟨b0,b1,b2⟩:=hS b hb
  obtain⟨c0,c1,c2⟩:=hS c hc
  have id:∀ g h:Rat,cr b c x*(g*(a.1 - x.1)+h*(a.2 - x.2))+cr c a x*(g*(b.1 - x.1)+h*(b.2 - x.2))+cr a b x*(g*(c.1 - x.1)+h*(c.2 - x.2))=0:=fun g h=>by
   rw[nc,nc,nc];grind
  rcases ht with ⟨t1,t2,t3⟩| ⟨t1,t2,t3⟩
  ·exact a0 (van a (pj (id g1 g2) t2 t3 t1 a1 b1 c1).1 (pj (id h1 h2) t2 t3 t1 a2 b2 c2).1)
  ·have id':∀ g h:Rat,-cr b c x*(g*(a.1 - x.1)+h*(a.2 - x.2)) + -cr c a x*(g*(b.1 - x.1)+h*(b.2 - x.2)) + -cr a b x*(g*(c.1 - x.1)+h*(c.2 - x.2))=0:=fun g h=>by
    have:=id g h;grind
   exact a0 (van a (pj (id' g1 g2) (by grind) (by grind) (by grind) a1 b1 c1).1 (pj (id' h1 h2) (by grind) (by grind) (by grind) a2 b2 c2).1)
theorem Jn {S:V2→Prop}{a x c:V2}(ht:0<cr a x c)(hS:∀ q,S q→q≠x∧0≤cr a x q∧0≤cr x c q) : ¬ InV S x:=by
 refine ady (g1 := -(x.2 - a.2)) (g2:=x.1 - a.1) (h1 := -(c.2 - x.2)) (h2:=c.1 - x.1) ?_ fun q hq => ?_
 ·unfold cr at ht;grind
 ·obtain⟨k1,k2,k3⟩:=hS q hq
  refine⟨k1,?_,?_⟩
  ·unfold cr at k2;grind
  ·unfold cr at k3;grind
theorem adz {S:V2→Prop}{x:V2}{σ:Rat}(hσ:σ=1∨σ = -1)(hS:∀ q,S q→0<σ*(q.1 - x.1)∨q.1 - x.1=0∧0<σ*(q.2 - x.2)) : ¬ InV S x:=by
 have pos:∀ q,S q→0≤σ*(q.1 - x.1)+0*(q.2 - x.2):=fun q hq=>by
  rcases hS q hq with h | ⟨h,-⟩
  ·grind
  ·rw[h];grind
 have ne0:∀ q:V2,S q→q.1 - x.1≠0∨q.2 - x.2≠0:=fun q hq=>by
  rcases hS q hq with h | ⟨-,h⟩
  ·refine .inl fun e => ?_
   rw[e,Rat.mul_zero] at h;grind
  ·refine .inr fun e => ?_
   rw[e,Rat.mul_zero] at h;grind
 have z1:∀ q:V2,σ*(q.1 - x.1)+0*(q.2 - x.2)=0→q.1 - x.1=0:=fun q h=>by
  rcases hσ with rfl | rfl <;> grind
 rintro⟨a,b,ha,hb,⟨t1,t2⟩| ⟨c,hc,ht⟩⟩
 ·rw[nc] at t1
  have eb:=z1 b (vH t1 t2 (ne0 a ha) (pos a ha) (pos b hb))
  have ea:=z1 a (vH (p1:=b.1 - x.1) (p2:=b.2 - x.2) (by grind) (by grind) (ne0 b hb) (pos b hb) (pos a ha))
  have pa:0<σ*(a.2 - x.2):=by
   rcases hS a ha with h | ⟨-,h⟩
   ·rw[ea,Rat.mul_zero] at h;grind
   ·exact h
  have pb:0<σ*(b.2 - x.2):=by
   rcases hS b hb with h | ⟨-,h⟩
   ·rw[eb,Rat.mul_zero] at h;grind
   ·exact h
  have pp:=Rat.mul_pos pa pb
  rw[ea,eb] at t2
  rcases hσ with rfl | rfl <;> grind
 ·have id:∀ g h:Rat,cr b c x*(g*(a.1 - x.1)+h*(a.2 - x.2))+cr c a x*(g*(b.1 - x.1)+h*(b.2 - x.2))+cr a b x*(g*(c.1 - x.1)+h*(c.2 - x.2))=0:=fun g h=>by
   rw[nc,nc,nc];grind
  have key:a.1 - x.1=0∧b.1 - x.1=0:=by
   rcases ht with ⟨t1,t2,t3⟩| ⟨t1,t2,t3⟩
   ·have k:=pj (id σ 0) t2 t3 t1 (pos a ha) (pos b hb) (pos c hc)
    exact⟨z1 a k.1,z1 b k.2.1⟩
   ·have k:=pj (α := -cr b c x) (β := -cr c a x) (γ := -cr a b x) (by have:=id σ 0;grind) (by grind) (by grind) (by grind) (pos a ha) (pos b hb) (pos c hc)
    exact⟨z1 a k.1,z1 b k.2.1⟩
  have e:cr a b x=0:=by rw[nc,key.1,key.2];grind
  rcases ht with ⟨t1,-⟩| ⟨t1,-⟩ <;> grind
end Go.Ab
namespace Go.Ab
open List
theorem fC {l:List V2}{x:V2} : ng x ∈ l.map ng ↔ x ∈ l:=by
 rw[mem_map]
 exact⟨fun ⟨y,h,e⟩=>od e ▸ h,fun h=>⟨x,h,rfl⟩⟩
theorem vA {a b x:V2}(h1:lx a x)(h2:lx x b)(t:cr a b x=0):sO a b x:=⟨t,afw h1 h2 t⟩
theorem sO.symm {a b x:V2}(h:sO a b x):sO b a x:=by
 unfold sO cr at *
 grind
theorem ajW {Q s t:List V2}{m c m' c' x:V2}(h:ChI Q s m c)(k:ChI (Q.map ng) (t.map ng) (ng m') (ng c'))(hx:x ∈ Q)(hs:x ∉ s)(ht:x ∉ t):InV (fun q=>q ∈ Q∧q≠x) x:=by
 obtain⟨a,b,ha,hb,l1,l2,u1⟩:=h.akj hx hs
 obtain⟨b',a',hb',ha',l3,l4,u2⟩:=k.akj (fC.2 hx) (fun h=>ht (fC.1 h))
 rw[← rB b',← rB a'] at *
 generalize ng b'=B at *
 generalize ng a'=A at *
 rw[E8] at l3 l4
 rw[rZ] at u2
 rw[fC] at hb' ha'
 have ne:∀ q,lx q x∨lx x q→q≠x:=fun q h e=>by
  subst e
  rcases h with h | h <;> exact ef _ h
 have mem:∀ q,q ∈ t→q ∈ Q:=fun q hq=>fC.1 (k.sub _ (fC.2 hq))
 have Sa:a ∈ Q∧a≠x:=⟨h.sub a ha,ne a (.inl l1)⟩
 have Sb:b ∈ Q∧b≠x:=⟨h.sub b hb,ne b (.inr l2)⟩
 have SA:A ∈ Q∧A≠x:=⟨mem A ha',ne A (.inl l4)⟩
 have SB:B ∈ Q∧B≠x:=⟨mem B hb',ne B (.inr l3)⟩
 rcases agA l1 l2 l4 l3 u1 u2 with e | e | e | ⟨e1,e2,e3⟩| ⟨e1,e2,e3⟩
 ·exact⟨a,b,Sa,Sb,.inl (vA l1 l2 e)⟩
 ·refine⟨A,B,SA,SB,.inl (vA l4 l3 ?_)⟩
  unfold cr at *;grind
 ·exact⟨a,B,Sa,SB,.inl (vA l1 l3 e)⟩
 ·exact⟨a,b,Sa,Sb,.inr ⟨B,SB,.inl ⟨e1,e2,e3⟩⟩⟩
 ·exact⟨a,B,Sa,SB,.inr ⟨A,SA,.inl ⟨e1,e2,e3⟩⟩⟩
theorem Jm {Q:List V2}{m x:V2}(hm:∀ q ∈ Q,q=m∨lx m q):∀ {s:List V2},s.getLast?=some m→Cvx Q s→x ∈ s→(∀ b ∈ s.head?,x≠b) → ¬ InV (fun q=>q ∈ Q∧q≠x) x
 | [],h,_,_,_=>by cases h
 | [b],_,_,hx,hb=>absurd (by simpa using hx) (hb b rfl)
 | [b,a],h,hv,hx,hb=>by
  have e:a=m:=by simpa using h
  subst e
  have hxa:x=a:=by
   simp only[mem_cons,not_mem_nil,or_false] at hx
   rcases hx with h | h
   ·exact absurd h (hb b rfl)
   ·exact h
  subst hxa
  refine adz (σ:=1) (.inl rfl) fun q ⟨hq,hn⟩ => ?_
  rcases hm q hq with e | e
  ·exact absurd e hn
  ·have:=fg e
   grind
 | b::a::z::r,h,hv,hx,hb=>by
  obtain⟨h1,h2,h3,h4⟩:=hv
  by_cases hxa:x=a
  ·subst hxa
   exact Jn (a:=z) (c:=b) (h3 z rfl) fun q ⟨hq,hn⟩=>⟨hn,h4.2.1 q hq,h2 q hq⟩
  ·refine Jm hm (s:=a::z::r) (by simpa using h) h4 ?_ (fun b' hb' => ?_)
   ·rcases mem_cons.1 hx with h | h
    ·exact absurd h (hb b rfl)
    ·exact h
   ·obtain rfl:a=b':=by simpa using hb'
    exact hxa
end Go.Ab
namespace Go.Ab
open List
def nF (l:List V2):List V2:=(l.foldl fj []).tail.reverse++(l.reverse.foldl fj []).tail.reverse
theorem aaB {a b x:V2} : sO (ng a) (ng b) (ng x) ↔ sO a b x:=by
 unfold sO
 rw[rZ]
 unfold ng
 constructor <;> (rintro⟨h,k⟩;refine⟨h,?_⟩;grind)
theorem Z5 {a b c x:V2} : pR (ng a) (ng b) (ng c) (ng x) ↔ pR a b c x:=by
 unfold pR
 rw[rZ,rZ,rZ]
theorem InV.mono {S T:V2→Prop}{x:V2}(h:∀ q,S q→T q):InV S x→InV T x:=by
 rintro⟨a,b,ha,hb,t | ⟨c,hc,t⟩⟩
 ·exact⟨a,b,h a ha,h b hb,.inl t⟩
 ·exact⟨a,b,h a ha,h b hb,.inr ⟨c,h c hc,t⟩⟩
theorem InV.ng {S:V2→Prop}{x:V2} : InV S x→InV (fun q=>S (ng q)) (ng x):=by
 have k:∀ q,S q→(fun q=>S (Ab.ng q)) (Ab.ng q):=fun q hq=>by
  show S (Ab.ng (Ab.ng q))
  rw[rB];exact hq
 rintro⟨a,b,ha,hb,t | ⟨c,hc,t⟩⟩
 ·exact⟨Ab.ng a,Ab.ng b,k a ha,k b hb,.inl (aaB.2 t)⟩
 ·exact⟨Ab.ng a,Ab.ng b,k a ha,k b hb,.inr ⟨Ab.ng c,k c hc,Z5.2 t⟩⟩
theorem Cvx.mono {Q R:List V2}(h:∀ q ∈ R,q ∈ Q):∀ {s:List V2},Cvx Q s→Cvx R s
 | [],_=>trivial
 | [_],_=>trivial
 | b::a::r,hv=>⟨hv.1,fun q hq=>hv.2.1 q (h q hq),hv.2.2.1,Cvx.mono h hv.2.2.2⟩
theorem ChI.mono {Q R s:List V2}{m c:V2}(h:ChI Q s m c)(e:∀ q,q ∈ R ↔ q ∈ Q):ChI R s m c :=
 ⟨h.last,h.head,h.cvx.mono fun q hq=>(e q).1 hq,fun x hx=>(e x).2 (h.sub x hx),fun q hq=>h.low q ((e q).1 hq),fun q hq=>h.top q ((e q).1 hq)⟩
theorem Cvx.sorted {Q:List V2} : ∀ {s:List V2},Cvx Q s→s.Pairwise fun a b=>lx b a
 | [],_=>.nil
 | [_],_=>pairwise_singleton _ _
 | b::a::r,hv=>by
  have k:=Cvx.sorted hv.2.2.2
  refine pairwise_cons.2 ⟨fun x hx => ?_,k⟩
  rcases mem_cons.1 hx with rfl | hx
  ·exact hv.1
  ·exact fc ((pairwise_cons.1 k).1 x hx) hv.1
theorem both {l:List V2}(h:l.Pairwise lx)(hne:l≠[]):∃ m c,ChI l (l.foldl fj []) m c∧ChI (l.map ng) ((l.reverse.foldl fj []).map ng) (ng c) (ng m)∧l.head?=some m∧l.getLast?=some c:=by
 obtain⟨p,l',rfl⟩:=exists_cons_of_ne_nil hne
 obtain⟨c,k⟩:=FZ h
 have k1:ChI (p::l') ((p::l').foldl fj []) p c:=k.mono fun q=>by simp[or_comm]
 have hr:(p::l').reverse≠[]:=by simp
 obtain⟨d,r',e⟩:=exists_cons_of_ne_nil hr
 have h':(d::r').Pairwise fun a b=>lx b a:=by
  rw[← e,pairwise_reverse]
  exact h
 obtain⟨c',k'⟩:=Ys h'
 have el:p::l'=r'.reverse++[d]:=by
  have:=congrArg List.reverse e
  rw[reverse_reverse] at this
  rw[this];simp
 have k2:ChI ((p::l').map ng) (((p::l').reverse.foldl fj []).map ng) (ng d) (ng c'):=by
  rw[e,el];exact k'
 have hd:d ∈ p::l':=by rw[el];simp
 have hdc:d=c:=by
  rcases k1.top d hd with e | e
  ·exact e
  ·rcases k2.low (ng c) (fC.2 (k1.sub c (mem_of_mem_head? (by rw[k1.head];rfl)))) with e' | e'
   ·exact (od e').symm
   ·exact absurd (fc e (E8.1 e')) (ef _)
 subst hdc
 have hpc:c'=p:=by
  have hc':c' ∈ p::l':=fC.1 (k2.sub _ (mem_of_mem_head? (by rw[k2.head];rfl)))
  rcases k1.low c' hc' with e | e
  ·exact e
  ·rcases k2.top (ng p) (fC.2 mem_cons_self) with e' | e'
   ·exact (od e').symm
   ·exact absurd (fc e (E8.1 e')) (ef _)
 subst hpc
 exact⟨c',d,k1,k2,rfl,by rw[el];simp⟩
end Go.Ab
namespace Go.Ab
open List
theorem oQ {s:List V2}{m c:V2}(hl:s.getLast?=some m)(hh:s.head?=some c)(hne:m≠c):∃ r,s=c::r∧m ∈ r:=by
 cases s with
 | nil=>cases hh
 | cons b r =>
  obtain rfl:b=c:=by simpa using hh
  refine⟨r,rfl,?_⟩
  cases r with
  | nil=>exact absurd (by simpa using hl) (Ne.symm hne)
  | cons a r =>
   rw[getLast?_cons_cons] at hl
   exact mem_of_getLast? hl
theorem qh {t:List V2}{c:V2}(h:(t.map ng).getLast?=some (ng c)):t.getLast?=some c:=by
 rw[getLast?_map] at h
 cases e:t.getLast? with
 | none=>rw[e] at h;cases h
 | some d =>
  rw[e] at h
  have:ng d=ng c:=by simpa using h
  rw[od this]
theorem Cm {t:List V2}{c:V2}(h:(t.map ng).head?=some (ng c)):t.head?=some c:=by
 cases t with
 | nil=>cases h
 | cons d t =>
  have:ng d=ng c:=by simpa using h
  rw[od this];rfl
theorem VQ {l:List V2}(h:l.Pairwise lx)(h2:2≤l.length){x:V2}(hx:x ∈ l):x ∈ nF l ↔ ¬ InV (fun q=>q ∈ l∧q≠x) x:=by
 have hne:l≠[]:=fun e=>by rw[e] at h2;simp at h2
 obtain⟨m,c,k1,k2,e1,e2⟩:=both h hne
 have hmc:m≠c:=by
  intro e
  subst e
  obtain⟨p,q,r,rfl⟩:∃ p q r,l=p::q::r:=by
   match l,h2 with
   | p::q::r,_=>exact⟨p,q,r,rfl⟩
  obtain rfl:p=m:=by simpa using e1
  have hq:=(pairwise_cons.1 h).1 q (by simp)
  rcases k1.top q (by simp) with e | e
  ·subst e;exact ef _ hq
  ·exact ef _ (fc hq e)
 unfold nF
 have g1:=k1.cvx.sorted
 obtain⟨s',es,hs'⟩:=oQ k1.last k1.head hmc
 obtain⟨t',et,ht'⟩:=oQ (qh k2.last) (Cm k2.head) (Ne.symm hmc)
 generalize l.foldl fj []=s at *
 generalize l.reverse.foldl fj []=t at *
 subst es;subst et
 simp only[tail_cons,mem_append,mem_reverse]
 constructor
 ·rintro (hm | hm)
  ·refine Jm k1.low k1.last k1.cvx (mem_cons_of_mem _ hm) fun b hb e => ?_
   obtain rfl:c=b:=by simpa using hb
   subst e
   exact ef _ ((pairwise_cons.1 g1).1 _ hm)
  ·intro hi
   have g2:=k2.cvx.sorted
   refine Jm (x:=ng x) k2.low k2.last k2.cvx (fC.2 (mem_cons_of_mem _ hm)) (fun b hb e => ?_) (InV.mono (fun q hq => ?_) hi.ng)
   ·have hb':ng m=b:=by simpa using hb
    rw[← hb'] at e
    have:=od e
    subst this
    rw[map_cons] at g2
    exact ef _ ((pairwise_cons.1 g2).1 _ (fC.2 hm))
   ·refine⟨?_,fun e=>hq.2 (by rw[e,rB])⟩
    have:=fC.2 hq.1
    rwa [rB] at this
 ·intro hi
  by_cases hs:x ∈ c::s'
  ·rcases mem_cons.1 hs with rfl | hs
   ·exact .inr ht'
   ·exact .inl hs
  ·by_cases ht:x ∈ m::t'
   ·rcases mem_cons.1 ht with rfl | ht
    ·exact .inl hs'
    ·exact .inr ht
   ·exact absurd (ajW k1 k2 hx hs ht) hi
end Go.Ab
namespace Go.Ab
open List
def Lk (P:V2→V2→Prop):List V2→Prop
  | a::b::r=>P a b∧Lk P (b::r)
  | _=>True
theorem Lk.snoc {P:V2→V2→Prop}{a b:V2}(h:P a b):∀ {u:List V2},Lk P (u++[a])→Lk P (u++[a,b])
  | [],_=>⟨h,trivial⟩
  | [_],k=>⟨k.1,h,trivial⟩
  | _::y::u,k=>⟨k.1,Lk.snoc h (u:=y::u) k.2⟩
theorem Lk.join {P:V2→V2→Prop}{a:V2}{v:List V2}(h:Lk P (a::v)):∀ {u:List V2},Lk P (u++[a])→Lk P (u++a::v)
  | [],_=>h
  | [_],k=>⟨k.1,h⟩
  | _::y::u,k=>⟨k.1,Lk.join h (u:=y::u) k.2⟩
theorem Cvx.lk {Q:List V2} : ∀ {s:List V2},Cvx Q s→Lk (fun a b=>∀ q ∈ Q,0≤cr a b q) s.reverse
  | [],_=>trivial
  | [_],_=>trivial
  | b::a::r,hv=>by
    have k:=Cvx.lk (s:=a::r) hv.2.2.2
    rw[reverse_cons] at k
    rw[reverse_cons,reverse_cons,append_assoc]
    exact Lk.snoc hv.2.1 k
theorem Lk.ng {Q:List V2} : ∀ {s:List V2},Lk (fun a b=>∀ q ∈ Q.map ng,0≤cr a b q) (s.map ng)→Lk (fun a b=>∀ q ∈ Q,0≤cr a b q) s
  | [],_=>trivial
  | [_],_=>trivial
  | a::b::r,h=>⟨fun q hq=>by
      have:=h.1 (Ab.ng q) (fC.2 hq)
      rwa [rZ] at this,Lk.ng (s:=b::r) h.2⟩
theorem Me {l:List V2}(h:l.Pairwise lx)(h2:2≤l.length):∃ m w,nF l=m::w∧l.head?=some m∧Lk (fun a b=>∀ q ∈ l,0≤cr a b q) (m::w++[m]):=by
  have hne:l≠[]:=fun e=>by rw[e] at h2;simp at h2
  obtain⟨m,c,k1,k2,e1,e2⟩:=both h hne
  have hmc:m≠c:=by
    intro e
    subst e
    obtain⟨p,q,r,rfl⟩:∃ p q r,l=p::q::r:=by
      match l,h2 with
      | p::q::r,_=>exact⟨p,q,r,rfl⟩
    obtain rfl:p=m:=by simpa using e1
    have hq:=(pairwise_cons.1 h).1 q (by simp)
    rcases k1.top q (by simp) with e | e
    · subst e;exact ef _ hq
    · exact ef _ (fc hq e)
  unfold nF
  obtain⟨s',es,hs'⟩:=oQ k1.last k1.head hmc
  have lt:=qh k2.last
  obtain⟨t',et,ht'⟩:=oQ lt (Cm k2.head) (Ne.symm hmc)
  have a1:=k1.cvx.lk
  have a2:Lk (fun a b=>∀ q ∈ l,0≤cr a b q) (l.reverse.foldl fj []).reverse:=by
    have:=k2.cvx.lk
    rw[← map_reverse] at this
    exact this.ng
  have ls:=k1.last
  generalize l.foldl fj []=s at *
  generalize l.reverse.foldl fj []=t at *
  subst es;subst et
  simp only[tail_cons]
  rw[reverse_cons] at a1 a2
  have ht:t'.getLast?=some c:=by
    cases t' with
    | nil=>cases ht'
    | cons d t'=>rwa [getLast?_cons_cons] at lt
  have hs:s'.getLast?=some m:=by
    cases s' with
    | nil=>cases hs'
    | cons d s'=>rwa [getLast?_cons_cons] at ls
  obtain⟨u,eu⟩:∃ u,t'.reverse=c::u:=by
    have:t'.reverse.head?=some c:=by rw[head?_reverse];exact ht
    cases e:t'.reverse with
    | nil=>rw[e] at this;cases this
    | cons d u=>rw[e] at this;obtain rfl:d=c:=(by simpa using this);exact⟨u,rfl⟩
  obtain⟨v,ev⟩:∃ v,s'.reverse=m::v:=by
    have:s'.reverse.head?=some m:=by rw[head?_reverse];exact hs
    cases e:s'.reverse with
    | nil=>rw[e] at this;cases this
    | cons d u=>rw[e] at this;obtain rfl:d=m:=(by simpa using this);exact⟨u,rfl⟩
  refine⟨m,v++c::u,by rw[ev,eu];rfl,e1,?_⟩
  rw[eu] at a2
  rw[ev] at a1
  have:=Lk.join (u:=m::v) (a:=c) (v:=u++[m]) a2 a1
  simpa using this
end Go.Ab
namespace Go.Ab
open List
theorem xX {Q:List V2}{m x:V2} : ∀ {s:List V2},s.getLast?=some m→Cvx Q s→x ∈ s→x≠m→(∀ b ∈ s.head?,x≠b)→∃ z b,z ∈ s∧b ∈ s∧lx z x∧lx x b∧0<cr z x b∧(∀ q ∈ Q,0≤cr z x q)∧∀ q ∈ Q,0≤cr x b q
 | [],h,_,_,_,_=>by cases h
 | [b],_,_,hx,_,hb=>absurd (by simpa using hx) (hb b rfl)
 | [b,a],h,_,hx,hm,hb=>by
  have e:a=m:=by simpa using h
  simp only[mem_cons,not_mem_nil,or_false] at hx
  rcases hx with h' | h'
  ·exact absurd h' (hb b rfl)
  ·exact absurd (h'.trans e) hm
 | b::a::z::r,h,hv,hx,hm,hb=>by
  obtain⟨h1,h2,h3,h4⟩:=hv
  by_cases hxa:x=a
  ·subst hxa
   exact⟨z,b,by simp,by simp,h4.1,h1,h3 z rfl,h4.2.1,h2⟩
  ·obtain⟨z',b',k1,k2,k3⟩:=xX (s:=a::z::r) (by simpa using h) h4 (by
    rcases mem_cons.1 hx with h' | h'
    ·exact absurd h' (hb b rfl)
    ·exact h') hm (fun b' hb'=>by
    obtain rfl:a=b':=by simpa using hb'
    exact hxa)
   exact⟨z',b',mem_cons_of_mem _ k1,mem_cons_of_mem _ k2,k3⟩
theorem Vz {z x b B:V2}(h1:lx z x)(h2:lx x b)(h3:lx x B)(t:0<cr z x b)(k1:0≤cr z x B)(k2:0≤cr B x z)(k3:0≤cr B x b):False:=by
 have s:=G7 (fg h3) (fg h1) (fg h2) (by unfold cr at *;grind) (by unfold cr at t;grind)
 unfold cr at *
 grind
theorem Jh {l:List V2}(h:l.Pairwise lx)(h2:2≤l.length):(nF l).Nodup:=by
 have hne:l≠[]:=fun e=>by rw[e] at h2;simp at h2
 obtain⟨m,c,k1,k2,e1,e2⟩:=both h hne
 have hmc:m≠c:=by
  intro e
  subst e
  obtain⟨p,q,r,rfl⟩:∃ p q r,l=p::q::r:=by
   match l,h2 with
   | p::q::r,_=>exact⟨p,q,r,rfl⟩
  obtain rfl:p=m:=by simpa using e1
  have hq:=(pairwise_cons.1 h).1 q (by simp)
  rcases k1.top q (by simp) with e | e
  ·subst e;exact ef _ hq
  ·exact ef _ (fc hq e)
 unfold nF
 have g1:=k1.cvx.sorted
 have g2:=k2.cvx.sorted
 obtain⟨s',es,hs'⟩:=oQ k1.last k1.head hmc
 obtain⟨t',et,ht'⟩:=oQ (qh k2.last) (Cm k2.head) (Ne.symm hmc)
 generalize l.foldl fj []=s at *
 generalize l.reverse.foldl fj []=t at *
 subst es;subst et
 simp only[tail_cons]
 have n1:s'.Nodup:=(pairwise_cons.1 g1).2.imp fun h e=>by subst e;exact ef _ h
 have n2:t'.Nodup:=by
  rw[map_cons] at g2
  have:=(pairwise_cons.1 g2).2
  rw[pairwise_map] at this
  exact this.imp fun h e=>by subst e;exact ef _ h
 rw[nodup_append]
 refine⟨pairwise_reverse.2 (n1.imp Ne.symm),pairwise_reverse.2 (n2.imp Ne.symm),fun x hx y hy e => ?_⟩
 subst e
 rw[mem_reverse] at hx hy
 have xc:x≠c:=fun e=>by
  subst e
  exact ef _ ((pairwise_cons.1 g1).1 _ hx)
 have xm:x≠m:=fun e=>by
  subst e
  rw[map_cons] at g2
  exact ef _ ((pairwise_cons.1 g2).1 _ (fC.2 hy))
 obtain⟨z,b,z1,b1,o1,o2,o3,o4,o5⟩:=xX k1.last k1.cvx (mem_cons_of_mem _ hx) xm (fun b hb e=>by
  obtain rfl:c=b:=by simpa using hb
  exact xc e)
 obtain⟨B,A,B1,-,p1,-,-,p4,-⟩:=xX (x:=ng x) k2.last k2.cvx (fC.2 (mem_cons_of_mem _ hy)) (fun e=>xc (od e)) (fun b hb e=>by
  have hb':ng m=b:=by simpa using hb
  rw[← hb'] at e
  exact xm (od e))
 rw[← rB B] at p1 p4 B1
 rw[E8] at p1
 have hB:ng B ∈ l:=by
  have:=k2.sub _ B1
  exact fC.1 this
 refine Vz o1 o2 p1 o3 (o4 _ hB) ?_ ?_
 ·have:=p4 (ng z) (fC.2 (k1.sub z z1))
  rwa [rZ] at this
 ·have:=p4 (ng b) (fC.2 (k1.sub b b1))
  rwa [rZ] at this
theorem Vy {S:V2→Prop}{a b c:V2}(ha:S a)(hb:S b)(hc:S c)(h1:a≠b)(h2:b≠c)(h3:a≠c)(ea : ¬ InV (fun q=>S q∧q≠a) a)(eb : ¬ InV (fun q=>S q∧q≠b) b)(ec : ¬ InV (fun q=>S q∧q≠c) c):cr a b c≠0:=by
 intro e
 have key:∀ {x y z:V2},S x→S z→x≠y→z≠y→lx x y→lx y z→cr x z y=0 → ¬ InV (fun q=>S q∧q≠y) y→False:=fun hx hz n1 n2 l1 l2 t hy=>hy ⟨_,_,⟨hx,n1⟩,⟨hz,n2⟩,.inl (vA l1 l2 t)⟩
 rcases lD a b with l1 | l1 | l1
 ·rcases lD b c with l2 | l2 | l2
  ·exact key ha hc h1 h2.symm l1 l2 (by unfold cr at *;grind) eb
  ·exact h2 l2
  ·rcases lD a c with l3 | l3 | l3
   ·exact key ha hb h3 h2 l3 l2 (by unfold cr at *;grind) ec
   ·exact h3 l3
   ·exact key hc hb h3.symm h1.symm l3 l1 (by unfold cr at *;grind) ea
 ·exact h1 l1
 ·rcases lD b c with l2 | l2 | l2
  ·rcases lD a c with l3 | l3 | l3
   ·exact key hb hc h1.symm h3.symm l1 l3 (by unfold cr at *;grind) ea
   ·exact h3 l3
   ·exact key hb ha h2 h3 l2 l3 (by unfold cr at *;grind) ec
  ·exact h2 l2
  ·exact key hc ha h2.symm h1 l2 l1 (by unfold cr at *;grind) eb
end Go.Ab
namespace Go.Ab
open List
end Go.Ab
namespace Go.Ab
open List
theorem Lk.at {P:V2→V2→Prop} : ∀ {L:List V2} {k:Nat} {x y:V2},Lk P L→L[k]?=some x→L[k+1]?=some y→P x y
 | [],_,_,_,_,h,_=>by cases h
 | [_],_,_,_,_,_,h=>by cases h
 | a::b::r,0,x,y,h,hx,hy=>by
  obtain rfl:a=x:=by simpa using hx
  obtain rfl:b=y:=by simpa using hy
  exact h.1
 | a::b::r,k+1,x,y,h,hx,hy=>Lk.at (L:=b::r) (k:=k) h.2 (by simpa using hx) (by simpa using hy)
theorem WH {l:List V2}(h:l.Pairwise lx)(hne:l≠[]){x:V2}(hx:x ∈ nF l):x ∈ l:=by
 obtain⟨m,c,k1,k2,-,-⟩:=both h hne
 unfold nF at hx
 simp only[mem_append,mem_reverse] at hx
 rcases hx with hx | hx
 ·exact k1.sub x (mem_of_mem_tail hx)
 ·exact fC.1 (k2.sub _ (fC.2 (mem_of_mem_tail hx)))
end Go.Ab
namespace Go.Ab
open List
abbrev VN:=V2 × Nat
def lxn (a b:VN):Prop:=lx a.1 b.1∨a.1=b.1∧a.2<b.2
theorem AK {a b c:VN}(h:lxn a b)(k:lxn b c):lxn a c:=by
  rcases h with h | ⟨h,h'⟩
  · rcases k with k | ⟨k,k'⟩
    · exact .inl (fc h k)
    · exact .inl (k ▸ h)
  · rcases k with k | ⟨k,k'⟩
    · exact .inl (h ▸ k)
    · exact .inr ⟨h.trans k,by omega⟩
theorem acy (a:VN) : ¬ lxn a a:=by
  rintro (h | ⟨-,h⟩)
  · exact ef _ h
  · omega
theorem acx (a b:VN):lxn a b∨a=b∨lxn b a:=by
  rcases lD a.1 b.1 with h | h | h
  · exact .inl (.inl h)
  · rcases Nat.lt_trichotomy a.2 b.2 with k | k | k
    · exact .inl (.inr ⟨h,k⟩)
    · exact .inr (.inl (Prod.ext h k))
    · exact .inr (.inr (.inr ⟨h.symm,k⟩))
  · exact .inr (.inr (.inl h))
def leN (a b:VN):Prop := ¬ lxn b a
theorem AO {a b c:VN}(h:leN a b)(k:leN b c):leN a c:=by
  intro t
  rcases acx a b with u | u | u
  · exact k (AK t u)
  · subst u;exact k t
  · exact h u
theorem Wp {a b:VN}(h:lxn a b):leN a b:=fun k=>acy _ (AK h k)
def ddp (p:Option V2):List VN→List VN
  | []=>[]
  | x::r=>if p=some x.1 then ddp p r else x::ddp (some x.1) r
theorem Cw:∀ {S:List VN} {p:Option V2},S.Pairwise leN→(∀ q,p=some q→∀ x ∈ S,q=x.1∨lx q x.1) →
    (∀ y ∈ ddp p S,y ∈ S∧∀ q,p=some q→lx q y.1)∧(∀ z ∈ S,p=some z.1∨∃ y ∈ ddp p S,y.1=z.1∧y.2≤z.2)∧((ddp p S).map fun y=>y.1).Pairwise lx
  | [],p,_,_=>⟨fun y h=>by simp[ddp] at h,fun z h=>by simp at h,by simp[ddp]⟩
  | x::r,p,hs,hp=>by
    obtain⟨h1,h2⟩:=pairwise_cons.1 hs
    by_cases e:p=some x.1
    · obtain⟨k1,k2,k3⟩:=Cw (p:=p) h2 fun q hq y hy=>hp q hq y (mem_cons_of_mem _ hy)
      have e':ddp p (x::r)=ddp p r:=by rw[ddp,if_pos e]
      rw[e']
      refine⟨fun y hy=>⟨mem_cons_of_mem _ (k1 y hy).1,(k1 y hy).2⟩,fun z hz => ?_,k3⟩
      rcases mem_cons.1 hz with rfl | hz
      · exact .inl e
      · exact k2 z hz
    · have hx:∀ y ∈ r,x.1=y.1∨lx x.1 y.1:=fun y hy=>by
        have:=h1 y hy
        rcases lD x.1 y.1 with t | t | t
        · exact .inr t
        · exact .inl t
        · exact absurd (.inl t) this
      obtain⟨k1,k2,k3⟩:=Cw (p:=some x.1) h2 fun q hq y hy=>by
        obtain rfl:x.1=q:=by simpa using hq
        exact hx y hy
      have e':ddp p (x::r)=x::ddp (some x.1) r:=by rw[ddp,if_neg e]
      rw[e']
      refine⟨fun y hy => ?_,fun z hz=>.inr ?_,?_⟩
      · have hpx:∀ q,p=some q→lx q x.1:=fun q hq=>by
          rcases hp q hq x (by simp) with t | t
          · exact absurd (by rw[hq,t]) e
          · exact t
        rcases mem_cons.1 hy with rfl | hy
        · exact⟨by simp,hpx⟩
        · obtain⟨u1,u2⟩:=k1 y hy
          exact⟨mem_cons_of_mem _ u1,fun q hq=>fc (hpx q hq) (u2 _ rfl)⟩
      · rcases mem_cons.1 hz with rfl | hz
        · exact⟨z,by simp,rfl,Nat.le_refl _⟩
        · rcases k2 z hz with t | ⟨y,hy,t⟩
          · have t:x.1=z.1:=by simpa using t
            refine⟨x,by simp,t,?_⟩
            have:=h1 z hz
            by_cases hlt:z.2<x.2
            · exact absurd (.inr ⟨t.symm,hlt⟩) this
            · omega
          · exact⟨y,mem_cons_of_mem _ hy,t⟩
      · rw[map_cons,pairwise_cons]
        refine⟨fun q hq => ?_,k3⟩
        obtain⟨y,hy,rfl⟩:=mem_map.1 hq
        exact (k1 y hy).2 _ rfl
theorem LN:∀ {l k:List V2},l.Pairwise lx→k.Pairwise lx→(∀ x,x ∈ l ↔ x ∈ k)→l=k
  | [],[],_,_,_=>rfl
  | [],y::k,_,_,h=>absurd ((h y).2 (by simp)) (by simp)
  | x::l,[],_,_,h=>absurd ((h x).1 (by simp)) (by simp)
  | x::l,y::k,hl,hk,h=>by
    obtain⟨a1,a2⟩:=pairwise_cons.1 hl
    obtain⟨b1,b2⟩:=pairwise_cons.1 hk
    have e:x=y:=by
      rcases mem_cons.1 ((h x).1 (by simp)) with t | t
      · exact t
      · rcases mem_cons.1 ((h y).2 (by simp)) with u | u
        · exact u.symm
        · exact absurd (fc (b1 x t) (a1 y u)) (ef _)
    subst e
    rw[LN a2 b2 fun z=>⟨fun hz => ?_,fun hz => ?_⟩]
    · rcases mem_cons.1 ((h z).1 (mem_cons_of_mem _ hz)) with t | t
      · subst t;exact absurd (a1 z hz) (ef _)
      · exact t
    · rcases mem_cons.1 ((h z).2 (mem_cons_of_mem _ hz)) with t | t
      · subst t;exact absurd (b1 z hz) (ef _)
      · exact t
instance (a b:V2):Decidable (lx a b):=by unfold lx;infer_instance
def Ck (p:V2):List V2→List V2
  | []=>[p]
  | q::r=>if lx p q then p::q::r else if p=q then q::r else q::Ck p r
theorem xV {p x:V2} : ∀ {l:List V2},x ∈ Ck p l ↔ x=p∨x ∈ l
  | []=>by simp[Ck]
  | q::r=>by
    unfold Ck
    split
    · simp
    · split
      · next e=>subst e;simp
      · rw[mem_cons,xV,mem_cons]
        grind
theorem L0 {p:V2} : ∀ {l:List V2},l.Pairwise lx→(Ck p l).Pairwise lx
  | [],_=>by simp[Ck]
  | q::r,h=>by
    obtain⟨a1,a2⟩:=pairwise_cons.1 h
    unfold Ck
    split
    · next t=>exact pairwise_cons.2 ⟨fun x hx=>by
        rcases mem_cons.1 hx with rfl | hx
        · exact t
        · exact fc t (a1 x hx),h⟩
    · next t=>
      split
      · exact h
      · next u=>exact pairwise_cons.2 ⟨fun x hx=>by
          rcases xV.1 hx with rfl | hx
          · rcases lD x q with v | v | v
            · exact absurd v t
            · exact absurd v u
            · exact v
          · exact a1 x hx,L0 a2⟩
def srt (X:List V2):List V2:=X.foldr Ck []
theorem iG {x:V2} : ∀ {X:List V2},x ∈ srt X ↔ x ∈ X
  | []=>by simp[srt]
  | p::X=>by
    show x ∈ Ck p (srt X) ↔ _
    rw[xV,iG,mem_cons]
theorem mo:∀ (X:List V2),(srt X).Pairwise lx
  | []=>by simp[srt]
  | p::X=>L0 (mo X)
theorem adX {L S:List VN}{X:List V2}{g:V2→Nat}(hL:S.Perm L)(hS:S.Pairwise leN)(hX:∀ x,x ∈ X ↔ ∃ z ∈ L,z.1=x)(hg:∀ x ∈ X,(x,g x) ∈ L)(hm:∀ z ∈ L,g z.1≤z.2) :
    ddp none S=(srt X).map fun x=>(x,g x):=by
  obtain⟨k1,k2,k3⟩:=Cw (p:=none) hS fun q hq=>by cases hq
  have e1:(ddp none S).map (fun y=>y.1)=srt X:=by
    refine LN k3 (mo X) fun x => ?_
    rw[iG,hX,mem_map]
    constructor
    · rintro⟨y,hy,e⟩
      exact⟨y,hL.mem_iff.1 (k1 y hy).1,e⟩
    · rintro⟨z,hz,e⟩
      rcases k2 z (hL.mem_iff.2 hz) with t | ⟨y,hy,t,-⟩
      · cases t
      · exact⟨y,hy,t.trans e⟩
  rw[← e1,map_map]
  conv=>lhs;rw[← map_id (ddp none S)]
  refine map_congr_left fun y hy => ?_
  have hyL:=hL.mem_iff.1 (k1 y hy).1
  have hx:y.1 ∈ X:=(hX _).2 ⟨y,hyL,rfl⟩
  have h1:=hm y hyL
  rcases k2 _ (hL.mem_iff.2 (hg _ hx)) with t | ⟨w,hw,t,t'⟩
  · cases t
  · have:w=y:=by
      obtain⟨i,hi,rfl⟩:=getElem_of_mem hw
      obtain⟨j,hj,rfl⟩:=getElem_of_mem hy
      have hp:=pairwise_iff_getElem.1 k3
      simp only[length_map,getElem_map] at hp
      simp only at t
      rcases Nat.lt_trichotomy i j with u | u | u
      · have:=hp i j hi hj u
        rw[t] at this;exact absurd this (ef _)
      · subst u;rfl
      · have:=hp j i hj hi u
        rw[t] at this;exact absurd this (ef _)
    subst this
    simp only at t'
    exact Prod.ext rfl (by simp;omega)
end Go.Ab
namespace Go.Ab
open List
def mJ (p:VN):List VN→List VN
 | b::a::r=>if 0<cr a.1 b.1 p.1 then b::a::r else mJ p (a::r)
 | l=>l
def dL (s:List VN)(p:VN):List VN:=p::mJ p s
def Mf (l:List VN):List VN:=(l.foldl dL []).tail.reverse++(l.reverse.foldl dL []).tail.reverse
def ku (l:List VN):List VN:=if l.length<3 then l else Mf l
def il (l:List V2):List V2:=if l.length<2 then l else nF l
def lb (X:List V2):Ω:=(il (srt X)).map fun x=>X.idxOf x
theorem EA {f:V2→VN}(hf:∀ p,(f p).1=p)(p:V2):∀ s:List V2,mJ (f p) (s.map f)=(rl p s).map f
 | []=>rfl
 | [_]=>rfl
 | b::a::r=>by
  show mJ (f p) (f b::f a::r.map f)=_
  unfold mJ rl
  rw[hf,hf,hf]
  split
  ·rfl
  ·exact EA hf p (a::r)
theorem A2 {f:V2→VN}(hf:∀ p,(f p).1=p):∀ (l s:List V2),(l.map f).foldl dL (s.map f)=(l.foldl fj s).map f
 | [],_=>rfl
 | p::l,s=>by
  rw[map_cons,foldl_cons,foldl_cons]
  have:dL (s.map f) (f p)=(fj s p).map f:=by
   unfold dL fj
   rw[EA hf,map_cons]
  rw[this,A2 hf l]
theorem US {f:V2→VN}(hf:∀ p,(f p).1=p)(l:List V2):ku (l.map f)=(il l).map f:=by
 unfold ku il
 rw[length_map]
 by_cases h2:l.length<2
 ·rw[if_pos (by omega),if_pos h2]
 rw[if_neg h2]
 by_cases h3:l.length<3
 ·rw[if_pos h3]
  match l,h2,h3 with
  | [a,b],_,_=>rfl
  | [],h,_=>simp at h
  | [_],h,_=>simp at h
  | _::_::_::_,_,h=>exact absurd h (by simp only[length_cons];omega)
 ·rw[if_neg h3]
  unfold Mf nF
  have k:=fun l'=>A2 hf l' []
  simp only[map_nil] at k
  rw[← map_reverse,k,k,map_append,map_reverse,map_reverse,map_tail,map_tail]
theorem xN {l:List V2}(h:l.Pairwise lx){x:V2}(hx:x ∈ l):x ∈ il l ↔ ¬ InV (fun q=>q ∈ l∧q≠x) x:=by
 unfold il
 split
 ·next h2 =>
  match l,h2,hx with
  | [],_,h=>simp at h
  | [y],_,hx =>
   obtain rfl:x=y:=by simpa using hx
   refine⟨fun _ => ?_,fun _=>by simp⟩
   rintro⟨a,b,⟨ha,ha'⟩,-⟩
   exact ha' (by simpa using ha)
  | _::_::_,h,_=>exact absurd h (by simp only[length_cons];omega)
 ·next h2=>exact VQ h (by omega) hx
theorem rp {l:List V2}(h:l.Pairwise lx){x:V2}(hx:x ∈ il l):x ∈ l:=by
 unfold il at hx
 split at hx
 ·exact hx
 ·next h2=>exact WH h (fun e=>h2 (by rw[e];simp)) hx
theorem VR {l:List V2}(h:l.Pairwise lx):l.Nodup:=List.Pairwise.imp (fun {a b} (k:lx a b) (e:a=b)=>ef a (by rw[← e] at k;exact k)) h
theorem xG {l:List V2}(h:l.Pairwise lx):(il l).Nodup:=by
 unfold il
 split
 ·exact VR h
 ·next h2=>exact Jh h (by omega)
theorem UQ {L S:List VN}{X:List V2}{g:V2→Nat}(hL:S.Perm L)(hS:S.Pairwise leN)(hX:∀ x,x ∈ X ↔ ∃ z ∈ L,z.1=x)(hg:∀ x ∈ X,(x,g x) ∈ L)(hm:∀ z ∈ L,g z.1≤z.2) :
  ku (ddp none S)=(il (srt X)).map fun x=>(x,g x):=by
 rw[adX hL hS hX hg hm,US (f:=fun x=>(x,g x)) fun _=>rfl]
theorem Cl {X:List V2}{x:V2}(h:x ∈ X):X.idxOf x<X.length:=idxOf_lt_length_iff.2 h
theorem Jg:∀ {X:List V2} {i:Nat} {x:V2},X[i]?=some x→X.idxOf x≤i
 | [],_,_,h=>by simp at h
 | y::X,0,x,h=>by
  obtain rfl:y=x:=by simpa using h
  simp
 | y::X,i+1,x,h=>by
  rw[idxOf_cons]
  have:=Jg (X:=X) (i:=i) (x:=x) (by simpa using h)
  cases y == x
  ·simpa using this
  ·simp
theorem rJ {X:List V2}{x:V2}(h:x ∈ X):X[X.idxOf x]?=some x:=by
 rw[List.getElem?_eq_getElem (Cl h),getElem_idxOf (Cl h)]
theorem jY {X:List V2}{z:VN} : z ∈ X.zipIdx ↔ X[z.2]?=some z.1:=by
 rw[mem_zipIdx_iff_getElem?]
theorem PC {X:List V2}{S:List VN}(hL:S.Perm X.zipIdx)(hS:S.Pairwise leN):(ku (ddp none S)).map (fun y=>y.2)=lb X:=by
 rw[UQ (X:=X) (g:=fun x=>X.idxOf x) hL hS,map_map]
 ·rfl
 ·intro x
  constructor
  ·intro h
   exact⟨(x,X.idxOf x),jY.2 (rJ h),rfl⟩
  ·rintro⟨z,hz,rfl⟩
   exact mem_of_getElem? (jY.1 hz)
 ·exact fun x hx=>jY.2 (rJ hx)
 ·exact fun z hz=>Jg (jY.1 hz)
theorem C0 {X:List V2}{p:V2}{S:List VN}(hL:S.Perm ((p,X.length)::X.zipIdx))(hS:S.Pairwise leN):(∃ y ∈ ku (ddp none S),y.2=X.length) ↔ ¬ InV (fun q=>q ∈ X) p:=by
 rw[UQ (X:=p::X) (g:=fun x=>X.idxOf x) hL hS]
 ·have hs:=mo (p::X)
  have hp:p ∈ srt (p::X):=iG.2 (by simp)
  constructor
  ·rintro⟨y,hy,e⟩ hin
   obtain⟨x,hx,rfl⟩:=mem_map.1 hy
   have hn:x ∉ X:=fun h=>by
    have:=Cl h
    have e:X.idxOf x=X.length:=e
    omega
   obtain rfl:x=p:=by
    have:=iG.1 (rp hs hx)
    rcases mem_cons.1 this with t | t
    ·exact t
    ·exact absurd t hn
   refine (xN hs hp).1 hx (hin.mono fun q hq=>⟨iG.2 (mem_cons_of_mem _ hq),fun e=>hn (e ▸ hq)⟩)
  ·intro hn
   have hpX:p ∉ X:=fun h=>hn ⟨p,p,h,h,.inl (by unfold sO cr;grind)⟩
   refine⟨(p,X.idxOf p),mem_map.2 ⟨p,(xN hs hp).2 fun hin=>hn (hin.mono fun q hq => ?_),rfl⟩,idxOf_eq_length hpX⟩
   rcases mem_cons.1 (iG.1 hq.1) with t | t
   ·exact absurd t hq.2
   ·exact t
 ·intro x
  constructor
  ·intro h
   rcases mem_cons.1 h with rfl | h
   ·exact⟨(x,X.length),by simp,rfl⟩
   ·exact⟨(x,X.idxOf x),mem_cons_of_mem _ (jY.2 (rJ h)),rfl⟩
  ·rintro⟨z,hz,rfl⟩
   rcases mem_cons.1 hz with rfl | hz
   ·simp
   ·exact mem_cons_of_mem _ (mem_of_getElem? (jY.1 hz))
 ·intro x hx
  by_cases h:x ∈ X
  ·exact mem_cons_of_mem _ (jY.2 (rJ h))
  ·rcases mem_cons.1 hx with rfl | hx
   ·rw[idxOf_eq_length h];simp
   ·exact absurd hx h
 ·intro z hz
  rcases mem_cons.1 hz with rfl | hz
  ·exact idxOf_le_length
  ·exact Jg (jY.1 hz)
end Go.Ab
namespace Go.Ab
open List
theorem adf {X:List V2}{i:Nat}{x:V2}(h:X[i]?=some x):X.getD i (0,0)=x:=by simp[List.getD,h]
end Go.Ab
namespace Go.Ab
open List
def LS (p:Option V2):List VN→Option V2
 | []=>p
 | x::r=>LS (some x.1) r
theorem rX (p:Option V2)(x:VN)(r:List VN):ddp p (x::r)=(if p=some x.1 then [] else [x])++ddp (some x.1) r:=by
 rw[ddp]
 by_cases h:p=some x.1
 ·rw[if_pos h,if_pos h,h];rfl
 ·rw[if_neg h,if_neg h];rfl
theorem MD:∀ (A B:List VN) (p:Option V2),ddp p (A++B)=ddp p A++ddp (LS p A) B
 | [],B,p=>rfl
 | x::A,B,p=>by rw[cons_append,rX,rX,MD A B,append_assoc];rfl
theorem AP:∀ (A:List VN) (z:VN) (p:Option V2),LS p (A++[z])=some z.1
 | [],_,_=>rfl
 | x::A,z,p=>AP A z (some x.1)
theorem yv {E:List VN}{i j:Nat}(hij:i=j+1)(hi:i<E.length):ddp none (E.take (i+1))=if (E[j]'(by omega)).1=E[i].1 then ddp none (E.take i) else ddp none (E.take i)++[E[i]]:=by
 subst hij
 have e:LS none (E.take (j+1))=some (E[j]'(by omega)).1:=by
  rw[take_succ_eq_append_getElem (by omega:j<E.length),AP]
 rw[take_succ_eq_append_getElem hi,MD,e,rX]
 by_cases h:(E[j]'(by omega)).1=E[j+1].1
 ·rw[if_pos h,if_pos (by rw[h])];simp[ddp]
 ·rw[if_neg h,if_neg (fun k=>h (by simpa using k))];simp[ddp]
theorem MC (E:List VN):ddp none (E.take 1)=E.take 1:=by
 cases E with
 | nil=>rfl
 | cons a E=>simp[ddp]
theorem vS:∀ (p:Option V2) (E:List VN),(ddp p E).length≤E.length
 | _,[]=>Nat.le_refl _
 | p,x::E=>by
  have:=vS (some x.1) E
  rw[rX]
  split <;> simp <;> omega
end Go.Ab
namespace Go.Ab
open List
theorem Lc {X:List V2}{n i j:Nat}{a b q:V2}(hn:(il (srt X)).length=n)(hi:i<n)(hj:j=(i+1) % n)(ha:(il (srt X))[i]?=some a)(hb:(il (srt X))[j]?=some b)(hq:q ∈ X):0≤cr a b q:=by
 have hs:=mo X
 rcases Nat.lt_or_ge (srt X).length 2 with h2 | h2
 ·have ho:il (srt X)=srt X:=by unfold il;rw[if_pos h2]
  have h1:n=1:=by rw[ho] at hn;omega
  subst h1
  have hi0:i=0:=by omega
  subst hi0
  have hj0:j=0:=by rw[hj]
  subst hj0
  rw[ha] at hb
  obtain rfl:a=b:=by simpa using hb
  unfold cr;grind
 ·have ho:il (srt X)=nF (srt X):=by unfold il;rw[if_neg (by omega)]
  rw[ho] at hn ha hb
  obtain⟨m,w,e1,e2,e3⟩:=Me hs h2
  have g1:(m::w++[m])[i]?=some a:=by
   rw[← e1,getElem?_append_left (by omega)];exact ha
  have g2:(m::w++[m])[i+1]?=some b:=by
   rcases Nat.lt_or_ge (i+1) n with h | h
   ·rw[Nat.mod_eq_of_lt h] at hj
    rw[← e1,getElem?_append_left (by omega),← hj];exact hb
   ·have hin:i+1=n:=by omega
    rw[hin,Nat.mod_self] at hj
    rw[hj,e1] at hb
    have hmb:m=b:=by simpa using hb
    rw[← e1,getElem?_append_right (by omega),hn,hin,Nat.sub_self,← hmb];rfl
  exact e3.at g1 g2 q (iG.2 hq)
theorem Ji {l:List V2}(h:l.Nodup){i j:Nat}{a b:V2}(hij:i≠j)(ha:l[i]?=some a)(hb:l[j]?=some b):a≠b:=fun e=>by
 subst e
 obtain⟨h1,f1⟩:=List.getElem?_eq_some_iff.1 ha
 obtain⟨h2,f2⟩:=List.getElem?_eq_some_iff.1 hb
 rcases Nat.lt_or_ge i j with t | t
 ·exact pairwise_iff_getElem.1 h i j h1 h2 t (f1.trans f2.symm)
 ·exact pairwise_iff_getElem.1 h j i h2 h1 (by omega) (f2.trans f1.symm)
theorem Z2 {X:List V2}{n i j k:Nat}{a b c:V2}(hn:(il (srt X)).length=n)(h3:2<n)(hi:i<n)(hj:j=(i+1) % n)(hk:k=(i+2) % n)(ha:(il (srt X))[i]?=some a)(hb:(il (srt X))[j]?=some b)(hc:(il (srt X))[k]?=some c):0<cr a b c:=by
 have hs:=mo X
 have nd:=xG hs
 have mem:∀ {t:Nat} {z:V2},(il (srt X))[t]?=some z→z ∈ srt X ∧ ¬ InV (fun q=>q ∈ srt X∧q≠z) z:=fun h=>by
  have h1:=mem_of_getElem? h
  have h2:=rp hs h1
  exact⟨h2,(xN hs h2).1 h1⟩
 have hij:i≠j:=by
  rcases Nat.lt_or_ge (i+1) n with h | h
  ·rw[Nat.mod_eq_of_lt h] at hj;omega
  ·have:i+1=n:=by omega
   rw[this,Nat.mod_self] at hj;omega
 have hik:i≠k∧j≠k:=by
  rcases Nat.lt_or_ge (i+2) n with h | h
  ·rw[Nat.mod_eq_of_lt h] at hk
   rw[Nat.mod_eq_of_lt (by omega:i+1<n)] at hj
   omega
  ·rw[Nat.mod_eq_sub_mod h,Nat.mod_eq_of_lt (by omega)] at hk
   rcases Nat.lt_or_ge (i+1) n with h' | h'
   ·rw[Nat.mod_eq_of_lt h'] at hj;omega
   ·have:i+1=n:=by omega
    rw[this,Nat.mod_self] at hj;omega
 obtain⟨a1,a2⟩:=mem ha
 obtain⟨b1,b2⟩:=mem hb
 obtain⟨c1,c2⟩:=mem hc
 have h0:=Lc hn hi hj ha hb (iG.1 c1)
 have hne:=Vy (S:=fun q=>q ∈ srt X) a1 b1 c1 (Ji nd hij ha hb) (Ji nd hik.2 hb hc) (Ji nd hik.1 ha hc) a2 b2 c2
 grind
theorem R4 (z:Rat):0≤z*z:=by
 by_cases h:0≤z
 ·exact Rat.mul_nonneg h h
 ·have:=Rat.mul_nonneg (a := -z) (b := -z) (by grind) (by grind)
  grind
theorem agz {X:List V2}{a b:V2}(ha:a ∈ X)(hb:b ∈ X){x y:Rat}(hx:x=(a.1+b.1) / 2)(hy:y=(a.2+b.2) / 2):InV (fun q=>q ∈ X) (x,y):=by
 refine⟨a,b,ha,hb,.inl ?_⟩
 have h1:=R4 (a.1 - b.1)
 have h2:=R4 (a.2 - b.2)
 have e1:x+x=a.1+b.1:=by rw[hx];grind
 have e2:y+y=a.2+b.2:=by rw[hy];grind
 unfold sO cr
 dsimp only
 constructor
 ·grind
 ·have f1:(a.1 - x)*(b.1 - x)+(a.1 - x)*(b.1 - x)+((a.1 - x)*(b.1 - x)+(a.1 - x)*(b.1 - x)) = -((a.1 - b.1)*(a.1 - b.1)):=by grind
  have f2:(a.2 - y)*(b.2 - y)+(a.2 - y)*(b.2 - y)+((a.2 - y)*(b.2 - y)+(a.2 - y)*(b.2 - y)) = -((a.2 - b.2)*(a.2 - b.2)):=by grind
  grind
theorem qg (X:List V2):(lb X).length=(il (srt X)).length:=by unfold lb;rw[length_map]
theorem EW:∀ {l k:List V2},l.Nodup→(∀ x ∈ l,x ∈ k)→l.length≤k.length
 | [],_,_,_=>Nat.zero_le _
 | a::l,k,h,hs=>by
  obtain⟨h1,h2⟩:=nodup_cons.1 h
  have ha:=hs a (by simp)
  have:=EW (l:=l) (k:=k.erase a) h2 fun x hx=>(mem_erase_of_ne (fun e:x=a=>h1 (by rw[← e];exact hx))).2 (hs x (mem_cons_of_mem _ hx))
  rw[length_erase_of_mem ha] at this
  have:=length_pos_of_mem ha
  simp only[length_cons];omega
theorem Fq (X:List V2):(lb X).length≤X.length:=by
 rw[qg]
 exact EW (xG (mo X)) fun x hx=>iG.1 (rp (mo X) hx)
theorem WI {X:List V2}{i m:Nat}(h:(lb X)[i]?=some m):m<X.length∧(il (srt X))[i]?=some (X.getD m (0,0)):=by
 unfold lb at h
 rw[getElem?_map] at h
 cases e:(il (srt X))[i]? with
 | none=>rw[e] at h;cases h
 | some x =>
  rw[e] at h
  obtain rfl:X.idxOf x=m:=by simpa using h
  have hx:x ∈ X:=iG.1 (rp (mo X) (mem_of_getElem? e))
  exact⟨Cl hx,by rw[adf (rJ hx)]⟩
theorem Fp {X:List V2}(h:X≠[]):0<(lb X).length:=by
 rw[qg]
 rcases Nat.lt_or_ge (srt X).length 2 with h2 | h2
 ·have ho:il (srt X)=srt X:=by unfold il;rw[if_pos h2]
  rw[ho]
  obtain⟨x,T,rfl⟩:=exists_cons_of_ne_nil h
  exact length_pos_of_mem (iG.2 (mem_cons_self (a:=x) (l:=T)))
 ·have ho:il (srt X)=nF (srt X):=by unfold il;rw[if_neg (by omega)]
  obtain⟨m,w,e1,-⟩:=Me (mo X) h2
  rw[ho,e1];simp
end Go.Ab
namespace Go.Ab
open Go Go.RowKit List
end Go.Ab
namespace Go.Ab
open Go Go.RowKit List
def NoM:Nat→Prop:=fun _=>False
def Rdg {α:Type}(P:Program)(t:TypeId)(e:α→PV)(ok:α→Prop):Prop :=
 ∀ (H:Type) (enc:TypeId × Value→H) (W:World) (fuel:Nat) (cs:List Value) (x:DataW H × List MemPlace),DataW.trod enc P W 0 (fun _=>true) true fuel t cs=some x→(∀ n ∈ DataW.weights P t x.1,n≤reachBytes)→∃ a v,cs=[v]∧ok a∧V W NoM [] NoL (e a) v
theorem HE {P:Program}{t:TypeId}(ht:P.underlying t=some .string):Rdg P t (fun s=>.sc (.string s)) (fun s=>s.size≤reachBytes):=fun H enc W fuel cs x h hw=>by
 obtain⟨s,h1,rfl,-⟩:=DataW.trod_string ht h
 refine⟨s,_,h1,hw s.size ?_,.sc _⟩
 simp only[DataW.weights,mem_singleton]
 rfl
theorem WW {α:Type}(Q:Nat→α→Prop):∀ (n:Nat),(∀ i,i<n→∃ a,Q i a)→∃ l:List α,l.length=n∧∀ i a,l[i]?=some a→Q i a
 | 0,_=>⟨[],rfl,by simp⟩
 | n+1,h=>by
  obtain⟨l,h1,h2⟩:=WW Q n fun i hi=>h i (by omega)
  obtain⟨a,ha⟩:=h n (by omega)
  refine⟨l++[a],by simp[h1],fun i b hb => ?_⟩
  rcases Nat.lt_or_ge i l.length with hi | hi
  ·rw[getElem?_append_left hi] at hb;exact h2 i b hb
  ·rw[getElem?_append_right hi] at hb
   cases hj:i - l.length with
   | zero =>
    rw[hj] at hb
    cases hb
    have:i=n:=by omega
    rw[this]
    exact ha
   | succ j=>rw[hj] at hb;simp at hb
theorem tK {H:Type}{P:Program}{e:TypeId}{m:Nat} : ∀ {l:List (DataW H)} {i:Nat} {d:DataW H},l[i]?=some d→m ∈ DataW.weights P e d→m ∈ DataW.weightsAll P e l
 | [],i,d,h,_=>by simp at h
 | a::r,0,d,h,hm=>by
  cases h
  rw[DataW.weightsAll]
  exact mem_append_left _ hm
 | a::r,i+1,d,h,hm=>by
  rw[DataW.weightsAll]
  exact mem_append_right _ (tK (by simpa using h) hm)
theorem z8 {α:Type}{P:Program}{t te:TypeId}{e:α→PV}{ok:α→Prop}(ht:P.underlying t=some (.slice te))(hs:P.cellsOf te=1)(hb:1≤P.bytesOf te)(hi:∀ a,(e a).cH=true)(h:Rdg P te e ok) :
  Rdg P t (fun l:List α=>.imm l.length false (l.map e)) (fun l=>l.length≤reachBytes∧∀ a ∈ l,ok a):=fun H enc W fuel cs x hx hw=>by
 rcases DataW.trod_slice ht hx with ⟨h1,-⟩| ⟨a,len,cap,elems,rest,n,-,h1,rfl,-,h3,h4,h5,h6,-,-⟩
 ·exact⟨[],_,h1,⟨Nat.zero_le _,by simp⟩,.nil _⟩
 ·have hw1:∀ (i:Nat) (hi:i<elems.length),∀ m ∈ DataW.weights P te (elems[i]).1,m≤reachBytes:=fun i hi m hm=>by
   refine hw m ?_
   simp only[DataW.weights,ht]
   refine mem_cons_of_mem _ (mem_append_left _ (tK (i:=i) (d:=(elems[i]).1) ?_ hm))
   rw[getElem?_map,List.getElem?_eq_getElem hi];rfl
  have hw2:len≤reachBytes:=by
   have:=hw ((elems.length+rest.length)*P.bytesOf te) (by simp only[DataW.weights,ht,length_map];exact mem_cons_self)
   refine Nat.le_trans ?_ this
   exact Nat.le_trans (by omega) (Nat.le_mul_of_pos_right _ hb)
  have hq:∀ i,i<len→∃ y,ok y∧a.spot=none∧∃ v,W.cell? ⟨a.block,a.off+i,none⟩=some v∧V W NoM [] NoL (e y) v:=fun i hil=>by
   have h7:=h6 i hil
   rw[List.getElem?_eq_getElem (by omega),Option.bind_eq_some_iff,hs,Nat.mul_one] at h7
   obtain⟨cs,h8,h9⟩:=h7
   obtain⟨y,v,h10,h11,h12⟩:=h H enc W n cs _ h9 (hw1 i (by omega))
   rw[h10] at h8
   have h13:=ChangeShapes.cell_of_cells?_one h8
   have h14:a.spot=none:=by
    rcases Nat.eq_zero_or_pos len with h0 | h0
    ·omega
    ·have h7:=h6 0 h0
     rw[List.getElem?_eq_getElem (by omega),Option.bind_eq_some_iff,hs,Nat.mul_one] at h7
     obtain⟨cs',h8',h9'⟩:=h7
     obtain⟨y',v',h10',-,-⟩:=h H enc W n cs' _ h9' (hw1 0 (by omega))
     rw[h10'] at h8'
     exact World.cell?_spot (ChangeShapes.cell_of_cells?_one h8')
   refine⟨y,h11,h14,v,?_,h12⟩
   rw[← h13]
   unfold Addr.add
   split
   ·rename_i h0;rw[h0];cases a;simp_all
   ·rfl
  obtain⟨l,hl,hg⟩:=WW _ len hq
  subst hl
  have hk:∀ (k:Nat) c,(l.map e)[k]?=some c→∃ y,l[k]?=some y∧c=e y:=fun k c hc=>by
   rw[getElem?_map,Option.map_eq_some_iff] at hc
   obtain⟨y,h7,h8⟩:=hc
   exact⟨y,h7,h8.symm⟩
  refine⟨l,_,h1,⟨hw2,fun y hy => ?_⟩,.imm l.length false _ a cap (fun k=>(W.cell? ⟨a.block,a.off+k,none⟩).getD default) h3 nofun (fun k c hc => ?_) (fun k c hc => ?_)⟩
  ·obtain⟨i,hi1,hi2⟩:=mem_iff_getElem.mp hy
   exact (hg i y (by rw[List.getElem?_eq_getElem hi1,hi2])).1
  ·obtain⟨y,h7,rfl⟩:=hk k c hc
   obtain⟨-,h9,v,h10,-⟩:=hg k y h7
   exact⟨h9,hi y,fun hf=>hf,by simp[h10]⟩
  ·obtain⟨y,h7,rfl⟩:=hk k c hc
   obtain⟨-,h9,v,h10,h11⟩:=hg k y h7
   simp only[h10,Option.getD_some]
   exact h11
theorem aaV {α H:Type}{enc:TypeId × Value→H}{P:Program}{W:World}{t:TypeId}{e:α→PV}{ok:α→Prop}{v:Value}{d:DataW H}{ps:List MemPlace}(h:Rdg P t e ok)(hv:v.cells.toList=[v])(hx:DataW.Trod enc P W 0 (fun _=>true) true t v d ps)(hw:∀ n ∈ DataW.weights P t d,n≤reachBytes):∃ a,ok a∧V W NoM [] NoL (e a) v:=by
 obtain⟨fuel,hf⟩:=hx
 rw[hv] at hf
 obtain⟨a,u,h1,h2,h3⟩:=h H enc W fuel _ _ hf hw
 cases h1
 exact⟨a,h2,h3⟩
theorem wts {H:Type}{P:Program}{ts:List TypeId}{ds:List (DataW H)}(h:(DataW.weightsEach P ts ds).all (· ≤ reachBytes)=true)(j:Nat){t:TypeId}{d:DataW H}(ht:ts[j]?=some t)(hd:ds[j]?=some d):∀ n ∈ DataW.weights P t d,n≤reachBytes:=fun n hn=>by
 have:=all_eq_true.mp h n (DataW.weights_mem_each ht hd n hn)
 simpa using this
theorem zk {P:Program}{g:FuncId}(he:∀ (args:Array Value)(w:World),(callFunc g args).run P w = .ok (.enter g args) w){f:Ψ→Option Ψ}(h:Spec P g f){ws:Ψ}(hf:f ws=some [.sc (.bool true)])(hi:bV ws=true){W:World}{vs:List Value}(hv:Vs W NoM [] NoL ws vs) :
  Calls P g vs.toArray W fun e w'=>e = .returned (.bool true)∧Below W.heap.size W w':=by
 obtain⟨-,h2⟩:=h ws _ hf hi
 have h3:=h2 W NoM vs (fun _ hf=>hf.elim) hv
 unfold js at h3
 rw[he] at h3
 refine h3.mono fun e w' hh => ?_
 obtain⟨v,rfl,us,rfl,hv,ho⟩:=hh
 obtain⟨h4,h5⟩:=hv
 match us,h4 with
 | [u],_ =>
  have e1:=h5 0 _ u rfl rfl
  cases e1
  exact⟨rfl,ho.os,ho.tape,ho.output,ho.size,ho.same⟩
theorem Vs.nil {W:World}{M:Nat→Prop}{σ:List Addr}{L:Nat→Prop} : Vs W M σ L [] []:=⟨rfl,fun k p v hp hv=>by cases hp⟩
theorem Vs.cons {W:World}{M:Nat→Prop}{σ:List Addr}{L:Nat→Prop}{a:PV}{v:Value}{bs:Ψ}{vs:List Value}(h:V W M σ L a v)(h':Vs W M σ L bs vs):Vs W M σ L (a::bs) (v::vs) :=
 ⟨by rw[length_cons,length_cons,h'.1],fun k p v hp hv=>by
  match k,hp,hv with
  | 0,hp,hv=>cases hp;cases hv;exact h
  | k+1,hp,hv=>exact h'.2 k p v (by simpa using hp) (by simpa using hv)⟩
end Go.Ab
