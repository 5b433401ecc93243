/- Ranks by elimination and by minors, part 48 of the proof; each lemma states its own conditions. -/
import Derived.Test.YtjdmodeenbdfpaaGreatT47
import Derived.Test.YtjdmodeenbdfpaaGreatT45
import Derived.Test.YtjdmodeenbdfpaaGreatT12
import Derived.Test.YtjdmodeenbdfpaaGreatT41
set_option linter.unusedSimpArgs false
set_option linter.unusedVariables false
noncomputable section
namespace Go.Proofs.YtjdmodeenbdfpaaGreat
open Go Go.Ab List Tryz
attribute [local simp] FzZ aA aF aG aH aa ab ae af ag ah ai aj an and_assoc ao aq az seq1
variable(L:Lst)(run:ar)(k:Nat)(fr:List PV)(hp:List Blk)(wr:List Nat)
def nc (c:List (List ByteArray))(l:List Int):Int × Nat :=
 if gw c l (-1)≠0 then (0,gw c l (-1)) else if l=[] then (-1,0) else ((rkM (dj (toX c) (l.map Int.toNat)):Int),0)
theorem Fo {c:List (List ByteArray)}{l:List Int}(h:gw c l (-1)=0):chk c=0∧∀ z ∈ l,0≤z∧z<c.length:=by
 unfold gw at h
 by_cases h1:chk c=0
 ·rw[if_neg (fun e=>e h1),if_neg (by omega)] at h
  refine⟨h1,fun z hz => ?_⟩
  cases hb:l.any (pt c.length) with
  | true=>rw[hb] at h;cases h
  | false =>
   rw[any_eq_false] at hb
   have:=hb z hz
   unfold pt at this
   simp only[Bool.or_eq_true,decide_eq_true_eq] at this
   omega
 ·rw[if_pos h1] at h;exact absurd h h1
def bS:Nat→Nat
 | 0=>123
 | k+1=>4*bS k+1
theorem VW:∀ D:List (List Rat),D.flatMap eT=D.map (dp true)
 | []=>rfl
 | a::D=>by rw[flatMap_cons,VW D];rfl
theorem agr (D:List (List Rat))(t:Nat)(ht:t<D.length):(D.flatMap eT)[t]?=some (dp true D[t]):=by
 rw[VW,getElem?_map,getElem?_eq_getElem ht];rfl
theorem aje (D:List (List Rat)):rkM (tl D.length 0 (fun t=>D.getD t []))=rkM D:=by
 refine Nat.le_antisymm (qO fun a ha => ?_) (qO fun a ha => ?_)
 ·obtain⟨t,-,t2,rfl⟩:=oa.1 ha
  rw[getD_eq_getElem?_getD,getElem?_eq_getElem t2]
  exact getElem_mem _
 ·obtain⟨t,ht,rfl⟩:=mem_iff_getElem.1 ha
  exact oa.2 ⟨t,by omega,ht,by rw[getD_eq_getElem?_getD,getElem?_eq_getElem ht];rfl⟩
def LRk:Lst:=[(50,uv),(59,pU),(60,xp),(49,iA),(54,J7),(56,kS),(55,nJ)]
theorem ag0:dw base.P LRk:=⟨Al,pS,sT,jj,MX,oU,oS,trivial⟩
theorem aie:NkC LRk:=⟨rfl,rfl,rfl,rfl⟩
theorem aaU (c:List (List ByteArray))(l:List Int)(hF:me c)(h9:l.length≤900)(h0:gw c l (-1)=0)(hl:l≠[]):∃ st,af (CC LRk) (runK (CC LRk) (l.length+12)) (l.length+12) nkC ⟨entry 126 [cE c,aE l],[],[]⟩=some (.ret,st)∧aU TT st.fr st.hp f17.results.toList=some [iv (rkM (dj (toX c) (l.map Int.toNat))),iv 0]:=by
 obtain⟨h1,h3⟩:=Fo h0
 obtain⟨q1,q2,q3,q4,q5⟩:=tn h1 hF
 have g:=Jj (L:=LRk) rfl (runK (CC LRk) (l.length+12)) c l (-1) hF.fit (by omega)
 rw[h0] at g
 have hlen:0<l.length:=length_pos_iff.2 hl
 have hz:=h3 _ (getElem_mem hlen)
 have hcne:c≠[]:=by intro e;rw[e] at hz;simp at hz;omega
 obtain⟨hm1,hm3⟩:=q3 hcne
 have hin:∀ i ∈ l.map Int.toNat,i<(toX c).length:=fun i hi=>by
  obtain⟨z,hz,rfl⟩:=mem_map.1 hi
  have:=h3 z hz
  rw[q5];omega
 obtain⟨p,hp',fp,a1,a2,-⟩:=IV (L:=LRk) rfl rfl rfl (toX c) (l.map Int.toNat) (by simpa using hl) (by rw[length_map];omega) hin (show hdL c≤1000 by omega) (fun P hP=>⟨(q2 P hP).1,fun x hx=>((q2 P hP).2 x hx).mono (by omega)⟩) (l.length+11) (by rw[length_map];omega) false []
 rw[← q1,← FG (fun z hz=>(h3 z hz).1)] at a1
 obtain⟨fr1,wr1,b1,b2,b3,b4,b5,b6⟩:=afb LRk (runK (CC LRk) (l.length+12)) (l.length+12) c l hl g p hp' fp a1
 have hj:(l[0]).toNat<c.length:=by omega
 have hcl:(c[(l[0]).toNat]).length=hdL c:=by
  have:=(q2 _ (getElem_mem (l:=toX c) (n:=(l[0]).toNat) (by rw[q5];exact hj))).1
  rw[← this]
  simp[toX]
 obtain⟨fr2,d1,d2,d3⟩:=aic LRk (runK (CC LRk) (l.length+12)) (l.length+12) fr1 hp' wr1 c l (l[0]).toNat hlen (by omega) hj b2 b3 b4
 have K2:=bJ _ d1
 rw[hcl] at d2
 have e7:nth fr2 7=p:=K2.at b5 (by kernel_rfl)
 have e8:nth fr2 8=iv 0:=K2.at b6 (by kernel_rfl)
 have hdo:=kG q2 hin
 have hdl:(dj (toX c) (l.map Int.toNat)).length=l.length - 1:=by rw[fW,length_map]
 generalize dj (toX c) (l.map Int.toNat)=D at *
 have fin:(∃ fr' hp2 wr',af (CC LRk) (runK (CC LRk) (l.length+12)) (l.length+12) (.block 0 (.loop nkB)) ⟨fr2,hp',wr1⟩=some (.normal,⟨fr',hp2,wr'⟩)∧nth fr' 8=iv (rkM D))→∃ st,af (CC LRk) (runK (CC LRk) (l.length+12)) (l.length+12) nkC ⟨entry 126 [cE c,aE l],[],[]⟩=some (.ret,st)∧aU TT st.fr st.hp f17.results.toList=some [iv (rkM D),iv 0]:=by
  rintro⟨fr3,hp2,wr3,u1,u2⟩
  have K3:=bJ _ u1
  obtain⟨st,v1,v2⟩:=aaS LRk (runK (CC LRk) (l.length+12)) (l.length+12) fr3 hp2 wr3 (rkM D) (K3.len (K2.len b2)) u2
  refine⟨st,?_,v2⟩
  have hs:af (CC LRk) (runK (CC LRk) (l.length+12)) (l.length+12) (.seq aa7 (.block 0 (.loop nkB))) ⟨fr1,hp',wr1⟩=some (.normal,⟨fr3,hp2,wr3⟩):=by rw[av d1];exact u1
  rw[aO 5 b1,ajv,av hs]
  exact v1
 refine fin ?_
 obtain⟨-,a2⟩:=a2
 rcases a2 with ⟨hD,hp0⟩| ⟨id,M,x,-,hidl,hpe,-,hid⟩
 ·subst hD
  rw[hp0] at e7
  obtain⟨fr',hp2,wr',r,u1,u2,u3⟩:=Er LRk (runK (CC LRk) (l.length+10+2)) (l.length+12) (.sc (.slice none 0 0)) (hdL c) (fun _ r _=>r=0) hm3 (by omega) (fun kk fr hp wr r _ hr w0 w7 w8 w37=>by
   subst hr
   obtain⟨fr',hp2,wr',x1,x2⟩:=aa0 LRk (l.length+10) (l.length+12) fr hp wr kk w0 w7 w8 w37
   exact⟨fr',hp2,wr',0,x1,x2,rfl⟩) fr2 hp' wr1 rfl (K2.len b2) e7 e8 d2 d3
  subst u3
  have:rkM ([]:List (List Rat))=0:=sC (by rintro⟨a,ha,-⟩;cases ha)
  rw[this]
  exact⟨fr',hp2,wr',u1,u2⟩
 ·rw[hpe] at e7
  have hR0:Rws hp' id D.length (fun t=>D.getD t []):=by
   refine⟨_,hid,?_,fun t ht=>⟨dp true D[t],?_,.inl ?_⟩⟩
   ·rw[acn.length,length_append];omega
   ·rw[agr _ t (by rw[length_append];omega),getElem_append_left ht]
   ·show dp true D[t]=dp true (D.getD t [])
    rw[getD_eq_getElem?_getD,getElem?_eq_getElem ht];rfl
  have hI0:RkI D (hdL c) D.length 0 0 123 (fun t=>D.getD t []):=by
   refine⟨by rw[aje,Nat.zero_add],Nat.zero_le _,fun t ht => ?_,fun _ _ _ c hc=>by omega⟩
   rw[getD_eq_getElem?_getD,getElem?_eq_getElem ht]
   exact hdo _ (getElem_mem ht)
  obtain⟨fr',hp2,wr',r,u1,u2,g',bb,u3,u4,u5⟩:=Er LRk (runK (CC LRk) (l.length+10+2)) (l.length+12) (.own id 1 0 D.length x) (hdL c) (fun kk r hp=>∃ g bb,bb≤bS kk∧RkI D (hdL c) D.length kk r bb g∧Rws hp id D.length g) hm3 (by omega) (fun kk fr hp wr r hkk ⟨g,bb,hb1,hb2,hb3⟩ w0 w7 w8 w37=>by
   have hbb:bb≤100000:=by
    have:kk=0∨kk=1∨kk=2:=by omega
    rcases this with rfl | rfl | rfl <;> exact Nat.le_trans hb1 (by decide)
   obtain⟨fr',hp2,wr',r',g',x1,x2,x3,x4,x5⟩:=afg LRk aie (l.length+10) (l.length+12) fr hp wr D id D.length r kk (hdL c) bb x g (by omega) (by omega) (by omega) (by omega) hm3 hkk hbb hb2 hb3 w0 w7 w8 w37
   exact⟨fr',hp2,wr',r',x1,x2,g',4*bb+1,by show _≤4*bS kk+1;omega,x5,x4⟩) fr2 hp' wr1 ⟨_,123,Nat.le_refl _,hI0,hR0⟩ (K2.len b2) e7 e8 d2 d3
  rw[u4.done]
  exact⟨fr',hp2,wr',u1,u2⟩
def ah6 (p:CA):Prop:=me p.1∧p.2.length≤900
def xr:List PV→Option (List PV):=ctr eCA ah6 fun p=>[Ab.bz (nc p.1 p.2).1,iv (nc p.1 p.2).2]
theorem HP:Ab.Spec base.P 17 xr:=Ab.Spec.bM (C:=CC LRk) (cP ag0) fun args rs h=>by
 obtain⟨⟨c,l⟩,⟨hF,h9⟩,rfl,rfl⟩:=cN h
 dsimp only at hF h9
 show ∃ k rs1 hp1 wr rs2 ids,runK (CC LRk) k 17 [cE c,aE l] []=_∧_∧WkL rs2 [Ab.bz (nc c l).1,iv (nc c l).2]
 have g:=Jj (L:=LRk) rfl (runK (CC LRk) (l.length+12)) c l (-1) hF.fit (by omega)
 unfold nc
 by_cases h0:gw c l (-1)=0
 ·rw[if_neg (fun e=>e h0)]
  by_cases hl:l=[]
  ·subst hl
   rw[if_pos rfl]
   rw[h0] at g
   obtain⟨st,x1,x2⟩:=aaT LRk (runK (CC LRk) (([]:List Int).length+12)) (([]:List Int).length+12) c g
   exact⟨_,_,_,_,_,_,aP qn rfl x1 x2,rfl,Wk.refl rfl,Wk.refl rfl,trivial⟩
  ·rw[if_neg hl]
   obtain⟨st,x1,x2⟩:=aaU c l hF h9 h0 hl
   exact⟨_,_,_,_,_,_,aP qn rfl x1 x2,rfl,Wk.refl rfl,Wk.refl rfl,trivial⟩
 ·rw[if_pos h0]
  obtain⟨st,x1,x2⟩:=afh LRk (runK (CC LRk) (l.length+12)) (l.length+12) c l _ h0 g
  exact⟨_,_,_,_,_,_,aP qn rfl x1 x2,rfl,Wk.refl rfl,Wk.refl rfl,trivial⟩
end Go.Proofs.YtjdmodeenbdfpaaGreat
namespace Go.Ab
open Go List
attribute [local simp] FzZ aA aF aG aH af ag ah ai aj an and_assoc ao aq az seq1
variable(fr:List PV)
structure Lp where
 (r1 r3 e e2 i x a b c d u v:Nat)
 (t q1 q2 q3 q4 q5 q6 q7 qa qb qc qd:TypeId)
 (s1 s2 s3 s4 s5 s6 s7:String)
 (g1 g2 g3 g4 g5 g6 g7:Array Edge)
 deriving Inhabited
def xL:Code→Lp
 | .seq (.seq (.region r1 o1 _) (.cond _ _ (.exit e))) (.seq (.block e2 _) (.region r3 o3 _)) =>
  match o1.toList,o3.toList with
  | [⟨some a,.move (.tmp i),q1,s1,g1,_⟩,⟨some b,.move (.tmp x),q2,s2,g2,_⟩,⟨some c,.call ⟨_,_,ts⟩,q3,s3,g3,_⟩,⟨some d,.binOp _ qa _ _ qb,q4,s4,g4,_⟩],[⟨some u,_,q5,s5,g5,_⟩,⟨some v,.binOp _ qc _ _ qd,q6,s6,g6,_⟩,⟨_,_,q7,s7,g7,_⟩] =>
   ⟨r1,r3,e,e2,i,x,a,b,c,d,u,v,ts.getD 0 0,q1,q2,q3,q4,q5,q6,q7,qa,qb,qc,qd,s1,s2,s3,s4,s5,s6,s7,g1,g2,g3,g4,g5,g6,g7⟩
  | _,_=>default
 | _=>default
def db:Code→Code
 | .seq _ (.seq (.block _ b) _)=>b
 | c=>c
def Lp.code (l:Lp)(body:Code):Code :=
 .seq (.seq (.region l.r1 #[
  { dst:=some l.a,op:=.move (.tmp l.i),type:=l.q1,pos:=l.s1,after:=l.g1,guard:=none },
  { dst:=some l.b,op:=.move (.tmp l.x),type:=l.q2,pos:=l.s2,after:=l.g2,guard:=none },
  { dst:=some l.c,op:=.call { callee:=.builtin .len,args:=#[.tmp l.b],argTypes:=#[l.t] },type:=l.q3,pos:=l.s3,after:=l.g3,guard:=none },
  { dst:=some l.d,op:=.binOp .lss l.qa (.tmp l.a) (.tmp l.c) l.qb,type:=l.q4,pos:=l.s4,after:=l.g4,guard:=none }] false)
  (.cond (.tmp l.d) .skip (.exit l.e)))
 (.seq (.block l.e2 body) (.region l.r3 #[
  { dst:=some l.u,op:=.move (.tmp l.i),type:=l.q5,pos:=l.s5,after:=l.g5,guard:=none },
  { dst:=some l.v,op:=.binOp .add l.qc (.tmp l.u) (.const (.int .i64 1)) l.qd,type:=l.q6,pos:=l.s6,after:=l.g6,guard:=none },
  { dst:=some l.i,op:=.assign (.tmp l.v),type:=l.q7,pos:=l.s7,after:=l.g7,guard:=none }] false))
def Lp.ok (l:Lp)(m:Nat):Bool :=
 decide (l.i<m∧l.x<m∧l.a<m∧l.b<m∧l.c<m∧l.d<m∧l.u<m∧l.v<m∧l.a≠l.b∧l.a≠l.c∧l.x≠l.i∧l.x≠l.a∧l.x≠l.b∧l.x≠l.c∧l.x≠l.d∧l.x≠l.u∧l.x≠l.v∧l.i≠l.a∧l.i≠l.b∧l.i≠l.c∧l.i≠l.d)
def Lp.own (l:Lp)(t:Nat):Bool:=t.beq l.i || t.beq l.a || t.beq l.b || t.beq l.c || t.beq l.d || t.beq l.u || t.beq l.v
theorem mK(d t:Nat)(v:PV)(hd:d<fr.length):nth (dR fr d v) t=if t=d then v else nth fr t:=by
 by_cases h:t=d
 ·subst h;rw[if_pos rfl,sY,j6];simp[hd]
 ·rw[if_neg h];exact kD h
theorem j8(d:Nat)(v:PV):(dR fr d v).length=fr.length:=by rw[j6];simp
section
variable {C:Cfg} {run:ar} {k m:Nat} {l:Lp} {body:Code}
theorem Lp.test (hok:l.ok m=true)(hu:∃ el,und C.T l.t=some (.slice el)){fr:List PV}{hp:List Blk}{wr:List Nat}{j n:Nat}{p:PV}(h0:fr.length=m)(hi:nth fr l.i = .sc (.int .i64 (j:Int)))(hx:nth fr l.x=p)(hp':dn p=some n) :
  ∃ fr',af C run k (seq1 (l.code body)) ⟨fr,hp,wr⟩=some (bif j.blt n then .normal else .exit l.e,⟨fr',hp,wr⟩):=by
 obtain⟨el,hu⟩:=hu
 have hok':=of_decide_eq_true hok
 clear hok
 obtain⟨o1,o2,o3,o4,o5,o6,o7,o8,n1,n2,n3,n4,n5,n6,n7,n8,n9,n10,n11,n12,n13⟩:=hok'
 rw[← h0] at o1 o2 o3 o4 o5 o6 o7 o8
 have e1:nth (dR fr l.a (.sc (.int .i64 (j:Int)))) l.x=p:=by rw[kD n4];exact hx
 have e2:nth (dR (dR fr l.a (.sc (.int .i64 (j:Int)))) l.b p) l.b=p:=by rw[mK _ _ _ _ (by rw[j8];exact o4),if_pos rfl]
 have e3:nth (dR (dR (dR fr l.a (.sc (.int .i64 (j:Int)))) l.b p) l.c (.sc (.int .i64 (n:Int)))) l.a = .sc (.int .i64 (j:Int)):=by
  rw[kD n2,kD n1,mK _ _ _ _ o3,if_pos rfl]
 have e4:nth (dR (dR (dR fr l.a (.sc (.int .i64 (j:Int)))) l.b p) l.c (.sc (.int .i64 (n:Int)))) l.c = .sc (.int .i64 (n:Int)):=by
  rw[mK _ _ _ _ (by rw[j8,j8];exact o5),if_pos rfl]
 have e5:∀ v,nth (dR (dR (dR (dR fr l.a (.sc (.int .i64 (j:Int)))) l.b p) l.c (.sc (.int .i64 (n:Int)))) l.d v) l.d=v:=fun v=>by
  rw[mK _ _ _ _ (by rw[j8,j8,j8];exact o6),if_pos rfl]
 have hl:((j:Int)<(n:Int)) ↔ j<n:=Int.ofNat_lt
 by_cases hj:j<n
 ·have hb:j.blt n=true:=by rw[Nat.blt_eq];exact hj
  simp[Lp.code,bc,aw,bj,bO,hu,hp',hi,e1,e2,e3,e4,e5,hj,hb]
 ·have hb:j.blt n=false:=by cases e:j.blt n with | false=>rfl | true=>rw[Nat.blt_eq] at e;exact absurd e hj
  simp[Lp.code,bc,aw,bj,bO,hu,hp',hi,e1,e2,e3,e4,e5,hj,hb]
theorem Lp.inc (hok:l.ok m=true){fr:List PV}{hp:List Blk}{wr:List Nat}{j:Nat}(h0:fr.length=m)(hi:nth fr l.i = .sc (.int .i64 (j:Int)))(hj:j<9223372036854775807) :
  ∃ fr',af C run k (cw (cw (l.code body))) ⟨fr,hp,wr⟩=some (.normal,⟨fr',hp,wr⟩)∧nth fr' l.i = .sc (.int .i64 ((j+1:Nat):Int)):=by
 have hok':=of_decide_eq_true hok
 clear hok
 obtain⟨o1,o2,o3,o4,o5,o6,o7,o8,-⟩:=hok'
 rw[← h0] at o1 o7 o8
 have hw:=bH j hj
 have e1:nth (dR fr l.u (.sc (.int .i64 (j:Int)))) l.u = .sc (.int .i64 (j:Int)):=by rw[mK _ _ _ _ o7,if_pos rfl]
 have e2:∀ v,nth (dR (dR fr l.u (.sc (.int .i64 (j:Int)))) l.v v) l.v=v:=fun v=>by rw[mK _ _ _ _ (by rw[j8];exact o8),if_pos rfl]
 have e3:∀ v w,nth (dR (dR (dR fr l.u (.sc (.int .i64 (j:Int)))) l.v v) l.i w) l.i=w:=fun v w=>by rw[mK _ _ _ _ (by rw[j8,j8];exact o1),if_pos rfl]
 simp[Lp.code,cw,bc,aw,bj,hi,e1,e2,e3,hw]
theorem Lp.split (b:Code):l.code b = .seq (seq1 (l.code b)) (.seq (.block l.e2 b) (cw (cw (l.code b)))):=rfl
theorem Lp.ahT {B:Code}(hB:B=l.code body)(hok:l.ok m=true)(htb:dQ body l.i=false)(hxt:dQ B l.x=false)(hu:∃ el,und C.T l.t=some (.slice el)){n j0:Nat}(hk:n - j0<k)(hn:n<9223372036854775807)(hj0:j0≤n){J:Nat→(Nat→PV)→List Blk→Prop}{R:St→Prop}{fr0:List PV}{hp0:List Blk}{wr0:List Nat}{p:PV}(h0:fr0.length=m)(hx:nth fr0 l.x=p)(hp':dn p=some n)(hi:nth fr0 l.i = .sc (.int .i64 (j0:Int)))
  (hJ:∀ j f g hp,(∀ t,l.own t=false→f t=g t)→J j f hp→J j g hp)
  (step:∀ j fr hp wr,j0≤j→j<n→fD (dQ B) fr0 fr→nth fr l.i = .sc (.int .i64 (j:Int))→J j (nth fr) hp→∃ e st',af C run k (.block l.e2 body) ⟨fr,hp,wr⟩=some (e,st')∧((e = .normal∧J (j+1) (nth st'.fr) st'.hp)∨(e = .ret∧R st')))
  (hI:J j0 (nth fr0) hp0) :
  ∃ e st',af C run k (.block l.e (.loop B)) ⟨fr0,hp0,wr0⟩=some (e,st')∧((e = .normal∧fD (dQ B) fr0 st'.fr∧J n (nth st'.fr) st'.hp)∨(e = .ret∧R st')):=by
 subst hB
 have t1:∀ t,l.own t=false→dQ (seq1 (l.code body)) t=false∧dQ (cw (cw (l.code body))) t=false:=fun t ht=>by
  simp only[Lp.own,Bool.or_eq_false_iff] at ht
  obtain⟨⟨⟨⟨⟨⟨h1,h2⟩,h3⟩,h4⟩,h5⟩,h6⟩,h7⟩:=ht
  have c:∀ {x:Nat},t.beq x=false→x.beq t=false:=fun {x} h=>by
   cases e:x.beq t with
   | false=>rfl
   | true=>rw[Nat.eq_of_beq_eq_true e,Nat.beq_refl] at h;cases h
  simp only[Lp.code,seq1,cw,dQ,pK,c h1,c h2,c h3,c h4,c h5,c h6,c h7,Bool.or_self,and_self]
 have kk:∀ {c:Code},(∀ t,dQ (l.code body) t=false→dQ c t=false)→∀ {st st':St} {e:Ex},af C run k c st=some (e,st')→fD (dQ (l.code body)) st.fr st'.fr:=fun hc _ _ _ h=>(bJ _ h).mono hc
 have ks:∀ t,dQ (l.code body) t=false→dQ (seq1 (l.code body)) t=false∧dQ (.block l.e2 body) t=false∧dQ (cw (cw (l.code body))) t=false:=fun t ht=>by
  rw[Lp.split body] at ht
  simp only[dQ,Bool.or_eq_false_iff] at ht
  exact⟨ht.1,ht.2.1,ht.2.2⟩
 have round:∀ j fr hp wr,j0≤j→j<n→fD (dQ (l.code body)) fr0 fr→nth fr l.i = .sc (.int .i64 (j:Int))→J j (nth fr) hp→∃ e st',af C run k (l.code body) ⟨fr,hp,wr⟩=some (e,st')∧((e = .normal∧fD (dQ (l.code body)) fr0 st'.fr∧nth st'.fr l.i = .sc (.int .i64 ((j+1:Nat):Int))∧J (j+1) (nth st'.fr) st'.hp)∨(e = .ret∧R st')):=by
  intro j fr hp wr hj hjn hK hij hJj
  obtain⟨fr1,a1⟩:=Lp.test (C:=C) (run:=run) (k:=k) (body:=body) hok hu (wr:=wr) (hp:=hp) (hK.len h0) hij (hK.at hx hxt) hp'
  have hb:j.blt n=true:=by rw[Nat.blt_eq];exact hjn
  rw[hb,cond_true] at a1
  have k1:=bJ _ a1
  have i1:nth fr1 l.i = .sc (.int .i64 (j:Int)):=by
   refine k1.at hij ?_
   have hok':=of_decide_eq_true hok
   obtain⟨-,-,-,-,-,-,-,-,-,-,-,-,-,-,-,-,-,n10,n11,n12,n13⟩:=hok'
   have c:∀ {x y:Nat},x≠y→y.beq x=false:=fun {x y} h=>by
    cases e:y.beq x with
    | false=>rfl
    | true=>exact absurd (Nat.eq_of_beq_eq_true e).symm h
   simp only[Lp.code,seq1,dQ,pK,c n10,c n11,c n12,c n13,Bool.or_self]
  have K1:=hK.trans (kk (fun t ht=>(ks t ht).1) a1)
  obtain⟨e,st,b1,b2⟩:=step j fr1 hp wr hj hjn K1 i1 (hJ j _ _ hp (fun t ht=>(k1.2 t (t1 t ht).1).symm) hJj)
  rcases b2 with ⟨rfl,b2⟩| ⟨rfl,b2⟩
  ·obtain⟨fr2,hp2,wr2⟩:=st
   have k2:=bJ _ b1
   have K2:=K1.trans (kk (fun t ht=>(ks t ht).2.1) b1)
   obtain⟨fr3,c1,c2⟩:=Lp.inc (C:=C) (run:=run) (k:=k) (body:=body) hok (wr:=wr2) (hp:=hp2) (K2.len h0) (k2.at i1 htb) (by omega)
   have k3:=bJ _ c1
   refine⟨.normal,⟨fr3,hp2,wr2⟩,?_,.inl ⟨rfl,K2.trans (kk (fun t ht=>(ks t ht).2.2) c1),c2,hJ (j+1) _ _ hp2 (fun t ht=>(k3.2 t (t1 t ht).2).symm) b2⟩⟩
   rw[Lp.split body,av a1,av b1];exact c1
  ·refine⟨.ret,st,?_,.inr ⟨rfl,b2⟩⟩
   rw[Lp.split body,av a1]
   simp only[af] at b1 ⊢
   rw[b1]
 have loop:∀ (d j:Nat) (fr:List PV) (hp:List Blk) (wr:List Nat),j+d=n→j0≤j→fD (dQ (l.code body)) fr0 fr→nth fr l.i = .sc (.int .i64 (j:Int))→J j (nth fr) hp→∃ e st',cu (af C run k (l.code body)) (d+1) ⟨fr,hp,wr⟩=some (e,st')∧((e = .exit l.e∧fD (dQ (l.code body)) fr0 st'.fr∧J n (nth st'.fr) st'.hp)∨(e = .ret∧R st')):=by
  intro d
  induction d with
  | zero =>
   intro j fr hp wr hjn hj hK hij hJj
   have e:j=n:=by omega
   subst e
   obtain⟨fr1,a1⟩:=Lp.test (C:=C) (run:=run) (k:=k) (body:=body) hok hu (wr:=wr) (hp:=hp) (hK.len h0) hij (hK.at hx hxt) hp'
   have hb:j.blt j=false:=by cases e:j.blt j with | false=>rfl | true=>rw[Nat.blt_eq] at e;omega
   rw[hb,cond_false] at a1
   have k1:=bJ _ a1
   refine⟨.exit l.e,⟨fr1,hp,wr⟩,bD ?_,.inl ⟨rfl,hK.trans (kk (fun t ht=>(ks t ht).1) a1),hJ j _ _ hp (fun t ht=>(k1.2 t (t1 t ht).1).symm) hJj⟩⟩
   rw[Lp.split body]
   have:=a1
   rw[af]
   rw[this]
  | succ d ih =>
   intro j fr hp wr hjn hj hK hij hJj
   obtain⟨e,st,a1,a2⟩:=round j fr hp wr hj (by omega) hK hij hJj
   rcases a2 with ⟨rfl,a2,a3,a4⟩| ⟨rfl,a2⟩
   ·obtain⟨e',st',b1,b2⟩:=ih (j+1) st.fr st.hp st.wr (by omega) (by omega) a2 a3 a4
    exact⟨e',st',by rw[ct a1];exact b1,b2⟩
   ·exact⟨.ret,st,eM a1,.inr ⟨rfl,a2⟩⟩
 obtain⟨e,st,a1,a2⟩:=loop (n - j0) j0 fr0 hp0 wr0 (by omega) (Nat.le_refl _) (fD.refl _ _) hi hI
 have a1':=ca a1 (show n - j0+1≤k by omega)
 rcases a2 with ⟨rfl,a2⟩| ⟨rfl,a2⟩
 ·exact⟨.normal,st,bN a1',.inl ⟨rfl,a2⟩⟩
 ·exact⟨.ret,st,by simp only[af,a1'],.inr ⟨rfl,a2⟩⟩
theorem Lp.go {B:Code}(hB:B=l.code body)(hok:l.ok m=true)(htb:dQ body l.i=false)(hxt:dQ B l.x=false)(hu:∃ el,und C.T l.t=some (.slice el)){n j0:Nat}(hk:n - j0<k)(hn:n<9223372036854775807)(hj0:j0≤n){J:Nat→(Nat→PV)→List Blk→Prop}{fr0:List PV}{hp0:List Blk}{wr0:List Nat}{p:PV}(h0:fr0.length=m)(hx:nth fr0 l.x=p)(hp':dn p=some n)(hi:nth fr0 l.i = .sc (.int .i64 (j0:Int)))
  (hJ:∀ j f g hp,(∀ t,l.own t=false→f t=g t)→J j f hp→J j g hp)
  (step:∀ j fr hp wr,j0≤j→j<n→fD (dQ B) fr0 fr→nth fr l.i = .sc (.int .i64 (j:Int))→J j (nth fr) hp→∃ fr' hp' wr',af C run k (.block l.e2 body) ⟨fr,hp,wr⟩=some (.normal,⟨fr',hp',wr'⟩)∧J (j+1) (nth fr') hp')
  (hI:J j0 (nth fr0) hp0) :
  ∃ fr' hp' wr',af C run k (.block l.e (.loop B)) ⟨fr0,hp0,wr0⟩=some (.normal,⟨fr',hp',wr'⟩)∧fD (dQ B) fr0 fr'∧J n (nth fr') hp':=by
 obtain⟨e,st,a1,a2⟩:=Lp.ahT (R:=fun _=>False) hB hok htb hxt hu hk hn hj0 h0 hx hp' hi hJ (fun j fr hp wr a b c d e=>by
  obtain⟨fr',hp',wr',x1,x2⟩:=step j fr hp wr a b c d e
  exact⟨.normal,⟨fr',hp',wr'⟩,x1,.inl ⟨rfl,x2⟩⟩) hI (wr0:=wr0)
 rcases a2 with ⟨rfl,a2⟩| ⟨-,a2⟩
 ·exact⟨st.fr,st.hp,st.wr,a1,a2⟩
 ·exact a2.elim
end
end Go.Ab
namespace Go.Proofs.YtjdmodeenbdfpaaGreat
open Go Go.Ab List Tryz
attribute [local simp] FzZ aA aF aG aH aa ab ae af ag ah ai aj an and_assoc ao aq az seq1
variable(L:Lst)(run:ar)(k:Nat)(fr:List PV)(hp:List Blk)(wr:List Nat)
theorem FU:base.F.get 57=some f57:=by kernel_rfl
theorem MA:base.shared 57=false:=by kernel_rfl
theorem FW:base.F.get 107=some f107:=by kernel_rfl
theorem MC:base.shared 107=false:=by kernel_rfl
def suC:Code:=f57.body.getD .skip
def suB:Code:=(aC suC).getD .skip
theorem ajf:ah 2 suC = .seq (.seq (seq1 (seq1 (ah 2 suC))) (.block 0 (.loop suB))) (ah 3 suC):=rfl
theorem ahE:∃ el,und TT 39=some (.slice el):=⟨_,uPt⟩
theorem fr0:FP.free ⟨[],[],false,false⟩=true:=rfl
theorem QN(P Q:List Rat)(i:Nat)(out:List ByteArray)(hi:i<P.length)(hj:i<Q.length)(ho9:out.length≤1000)(g:au L run 70 [qt P[i],qt Q[i]] (qt (P[i] - Q[i])))(hO:fe 1 es 0 hp out (nth fr 5))(h0:fr.length=26)(h00:nth fr 0=qL P)(h1:nth fr 1=qL Q)(h6:nth fr 6=iv i) :
  ∃ fr' hp' wr',af (CC L) run k (.block 1 (db suB)) ⟨fr,hp,wr⟩=some (.normal,⟨fr',hp',wr'⟩)∧fe 1 es 0 hp' (out++[qb (P[i] - Q[i])]) (nth fr' 5):=by
 obtain⟨r1,x1,x2⟩:=EI P i hi
 obtain⟨r2,y1,y2⟩:=EI Q i hj
 obtain⟨p',hp',fp,a1,a2,a3,-⟩:=hO.app IA.toEl [qb (P[i] - Q[i])] (by simp) (by simp;omega)
 unfold qt at g
 generalize qb (P[i] - Q[i])=v at *
 rw[show [v].flatMap es=[.sc (.string v)] from rfl,show [v].length=1 from rfl] at a1
 have hid:bU [PV.sc (.string v)]=true:=rfl
 have hlit:=abA v
 have hrd:=aeo hp v
 unfold au at g
 generalize qb P[i]=s1 at *
 generalize qb Q[i]=s2 at *
 simp only[iv] at h6
 have fr0':=fr0
 cases hfp:FP.free ⟨fp.rd,fp.wr,fp.al,false⟩ <;> simp[db,suB,suC,f57,aC,aL,partOf,bd,bh,HY,h0,h00,h1,h6,x1,x2,y1,y2,g,hid,hlit,hrd,a1,a2,uPt,uM,iQ,qw,Lx,cg,aV,number,fr0',hfp]
theorem ad0 (L:Lst)(run:ar)(k:Nat)(p q:PV):∃ fr wr,aX (CC L) run k 2 suC ⟨entry 26 [p,q],[],[]⟩=some ⟨fr,[],wr⟩∧fr.length=26∧nth fr 0=p∧nth fr 1=q∧nth fr 5 = .sc (.slice none 0 0):=by
 obtain⟨e1,e2,e3⟩:=cn 24 p q
 generalize entry 26 [p,q]=fr0 at *
 simp[suC,f57,aX,e1,e2,e3]
theorem ahG(h0:fr.length=26):∃ fr',af (CC L) run k (seq1 (seq1 (ah 2 suC))) ⟨fr,hp,wr⟩=some (.normal,⟨fr',hp,wr⟩)∧nth fr' 6=iv 0:=by
 simp[iv,suC,f57,h0]
theorem YG(p:PV)(h0:fr.length=26)(h5:nth fr 5=p):∃ st,af (CC L) run k (ah 3 suC) ⟨fr,hp,wr⟩=some (.ret,st)∧st.hp=hp∧aU TT st.fr st.hp f57.results.toList=some [p]:=by
 simp[suC,f57,h0,h5,aU]
def LYa:Lst:=[(70,mnF),(34,wU),(24,tU)]
theorem Je:dw base.P LYa:=⟨abj,zO,sJ,trivial⟩
def ajr (p:VV):Prop:=RbL 100000 p.1∧RbL 100000 p.2∧p.1.length≤p.2.length∧p.1.length≤100
def suF:List PV→Option (List PV):=ctr (fun p:VV=>[qL p.1,qL p.2]) ajr fun p=>[qL (dy p.1 p.2)]
theorem LV {P Q:List Rat}{i:Nat}(hi:i<P.length)(hj:i<Q.length):(dy P Q).take (i+1)=(dy P Q).take i++[P[i] - Q[i]]:=by
 have h:i<(dy P Q).length:=by unfold dy;rw[length_zipWith];omega
 rw[take_succ_eq_append_getElem h]
 congr 2
 exact getElem_zipWith (f:=(· - ·)) (h:=h)
theorem Be:Ab.Spec base.P 57 suF:=Ab.Spec.bM (C:=CC LYa) (cP Je) fun args rs h=>by
 obtain⟨⟨P,Q⟩,⟨hP,hQ,hl,h9⟩,rfl,rfl⟩:=cN h
 dsimp only at hP hQ hl h9
 obtain⟨fr1,wr1,a1,a2,a3,a4,a5⟩:=ad0 LYa (runK (CC LYa) 200) 200 (qL P) (qL Q)
 obtain⟨fr2,b1,b2⟩:=ahG LYa (runK (CC LYa) 200) 200 fr1 [] wr1 a2
 have K2:=bJ _ b1
 have i5:nth fr2 5 = .sc (.slice none 0 0):=K2.at a5 (by kernel_rfl)
 obtain⟨fr3,hp3,wr3,c1,c2,c3⟩:=Lp.go (C:=CC LYa) (run:=runK (CC LYa) 200) (k:=200) (l:=xL suB) (body:=db suB) (m:=26) (B:=suB) rfl (by kernel_rfl) (by kernel_rfl) (by kernel_rfl) ahE (n:=P.length) (j0:=0) (by omega) (by omega) (by omega)
  (J:=fun j f hp=>fe 1 es 0 hp (((dy P Q).take j).map qb) (f 5)) (fr0:=fr2) (hp0:=[]) (wr0:=wr1) (p:=qL P) (K2.len a2) (K2.at a3 (by kernel_rfl)) (Io P) b2
  (fun j f g hp h hJ=>by rw[← h 5 (by kernel_rfl)];exact hJ)
  (fun j fr hp wr _ hj hK hij hJ=>by
   obtain⟨fr',hp',wr',x1,x2⟩:=QN LYa (runK (CC LYa) 200) 200 fr hp wr P Q j _ hj (by omega) (by rw[length_map,length_take];omega) (ajS rfl _ (hP _ (getElem_mem _)) (hQ _ (getElem_mem _)) (by omega) (by omega)) hJ (hK.len (K2.len a2)) (hK.at (K2.at a3 (by kernel_rfl)) (by kernel_rfl)) (hK.at (K2.at a4 (by kernel_rfl)) (by kernel_rfl)) hij
   refine⟨fr',hp',wr',x1,?_⟩
   rw[LV hj (by omega),map_append]
   exact x2)
  (by rw[i5];exact fe.nil (Nat.le_refl _))
 rw[take_of_length_le (by unfold dy;rw[length_zipWith];omega)] at c3
 obtain⟨st,d1,d2,d3⟩:=YG LYa (runK (CC LYa) 200) 200 fr3 hp3 wr3 _ (c2.len (K2.len a2)) rfl
 have hx:af (CC LYa) (runK (CC LYa) 200) 200 suC ⟨entry 26 [qL P,qL Q],[],[]⟩=some (.ret,st):=by
  have hs:af (CC LYa) (runK (CC LYa) 200) 200 (.seq (seq1 (seq1 (ah 2 suC))) (.block 0 (.loop suB))) ⟨fr1,[],wr1⟩=some (.normal,⟨fr3,hp3,wr3⟩):=by rw[av b1];exact c1
  rw[aO 2 a1,ajf,av hs];exact d1
 obtain⟨rs,ids,e1,e2⟩:=D0 IA.toEl c3
 exact⟨_,_,_,_,rs,ids,aP FU rfl hx d3,by rw[d2];exact e1,e2⟩
theorem JL {p q:VV}(h:[qL p.1,qL p.2]=[qL q.1,qL q.2]):p=q:=by
 simp only[List.cons.injEq,and_true] at h
 exact Prod.ext (BL h.1) (BL h.2)
theorem AZ (P Q:List Rat):aJ [qL P,qL Q]=[qL P,qL Q]:=by simp only[aJ,qL,pE,IA.B8]
theorem ahe {L:Lst}(hL:bu L 57=fun a=>suF (aJ a))(run:ar)(P Q:List Rat){j k:Nat}(hP:RbL j P)(hQ:RbL k Q)(hj:j≤100000)(hk:k≤100000)(hl:P.length≤Q.length)(h9:P.length≤100):au L run 57 [qL P,qL Q] (qL (dy P Q)) :=
 fH MA (e:=fun p:VV=>[qL p.1,qL p.2]) (f:=fun p=>[qL (dy p.1 p.2)]) hL (fun x y _ _ h=>by rw[JL h]) run (P,Q) ⟨fun x hx=>(hP x hx).mono hj,fun x hx=>(hQ x hx).mono hk,hl,h9⟩ (fun _=>rfl) (AZ P Q)
def doC:Code:=f107.body.getD .skip
def doB:Code:=(aC doC).getD .skip
theorem ajN:ah 2 doC = .seq (.seq (seq1 (seq1 (ah 2 doC))) (.block 0 (.loop doB))) (ah 3 doC):=rfl
theorem V4(P Q:List Rat)(i:Nat)(s t u:ByteArray)(hi:i<P.length)(hj:i<Q.length)(g1:au L run 34 [qt P[i],qt Q[i]] (.sc (.string t)))(g2:au L run 24 [.sc (.string s),.sc (.string t)] (.sc (.string u)))(h0:fr.length=25)(h00:nth fr 0=qL P)(h1:nth fr 1=qL Q)(h5:nth fr 5 = .sc (.string s))(h6:nth fr 6=iv i) :
  ∃ fr' wr',af (CC L) run k (.block 1 (db doB)) ⟨fr,hp,wr⟩=some (.normal,⟨fr',hp,wr'⟩)∧nth fr' 5 = .sc (.string u):=by
 obtain⟨r1,x1,x2⟩:=EI P i hi
 obtain⟨r2,y1,y2⟩:=EI Q i hj
 unfold qt at g1
 unfold au at g1 g2
 generalize qb P[i]=s1 at *
 generalize qb Q[i]=s2 at *
 simp only[iv] at h6
 simp[db,doB,doC,f107,aC,aL,partOf,bd,h0,h00,h1,h5,h6,x1,x2,y1,y2,g1,g2,uM,iQ,aV,number,FP.free]
theorem agw (L:Lst)(run:ar)(k:Nat)(p q:PV):∃ fr wr,aX (CC L) run k 2 doC ⟨entry 25 [p,q],[],[]⟩=some ⟨fr,[],wr⟩∧fr.length=25∧nth fr 0=p∧nth fr 1=q∧nth fr 5 = .sc (.string ⟨#[48]⟩):=by
 obtain⟨e1,e2,e3⟩:=cn 23 p q
 generalize entry 25 [p,q]=fr0 at *
 simp[doC,f107,aX,e1,e2,e3]
theorem aiQ(h0:fr.length=25):∃ fr',af (CC L) run k (seq1 (seq1 (ah 2 doC))) ⟨fr,hp,wr⟩=some (.normal,⟨fr',hp,wr⟩)∧nth fr' 6=iv 0:=by
 simp[iv,doC,f107,h0]
theorem acx(p:PV)(h0:fr.length=25)(h5:nth fr 5=p):∃ st,af (CC L) run k (ah 3 doC) ⟨fr,hp,wr⟩=some (.ret,st)∧aU TT st.fr st.hp f107.results.toList=some [p]:=by
 simp[doC,f107,h0,h5,aU]
def ajs (p:VV):Prop:=RbL 10000 p.1∧RbL 10000 p.2∧p.1.length=p.2.length∧p.1.length≤10
def doF:List PV→Option (List PV):=ctr (fun p:VV=>[qL p.1,qL p.2]) ajs fun p=>[qt (dot p.1 p.2)]
theorem agt {k:Nat}{P Q:List Rat}(hP:RbL k P)(hQ:RbL k Q)(hl:P.length=Q.length)(j:Nat)(hj:j≤P.length)(h9:j≤10):Rb (20*k+11) (rH P Q j):=by
 refine (vK hP hQ hl j hj).mono ?_
 have:j*(2*k+1)≤10*(2*k+1):=Nat.mul_le_mul_right _ h9
 omega
theorem Lo:Ab.Spec base.P 107 doF:=Ab.Spec.bM (C:=CC LYa) (cP Je) fun args rs h=>by
 obtain⟨⟨P,Q⟩,⟨hP,hQ,hl,h9⟩,rfl,rfl⟩:=cN h
 dsimp only at hP hQ hl h9
 obtain⟨fr1,wr1,a1,a2,a3,a4,a5⟩:=agw LYa (runK (CC LYa) 200) 200 (qL P) (qL Q)
 obtain⟨fr2,b1,b2⟩:=aiQ LYa (runK (CC LYa) 200) 200 fr1 [] wr1 a2
 have K2:=bJ _ b1
 have i5:nth fr2 5 = .sc (.string ⟨#[48]⟩):=K2.at a5 (by kernel_rfl)
 obtain⟨fr3,hp3,wr3,c1,c2,c3⟩:=Lp.go (C:=CC LYa) (run:=runK (CC LYa) 200) (k:=200) (l:=xL doB) (body:=db doB) (m:=25) (B:=doB) rfl (by kernel_rfl) (by kernel_rfl) (by kernel_rfl) ahE (n:=P.length) (j0:=0) (by omega) (by omega) (by omega)
  (J:=fun j f hp=>f 5=qt (rH P Q j)) (fr0:=fr2) (hp0:=[]) (wr0:=wr1) (p:=qL P) (K2.len a2) (K2.at a3 (by kernel_rfl)) (Io P) b2
  (fun j f g hp h hJ=>by rw[← h 5 (by kernel_rfl)];exact hJ)
  (fun j fr hp wr _ hj hK hij hJ=>by
   have bx:=hP P[j] (getElem_mem _)
   have by':=hQ (Q[j]'(by omega)) (getElem_mem _)
   have bs':=agt hP hQ hl j (by omega) (by omega)
   obtain⟨fr',wr',x1,x2⟩:=V4 LYa (runK (CC LYa) 200) 200 fr hp wr P Q j (qb (rH P Q j)) (qb (P[j]*Q[j]'(by omega))) (qb (rH P Q j+P[j]*Q[j]'(by omega))) hj (by omega) (ai6 rfl _ bx by' (by omega)) (ahj rfl _ bs' (bx.mul by') (by omega)) (hK.len (K2.len a2)) (hK.at (K2.at a3 (by kernel_rfl)) (by kernel_rfl)) (hK.at (K2.at a4 (by kernel_rfl)) (by kernel_rfl)) hJ hij
   refine⟨fr',hp,wr',x1,?_⟩
   rw[x2]
   show _=qt (rH P Q j+P.getD j 0*Q.getD j 0)
   rw[gj hj,gj (by omega)]
   rfl)
  (by rw[i5];exact congrArg (fun s=>PV.sc (.string s)) qb0.symm)
 obtain⟨st,d1,d3⟩:=acx LYa (runK (CC LYa) 200) 200 fr3 hp3 wr3 _ (c2.len (K2.len a2)) c3
 have hx:af (CC LYa) (runK (CC LYa) 200) 200 doC ⟨entry 25 [qL P,qL Q],[],[]⟩=some (.ret,st):=by
  have hs:af (CC LYa) (runK (CC LYa) 200) 200 (.seq (seq1 (seq1 (ah 2 doC))) (.block 0 (.loop doB))) ⟨fr1,[],wr1⟩=some (.normal,⟨fr3,hp3,wr3⟩):=by rw[av b1];exact c1
  rw[aO 2 a1,ajN,av hs];exact d1
 exact⟨_,_,_,_,[qt (dot P Q)],[],aP FW rfl hx d3,rfl,Wk.refl rfl,trivial⟩
theorem ajb {L:Lst}(hL:bu L 107=fun a=>doF (aJ a))(run:ar)(P Q:List Rat){j:Nat}(hP:RbL j P)(hQ:RbL j Q)(hj:j≤10000)(hl:P.length=Q.length)(h9:P.length≤10):au L run 107 [qL P,qL Q] (qt (dot P Q)) :=
 fH MC (e:=fun p:VV=>[qL p.1,qL p.2]) (f:=fun p=>[qt (dot p.1 p.2)]) hL (fun x y _ _ h=>by rw[JL h]) run (P,Q) ⟨fun x hx=>(hP x hx).mono hj,fun x hx=>(hQ x hx).mono hj,hl,h9⟩ (fun _=>rfl) (AZ P Q)
end Go.Proofs.YtjdmodeenbdfpaaGreat
end
