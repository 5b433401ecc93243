/- Contracts of affine maps of clouds and of the law, part 30; each lemma states its conditions. -/
import Derived.Test.YtjdmodeenbdfpaaGreatW29
import Derived.Test.YtjdmodeenbdfpaaGreatRows
import Derived.ProofKit
import Derived.ShutString
import Derived.ChangeOld
set_option linter.unusedSimpArgs false
set_option linter.unusedVariables false
namespace Go.Proofs.YtjdmodeenbdfpaaGreat
open Go Go.Ab List
attribute [local simp] FzZ aA aC aF aG aH aM aZ aa ab ae af afC ag ah ai aj an ao aq au av bf bg bn fN seq1
theorem ade:fq TT 83=some false:=by kernel_rfl
theorem afq (v:PV)(hv:v.cells?=some [v]):eM TT 39 1 [(0,v)]=some (1,[v]):=by
 simp[eM,uPt,fV,ado,rep,dq,hv,cm]
theorem xD (v:PV)(hv:v.cells?=some [v]):eM TT 23 1 [(0,v)]=some (1,[v]):=by
 simp[eM,uCl,sPt,X4,rep,dq,hv,cm]
section
variable (L:Lst) (run:aw) (k:Nat) (fr:Ψ) (hp:Θ) (wr:Ω)
theorem ai1 (R:List (List Rat))(B:List Rat)(P F:PV)(i:Nat)(hi:i<R.length)(hb:i<B.length)(h0:fr.length=123)(h15:nth fr 15=vR B)(h18:nth fr 18=P)(h19:nth fr 19=F)(h82:nth fr 82=dj eVr R)(h84:nth fr 84=iv i) :
  ∃ fr1 fr2 wr',ba (CC L) run k 2 (rX gR) ⟨fr,hp,wr⟩=some ⟨fr1,bZ (aL hp rz) hp.length ⟨.live,rcs B[i]⟩,wr'⟩∧af (CC L) run k (seq1 (seq1 (ag 2 (rX gR)))) ⟨fr1,bZ (aL hp rz) hp.length ⟨.live,rcs B[i]⟩,wr'⟩=some (.normal,⟨fr2,bZ (aL hp rz) hp.length ⟨.live,rcs B[i]⟩,wr'⟩)∧fr2.length=123∧nth fr2 18=P∧nth fr2 19=F∧nth fr2 22 = .ptr hp.length 0∧nth fr2 93=vR R[i]∧nth fr2 94=iv R[i].length∧nth fr2 95=iv 0:=by
 obtain⟨r,x1,x2⟩:=ac3 R i hi
 obtain⟨r',y1,y2⟩:=Ce B i hb
 have hx:=al1 hp rz
 have hx1:=dH rz (rcs B[i]) (by rw[cl.len];rfl)
 have hokx:=cl.okc B[i]
 have hlx:=cl.len B[i]
 have hl:dy (vR R[i])=some R[i].length:=rfl
 generalize rcs B[i]=cb at *
 generalize vR R[i]=Vi at *
 generalize R[i].length=n at *
 generalize dj eVr R=RR at *
 simp only[iv] at h84
 have zR':=zRz
 obtain⟨fr1,wr',a1,a2,a3,a4,a5,a6⟩:∃ fr1 wr',ba (CC L) run k 2 (rX gR) ⟨fr,hp,wr⟩=some ⟨fr1,bZ (aL hp rz) hp.length ⟨.live,cb⟩,wr'⟩∧fr1.length=123∧nth fr1 18=P∧nth fr1 19=F∧nth fr1 21=Vi∧nth fr1 22 = .ptr hp.length 0:=by
  simp[ba,rX,blk,gR,Tryz.f33,partOf,and_assoc,bm,h0,h15,h18,h19,h82,h84,x1,x2,y1,y2,hx,hx1,hokx,hlx,aX,aR,sR,zR',ade,zw]
 refine⟨fr1,?_⟩
 simp only[a1]
 simp[iv,rX,blk,gR,Tryz.f33,bL,a2,a3,a4,a5,a6,hl,JP]
theorem aiZ (F:PV)(n id:Nat)(v:Rat)(hp':Θ)(fp:FP)(F':PV)(g1:az L run 43 [.agg (rcs v)] (.sc (.bool false)))(g2:az L run 44 [.agg (rcs v)] (qt v))(h0:fr.length=123)(h19:nth fr 19=F)(h22:nth fr 22 = .ptr id 0)(hb:aP hp id=some ⟨.live,rcs v⟩)(ha:cw hp 1 F 1 [qt v]=some (F',hp',fp)):∃ fr' wr',af (CC L) run k (ag 3 (rX gR)) ⟨fr,hp,wr⟩=some (.normal,⟨fr',hp',wr'⟩)∧nth fr' 19=F':=by
 have hx4:=dM (rcs v) (cl.len _)
 have l1:=afq (qt v) rfl
 have r1:=fun hp=>Zl hp (qt v)
 unfold az at g1 g2
 generalize rcs v=cv at *
 simp only[qt] at *
 generalize qb v=s at *
 simp[rX,blk,gR,Tryz.f33,soft,eu,partOf,and_assoc,bd,pK,h0,h19,h22,hb,hx4,g1,g2,l1,r1,ha,uPt,fV,ajS,ado,bQ,bM,PV.cF,aX,aR,sR,bq]
end
def eG (R:List (List Rat))(B P:List Rat):List Rat:=(List.range R.length).map fun i=>mZ (B.getD i 0) (R.getD i []) P (R.getD i []).length
def TX (R:List (List Rat))(B P:List Rat):Prop:=R.length≤3∧R.length≠0∧B.length=R.length∧P.length=R.length∧RbL 100 B∧RbL 100 P∧∀ V ∈ R,V.length=R.length∧RbL 100 V
theorem pQ {X:List (List Rat)}{i:Nat}(h:i<X.length):X.getD i []=X[i]:=by rw[getD_eq_getElem?_getD,List.getElem?_eq_getElem h];rfl
section
variable (L:Lst) (run:aw) (k:Nat) (fr:Ψ) (hp:Θ) (wr:Ω)
theorem aiV (i n:Nat)(h0:fr.length=123)(hn:nth fr 83=iv n)(hi:nth fr 84=iv i):∃ fr',af (CC L) run k (rT gR) ⟨fr,hp,wr⟩=some (bif i.blt n then .normal else .exit 6,⟨fr',hp,wr⟩):=by
 simp only[iv] at hn hi
 cases hu:i.blt n with
 | true =>
  have hlt:i<n:=by rwa [Nat.blt_eq] at hu
  simp[rT,rX,blk,gR,Tryz.f33,h0,hn,hi,hlt]
 | false =>
  have hlt : ¬ i<n:=fun h=>by rw[← Nat.blt_eq,hu] at h;cases h
  simp[rT,rX,blk,gR,Tryz.f33,h0,hn,hi,hlt]
theorem ai4 (i:Nat)(h9:i<1000000)(h0:fr.length=123)(hi:nth fr 84=iv i):∃ fr',af (CC L) run k (rI gR) ⟨fr,hp,wr⟩=some (.normal,⟨fr',hp,wr⟩)∧nth fr' 84=iv (i+1):=by
 have hw:=bA i (by omega)
 simp only[iv] at hi
 simp[iv,rI,rX,blk,gR,Tryz.f33,h0,hi,hw]
end
theorem Xv (L:Lst)(hL1:bt L 56=fun a=>jy (aJ a))(hL2:bt L 87=fun a=>fW (aJ a))(hL3:bt L 43=fun a=>jM (aJ a))(hL4:bt L 44=fun a=>rtF (aJ a))(run:aw)(k:Nat)(hk:100<k)(fr:Ψ)(hp:Θ)(wr:Ω)(R:List (List Rat))(B P:List Rat)(ok:TX R B P)(h0:fr.length=123)(h15:nth fr 15=vR B)(h18:nth fr 18=vR P)(h19:nth fr 19 = .sc (.slice none 0 0))(h82:nth fr 82=dj eVr R)(h83:nth fr 83=iv R.length)(h84:nth fr 84=iv 0) :
  ∃ fr' hp' wr' id,af (CC L) run k (.block 6 (.loop gR)) ⟨fr,hp,wr⟩=some (.normal,⟨fr',hp',wr'⟩)∧dJ (ct gR) fr fr'∧nth fr' 19 = .own id 1 0 R.length false∧LsA hp' ((eG R B P).map qt) (nth fr' 19)∧hp.length≤id∧hp.length≤hp'.length∧∀ t,t<hp.length→aP hp' t=aP hp t:=by
 obtain⟨o1,o2,o3,o4,o5,o6,o7⟩:=ok
 obtain⟨fr',hp',wr',a1,a2,a3,a4,a5,a6,a7⟩:=mI (C:=CC L) (run:=run) (k:=k) (e:=6) (e2:=7) (i:=84) (n:=R.length) (j0:=0) (B:=gR) (test:=rT gR) (body:=rX gR) (inc:=rI gR) (.inr ⟨_,_,rfl,acA⟩) (by kernel_rfl) (by kernel_rfl) (by omega) (by omega)
  (J:=fun j f hp'=>LsA hp' (((eG R B P).take j).map qt) (f 19)∧(∀ t ∈ cZ (f 19),hp.length≤t)∧hp.length≤hp'.length∧(∀ t,t<hp.length→aP hp' t=aP hp t)∧(0<j→∃ id,f 19 = .own id 1 0 j false)) (fr0:=fr) (hp0:=hp) (wr0:=wr)
  (fun fr' hp' wr' j hK hj=>aiV _ _ _ fr' hp' wr' j _ (hK.len h0) (hK.at h83) hj)
  (fun fr' hp' wr' j hK hj hn=>ai4 _ _ _ fr' hp' wr' j (by omega) (hK.len h0) hj)
  (fun j f g hp' h hJ=>by rw[← h 19 (by kernel_rfl) (by kernel_rfl)];exact hJ)
  (fun j fr' hp' wr' _ hj hK hij ⟨j1,j2,j3,j4,j5⟩=>by
   have hbj:j<B.length:=by omega
   obtain⟨w1,w2⟩:=o7 _ (getElem_mem hj)
   have hal:(eG R B P).length=R.length:=by unfold eG;simp
   obtain⟨fr1,fr2,wr2,b1,b2,b3,b4,b5,b6,b7,b8,b9⟩:=ai1 L run k fr' hp' wr' R B (vR P) (nth fr' 19) j hj hbj (hK.len h0) (hK.at h15) (hK.at h18) rfl (hK.at h82) hij
   have hid:=al2 hp' rz ⟨.live,rcs B[j]⟩
   have hidl:=al4 hp' rz ⟨.live,rcs B[j]⟩
   have hids:=al3 hp' rz ⟨.live,rcs B[j]⟩
   generalize bZ (aL hp' rz) hp'.length ⟨.live,rcs B[j]⟩=hp1 at *
   obtain⟨fr3,hp3,wr3,c1,c2,c3,c4,c5⟩:=agt L hL1 hL2 run k hk fr2 hp1 wr2 B[j] R[j] P hp'.length (by omega) (by omega) (o5 _ (getElem_mem hbj)) w2 o6 b3 b4 b6 b7 b8 b9 hid (by omega)
   have hs:=B5 (o5 _ (getElem_mem hbj)) w2 o6 R[j].length (Nat.le_refl _) (by omega)
   have hs9:R[j].length*(100+100+1)≤3*201:=Nat.mul_le_mul (by omega) (Nat.le_refl _)
   have hs1:Rb 1000 (mZ B[j] R[j] P R[j].length):=hs.mono (by omega)
   have g1:=CH hL3 run (u:=some (mZ B[j] R[j] P R[j].length)) hs1 (by omega)
   have g2:=LQ hL4 run (u:=some (mZ B[j] R[j] P R[j].length)) hs1 (by omega)
   rw[show pB (Rb 1000 (vv (some (mZ B[j] R[j] P R[j].length))))=true from jd hs1] at g1
   have e19:nth fr3 19=nth fr' 19:=c2.at b5
   have L3:LsA hp3 (((eG R B P).take j).map qt) (nth fr' 19):=j1.agree fun t ht=>by
    have:=j1.lt t ht
    rw[c5 t (by omega) (by omega),hids t this]
   obtain⟨hp4,fp,d1,d2,d3,d4⟩:=L3.app (qt (mZ B[j] R[j] P R[j].length)) (by simp;omega)
   obtain⟨fr4,wr4,x1,x2⟩:=aiZ L run k fr3 hp3 wr3 _ j hp'.length _ hp4 fp _ g1 g2 (c2.len b3) e19 (c2.at b6) c3 d1
   have hlen:(((eG R B P).take j).map qt).length=j:=by rw[length_map,length_take];omega
   rw[hlen] at x2 d2
   refine⟨fr4,hp4,wr4,?_,?_,?_,?_,?_,?_⟩
   ·rw[aQ 2 b1]
    rw[show ag 2 (rX gR) = .seq (.seq (seq1 (seq1 (ag 2 (rX gR)))) (.block 8 (.loop lv))) (ag 3 (rX gR)) from rfl]
    rw[ar (by rw[ar b2];exact c1)]
    exact x1
   ·show LsA hp4 _ (nth fr4 19)
    rw[x2,take_succ_eq_append_getElem (by omega),map_append]
    have e:(eG R B P)[j]'(by omega)=mZ B[j] R[j] P R[j].length:=by
     simp only[eG,getElem_map,getElem_range]
     rw[pQ hj,xL hbj]
    rw[e];exact d2
   ·show ∀ t ∈ cZ (nth fr4 19),_
    rw[x2]
    intro t ht
    rw[show t=hp3.length by simpa [cZ] using ht]
    omega
   ·omega
   ·intro t ht
    rw[d4 t (by omega) (fun hh=>by have:=j2 t hh;omega),c5 t (by omega) (by omega),hids t (by omega),j4 t ht]
   ·intro _
    exact⟨hp3.length,x2⟩)
  h84 ⟨by show LsA hp [] (nth fr 19);rw[h19];exact LsA.nil hp,by show ∀ t ∈ cZ (nth fr 19),_;rw[h19];simp[cZ],Nat.le_refl _,fun _ _=>rfl,(absurd · (Nat.lt_irrefl 0))⟩
 have hal:(eG R B P).length=R.length:=by unfold eG;simp
 rw[take_of_length_le (by omega)] at a3
 obtain⟨id,e⟩:=a7 (by omega)
 exact⟨fr',hp',wr',id,a1,a2,e,a3,a4 id (by rw[e];simp[cZ]),a5,a6⟩
theorem HQ (Y:List Rat):qL Y = .imm Y.length false (Y.map qt):=by
 unfold qL pE dj
 rw[length_map]
 congr 1
 induction Y with
 | nil=>rfl
 | cons y Y ih=>rw[map_cons,flatMap_cons,ih];rfl
theorem B3 (X:List (List Rat)):qC X = .imm X.length false (X.map qL):=by
 unfold qC cE dj
 rw[length_map]
 congr 1
 induction X with
 | nil=>rfl
 | cons y Y ih=>rw[map_cons,flatMap_cons,ih];rfl
theorem wj (hp:Θ)(l:List Rat):cU hp 1 (l.map qt) (l.map qt) []:=by
 refine cU.own (fun d => ?_) ?_
 ·induction l with
  | nil=>rfl
  | cons y Y ih =>
   have e:Ab.snap hp (d+1) (qt y)=some (qt y,[]):=rfl
   rw[map_cons,bj,e]
   dsimp only
   rw[ih];rfl
 ·induction l with
  | nil=>rfl
  | cons y Y ih=>rw[map_cons,aJ,ih];rfl
theorem aio (X:List (List Rat))(i:Nat)(hi:i<X.length):∃ r,aU TT 55 (qC X) (.sc (.int .i64 (i:Int)))=some (.iptr r)∧r.head?=some (qL X[i]):=by
 obtain⟨r,x1,x2⟩:=ac2 uLm (X.map fun P=>P.map qb) i (by simpa using hi)
 rw[getElem_map] at x2
 exact⟨r,x1,x2⟩
section
variable (L:Lst) (run:aw) (k:Nat) (fr:Ψ) (hp:Θ) (wr:Ω)
theorem aiW (i n:Nat)(h0:fr.length=123)(hn:nth fr 77=iv n)(hi:nth fr 78=iv i):∃ fr',af (CC L) run k (rT fN) ⟨fr,hp,wr⟩=some (bif i.blt n then .normal else .exit 4,⟨fr',hp,wr⟩):=by
 simp only[iv] at hn hi
 cases hu:i.blt n with
 | true =>
  have hlt:i<n:=by rwa [Nat.blt_eq] at hu
  simp[rT,Tryz.f33,h0,hn,hi,hlt]
 | false =>
  have hlt : ¬ i<n:=fun h=>by rw[← Nat.blt_eq,hu] at h;cases h
  simp[rT,Tryz.f33,h0,hn,hi,hlt]
theorem ai5 (i:Nat)(h9:i<1000000)(h0:fr.length=123)(hi:nth fr 78=iv i):∃ fr',af (CC L) run k (rI fN) ⟨fr,hp,wr⟩=some (.normal,⟨fr',hp,wr⟩)∧nth fr' 78=iv (i+1):=by
 have hw:=bA i (by omega)
 simp only[iv] at hi
 simp[iv,rI,Tryz.f33,h0,hi,hw]
theorem ai2 (X R:List (List Rat))(B F:PV)(i:Nat)(hi:i<X.length)(h0:fr.length=123)(h14:nth fr 14=dj eVr R)(h15:nth fr 15=B)(h16:nth fr 16=F)(h76:nth fr 76=dj eVr X)(h78:nth fr 78=iv i) :
  ∃ fr1 fr2,ba (CC L) run k 2 (rX fN) ⟨fr,hp,wr⟩=some ⟨fr1,hp,wr⟩∧af (CC L) run k (seq1 (seq1 (ag 2 (rX fN)))) ⟨fr1,hp,wr⟩=some (.normal,⟨fr2,hp,wr⟩)∧fr2.length=123∧nth fr2 15=B∧nth fr2 16=F∧nth fr2 18=vR X[i]∧nth fr2 19 = .sc (.slice none 0 0)∧nth fr2 82=dj eVr R∧nth fr2 83=iv R.length∧nth fr2 84=iv 0:=by
 obtain⟨r,x1,x2⟩:=ac3 X i hi
 have hl:dy (dj eVr R)=some R.length:=rfl
 generalize vR X[i]=Vi at *
 generalize dj eVr R=RR at *
 generalize dj eVr X=XX at *
 generalize R.length=n at *
 simp only[iv] at h78
 obtain⟨fr1,a1,a2,a3,a4,a5,a6,a7⟩:∃ fr1,ba (CC L) run k 2 (rX fN) ⟨fr,hp,wr⟩=some ⟨fr1,hp,wr⟩∧fr1.length=123∧nth fr1 14=RR∧nth fr1 15=B∧nth fr1 16=F∧nth fr1 18=Vi∧nth fr1 19 = .sc (.slice none 0 0):=by
  simp[ba,rX,blk,Tryz.f33,partOf,h0,h14,h15,h16,h76,h78,x1,x2,aX,ade,zw]
 refine⟨fr1,?_⟩
 simp only[a1]
 simp[iv,rX,blk,Tryz.f33,bL,a2,a3,a4,a5,a6,a7,hl,sf]
theorem Kx (v:PV):fk (aL hp [v]) 1 (.own hp.length 1 0 1 true)=some (1,[v],[hp.length]):=by
 simp[fk,al1,bq,bD]
theorem ai0 (F F':PV)(id n:Nat)(hp':Θ)(fp:FP)(h0:fr.length=123)(h16:nth fr 16=F)(h19:nth fr 19 = .own id 1 0 n false)(ha:cw (aL hp [.own id 1 0 n false]) 1 F 1 [.own id 1 0 n false]=some (F',hp',fp)):∃ fr' wr',af (CC L) run k (ag 3 (rX fN)) ⟨fr,hp,wr⟩=some (.normal,⟨fr',hp',wr'⟩)∧nth fr' 16=F':=by
 have l1:=xD (.own id 1 0 n false) rfl
 have r1:=Kx hp (.own id 1 0 n false)
 have hid:bM [PV.own id 1 0 n false]=false:=rfl
 have hok:bd [PV.own id 1 0 n false]=true:=rfl
 simp[rX,blk,Tryz.f33,soft,eu,and_assoc,pL,bd,h0,h16,h19,l1,r1,hid,ha,uCl,sPt,aiO,X4,bQ]
theorem agu (X R:List (List Rat))(B:List Rat)(m:Nat)(hR:R.length=m)(hB:B.length=m)(h1:m≠0)(h3:m≤3)(g1:az L run 80 [qC X] (iv 0))(g2:az L run 81 [qC X] (iv m)) :
  ∃ fr fr',ba (CC L) run k 4 afC ⟨entry 123 [qC X,qC R,qL B],[],[]⟩=some ⟨fr,[],[]⟩∧af (CC L) run k (seq1 (seq1 (ag 4 afC))) ⟨fr,[],[]⟩=some (.normal,⟨fr',[],[]⟩)∧fr'.length=123∧nth fr' 0=qC X∧nth fr' 1=qC R∧nth fr' 2=qL B∧nth fr' 9=iv m∧nth fr' 47=qC R∧nth fr' 48=iv m∧nth fr' 49=iv 0:=by
 obtain⟨e0,e1,e2,e3⟩:=td 120 (qC X) (qC R) (qL B)
 generalize entry 123 [qC X,qC R,qL B]=fr0 at *
 have hl1:=xE R
 have hl2:=Cd B
 rw[hR] at hl1
 rw[hB] at hl2
 unfold az at g1 g2
 generalize qC X=XX at *
 generalize qC R=RR at *
 generalize qL B=BB at *
 have hm0:((m:Int) == 0)=false:=by rw[beq_eq_false_iff_ne];omega
 have hm3 : ¬ 3<m:=by omega
 have hm3':((m:Int) > 3)=False:=by simp;omega
 have hm3'':(3<(m:Int))=False:=by simp;omega
 have hmm:((m:Int) != (m:Int))=false:=by simp
 simp only[iv] at g1 g2
 obtain⟨fr,a1,a2,a3,a4,a5,a6⟩:∃ fr,ba (CC L) run k 4 afC ⟨fr0,[],[]⟩=some ⟨fr,[],[]⟩∧fr.length=123∧nth fr 0=XX∧nth fr 1=RR∧nth fr 2=BB∧nth fr 9 = .sc (.int .i64 (m:Int)):=by
  simp[ba,Tryz.f33,bL,e0,e1,e2,e3,g1,g2,hl1,hl2,hm0,hm3',uLm,uPt]
 refine⟨fr,?_⟩
 simp only[a1]
 simp[iv,Tryz.f33,bL,a2,a3,a4,a5,a6,hl1,uLm]
theorem aiY (i n:Nat)(h0:fr.length=123)(hn:nth fr 48=iv n)(hi:nth fr 49=iv i):∃ fr',af (CC L) run k (rT ot) ⟨fr,hp,wr⟩=some (bif i.blt n then .normal else .exit 0,⟨fr',hp,wr⟩):=by
 simp only[iv] at hn hi
 cases hu:i.blt n with
 | true =>
  have hlt:i<n:=by rwa [Nat.blt_eq] at hu
  simp[rT,ot,Tryz.f33,h0,hn,hi,hlt]
 | false =>
  have hlt : ¬ i<n:=fun h=>by rw[← Nat.blt_eq,hu] at h;cases h
  simp[rT,ot,Tryz.f33,h0,hn,hi,hlt]
theorem ai7 (i:Nat)(h9:i<1000000)(h0:fr.length=123)(hi:nth fr 49=iv i):∃ fr',af (CC L) run k (rI ot) ⟨fr,hp,wr⟩=some (.normal,⟨fr',hp,wr⟩)∧nth fr' 49=iv (i+1):=by
 have hw:=bA i (by omega)
 simp only[iv] at hi
 simp[iv,rI,ot,Tryz.f33,h0,hi,hw]
theorem aiT (R:List (List Rat))(i m:Nat)(hi:i<R.length)(hm:R[i].length=m)(h0:fr.length=123)(h9:nth fr 9=iv m)(h47:nth fr 47=qC R)(h49:nth fr 49=iv i):∃ fr',af (CC L) run k (rX ot) ⟨fr,hp,wr⟩=some (.normal,⟨fr',hp,wr⟩):=by
 obtain⟨r,x1,x2⟩:=aio R i hi
 have hl:=Cd R[i]
 rw[hm] at hl
 generalize qL R[i]=Vi at *
 generalize qC R=RR at *
 have hmm:((m:Int) != (m:Int))=false:=by simp
 simp only[iv] at h9 h49
 simp[rX,blk,ot,Tryz.f33,bL,partOf,h0,h9,h47,h49,x1,x2,hl,QH,aLm,sLm,aX]
theorem aiX (i n:Nat)(h0:fr.length=123)(hn:nth fr 59=iv n)(hi:nth fr 60=iv i):∃ fr',af (CC L) run k (rT oq) ⟨fr,hp,wr⟩=some (bif i.blt n then .normal else .exit 2,⟨fr',hp,wr⟩):=by
 simp only[iv] at hn hi
 cases hu:i.blt n with
 | true =>
  have hlt:i<n:=by rwa [Nat.blt_eq] at hu
  simp[rT,oq,Tryz.f33,h0,hn,hi,hlt]
 | false =>
  have hlt : ¬ i<n:=fun h=>by rw[← Nat.blt_eq,hu] at h;cases h
  simp[rT,oq,Tryz.f33,h0,hn,hi,hlt]
theorem ai6 (i:Nat)(h9:i<1000000)(h0:fr.length=123)(hi:nth fr 60=iv i):∃ fr',af (CC L) run k (rI oq) ⟨fr,hp,wr⟩=some (.normal,⟨fr',hp,wr⟩)∧nth fr' 60=iv (i+1):=by
 have hw:=bA i (by omega)
 simp only[iv] at hi
 simp[iv,rI,oq,Tryz.f33,h0,hi,hw]
theorem aiS (R:List (List Rat))(i:Nat)(hi:i<R.length)(g:az L run 82 [qL R[i]] (.sc (.bool true)))(h0:fr.length=123)(h58:nth fr 58=qC R)(h60:nth fr 60=iv i):∃ fr',af (CC L) run k (rX oq) ⟨fr,hp,wr⟩=some (.normal,⟨fr',hp,wr⟩):=by
 obtain⟨r,x1,x2⟩:=aio R i hi
 unfold az at g
 generalize qL R[i]=Vi at *
 generalize qC R=RR at *
 simp only[iv] at h60
 simp[rX,blk,oq,Tryz.f33,partOf,unP,h0,h58,h60,x1,x2,g,aLm,sLm,aX]
theorem ajX (R:PV)(m:Nat)(hl:dy R=some m)(h0:fr.length=123)(h1:nth fr 1=R):∃ fr',af (CC L) run k (seq1 (seq1 (ag 5 afC))) ⟨fr,hp,wr⟩=some (.normal,⟨fr',hp,wr⟩)∧nth fr' 58=R∧nth fr' 59=iv m∧nth fr' 60=iv 0:=by
 simp[iv,Tryz.f33,bL,h0,h1,hl,uLm]
theorem ajW (X R:List (List Rat))(B:List Rat)(n:Nat)(hX:X.length=n)(g1:az L run 82 [qL B] (.sc (.bool true)))(g2:az L run 83 [qC R] (dj eVr R))(g3:az L run 84 [qL B,fnN] (vR B))(g4:az L run 86 [qC X] (dj eVr X))(h0:fr.length=123)(hf0:nth fr 0=qC X)(h1:nth fr 1=qC R)(h2:nth fr 2=qL B) :
  ∃ fr1 fr2 wr',ba (CC L) run k 3 (ag 6 afC) ⟨fr,hp,wr⟩=some ⟨fr1,hp,wr'⟩∧af (CC L) run k (seq1 (seq1 (ag 9 afC))) ⟨fr1,hp,wr'⟩=some (.normal,⟨fr2,hp,wr'⟩)∧fr2.length=123∧nth fr2 14=dj eVr R∧nth fr2 15=vR B∧nth fr2 16 = .sc (.slice none 0 0)∧nth fr2 76=dj eVr X∧nth fr2 77=iv n∧nth fr2 78=iv 0:=by
 have hl:dy (dj eVr X)=some n:=by rw[← hX];rfl
 unfold az at g1 g2 g3 g4
 generalize dj eVr X=XX at *
 generalize dj eVr R=RR at *
 generalize vR B=VB at *
 generalize qC X=x at *
 generalize qC R=r at *
 generalize qL B=b at *
 obtain⟨fr1,wr',a1,a2,a3,a4,a5,a6⟩:∃ fr1 wr',ba (CC L) run k 3 (ag 6 afC) ⟨fr,hp,wr⟩=some ⟨fr1,hp,wr'⟩∧fr1.length=123∧nth fr1 0=x∧nth fr1 14=RR∧nth fr1 15=VB∧nth fr1 16 = .sc (.slice none 0 0):=by
  simp[ba,Tryz.f33,unP,and_assoc,h0,hf0,h1,h2,g1,g2,g3]
 refine⟨fr1,?_⟩
 simp only[a1]
 simp[iv,Tryz.f33,bL,a2,a3,a4,a5,a6,g4,hl,sf]
theorem agv (F:PV)(h0:fr.length=123)(h16:nth fr 16=F):∃ st,af (CC L) run k (ag 10 afC) ⟨fr,hp,wr⟩=some (.ret,st)∧st.hp=hp∧bc TT st.fr st.hp Tryz.f33.results.toList=some [F,iv 0]:=by
 simp[iv,Tryz.f33,h0,h16,bc]
end
theorem PA (L:Lst)(hL1:bt L 56=fun a=>jy (aJ a))(hL2:bt L 87=fun a=>fW (aJ a))(hL3:bt L 43=fun a=>jM (aJ a))(hL4:bt L 44=fun a=>rtF (aJ a))(run:aw)(k:Nat)(hk:100<k)(fr:Ψ)(wr:Ω)(X R:List (List Rat))(B:List Rat)(ok:∀ P ∈ X,TX R B P)(hX:X.length≤100)(h0:fr.length=123)(h14:nth fr 14=dj eVr R)(h15:nth fr 15=vR B)(h16:nth fr 16 = .sc (.slice none 0 0))(h76:nth fr 76=dj eVr X)(h77:nth fr 77=iv X.length)(h78:nth fr 78=iv 0) :
  ∃ fr' hp' wr' ps ids,af (CC L) run k (.block 4 (.loop fN)) ⟨fr,[],wr⟩=some (.normal,⟨fr',hp',wr'⟩)∧fr'.length=123∧ps.length=X.length∧LsA hp' ps (nth fr' 16)∧cU hp' 2 ps ((X.map (eG R B)).map qL) ids∧∀ n x cs,nth fr' 16 ≠ .imm n x cs:=by
 obtain⟨fr',hp',wr',a1,a2,ps,ids,a3,a4,a5,a6,a7,a8⟩:=mI (C:=CC L) (run:=run) (k:=k) (e:=4) (e2:=5) (i:=78) (n:=X.length) (j0:=0) (B:=fN) (test:=rT fN) (body:=rX fN) (inc:=rI fN) (.inr ⟨_,_,rfl,acB⟩) (by kernel_rfl) (by kernel_rfl) (by omega) (by omega)
  (J:=fun j f hp'=>∃ ps ids,ps.length=j∧LsA hp' ps (f 16)∧cU hp' 2 ps (((X.map (eG R B)).take j).map qL) ids∧(∀ t ∈ cZ (f 16),t ∉ ids)∧(∀ t ∈ ids,t<hp'.length)∧∀ n x cs,f 16 ≠ .imm n x cs) (fr0:=fr) (hp0:=[]) (wr0:=wr)
  (fun fr' hp' wr' j hK hj=>aiW _ _ _ fr' hp' wr' j _ (hK.len h0) (hK.at h77) hj)
  (fun fr' hp' wr' j hK hj hn=>ai5 _ _ _ fr' hp' wr' j (by omega) (hK.len h0) hj)
  (fun j f g hp' h hJ=>by rw[← h 16 (by kernel_rfl) (by kernel_rfl)];exact hJ)
  (fun j fr' hp' wr' _ hj hK hij ⟨ps,ids,j1,j2,j3,j4,j5,j6⟩=>by
   obtain⟨fr1,fr2,b1,b2,b3,b4,b5,b6,b7,b8,b9,b10⟩:=ai2 L run k fr' hp' wr' X R (vR B) (nth fr' 16) j hj (hK.len h0) (hK.at h14) (hK.at h15) rfl (hK.at h76) hij
   obtain⟨fr3,hp3,wr3,id,c1,c2,c3,c4,c5,c6,c7⟩:=Xv L hL1 hL2 hL3 hL4 run k hk fr2 hp' wr' R B X[j] (ok _ (getElem_mem hj)) b3 b4 b6 b7 b8 b9 b10
   have e16:nth fr3 16=nth fr' 16:=c2.at b5
   rw[c3] at c4
   have lid:=c4.lt id (by simp[cZ])
   have L3:LsA (aL hp3 [.own id 1 0 R.length false]) ps (nth fr' 16):=(j2.agree (hp':=hp3) fun t ht=>c7 t (j2.lt t ht)).agree fun t ht=>by
    rw[bz,if_neg (by have:=j2.lt t ht;omega)]
   obtain⟨hp4,fp,d1,d2,d3,d4⟩:=L3.app (.own id 1 0 R.length false) (by omega)
   obtain⟨fr4,wr4,x1,x2⟩:=ai0 L run k fr3 hp3 wr3 (nth fr' 16) _ id R.length hp4 fp (c2.len b3) e16 c3 d1
   have hal:(eG R B X[j]).length=R.length:=by unfold eG;simp
   obtain⟨js,s1,s2⟩:=c4.DH (wj hp3 (eG R B X[j])) (.inl (by intro h;cases h))
   have e:PV.imm ((eG R B X[j]).map qt).length false ((eG R B X[j]).map qt)=qL (eG R B X[j]):=by rw[HQ,length_map]
   rw[e] at s1
   have s2':∀ t ∈ js,t=id:=fun t ht=>by
    rcases s2 t ht with h | h
    ·simpa [cZ] using h
    ·cases h
   have hal3:(aL hp3 [PV.own id 1 0 R.length false]).length=hp3.length+1:=by simp[aL]
   have w1:cU hp4 2 ps (((X.map (eG R B)).take j).map qL) ids:=j3.agree fun t ht=>nC (by
    have:=j5 t ht
    rw[d4 t (by omega) (fun hh=>j4 t hh ht),bz,if_neg (by omega),c7 t this])
   have w2:cU hp4 2 [.own id 1 0 R.length false] [qL (eG R B X[j])] js:=s1.agree fun t ht=>nC (by
    have:=s2' t ht
    subst this
    rw[d4 t (by omega) (fun hh=>by have:=j2.lt t hh;omega),bz,if_neg (by omega)])
   refine⟨fr4,hp4,wr4,?_,ps++[.own id 1 0 R.length false],ids++js,by simp;omega,?_,?_,?_,?_,?_⟩
   ·rw[aQ 2 b1]
    rw[show ag 2 (rX fN) = .seq (.seq (seq1 (seq1 (ag 2 (rX fN)))) (.block 6 (.loop gR))) (ag 3 (rX fN)) from rfl]
    rw[ar (by rw[ar b2];exact c1)]
    exact x1
   ·show LsA hp4 _ (nth fr4 16)
    rw[x2];exact d2
   ·rw[take_succ_eq_append_getElem (by simpa using hj),map_append,getElem_map]
    exact w1.app w2
   ·show ∀ t ∈ cZ (nth fr4 16),_
    rw[x2]
    intro t ht
    rw[show t=(aL hp3 [PV.own id 1 0 R.length false]).length by simpa [cZ] using ht,hal3]
    intro hh
    rcases mem_append.1 hh with hh | hh
    ·have:=j5 _ hh;omega
    ·have:=s2' _ hh;omega
   ·intro t ht
    rcases mem_append.1 ht with hh | hh
    ·have:=j5 _ hh;omega
    ·have:=s2' _ hh;omega
   ·show ∀ n x cs,nth fr4 16≠_
    rw[x2];nofun)
  h78 ⟨[],[],rfl,by show LsA [] [] (nth fr 16);rw[h16];exact LsA.nil [],cU.nil _ _,(fun _ _ h=>by cases h),(fun _ h=>by cases h),by show ∀ n x cs,nth fr 16≠_;rw[h16];nofun⟩
 rw[take_of_length_le (by simp)] at a5
 exact⟨fr',hp',wr',ps,ids,a1,a2.len h0,a3,a4,a5,a8⟩
abbrev AfA:=List (List Rat) × List (List Rat) × List Rat
def eAf (a:AfA):Ψ:=[qC a.1,qC a.2.1,qL a.2.2]
def Z4 (a:AfA):Prop:=(∀ P ∈ a.1,TX a.2.1 a.2.2 P)∧a.1≠[]∧a.1.length≤64
def aff (a:AfA):List (List Rat):=a.1.map (eG a.2.1 a.2.2)
noncomputable def acy:Ψ→Option Ψ:=ctr eAf Z4 fun a=>[qC (aff a),iv 0]
theorem agN:dt base.P LBf:=⟨FJ,A2,Nf,Oc,Ob,sV,oK,lL,kj,J9,trivial⟩
theorem ait {D:List (List Rat)}{m:Nat}(hE:jj m 1000 D)(hm:m≤3)(h9:D.length≤100):Fit (D.map fun P=>P.map qb) :=
 ⟨by rw[length_map];exact h9,fun p hp=>by
  obtain⟨P,hP,rfl⟩:=mem_map.1 hp
  refine⟨by rw[length_map,(hE P hP).1];omega,fun s hs => ?_⟩
  obtain⟨x,hx,rfl⟩:=mem_map.1 hs
  exact Nat.le_trans (sN ((hE P hP).2 x hx)) (by omega)⟩
theorem RbL.up {j k:Nat}{X:List Rat}(h:RbL j X)(hk:j≤k):RbL k X:=fun x hx=>(h x hx).mono hk
theorem Xu:Ab.Spec base.P 33 acy:=Ab.Spec.bN (C:=CC LBf) (cP agN) fun args rs h=>by
 obtain⟨⟨X,R,B⟩,⟨ok,hne,h64⟩,rfl,rfl⟩:=cV h
 dsimp only at ok hne h64
 obtain⟨P0,hP0⟩:∃ P,P ∈ X:=by
  cases X with
  | nil=>exact absurd rfl hne
  | cons P X=>exact⟨P,mem_cons_self⟩
 obtain⟨o1,o2,o3,-,o5,-,o7⟩:=ok P0 hP0
 have hE:jj R.length 1000 X:=fun P hP=>by
  obtain⟨-,-,-,q4,-,q6,-⟩:=ok P hP
  exact⟨q4,q6.up (by omega)⟩
 have hFit:=ait hE o1 (by omega)
 obtain⟨c1,c2⟩:=rO (m:=R.length) (by omega) o1 hE hne h64
 have g1:=XO (L:=LBf) rfl (runK (CC LBf) 200) _ hFit
 rw[c1] at g1
 have g2:=XP (L:=LBf) rfl (runK (CC LBf) 200) _ hFit
 rw[rY c1,c2] at g2
 have gr:∀ V:List Rat,RbL 100 V→V.length≤3→az LBf (runK (CC LBf) 200) 82 [qL V] (.sc (.bool true)):=fun V hV h3 =>
  fT Ry (e:=fun X:List Rat=>[qL X]) (f:=fun _=>[.sc (.bool true)]) rfl (fun x y _ _ h=>rfl) _ V ⟨hV.up (by omega),by omega⟩ (fun _=>rfl) (by simp only[aJ,qL,kA])
 have g3:=ag8 (L:=LBf) rfl (runK (CC LBf) 200) R ⟨fun V hV=>⟨(o7 V hV).2.up (by omega),by rw[(o7 V hV).1];omega⟩,by omega⟩
 have g4:=Jg (L:=LBf) rfl (runK (CC LBf) 200) B (o5.up (by omega)) (by omega)
 have g5:=ag7 (L:=LBf) rfl (runK (CC LBf) 200) X ⟨fun V hV=>⟨(hE V hV).2,by rw[(hE V hV).1];omega⟩,by omega⟩
 obtain⟨fr,fr',a1,a2,a3,a4,a5,a6,a7,a8,a9,a10⟩:=agu LBf (runK (CC LBf) 200) 200 X R B R.length rfl o3 o2 o1 g1 g2
 obtain⟨fr1,hp1,wr1,b1,b2,b3⟩:=mI (C:=CC LBf) (run:=runK (CC LBf) 200) (k:=200) (e:=0) (e2:=1) (i:=49) (n:=R.length) (j0:=0) (B:=ot) (test:=rT ot) (body:=rX ot) (inc:=rI ot) (.inr ⟨_,_,rfl,acD⟩) (by kernel_rfl) (by kernel_rfl) (by omega) (by omega)
  (J:=fun _ _ hp=>hp=[]) (fr0:=fr') (hp0:=[]) (wr0:=[])
  (fun fr hp wr j hK hj=>aiY _ _ _ fr hp wr j _ (hK.len a3) (hK.at a9) hj)
  (fun fr hp wr j hK hj hn=>ai7 _ _ _ fr hp wr j (by omega) (hK.len a3) hj)
  (fun _ _ _ _ _ h=>h)
  (fun j fr hp wr _ hj hK hij h=>by
   obtain⟨fr',x⟩:=aiT LBf (runK (CC LBf) 200) 200 fr hp wr R j R.length hj (o7 _ (getElem_mem hj)).1 (hK.len a3) (hK.at a7) (hK.at a8) hij
   exact⟨fr',hp,wr,x,h⟩)
  a10 rfl
 subst b3
 obtain⟨fr2,c1',c2',c3',c4'⟩:=ajX LBf (runK (CC LBf) 200) 200 fr1 [] wr1 (qC R) R.length (xE R) (b2.len a3) (b2.at a5)
 have Kc:=bG _ c1'
 obtain⟨fr3,hp3,wr3,d1,d2,d3⟩:=mI (C:=CC LBf) (run:=runK (CC LBf) 200) (k:=200) (e:=2) (e2:=3) (i:=60) (n:=R.length) (j0:=0) (B:=oq) (test:=rT oq) (body:=rX oq) (inc:=rI oq) (.inr ⟨_,_,rfl,acC⟩) (by kernel_rfl) (by kernel_rfl) (by omega) (by omega)
  (J:=fun _ _ hp=>hp=[]) (fr0:=fr2) (hp0:=[]) (wr0:=wr1)
  (fun fr hp wr j hK hj=>aiX _ _ _ fr hp wr j _ (hK.len (Kc.len (b2.len a3))) (hK.at c3') hj)
  (fun fr hp wr j hK hj hn=>ai6 _ _ _ fr hp wr j (by omega) (hK.len (Kc.len (b2.len a3))) hj)
  (fun _ _ _ _ _ h=>h)
  (fun j fr hp wr _ hj hK hij h=>by
   obtain⟨fr',x⟩:=aiS LBf (runK (CC LBf) 200) 200 fr hp wr R j hj (gr _ (o7 _ (getElem_mem hj)).2 (by rw[(o7 _ (getElem_mem hj)).1];exact o1)) (hK.len (Kc.len (b2.len a3))) (hK.at c2') hij
   exact⟨fr',hp,wr,x,h⟩)
  c4' rfl
 subst d3
 obtain⟨fr4,fr5,wr5,e1,e2,e3,e4,e5,e6,e7,e8,e9⟩:=ajW LBf (runK (CC LBf) 200) 200 fr3 [] wr3 X R B X.length rfl (gr _ o5 (by omega)) g3 g4 g5 (d2.len (Kc.len (b2.len a3))) (d2.at (Kc.at (b2.at a4))) (d2.at (Kc.at (b2.at a5))) (d2.at (Kc.at (b2.at a6)))
 obtain⟨fr6,hp6,wr6,ps,ids,f1,f2,f3,f4,f5,f6⟩:=PA LBf rfl rfl rfl rfl (runK (CC LBf) 200) 200 (by omega) fr5 wr5 X R B ok (by omega) e3 e4 e5 e6 e7 e8 e9
 obtain⟨st,i1,i2,i3⟩:=agv LBf (runK (CC LBf) 200) 200 fr6 hp6 wr6 _ f2 rfl
 have hx:af (CC LBf) (runK (CC LBf) 200) 200 afC ⟨entry 123 [qC X,qC R,qL B],[],[]⟩=some (.ret,st):=by
  rw[aQ 4 a1,adN,ar (by rw[ar a2];exact b1),adM,ar (by rw[ar c1'];exact d1),aQ 3 e1]
  rw[show ag 3 (ag 6 afC)=ag 9 afC from rfl,adL,ar (by rw[ar e2];exact f1)]
  exact i1
 obtain⟨rs,js,k1,k2⟩:=f4.out f5 (.inl (f6 _ _ _)) (by omega)
 have e:PV.imm ps.length false ((X.map (eG R B)).map qL)=qC (X.map (eG R B)):=by rw[B3,f3,length_map]
 rw[e] at k2
 obtain⟨r,rfl,k3⟩:∃ r,rs=[r]∧Wk r (qC (X.map (eG R B))):=by
  match rs,k2 with
  | [r],k2=>exact⟨r,rfl,k2.1⟩
 exact⟨_,_,_,_,[r]++[iv 0],js++[],aV PO rfl hx i3,by rw[i2];exact gY (a:=[nth fr6 16]) (b:=[iv 0]) k1 rfl,k3,Wk.refl rfl,trivial⟩
def eH (R:List (List Rat))(B:List Rat):List (List Rat):=B::(List.range R.length).map fun i=>(List.range R.length).map fun k=>B.getD k 0+(R.getD k []).getD i 0
def iH (m:Nat):List (List Rat):=(List.range m).map fun i=>(List.range m).map fun k=>if k=i then 1 else 0
theorem O2 {f:List Rat→List Rat}{X:List (List Rat)}{l:Ω}(hin:∀ i ∈ l,i<X.length):dQ (X.map f) l=l.tail.map fun i=>dS (f (X.getD i [])) (f (X.getD (l.headD 0) [])):=by
 unfold dQ
 refine map_congr_left fun i hi => ?_
 have e:∀ j ∈ l,(X.map f).getD j []=f (X.getD j []):=fun j hj=>by
  have h:=hin j hj
  rw[getD_eq_getElem?_getD,getD_eq_getElem?_getD,getElem?_map,List.getElem?_eq_getElem h];rfl
 cases l with
 | nil=>simp at hi
 | cons a r=>rw[e i (mem_cons_of_mem _ hi),headD_cons,e a mem_cons_self]
theorem v1 {A:List Rat}(h:A.length=1):∃ a,A=[a]:=by
 match A,h with
 | [a],_=>exact⟨a,rfl⟩
theorem v2 {A:List Rat}(h:A.length=2):∃ a b,A=[a,b]:=by
 match A,h with
 | [a,b],_=>exact⟨a,b,rfl⟩
theorem v3 {A:List Rat}(h:A.length=3):∃ a b c,A=[a,b,c]:=by
 match A,h with
 | [a,b,c],_=>exact⟨a,b,c,rfl⟩
theorem r1 {A:List (List Rat)}(h:A.length=1):∃ a,A=[a]:=by
 match A,h with
 | [a],_=>exact⟨a,rfl⟩
theorem r2 {A:List (List Rat)}(h:A.length=2):∃ a b,A=[a,b]:=by
 match A,h with
 | [a,b],_=>exact⟨a,b,rfl⟩
theorem r3 {A:List (List Rat)}(h:A.length=3):∃ a b c,A=[a,b,c]:=by
 match A,h with
 | [a,b,c],_=>exact⟨a,b,c,rfl⟩
def d3x (d0 d1 d2 r0 r1 r2:Rat):Rat:=r0*d0+r1*d1+r2*d2
theorem ajQ (a0 a1 a2 b0 b1 b2 c0 c1 c2 r0 r1 r2 s0 s1 s2 t0 t1 t2:Rat) :
  d3x a0 a1 a2 r0 r1 r2*(d3x b0 b1 b2 s0 s1 s2*d3x c0 c1 c2 t0 t1 t2 - d3x b0 b1 b2 t0 t1 t2*d3x c0 c1 c2 s0 s1 s2)
  - d3x a0 a1 a2 s0 s1 s2*(d3x b0 b1 b2 r0 r1 r2*d3x c0 c1 c2 t0 t1 t2 - d3x b0 b1 b2 t0 t1 t2*d3x c0 c1 c2 r0 r1 r2)
  + d3x a0 a1 a2 t0 t1 t2*(d3x b0 b1 b2 r0 r1 r2*d3x c0 c1 c2 s0 s1 s2 - d3x b0 b1 b2 s0 s1 s2*d3x c0 c1 c2 r0 r1 r2)
  = (a0*(b1*c2 - b2*c1) - a1*(b0*c2 - b2*c0)+a2*(b0*c1 - b1*c0))*(r0*(s1*t2 - t1*s2) - s0*(r1*t2 - t1*r2)+t0*(r1*s2 - s1*r2)):=by
 unfold d3x;grind
theorem ab5 {m:Nat}{X R:List (List Rat)}{B:List Rat}{l:Ω}(hm:m=1∨m=2∨m=3)(hR:R.length=m)(hV:∀ V ∈ R,V.length=m)(hB:B.length=m)(hX:∀ i,i<X.length→(X.getD i []).length=m)(hin:∀ i ∈ l,i<X.length)(hn:l.length=m+1) :
  mM (dQ (X.map (eG R B)) l)=mM (dQ X l)*mM (dQ (eH R B) (List.range (m+1))):=by
 rw[O2 hin]
 rcases hm with rfl | rfl | rfl
 ·obtain⟨a,b,rfl⟩:=ail hn
  obtain⟨V,rfl⟩:=r1 hR
  obtain⟨v,rfl⟩:=v1 (hV V (by simp))
  obtain⟨b0,rfl⟩:=v1 hB
  obtain⟨x,hx⟩:=v1 (hX a (hin a (by simp)))
  obtain⟨y,hy⟩:=v1 (hX b (hin b (by simp)))
  have e1:eH [[v]] [b0]=[[b0],[b0+v]]:=rfl
  have e2:List.range (1+1)=[0,1]:=rfl
  have e3:∀ p,eG [[v]] [b0] [p]=[b0+v*p]:=fun p=>rfl
  rw[e1,e2]
  simp only[dQ,tail_cons,headD_cons,map_cons,map_nil,hx,hy,e3,ac9,dS,zipWith_cons_cons,getD_cons_zero,getD_cons_succ]
  grind
 ·obtain⟨a,b,c,rfl⟩:=aik hn
  obtain⟨V,W,rfl⟩:=r2 hR
  obtain⟨v0,v1,rfl⟩:=v2 (hV V (by simp))
  obtain⟨w0,w1,rfl⟩:=v2 (hV W (by simp))
  obtain⟨b0,b1,rfl⟩:=v2 hB
  obtain⟨x0,x1,hx⟩:=v2 (hX a (hin a (by simp)))
  obtain⟨y0,y1,hy⟩:=v2 (hX b (hin b (by simp)))
  obtain⟨z0,z1,hz⟩:=v2 (hX c (hin c (by simp)))
  have e1:eH [[v0,v1],[w0,w1]] [b0,b1]=[[b0,b1],[b0+v0,b1+w0],[b0+v1,b1+w1]]:=rfl
  have e2:List.range (2+1)=[0,1,2]:=rfl
  have e3:∀ p q,eG [[v0,v1],[w0,w1]] [b0,b1] [p,q]=[b0+v0*p+v1*q,b1+w0*p+w1*q]:=fun p q=>rfl
  rw[e1,e2]
  simp only[dQ,tail_cons,headD_cons,map_cons,map_nil,hx,hy,hz,e3,ac8,dS,zipWith_cons_cons,getD_cons_zero,getD_cons_succ]
  grind
 ·obtain⟨a,b,c,d,rfl⟩:=aij hn
  obtain⟨V,W,U,rfl⟩:=r3 hR
  obtain⟨v0,v1,v2,rfl⟩:=v3 (hV V (by simp))
  obtain⟨w0,w1,w2,rfl⟩:=v3 (hV W (by simp))
  obtain⟨u0,u1,u2,rfl⟩:=v3 (hV U (by simp))
  obtain⟨b0,b1,b2,rfl⟩:=v3 hB
  obtain⟨x0,x1,x2,hx⟩:=v3 (hX a (hin a (by simp)))
  obtain⟨y0,y1,y2,hy⟩:=v3 (hX b (hin b (by simp)))
  obtain⟨z0,z1,z2,hz⟩:=v3 (hX c (hin c (by simp)))
  obtain⟨t0,t1,t2,ht⟩:=v3 (hX d (hin d (by simp)))
  have e1:eH [[v0,v1,v2],[w0,w1,w2],[u0,u1,u2]] [b0,b1,b2]=[[b0,b1,b2],[b0+v0,b1+w0,b2+u0],[b0+v1,b1+w1,b2+u1],[b0+v2,b1+w2,b2+u2]]:=rfl
  have e2:List.range (3+1)=[0,1,2,3]:=rfl
  have e3:∀ p q r,eG [[v0,v1,v2],[w0,w1,w2],[u0,u1,u2]] [b0,b1,b2] [p,q,r]=[b0+v0*p+v1*q+v2*r,b1+w0*p+w1*q+w2*r,b2+u0*p+u1*q+u2*r]:=fun p q r=>rfl
  rw[e1,e2]
  have e4:∀ b v0 v1 v2 p q r x y z:Rat,b+v0*p+v1*q+v2*r - (b+v0*x+v1*y+v2*z)=d3x (p - x) (q - y) (r - z) v0 v1 v2:=fun b v0 v1 v2 p q r x y z=>by unfold d3x;grind
  have e5:∀ b v:Rat,b+v - b=v:=fun b v=>by grind
  simp only[dQ,tail_cons,headD_cons,map_cons,map_nil,hx,hy,hz,ht,e3,ac7,dS,zipWith_cons_cons,getD_cons_zero,getD_cons_succ,e4,e5]
  rw[ajQ]
theorem acx {m:Nat}(hm:m=1∨m=2∨m=3){B P:List Rat}(hB:B.length=m)(hP:P.length=m):eG (iH m) B P=List.zipWith (· + ·) B P:=by
 rcases hm with rfl | rfl | rfl
 ·obtain⟨b0,rfl⟩:=v1 hB
  obtain⟨p0,rfl⟩:=v1 hP
  have e:eG (iH 1) [b0] [p0]=[b0+1*p0]:=rfl
  rw[e];simp only[zipWith_cons_cons,zipWith_nil_left,Rat.one_mul]
 ·obtain⟨b0,b1,rfl⟩:=v2 hB
  obtain⟨p0,p1,rfl⟩:=v2 hP
  have e:eG (iH 2) [b0,b1] [p0,p1]=[b0+1*p0+0*p1,b1+0*p0+1*p1]:=rfl
  rw[e];simp only[zipWith_cons_cons,zipWith_nil_left,Rat.one_mul,Rat.zero_mul,Rat.add_zero]
 ·obtain⟨b0,b1,b2,rfl⟩:=v3 hB
  obtain⟨p0,p1,p2,rfl⟩:=v3 hP
  have e:eG (iH 3) [b0,b1,b2] [p0,p1,p2]=[b0+1*p0+0*p1+0*p2,b1+0*p0+1*p1+0*p2,b2+0*p0+0*p1+1*p2]:=rfl
  rw[e];simp only[zipWith_cons_cons,zipWith_nil_left,Rat.one_mul,Rat.zero_mul,Rat.add_zero]
theorem y5:∀ {B P Q:List Rat},P.length=B.length→Q.length=B.length→dS (List.zipWith (· + ·) B P) (List.zipWith (· + ·) B Q)=dS P Q
 | [],[],[],_,_=>rfl
 | b::B,p::P,q::Q,h1,h2=>by
  have ih:=y5 (B:=B) (P:=P) (Q:=Q) (by simpa using h1) (by simpa using h2)
  unfold dS at ih ⊢
  simp only[zipWith_cons_cons]
  rw[ih]
  congr 1
  grind
theorem Wr {m k:Nat}{X:List (List Rat)}{l:Ω}(hm:m=1∨m=2∨m=3)(hE:jj m (k+1) X)(hin:∀ i ∈ l,i<X.length)(hn:l.length=m+1):Rb (12*(k+1)+7) (mM (dQ X l)):=by
 have g:∀ i ∈ l,(X.getD i []).length=m∧RbL (k+1) (X.getD i []):=fun i hi=>by
  rw[getD_eq_getElem?_getD,List.getElem?_eq_getElem (hin i hi)]
  exact hE _ (getElem_mem (hin i hi))
 have z:=Rb.zero k
 have o:=Rb.one k
 rcases hm with rfl | rfl | rfl
 ·obtain⟨a,b,rfl⟩:=ail hn
  obtain⟨la,ga⟩:=g a (by simp)
  obtain⟨lb,gb⟩:=g b (by simp)
  simp only[dQ,tail_cons,headD_cons,map_cons,map_nil,ac9]
  generalize X.getD a []=A at *
  generalize X.getD b []=B at *
  rw[ij (by omega)]
  have:=Cr (je ga 0) z z (je gb 0) z z z o z z z o
  have e:∀ x y:Rat,(x - y)*((1 - 0)*(1 - 0) - (0 - 0)*(0 - 0)) - (0 - 0)*((0 - y)*(1 - 0) - (0 - 0)*(0 - y))+(0 - 0)*((0 - y)*(0 - 0) - (1 - 0)*(0 - y))=x - y:=fun x y=>by grind
  rw[e] at this
  exact this
 ·obtain⟨a,b,c,rfl⟩:=aik hn
  obtain⟨la,ga⟩:=g a (by simp)
  obtain⟨lb,gb⟩:=g b (by simp)
  obtain⟨lc,gc⟩:=g c (by simp)
  simp only[dQ,tail_cons,headD_cons,map_cons,map_nil,ac8]
  generalize X.getD a []=A at *
  generalize X.getD b []=B at *
  generalize X.getD c []=C at *
  rw[ij (X:=B) (Y:=A) (by omega),ij (X:=C) (Y:=A) (by omega),ij (X:=B) (Y:=A) (by omega),ij (X:=C) (Y:=A) (by omega)]
  have:=Cr (je ga 0) (je ga 1) z (je gb 0) (je gb 1) z (je gc 0) (je gc 1) z z z o
  generalize A.getD 0 0=a0,A.getD 1 0=a1,B.getD 0 0=b0,B.getD 1 0=b1,C.getD 0 0=c0,C.getD 1 0=c1 at *
  have e:(b0 - a0)*((c1 - a1)*(1 - 0) - (0 - 0)*(0 - a1)) - (b1 - a1)*((c0 - a0)*(1 - 0) - (0 - 0)*(0 - a0))+(0 - 0)*((c0 - a0)*(0 - a1) - (c1 - a1)*(0 - a0))=(b0 - a0)*(c1 - a1) - (b1 - a1)*(c0 - a0):=by grind
  rw[e] at this
  exact this
 ·obtain⟨a,b,c,d,rfl⟩:=aij hn
  obtain⟨la,ga⟩:=g a (by simp)
  obtain⟨lb,gb⟩:=g b (by simp)
  obtain⟨lc,gc⟩:=g c (by simp)
  obtain⟨ld,gd⟩:=g d (by simp)
  simp only[dQ,tail_cons,headD_cons,map_cons,map_nil,ac7]
  generalize X.getD a []=A at *
  generalize X.getD b []=B at *
  generalize X.getD c []=C at *
  generalize X.getD d []=D at *
  simp only[ij (show B.length=A.length by omega),ij (show C.length=A.length by omega),ij (show D.length=A.length by omega)]
  exact Cr (je ga 0) (je ga 1) (je ga 2) (je gb 0) (je gb 1) (je gb 2) (je gc 0) (je gc 1) (je gc 2) (je gd 0) (je gd 1) (je gd 2)
theorem IT {D:List (List Rat)}{m:Nat}(h1:1≤m)(h3:m≤3)(hE:jj m 1000 D)(hne:D≠[])(h64:D.length≤64){l:Ω}(hl:l.length=m+1)(hin:∀ i ∈ l,i<D.length):(gH (D.map fun P=>P.map qb) (l.map Int.ofNat)).2=0∧vv (gH (D.map fun P=>P.map qb) (l.map Int.ofNat)).1=mM (dQ D l):=by
 obtain⟨g1,g2⟩:=rO h1 h3 hE hne h64
 have hax:=rY g1
 have d1:=O3 (l:=l) g1 (by rw[hl,hax,g2]) (fun i hi=>by rw[length_map];exact hin i hi)
 rw[Gx] at d1
 exact⟨by rw[d1],by rw[d1];exact Wt _⟩
theorem adI {C D:List (List Rat)}{m:Nat}(h1:1≤m)(h3:m≤3)(hC:jj m 1000 C)(hD:jj m 1000 D)(hne:C≠[])(h64:C.length≤64)(hlen:D.length=C.length)(hd:∀ i j,i<C.length→j<C.length→dS (D.getD i []) (D.getD j [])=dS (C.getD i []) (C.getD j [])){l:Ω}(hl:l.length=m+1)(hin:∀ i ∈ l,i<C.length){z:Nat}(hz:z<C.length) :
  qA (D.map fun P=>P.map qb) (l.map Int.ofNat) z=qA (C.map fun P=>P.map qb) (l.map Int.ofNat) z:=by
 have hneD:D≠[]:=fun e=>hne (eq_nil_of_length_eq_zero (by rw[← hlen,e];rfl))
 obtain⟨c1,c2⟩:=IT h1 h3 hC hne h64 hl hin
 obtain⟨d1,d2⟩:=IT h1 h3 hD hneD (by omega) hl (fun i hi=>by rw[hlen];exact hin i hi)
 obtain⟨-,g2⟩:=rO h1 h3 hC hne h64
 obtain⟨-,g3⟩:=rO h1 h3 hD hneD (by omega)
 have hdf:dQ D l=dQ C l:=by
  unfold dQ
  refine map_congr_left fun i hi => ?_
  cases l with
  | nil=>simp at hi
  | cons a r=>exact hd _ _ (hin i (mem_cons_of_mem _ hi)) (hin a mem_cons_self)
 have ho:xq (D.map fun P=>P.map qb) (l.map Int.ofNat)=xq (C.map fun P=>P.map qb) (l.map Int.ofNat):=by unfold xq;rw[c2,d2,hdf]
 have hlf:l.map (lift D z)=l.map (lift C z):=map_congr_left fun i hi=>by unfold lift;rw[hd i z (hin i hi) hz]
 unfold qA
 rw[c1,d1,ho,g2,g3,toNat_ofNat,Int.toNat_natCast,Gx,Gx,hlf]
 simp only[length_map,hlen]
theorem Li {α:Type}(f:α→PV):∀ l:List α,l.map f=l.flatMap fun a=>[f a]
 | []=>rfl
 | a::l=>by rw[map_cons,flatMap_cons,Li f l];rfl
theorem ahF:Rdg Tryz.prog 39 pE fun p=>p.length≤reachBytes∧∀ s ∈ p,s.size≤reachBytes:=fun H enc W fuel cs x h hw=>by
 obtain⟨a,v,h1,h2,h3⟩:=zF Tryz.underlying39 (by kernel_rfl) (by decide +kernel) (fun _=>rfl) (wC Tryz.underlying27) H enc W fuel cs x h hw
 refine⟨a,v,h1,h2,?_⟩
 dsimp only at h3
 rw[Li] at h3
 exact h3
theorem afF (p:List ByteArray):(pE p).cF=true:=by
 have:=(abT).idf p
 simpa only[ep,bM,Bool.and_true] using this
theorem ajp:Rdg Tryz.prog 23 cE fun c=>c.length≤reachBytes∧∀ p ∈ c,p.length≤reachBytes∧∀ s ∈ p,s.size≤reachBytes:=fun H enc W fuel cs x h hw=>by
 obtain⟨a,v,h1,h2,h3⟩:=zF Tryz.underlying23 (by kernel_rfl) (by decide +kernel) afF ahF H enc W fuel cs x h hw
 refine⟨a,v,h1,h2,?_⟩
 dsimp only at h3
 rw[Li] at h3
 exact h3
theorem I6 {n:Nat}(h:n≤reachBytes):Bl n:=Nat.lt_of_le_of_lt h (by decide)
theorem pP:∀ l:Ω,bM (l.map u8v)=true
 | []=>rfl
 | _::l=>by rw[map_cons,bM,pP l];rfl
namespace predicateSwaps
open Go.ChangeShapes Go.WideShapes Go.ChangeAt Go.RowKit List
theorem m5 {H:Type}{enc:TypeId × Value→H}{P:Program}{W:World}{t:TypeId}{v:Value}{d:DataW H}{ps:List MemPlace}(h:DataW.Trod enc P W 0 (fun _=>true) true t v d ps):∀ x ∈ ps,x.block<W.heap.size:=by
 obtain⟨fu,hf⟩:=h
 exact DataW.trod_lt _ _ _ _ hf
end predicateSwaps
theorem CO:base.F.get 9=some Tryz.f9:=by kernel_rfl
noncomputable def mpC:Code:=Tryz.f9.body.getD .skip
def gB (ms:List ByteArray)(i n:Nat):List ByteArray:=(ms.drop (3*i)).take n
theorem Cl (l:List ByteArray):(l.flatMap es).length=l.length:=by rw[uP.toEl.length,Nat.mul_one]
theorem abQ (hp:Θ)(d:Nat)(l:List ByteArray):bj (Ab.snap hp (d+1)) (l.flatMap es)=some (l.flatMap es,[]):=uP.toEl.sns hp d l
theorem qG {hp:Θ}{id k n off:Nat}{cs ps Qs:Ψ}{ids:Ω}{x:Bool}(hb:aP hp id=some ⟨.live,cs⟩)(ht:bD (bq cs off) (n*1)=some ps)(hs:cU hp k ps Qs ids):cU hp (k+1) [.own id 1 off n x] [.imm n false Qs] (id::ids):=by
 obtain⟨qs,h1,h2⟩:=hs
 refine⟨[.imm n x qs],fun d => ?_,by simp only[aJ,canon,h2]⟩
 have e:Ab.snap hp (d+(k+1)) (.own id 1 off n x)=some (.imm n x qs,id::ids):=by
  rw[show d+(k+1)=(d+k)+1 by omega,qD,qO hb]
  dsimp only
  rw[ht]
  dsimp only
  rw[h1 d]
 simp only[bj,e,append_nil]
theorem abR (hp:Θ)(l:List ByteArray):cU hp 1 (l.flatMap es) (l.flatMap es) []:=cU.own (fun d=>abQ hp d l) (uP.agn l)
theorem R8 {ms:List ByteArray}(hm:ms.length=9){i n:Nat}(hi:i<3)(hn:n≤3):bD (bq (ms.flatMap es) (3*i)) (n*1)=some ((gB ms i n).flatMap es):=by
 have h1:=II uP.toEl ms (3*i) (by omega)
 rw[Nat.mul_one] at h1
 rw[h1]
 unfold gB
 have h2:=m7 uP.toEl ((ms.drop (3*i)).take n) ((ms.drop (3*i)).drop n)
 rw[take_append_drop,length_take,length_drop,Nat.min_eq_left (by omega)] at h2
 exact h2
theorem np {ms:List ByteArray}(hm:ms.length=9){i n:Nat}(hi:i<3)(hn:n≤3):(gB ms i n).length=n:=by
 unfold gB
 rw[length_take,length_drop];omega
theorem nm {hp:Θ}{ms:List ByteArray}(hb:aP hp 0=some ⟨.live,ms.flatMap es⟩)(hm:ms.length=9){i n:Nat}(hi:i<3)(hn:n≤3)(x:Bool):cU hp 2 [.own 0 1 (3*i) n x] [pE (gB ms i n)] [0]:=by
 have:=qG (x:=x) hb (R8 hm hi hn) (abR hp (gB ms i n))
 unfold pE dj
 rw[np hm hi hn]
 exact this
theorem BD (hp:Θ)(p:List ByteArray)(k:Nat):cU hp (k+1) [pE p] [pE p] []:=cU.own (fun _=>rfl) (by simp only[aJ,kA])
theorem Yu:und TT 54=some (.array 3 53):=by kernel_rfl
theorem uA3:und TT 53=some (.array 3 27):=by kernel_rfl
theorem sA3:de TT 53=some 3:=by kernel_rfl
def t4 (b:List ByteArray):Ψ:=[pE b,.own 0 1 0 3 true,.own 0 1 3 3 true,.own 0 1 6 3 true]
theorem afp (b:List ByteArray):eM TT 23 4 [(0,pE b),(1,.own 0 1 0 3 true),(2,.own 0 1 3 3 true),(3,.own 0 1 6 3 true)]=some (1,t4 b):=by
 have h:(pE b).cells?=some [pE b]:=rfl
 have h2:∀ i x j,(PV.own 0 1 i j x).cells?=some [.own 0 1 i j x]:=fun _ _ _=>rfl
 unfold t4
 generalize pE b=B at *
 simp[eM,uCl,sPt,X4,rep,dq,h,h2,cm]
noncomputable def yJ:Code:=seq1 (seq1 (ag 1 mpC))
theorem aid:((Region.before (iP yJ))[16]?.getD 0).testBit 15=true:=by kernel_rfl
def hp3 (b ms:List ByteArray)(l:Ω):Θ:=[⟨.live,ms.flatMap es⟩,⟨.live,l.map u8v⟩,⟨.live,t4 b⟩]
abbrev fp3:FP:=⟨[2,0,0,0],[],false,false⟩
section
variable (L:Lst) (run:aw) (k:Nat)
theorem ah6 (C B:PV)(M U:Ψ)(h9:M.length=9)(h5:U.length=5)(hM:bd M=true)(hU:bd U=true) :
  ∃ fr wr,af (CC L) run k (seq1 mpC) ⟨entry 282 [C,.agg M,B,.agg U],[],[]⟩=some (.normal,⟨fr,[⟨.live,M⟩,⟨.live,U⟩],wr⟩)∧fr.length=282∧nth fr 0=C∧nth fr 2=B∧nth fr 5 = .ptr 0 0∧nth fr 7 = .ptr 1 0:=by
 obtain⟨e0,e1,e2,e3,e4⟩:=IG 278 C (.agg M) B (.agg U)
 generalize entry 282 [C,.agg M,B,.agg U]=fr0 at *
 simp[mpC,Tryz.f9,and_assoc,e0,e1,e2,e3,e4,aL,PV.cells?]
theorem ah5 (c:List (List ByteArray))(b ms:List ByteArray)(l:Ω)(hm:ms.length=9)(lg t1 t2:Bool)(e:Nat)(fr:Ψ)(wr:Ω)(g1:az L run 11 [cE c] (.sc (.bool lg)))(g2:az L run 32 [cE c] (.sc (.bool t1)))
  (g3:bU (CC L) run true (hp3 b ms l) 32 [.own 2 1 0 4 true]=some (.sc (.bool t2),hp3 b ms l,fp3)) (g4:lg=false→az L run 22 [cE c] (iv e)) (g5:az L run 12 [] (.sc (.bool true))) (h0:fr.length=282) (h00:nth fr 0=cE c) (h2:nth fr 2=pE b) (h5:nth fr 5 = .ptr 0 0) :
  ∃ fr' hp' wr',af (CC L) run k yJ ⟨fr,[⟨.live,ms.flatMap es⟩,⟨.live,l.map u8v⟩],wr⟩=some (.normal,⟨fr',hp',wr'⟩)∧nth fr' 70 = .sc (.bool (lg || !t1 || !t2 || decide (e≠0) || decide (c.length=0)))∧(lg=false→t1=true→hp'=hp3 b ms l):=by
 have hl:=gP c
 have hml:=Cl ms
 rw[hm] at hml
 have l4:=afp b
 have hid:bM (t4 b)=false:=rfl
 have hb:=aid
 have x0:aU TT 54 (.ptr 0 0) (.sc (.int .i64 0))=some (.ptr 0 0):=by simp only[aU,Yu];rfl
 have x1:aU TT 54 (.ptr 0 0) (.sc (.int .i64 1))=some (.ptr 0 3):=by simp only[aU,Yu];rfl
 have x2:aU TT 54 (.ptr 0 0) (.sc (.int .i64 2))=some (.ptr 0 6):=by simp only[aU,Yu];rfl
 unfold hp3 at *
 unfold az at g1 g2 g4 g5
 generalize pE b=B at *
 generalize hM:ms.flatMap es=M at *
 generalize hU:l.map u8v=U at *
 generalize t4 b=T at *
 simp[-Nat.testBit_zero,yJ,mpC,Tryz.f9,iP] at hb
 generalize cE c=C at *
 generalize c.length=N at *
 cases lg with
 | true=>simp[-Nat.testBit_zero,yJ,mpC,Tryz.f9,and_assoc,h0,h00,g1,undef,number,FP.free]
 | false =>
  have g4':=g4 rfl
  simp only[iv] at g4'
  cases t1 with
  | false=>simp[-Nat.testBit_zero,yJ,mpC,Tryz.f9,unP,and_assoc,h0,h00,g1,g2,undef,number,FP.free]
  | true =>
   cases t2 with
   | false=>simp[-Nat.testBit_zero,yJ,mpC,Tryz.f9,soft,eu,unP,and_assoc,h0,h00,h2,h5,g1,g2,g3,l4,hid,hml,uA3,fV,dh,iz,x0,x1,x2,bnd,eD,fz,aP,aL,undef,number,FP.free,cD,FP.apart,hb]
   | true =>
    by_cases he:e=0
    ·subst he
     simp only[Int.cast_ofNat_Int] at g4'
     by_cases hN:N=0
     ·subst hN
      simp[-Nat.testBit_zero,yJ,mpC,Tryz.f9,soft,eu,bL,unP,and_assoc,h0,h00,h2,h5,g1,g2,g3,g4',hl,l4,hid,hml,uA3,fV,uCl,dh,iz,x0,x1,x2,bnd,eD,fz,aP,aL,undef,number,FP.free,cD,FP.apart,hb]
     ·have hN':((N:Int) == 0)=false:=by rw[beq_eq_false_iff_ne];omega
      simp[-Nat.testBit_zero,yJ,mpC,Tryz.f9,soft,eu,bL,unP,and_assoc,h0,h00,h2,h5,g1,g2,g3,g4',g5,hl,hN,hN',l4,hid,hml,uA3,fV,uCl,dh,iz,x0,x1,x2,bnd,eD,fz,aP,aL,number,FP.free,cD,FP.apart,hb]
    ·have he':((e:Int) != 0)=true:=by simp;omega
     simp[-Nat.testBit_zero,yJ,mpC,Tryz.f9,soft,eu,unP,and_assoc,h0,h00,h2,h5,g1,g2,g3,g4',he,he',l4,hid,hml,uA3,fV,dh,iz,x0,x1,x2,bnd,eD,fz,aP,aL,undef,number,FP.free,cD,FP.apart,hb]
theorem UK:seq1 (ag 1 mpC) = .seq yJ (bn (seq1 (ag 1 mpC))):=rfl
theorem H9 {st:St}(h:nth st.fr 8 = .sc (.bool true)):bc TT st.fr st.hp Tryz.f9.results.toList=some [.sc (.bool true)]:=by simp[Tryz.f9,bc,h]
variable (fr:Ψ) (hp:Θ) (wr:Ω)
theorem ah4 (g5:az L run 12 [] (.sc (.bool true)))(h0:fr.length=282)(h:nth fr 70 = .sc (.bool true)):∃ st,af (CC L) run k (bn (seq1 (ag 1 mpC))) ⟨fr,hp,wr⟩=some (.ret,st)∧nth st.fr 8 = .sc (.bool true):=by
 unfold az at g5
 simp[mpC,Tryz.f9,h0,h,g5]
theorem afa (h:nth fr 70 = .sc (.bool false)):af (CC L) run k (bn (seq1 (ag 1 mpC))) ⟨fr,hp,wr⟩=some (.normal,⟨fr,hp,wr⟩):=by
 simp[mpC,Tryz.f9,h]
theorem ah3 (c:List (List ByteArray))(hc:0<c.length)(h0:fr.length=282)(h00:nth fr 0=cE c):∃ fr',af (CC L) run k (seq1 (ag 2 mpC)) ⟨fr,hp,wr⟩=some (.normal,⟨fr',hp,wr⟩)∧nth fr' 9=iv c[0].length:=by
 obtain⟨r,x1,x2⟩:=iJ uCl c 0 hc
 have hl:=fh c[0]
 generalize pE c[0]=P at *
 generalize c[0].length=m at *
 rw[show ((0:Nat):Int)=0 from rfl] at x1
 simp[iv,mpC,Tryz.f9,bL,partOf,h0,h00,x1,x2,hl,uPt,aPt,sPt,aX]
end
end Go.Proofs.YtjdmodeenbdfpaaGreat
