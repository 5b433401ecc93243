/- Contracts of numbers kept as digits in text, part 32 of the proof; each lemma states its own conditions. -/
import Derived.Test.YtjdmodeenbdfpaaGreatQ31
set_option linter.unusedSimpArgs false
set_option linter.unusedVariables false
namespace Go.Proofs.YtjdmodeenbdfpaaGreat
open Go Go.Ab
noncomputable def LT3:Lst:=[(116,l6)]
theorem ad0:dM base.P LT3:=⟨ra,trivial⟩
theorem Dn:bu LT3 116=fun a=>l6 (aJ a):=rfl
noncomputable def fG:Code:=Tryz.f114.body.getD .skip
noncomputable def kQ:Code:=match cB (seq1 (ah 1 fG)) with | .cond _ a _=>a | c=>c
noncomputable def rk:Code:=(aF kQ).getD .skip
noncomputable def rj:Code:=(aF (ah 3 fG)).getD .skip
theorem Mo (L:Lst)(run:aq)(k:Nat)(fr:List PV)(hp:List Blk)(wr:List Nat)(h42:fr.length=42)(h0:nth fr 0=iv 0) :
  ∃ fr',af (CC L) run k rj ⟨fr,hp,wr⟩=some (.exit 2,⟨fr',hp,wr⟩)∧fr'.length=42∧nth fr' 6=nth fr 6:=by
 simp only[iv] at h0
 simp[rj,fG,Tryz.f114,ah,aF,af,aH,an,ao,aG,ag,ai,aj,ak,aC,az,FP.none,aY,au,bf,av,aa,ae,ab,h42,h0]
set_option maxHeartbeats 1000000 in
theorem C4 (L:Lst)(run:aq)(k:Nat)(fr:List PV)(hp:List Blk)(wr:List Nat)(x:Nat)(out:List Nat)(hx:0<x)(hx9:x≤9223372036854775807)(ho9:out.length<20000000)(h42:fr.length=42)(h0:nth fr 0=iv x)(hO:dk iv 0 hp out (nth fr 6)) :
  ∃ fr' hp' wr',af (CC L) run k rj ⟨fr,hp,wr⟩=some (.normal,⟨fr',hp',wr'⟩)∧fr'.length=42∧nth fr' 0=iv (x / 10)∧dk iv 0 hp' (out++[x % 10]) (nth fr' 6):=by
 obtain⟨q,hq⟩:∃ q,q=x / 10:=⟨_,rfl⟩
 obtain⟨r,hr⟩:∃ r,r=x % 10:=⟨_,rfl⟩
 obtain⟨p',hp',fp,g1,g2,-⟩:=hO.app r (by omega)
 have hq9:q≤9223372036854775807:=by rw[hq];exact Nat.le_trans (Nat.div_le_self _ _) hx9
 have hw1:bA .i64 ((x:Int) / 10)=(q:Int):=T.ji .i64 x q hq hq9
 have hw2:=T.kK x r hr
 have hlX:eY TT 24 1 [(0,.sc (.int .i64 (r:Int)))]=some (1,[iv r]):=mL r
 rw[← hq,← hr]
 simp only[iv] at h0 ⊢
 simp[rj,fG,Tryz.f114,ah,aF,af,aH,an,ao,aG,ag,ai,aj,ak,aC,az,FP.none,aY,au,bf,av,aa,ae,ab,bh,and_assoc,bc,dJ,h42,h0,hx,hw1,hw2,hlX,kP,il,uL,sI,bI,zI,bZ,g1,g2]
theorem GG (L:Lst)(run:aq)(k:Nat):∀ (x:Nat) (fr:List PV) (hp:List Blk) (wr:List Nat) (out:List Nat),x≤9223372036854775807→out.length+(T.aA x).length<20000000→fr.length=42→nth fr 0=iv x→dk iv 0 hp out (nth fr 6) →
  ∃ (fr':List PV) (hp':List Blk) (wr':List Nat),ca (af (CC L) run k rj) ((T.aA x).length+1) ⟨fr,hp,wr⟩=some (.exit 2,⟨fr',hp',wr'⟩)∧fr'.length=42∧dk iv 0 hp' (out++T.aA x) (nth fr' 6):=by
 intro x
 induction x using Nat.strongRecOn with
 | _ x ih =>
  intro fr hp wr out hx9 ho9 h42 h0 hO
  by_cases h:x=0
  ·subst h
   obtain⟨fr',q1,q2,q3⟩:=Mo L run k fr hp wr h42 h0
   exact⟨fr',hp,wr,by rw[T.fj];exact bz q1,q2,by rw[q3,T.fj,List.append_nil];exact hO⟩
  ·rw[T.dT h] at ho9 ⊢
   rw[List.length_cons] at ho9
   obtain⟨fr1,hp1,wr1,g1,g2,g3,g4⟩:=C4 L run k fr hp wr x out (by omega) hx9 (by omega) h42 h0 hO
   obtain⟨fr',hp',wr',q1,q2,q3⟩:=ih (x / 10) (by omega) fr1 hp1 wr1 _ (Nat.le_trans (Nat.div_le_self _ _) hx9) (by simp;omega) g2 g3 g4
   exact⟨fr',hp',wr',by rw[List.length_cons,bU g1];exact q1,q2,by simpa using q3⟩
theorem Mq (L:Lst)(run:aq)(k:Nat)(fr:List PV)(hp:List Blk)(wr:List Nat)(h42:fr.length=42)(h0:nth fr 3=iv 0) :
  ∃ fr',af (CC L) run k rk ⟨fr,hp,wr⟩=some (.exit 0,⟨fr',hp,wr⟩)∧fr'.length=42∧nth fr' 5=nth fr 5:=by
 simp only[iv] at h0
 simp[rk,kQ,fG,Tryz.f114,ah,seq1,cB,aF,af,aH,an,ao,aG,ag,ai,aj,ak,aC,az,FP.none,aY,au,bf,av,aa,ae,ab,h42,h0]
set_option maxHeartbeats 1000000 in
theorem C5 (L:Lst)(run:aq)(k:Nat)(fr:List PV)(hp:List Blk)(wr:List Nat)(x:Nat)(out:List Nat)(hx:0<x)(hx9:x≤9223372036854775807)(ho9:out.length<20000000)(h42:fr.length=42)(h0:nth fr 3=iv x)(hO:dk iv 0 hp out (nth fr 5)) :
  ∃ fr' hp' wr',af (CC L) run k rk ⟨fr,hp,wr⟩=some (.normal,⟨fr',hp',wr'⟩)∧fr'.length=42∧nth fr' 3=iv (x / 10)∧dk iv 0 hp' (out++[x % 10]) (nth fr' 5):=by
 obtain⟨q,hq⟩:∃ q,q=x / 10:=⟨_,rfl⟩
 obtain⟨r,hr⟩:∃ r,r=x % 10:=⟨_,rfl⟩
 obtain⟨p',hp',fp,g1,g2,-⟩:=hO.app r (by omega)
 have hq9:q≤9223372036854775807:=by rw[hq];exact Nat.le_trans (Nat.div_le_self _ _) hx9
 have hw1:bA .i64 ((x:Int) / 10)=(q:Int):=T.ji .i64 x q hq hq9
 have hw2:=T.kK x r hr
 have hlX:eY TT 24 1 [(0,.sc (.int .i64 (r:Int)))]=some (1,[iv r]):=mL r
 rw[← hq,← hr]
 simp only[iv] at h0 ⊢
 simp[rk,kQ,fG,Tryz.f114,ah,seq1,cB,aF,af,aH,an,ao,aG,ag,ai,aj,ak,aC,az,FP.none,aY,au,bf,av,aa,ae,ab,bh,and_assoc,bc,dJ,h42,h0,hx,hw1,hw2,hlX,kP,il,uL,sI,bI,zI,bZ,g1,g2]
theorem GJ (L:Lst)(run:aq)(k:Nat):∀ (x:Nat) (fr:List PV) (hp:List Blk) (wr:List Nat) (out:List Nat),x≤9223372036854775807→out.length+(T.aA x).length<20000000→fr.length=42→nth fr 3=iv x→dk iv 0 hp out (nth fr 5) →
  ∃ (fr':List PV) (hp':List Blk) (wr':List Nat),ca (af (CC L) run k rk) ((T.aA x).length+1) ⟨fr,hp,wr⟩=some (.exit 0,⟨fr',hp',wr'⟩)∧fr'.length=42∧dk iv 0 hp' (out++T.aA x) (nth fr' 5):=by
 intro x
 induction x using Nat.strongRecOn with
 | _ x ih =>
  intro fr hp wr out hx9 ho9 h42 h0 hO
  by_cases h:x=0
  ·subst h
   obtain⟨fr',q1,q2,q3⟩:=Mq L run k fr hp wr h42 h0
   exact⟨fr',hp,wr,by rw[T.fj];exact bz q1,q2,by rw[q3,T.fj,List.append_nil];exact hO⟩
  ·rw[T.dT h] at ho9 ⊢
   rw[List.length_cons] at ho9
   obtain⟨fr1,hp1,wr1,g1,g2,g3,g4⟩:=C5 L run k fr hp wr x out (by omega) hx9 (by omega) h42 h0 hO
   obtain⟨fr',hp',wr',q1,q2,q3⟩:=ih (x / 10) (by omega) fr1 hp1 wr1 _ (Nat.le_trans (Nat.div_le_self _ _) hx9) (by simp;omega) g2 g3 g4
   exact⟨fr',hp',wr',by rw[List.length_cons,bU g1];exact q1,q2,by simpa using q3⟩
noncomputable def AX:Code:=seq1 (seq1 (ah 1 fG))
theorem sM:ah 1 fG = .seq (.seq AX (.cond (.tmp 8) kQ .skip)) (ah 2 fG):=rfl
theorem C3:ah 3 fG = .seq (.block 2 (.loop rj)) (ah 4 fG):=rfl
noncomputable def GK:Code:=seq1 (seq1 (ah 3 kQ))
theorem C2:ah 3 kQ = .seq (.seq GK (.block 0 (.loop rk))) (ah 4 kQ):=rfl
theorem Rl (L:Lst)(run:aq)(k:Nat)(z:Int) :
  ∃ fr,aX (CC L) run k 1 fG ⟨entry 42 [.sc (.int .i64 z)],[],[]⟩=some ⟨fr,[],[]⟩∧fr.length=42∧nth fr 0 = .sc (.int .i64 z):=by
 obtain⟨e1,e2⟩:=cQ 41 (.sc (.int .i64 z))
 generalize entry 42 [.sc (.int .i64 z)]=fr0 at *
 simp[fG,Tryz.f114,aX,e1,e2,af,aH,an,ao,aG,ag,ai,aj,ak,aC,az,FP.none,av,ae,ab]
theorem Xl (L:Lst)(run:aq)(k:Nat)(fr:List PV)(z:Int)(h42:fr.length=42)(h0:nth fr 0 = .sc (.int .i64 z)) :
  ∃ fr',af (CC L) run k AX ⟨fr,[],[]⟩=some (.normal,⟨fr',[],[]⟩)∧fr'.length=42∧nth fr' 0 = .sc (.int .i64 z)∧nth fr' 8 = .sc (.bool (decide (z<0))):=by
 simp[AX,fG,ah,seq1,Tryz.f114,af,aH,an,ao,aG,ag,ai,aj,ak,aC,az,FP.none,aY,au,bf,av,aa,ae,ab,h42,h0]
theorem Rk (L:Lst)(run:aq)(k:Nat)(fr:List PV)(h42:fr.length=42) :
  ∃ fr',aX (CC L) run k 1 (ah 2 fG) ⟨fr,[],[]⟩=some ⟨fr',[],[]⟩∧fr'.length=42∧nth fr' 0=nth fr 0∧nth fr' 6 = .sc (.slice none 0 0):=by
 simp[fG,ah,Tryz.f114,aX,af,aH,an,ao,aG,ag,ai,aj,ak,aC,az,FP.none,av,aa,ae,ab,h42]
theorem GD (L:Lst)(run:aq)(k:Nat)(fr:List PV)(hp hp':List Blk)(wr:List Nat)(p q:PV)(fp:FP)(h42:fr.length=42)(h6:nth fr 6=p)(hc:cb (CC L) run false hp 116 [.sc (.bool false),p]=some (q,hp',fp)) :
  ∃ st,af (CC L) run k (ah 4 fG) ⟨fr,hp,wr⟩=some (.ret,st)∧aV TT st.fr st.hp Tryz.f114.results.toList=some [q]:=by
 simp[fG,ah,Tryz.f114,af,aH,an,ao,aG,ag,ai,aO,aj,ak,aC,az,FP.none,av,aa,ab,h42,h6,hc,aV]
theorem GH (L:Lst)(run:aq)(k:Nat)(fr:List PV)(hp hp':List Blk)(wr:List Nat)(p q:PV)(fp:FP)(h42:fr.length=42)(h6:nth fr 5=p)(hc:cb (CC L) run false hp 116 [.sc (.bool true),p]=some (q,hp',fp)) :
  ∃ st,af (CC L) run k (ah 4 kQ) ⟨fr,hp,wr⟩=some (.ret,st)∧aV TT st.fr st.hp Tryz.f114.results.toList=some [q]:=by
 simp[kQ,fG,ah,seq1,cB,Tryz.f114,af,aH,an,ao,aG,ag,ai,aO,aj,ak,aC,az,FP.none,av,aa,ab,h42,h6,hc,aV]
set_option maxHeartbeats 1000000 in
theorem Mp (L:Lst)(run:aq)(k:Nat)(fr:List PV)(z:Int)(q r:Nat)(hq:z.tdiv 10 = -(q:Int))(hr:z.tmod 10 = -(r:Int))(hq9:q≤9223372036854775807)(hr9:r<10)(h42:fr.length=42)(h0:nth fr 0 = .sc (.int .i64 z)) :
  ∃ fr' hp' wr',aX (CC L) run k 3 kQ ⟨fr,[],[]⟩=some ⟨fr',hp',wr'⟩∧fr'.length=42∧nth fr' 3 = .sc (.int .i64 (-(q:Int)))∧dk iv 0 hp' [r] (nth fr' 5):=by
 obtain⟨p',hp',fp,g1,g2,-⟩:=(dk.nil (e:=iv) (b:=0) (hp:=[]) (Nat.le_refl _)).app r (by simp)
 rw[List.nil_append] at g2
 have hw1:bA .i64 (-(q:Int)) = -(q:Int):=ft _ (by omega) (by omega)
 have hw2:bA .i64 (r:Int)=(r:Int):=ch .i64 r (hiI (by omega))
 have hlX:eY TT 24 1 [(0,.sc (.int .i64 (r:Int)))]=some (1,[iv r]):=mL r
 simp[kQ,fG,Tryz.f114,ah,seq1,cB,aX,af,aH,an,ao,aG,ag,ai,aj,ak,aC,az,FP.none,aY,au,bf,av,unP,aa,ae,ab,bh,and_assoc,bc,dJ,h42,h0,hq,hr,hw1,hw2,hlX,kP,il,uL,sI,bI,zI,bZ,g1,g2]
theorem Xk (L:Lst)(run:aq)(k:Nat)(fr:List PV)(hp:List Blk)(wr:List Nat)(q:Nat)(hq9:q≤9223372036854775807)(h42:fr.length=42)(h3:nth fr 3 = .sc (.int .i64 (-(q:Int)))) :
  ∃ fr',af (CC L) run k GK ⟨fr,hp,wr⟩=some (.normal,⟨fr',hp,wr⟩)∧fr'.length=42∧nth fr' 3=iv q∧nth fr' 5=nth fr 5:=by
 have hw2:bA .i64 (q:Int)=(q:Int):=ch .i64 q (hiI hq9)
 simp[GK,kQ,fG,Tryz.f114,ah,seq1,cB,af,aH,an,ao,aG,ag,ai,aj,ak,aC,az,FP.none,unP,aa,ae,ab,h42,h3,hw2,iv]
def sN:List PV→Option (List PV)
 | [.sc (.int .i64 z)]=>bif decide (-9223372036854775808≤z) && decide (z≤9223372036854775807) then some [zs z] else none
 | _=>none
theorem tl {x:Nat}(h:x≤9223372036854775808):(T.aA x).length≤19:=T.da (Nat.lt_of_le_of_lt h (by decide))
theorem yR:Ab.Spec base.P 114 sN:=Ab.Spec.bN (C:=CC LT3) (cU ad0) fun args rs h=>by
 unfold sN at h
 split at h
 ·rename_i z
  cases hb:decide (-9223372036854775808≤z) && decide (z≤9223372036854775807) with
  | false=>rw[hb] at h;cases h
  | true =>
   rw[hb] at h
   simp only[cond_true,Option.some.injEq] at h
   subst h
   simp only[Bool.and_eq_true,decide_eq_true_eq] at hb
   have htext:∀ (m:Bool) (l:List Nat),T.Dok l→l.length<10000000→l6 [.sc (.bool m),lO iv l]=some [zs (gG m (T.val l))]:=by
    intro m l h1 h2
    have:=dK h1 h2
    simp only[bw] at this
    simp only[l6,this,zs,tS]
   obtain⟨f1,p1,p2,p3⟩:=Rl LT3 (runK (CC LT3) 21) 21 z
   obtain⟨f2,q1,q2,q3,q4⟩:=Xl LT3 (runK (CC LT3) 21) 21 f1 z p2 p3
   by_cases hz:z<0
   ·have hd:=tl (x:=z.natAbs) (by omega)
    have hstep:=T.dT (show z.natAbs≠0 by omega)
    have hq:z.tdiv 10 = -((z.natAbs / 10:Nat):Int):=by
     have:z = -((z.natAbs:Nat):Int):=by omega
     rw[this,Int.neg_tdiv,Int.natAbs_neg,Int.natAbs_natCast]
     congr 1
    have hr:z.tmod 10 = -((z.natAbs % 10:Nat):Int):=by
     have:z = -((z.natAbs:Nat):Int):=by omega
     rw[this,Int.neg_tmod,Int.natAbs_neg,Int.natAbs_natCast]
     congr 1
    obtain⟨f3,hp3,wr3,r1,r2,r3,r4⟩:=Mp LT3 (runK (CC LT3) 21) 21 f2 z _ _ hq hr (by omega) (by omega) q2 q3
    obtain⟨f4,s1,s2,s3,s4⟩:=Xk LT3 (runK (CC LT3) 21) 21 f3 hp3 wr3 _ (by omega) r2 r3
    rw[hstep,List.length_cons] at hd
    obtain⟨f5,hp5,wr5,t1,t2,t3⟩:=GJ LT3 (runK (CC LT3) 21) 21 (z.natAbs / 10) f4 hp3 wr3 [z.natAbs % 10] (by omega) (by simp only[List.length_cons,List.length_nil];omega) s2 s3 (by rw[s4];exact r4)
    have e:[z.natAbs % 10]++T.aA (z.natAbs / 10)=T.aA z.natAbs:=by rw[hstep];rfl
    rw[e] at t3
    obtain⟨hp6,fp,c1,-⟩:=nU jC Dn (runK (CC LT3) 21) false iz true t3.s _ (htext true _ (T.bP _) (by rw[hstep,List.length_cons];omega))
    rw[T.bQ] at c1
    have hzz:gG true z.natAbs=z:=by
     have:bt z=true:=by rw[cI];simpa using hz
     rw[← this,gY]
    rw[hzz] at c1
    obtain⟨st,x1,x2⟩:=GH LT3 (runK (CC LT3) 21) 21 f5 hp5 hp6 wr5 _ _ fp t2 rfl c1
    have hcond:decide (z<0)=true:=decide_eq_true hz
    rw[hcond] at q4
    have hx:af (CC LT3) (runK (CC LT3) 21) 21 fG ⟨entry 42 [.sc (.int .i64 z)],[],[]⟩=some (.ret,st):=by
     rw[aM 1 p1,sM]
     refine cm ?_
     rw[aw q1,ti (by simpa [ak] using q4),aM 3 r1,C2,aw ((aw s1).trans (bF (bT t1 (by omega))))]
     exact x1
    exact⟨22,_,_,_,_,_,aQ oq rfl hx x2,rfl,Wk.refl rfl,trivial⟩
   ·have hd:=tl (x:=z.natAbs) (by omega)
    have hcond:decide (z<0)=false:=decide_eq_false hz
    rw[hcond] at q4
    obtain⟨f3,r1,r2,r3,r4⟩:=Rk LT3 (runK (CC LT3) 21) 21 f2 q2
    have hzi:PV.sc (.int .i64 z)=iv z.natAbs:=by
     unfold iv
     rw[show ((z.natAbs:Nat):Int)=z by omega]
    obtain⟨f5,hp5,wr5,t1,t2,t3⟩:=GG LT3 (runK (CC LT3) 21) 21 z.natAbs f3 [] [] [] (by omega) (by simp only[List.length_nil];omega) r2 (by rw[r3,q3,hzi]) (by rw[r4];exact dk.nil (Nat.le_refl _))
    rw[List.nil_append] at t3
    obtain⟨hp6,fp,c1,-⟩:=nU jC Dn (runK (CC LT3) 21) false iz false t3.s _ (htext false _ (T.bP _) (by omega))
    rw[T.bQ] at c1
    have hzz:gG false z.natAbs=z:=by
     have:bt z=false:=by rw[cI];simpa using hz
     rw[← this,gY]
    rw[hzz] at c1
    obtain⟨st,x1,x2⟩:=GD LT3 (runK (CC LT3) 21) 21 f5 hp5 hp6 wr5 _ _ fp t2 rfl c1
    have hx:af (CC LT3) (runK (CC LT3) 21) 21 fG ⟨entry 42 [.sc (.int .i64 z)],[],[]⟩=some (.ret,st):=by
     rw[aM 1 p1,sM]
     have hm:af (CC LT3) (runK (CC LT3) 21) 21 (.seq AX (.cond (.tmp 8) kQ .skip)) ⟨f1,[],[]⟩=some (.normal,⟨f2,[],[]⟩):=by
      rw[aw q1,tj (by simpa [ak] using q4),zG]
     rw[aw hm,aM 1 r1,show ah 1 (ah 2 fG)=ah 3 fG from rfl,C3,aw (bF (bT t1 (by omega)))]
     exact x1
    exact⟨22,_,_,_,_,_,aQ oq rfl hx x2,rfl,Wk.refl rfl,trivial⟩
 ·cases h
noncomputable def LT4:Lst:=[(115,sQ),(116,l6),(113,sH),(114,sN),(118,j9),(117,vw),(119,mD)]
theorem xt:dM base.P LT4:=⟨yV,ra,yM,yR,sF,Gr,vF,trivial⟩
theorem X2:bu LT4 115=fun a=>sQ (aJ a):=rfl
theorem Dm:bu LT4 116=fun a=>l6 (aJ a):=rfl
theorem ML:bu LT4 113=fun a=>sH (aJ a):=rfl
theorem X1:bu LT4 114=fun a=>sN (aJ a):=rfl
theorem R8:bu LT4 118=fun a=>j9 (aJ a):=rfl
theorem XZ:bu LT4 117=fun a=>vw (aJ a):=rfl
theorem X3:bu LT4 119=fun a=>mD (aJ a):=rfl
def Zm (z:Int):Prop:=(ztx z).length≤eL
theorem Zm.lt {z:Int}(h:Zm z):(ztx z).length<9000000:=Nat.lt_of_le_of_lt h (by decide)
theorem Zm.dN {z:Int}(h:Zm z):(dtx z.natAbs).length<9000000:=by
 have h1:=h.lt
 rw[gk] at h1
 exact Nat.lt_of_le_of_lt (Nat.le_add_left _ _) h1
theorem Zm.aA {z:Int}(h:Zm z):(T.aA z.natAbs).length<9000000:=Nat.lt_of_le_of_lt (zN _) h.dN
theorem Zm.JY {z:Int}(h:Zm z):(T.aA z.natAbs).length≤3000000:=by
 have h1:(ztx z).length≤3000000:=h
 rw[gk] at h1
 exact Nat.le_trans (zN _) (Nat.le_trans (Nat.le_add_left _ _) h1)
theorem UX (z:Int):bys (tx (ztx z))=ztx z:=jm (ki z)
theorem Uc (z:Int)(h:Zm z):sQ [zs z]=some [.sc (.bool (bt z)),bw (T.aA z.natAbs)]:=by
 obtain⟨m,h1,h2⟩:=mj z
 have h3:(dtx z.natAbs).length.blt 9000000=true:=by rw[Nat.blt_eq];exact h.dN
 simp only[sQ,zs,UX,h1,h3,cond_true,nR,h2]
theorem Am (m:Bool)(l:List Nat)(h1:T.Dok l)(h2:l.length<10000000):l6 [.sc (.bool m),bw l]=some [zs (gG m (T.val l))]:=by
 simp only[l6,dK h1 h2,zs,tS]
theorem Po (z:Int)(h:Zm z):sH [zs z]=some (bif (dN z).ble 9 then [Ab.bC z,.sc (.bool true)] else [Ab.bC 0,.sc (.bool false)]):=by
 obtain⟨m,h1,h2⟩:=mj z
 have h3:(ztx z).length.blt 100000000=true:=by rw[Nat.blt_eq];exact Nat.lt_trans h.lt (by decide)
 have h4:(dtx z.natAbs).length=dN z:=rfl
 simp only[sH,zs,UX,h1,h3,cond_true,nR,h2,gY,h4]
 cases (dN z).ble 9 <;> rfl
theorem Ez (m:Bool)(l:List Nat):aJ [.sc (.bool m),bw l]=[.sc (.bool m),bw l]:=by
 simp only[aJ,oS];rfl
theorem m5 (a b:List Nat):aJ [bw a,bw b]=[bw a,bw b]:=by
 simp only[aJ,oS]
theorem kg (run:aq)(z:Int)(h:Zm z):ar LT4 run 115 [zs z] (.tup [.sc (.bool (bt z)),bw (T.aA z.natAbs)]):=fun dr hp =>
 bp sa X2 run dr hp _ [.sc (.bool (bt z)),bw (T.aA z.natAbs)] rfl rfl (Uc z h)
theorem mQ (run:aq)(m:Bool)(l:List Nat)(h1:T.Dok l)(h2:l.length<10000000):ar LT4 run 116 [.sc (.bool m),bw l] (zs (gG m (T.val l))):=fun dr hp =>
 bp jC Dm run dr hp _ [zs (gG m (T.val l))] rfl (Ez m l) (Am m l h1 h2)
theorem nL (run:aq)(z:Int)(h:Zm z):ar LT4 run 113 [zs z] (.tup (bif (dN z).ble 9 then [Ab.bC z,.sc (.bool true)] else [Ab.bC 0,.sc (.bool false)])):=fun dr hp=>by
 have:=bp uN ML run dr hp [zs z] _ rfl rfl (Po z h)
 rw[this]
 cases (dN z).ble 9 <;> rfl
theorem JJ (run:aq)(z:Int)(h1 : -9223372036854775808≤z)(h2:z≤9223372036854775807):ar LT4 run 114 [.sc (.int .i64 z)] (zs z):=fun dr hp =>
 bp sb X1 run dr hp _ [zs z] rfl rfl (by simp only[sN,decide_eq_true h1,decide_eq_true h2,Bool.and_self,cond_true])
theorem pC (x y:Nat):j8 (T.aA x) (T.aA y)=dL x y:=by
 unfold j8
 by_cases h1:(T.aA x).length<(T.aA y).length
 ·rw[if_pos h1,dL,if_pos]
  exact Nat.lt_of_not_le fun h=>absurd (T.cw h) (by omega)
 ·rw[if_neg h1]
  by_cases h2:(T.aA y).length<(T.aA x).length
  ·have h3:y<x:=Nat.lt_of_not_le fun h=>absurd (T.cw h) (by omega)
   rw[if_pos h2,dL,if_neg (by omega),if_neg (by omega)]
  ·rw[if_neg h2,T.bQ,T.bQ]
theorem wG (run:aq)(x y:Nat)(hx:(T.aA x).length<10000000)(hy:(T.aA y).length<10000000):ar LT4 run 118 [bw (T.aA x),bw (T.aA y)] (Ab.bC (dL x y)):=fun dr hp =>
 bp yp R8 run dr hp _ [Ab.bC (dL x y)] rfl (m5 _ _) (by simp only[j9,dK (T.bP x) hx,dK (T.bP y) hy,pC])
theorem Zd (run:aq)(x y:Nat)(hx:(T.aA x).length<10000000)(hy:(T.aA y).length<10000000):ar LT4 run 117 [bw (T.aA x),bw (T.aA y)] (bw (xC (T.aA x) (T.aA y))):=fun dr hp =>
 bp O6 XZ run dr hp _ [bw (xC (T.aA x) (T.aA y))] rfl (m5 _ _) (by simp only[vw,dK (T.bP x) hx,dK (T.bP y) hy])
theorem JK (run:aq)(x y:Nat)(hx:(T.aA x).length<10000000)(hy:(T.aA y).length<10000000)(h:y≤x):ar LT4 run 119 [bw (T.aA x),bw (T.aA y)] (bw (T.aA (x - y))):=fun dr hp =>
 bp yq X3 run dr hp _ [bw (T.aA (x - y))] rfl (m5 _ _) (by
  have h1:(T.aA y).length.ble (T.aA x).length=true:=by rw[Nat.ble_eq];exact T.cw h
  have h2:y.ble x=true:=by rw[Nat.ble_eq];exact h
  simp only[mD,dK (T.bP x) hx,dK (T.bP y) hy,T.bQ,h1,h2,Bool.and_self,cond_true])
theorem GC (L:Lst)(run:aq)(k:Nat)(s r:ByteArray)(m:Bool)(l:List Nat)(g1:ar L run 115 [.sc (.string s)] (.tup [.sc (.bool m),bw l]))(g2:ar L run 116 [.sc (.bool (!m)),bw l] (.sc (.string r))) :
  ∃ st,af (CC L) run k (Tryz.f120.body.getD .skip) ⟨entry 14 [.sc (.string s)],[],[]⟩=some (.ret,st)∧aV TT st.fr st.hp Tryz.f120.results.toList=some [.sc (.string r)]:=by
 obtain⟨e1,e2⟩:=cQ 13 (.sc (.string s))
 generalize entry 14 [.sc (.string s)]=fr0 at *
 unfold ar at *
 cases m <;> simp only[Bool.not_true,Bool.not_false] at g2 <;> simp[Tryz.f120,e1,e2,af,aH,an,ao,aG,ag,ai,aO,aj,ak,aC,az,FP.none,av,unP,aa,ae,ab,g1,g2,aV]
theorem Gz (L:Lst)(run:aq)(k:Nat)(s r:ByteArray)(m:Bool)(l:List Nat)(g1:ar L run 115 [.sc (.string s)] (.tup [.sc (.bool m),bw l]))(g2:ar L run 116 [.sc (.bool false),bw l] (.sc (.string r))) :
  ∃ st,af (CC L) run k (Tryz.f155.body.getD .skip) ⟨entry 12 [.sc (.string s)],[],[]⟩=some (.ret,st)∧aV TT st.fr st.hp Tryz.f155.results.toList=some [.sc (.string r)]:=by
 obtain⟨e1,e2⟩:=cQ 11 (.sc (.string s))
 generalize entry 12 [.sc (.string s)]=fr0 at *
 unfold ar at *
 simp[Tryz.f155,e1,e2,af,aH,an,ao,aG,ag,ai,aO,aj,ak,aC,az,FP.none,av,aa,ae,ab,g1,g2,aV]
def mz:List PV→Option (List PV)
 | [p]=>match fK p with
  | some z=>some [zs (-z)]
  | none=>none
 | _=>none
def ri:List PV→Option (List PV)
 | [p]=>match fK p with
  | some z=>some [zs (Int.ofNat z.natAbs)]
  | none=>none
 | _=>none
theorem Pt (z:Int):gG (!bt z) z.natAbs = -z:=by
 cases z with
 | ofNat n=>cases n <;> rfl
 | negSucc n=>rfl
theorem vD:Ab.Spec base.P 120 mz:=Ab.Spec.bN (C:=CC LT4) (cU xt) fun args rs h=>by
 unfold mz at h
 split at h
 ·split at h
  ·rename_i z e
   obtain⟨rfl,hz⟩:=dc e
   simp only[Option.some.injEq] at h
   subst h
   have g2:=mQ (runK (CC LT4) 1) (!bt z) (T.aA z.natAbs) (T.bP _) (Nat.lt_trans (Zm.aA hz) (by decide))
   rw[T.bQ,Pt] at g2
   obtain⟨st,x1,x2⟩:=GC LT4 (runK (CC LT4) 1) 1 _ _ _ _ (kg _ z hz) g2
   exact⟨2,_,_,_,_,_,aQ Ij rfl x1 x2,rfl,Wk.refl rfl,trivial⟩
  ·cases h
 ·cases h
theorem Gy:Ab.Spec base.P 155 ri:=Ab.Spec.bN (C:=CC LT4) (cU xt) fun args rs h=>by
 unfold ri at h
 split at h
 ·split at h
  ·rename_i z e
   obtain⟨rfl,hz⟩:=dc e
   simp only[Option.some.injEq] at h
   subst h
   have g2:=mQ (runK (CC LT4) 1) false (T.aA z.natAbs) (T.bP _) (Nat.lt_trans (Zm.aA hz) (by decide))
   rw[T.bQ] at g2
   obtain⟨st,x1,x2⟩:=Gz LT4 (runK (CC LT4) 1) 1 _ _ _ _ (kg _ z hz) g2
   exact⟨2,_,_,_,_,_,aQ Ii rfl x1 x2,rfl,Wk.refl rfl,trivial⟩
  ·cases h
 ·cases h
set_option maxHeartbeats 1000000 in
theorem GU (L:Lst)(run:aq)(k:Nat)(s t:ByteArray)(m n:Bool)(a b:List Nat)(r1 r2:Int)(g1:ar L run 115 [.sc (.string s)] (.tup [.sc (.bool m),bw a]))(g2:ar L run 115 [.sc (.string t)] (.tup [.sc (.bool n),bw b]))
  (g3:ar L run 118 [bw a,bw b] (Ab.bC r1)) (g4:ar L run 118 [bw b,bw a] (Ab.bC r2)) :
  ∃ st,af (CC L) run k (Tryz.f69.body.getD .skip) ⟨entry 30 [.sc (.string s),.sc (.string t)],[],[]⟩=some (.ret,st)∧aV TT st.fr st.hp Tryz.f69.results.toList=some [Ab.bC (if m=n then (if m=true then r2 else r1) else (if m=true then -1 else 1))]:=by
 obtain⟨e1,e2,e3⟩:=cn 28 (.sc (.string s)) (.sc (.string t))
 generalize entry 30 [.sc (.string s),.sc (.string t)]=fr0 at *
 unfold ar at *
 simp only[Ab.bC] at *
 cases m <;> cases n <;> simp[Tryz.f69,e1,e2,e3,af,aH,an,ao,aG,ag,ai,aO,aj,ak,aC,az,FP.none,aY,dB,av,aa,ae,ab,bh,uB,g1,g2,g3,g4,aV]
def lE:List PV→Option (List PV)
 | [p,q]=>match fK p,fK q with
  | some x,some y=>some [Ab.bC (fD x y)]
  | _,_=>none
 | _=>none
theorem Uv (x y:Int):(if bt x=bt y then (if bt x=true then dL y.natAbs x.natAbs else dL x.natAbs y.natAbs) else (if bt x=true then -1 else 1))=fD x y:=by
 rw[cI,cI]
 unfold fD dL
 by_cases hx:x<0 <;> by_cases hy:y<0 <;> simp[hx,hy]
 ·by_cases h1:x<y
  ·rw[if_pos (by omega),if_pos h1]
  ·rw[if_neg (by omega),if_neg h1]
   by_cases h2:x=y
   ·rw[if_pos (by omega),if_pos h2]
   ·rw[if_neg (by omega),if_neg h2]
 ·first | (intros;omega) | (rw[if_pos (by omega)])
 ·first | (intros;omega) | (rw[if_neg (by omega),if_neg (by omega)])
 ·by_cases h1:x<y
  ·rw[if_pos (by omega),if_pos h1]
  ·rw[if_neg (by omega),if_neg h1]
   by_cases h2:x=y
   ·rw[if_pos (by omega),if_pos h2]
   ·rw[if_neg (by omega),if_neg h2]
theorem oE:Ab.Spec base.P 69 lE:=Ab.Spec.bN (C:=CC LT4) (cU xt) fun args rs h=>by
 unfold lE at h
 split at h
 ·split at h
  ·rename_i x y ex ey
   obtain⟨rfl,hx⟩:=dc ex
   obtain⟨rfl,hy⟩:=dc ey
   simp only[Option.some.injEq] at h
   subst h
   have hx9:=Nat.lt_trans (Zm.aA hx) (show 9000000<10000000 by decide)
   have hy9:=Nat.lt_trans (Zm.aA hy) (show 9000000<10000000 by decide)
   obtain⟨st,x1,x2⟩:=GU LT4 (runK (CC LT4) 1) 1 _ _ _ _ _ _ _ _ (kg _ x hx) (kg _ y hy) (wG _ x.natAbs y.natAbs hx9 hy9) (wG _ y.natAbs x.natAbs hy9 hx9)
   rw[Uv] at x2
   exact⟨2,_,_,_,_,_,aQ Il rfl x1 x2,rfl,Wk.refl rfl,trivial⟩
  ·cases h
 ·cases h
set_option maxHeartbeats 1000000 in
theorem Rj (L:Lst)(run:aq)(k:Nat)(s t r:ByteArray)(u v w:Int)(g1:ar L run 113 [.sc (.string s)] (.tup [Ab.bC u,.sc (.bool true)]))(g2:ar L run 113 [.sc (.string t)] (.tup [Ab.bC v,.sc (.bool true)]))
  (hw:bA .i64 (u+v)=w) (g3:ar L run 114 [.sc (.int .i64 w)] (.sc (.string r))) :
  ∃ st,af (CC L) run k (Tryz.f66.body.getD .skip) ⟨entry 63 [.sc (.string s),.sc (.string t)],[],[]⟩=some (.ret,st)∧aV TT st.fr st.hp Tryz.f66.results.toList=some [.sc (.string r)]:=by
 obtain⟨e1,e2,e3⟩:=cn 61 (.sc (.string s)) (.sc (.string t))
 generalize entry 63 [.sc (.string s),.sc (.string t)]=fr0 at *
 unfold ar at *
 simp only[Ab.bC] at *
 simp[Tryz.f66,e1,e2,e3,af,aH,an,ao,aG,ag,ai,aO,aj,ak,aC,az,FP.none,aY,au,bf,av,aa,ae,ab,g1,g2,hw,g3,aV]
noncomputable def jq:Code:=Tryz.f66.body.getD .skip
set_option maxHeartbeats 1000000 in
theorem GA (L:Lst)(run:aq)(k:Nat)(s t:ByteArray)(u v:Int)(f1 f2:Bool)(hf:(f1 && f2)=false)(g1:ar L run 113 [.sc (.string s)] (.tup [Ab.bC u,.sc (.bool f1)]))(g2:ar L run 113 [.sc (.string t)] (.tup [Ab.bC v,.sc (.bool f2)])) :
  ∃ fr,aX (CC L) run k 4 jq ⟨entry 63 [.sc (.string s),.sc (.string t)],[],[]⟩=some ⟨fr,[],[]⟩∧fr.length=63∧nth fr 0 = .sc (.string s)∧nth fr 1 = .sc (.string t):=by
 obtain⟨e1,e2,e3⟩:=cn 61 (.sc (.string s)) (.sc (.string t))
 generalize entry 63 [.sc (.string s),.sc (.string t)]=fr0 at *
 unfold ar at *
 simp only[Ab.bC] at *
 cases f1 <;> cases f2 <;> simp only[Bool.and_true,Bool.and_false,Bool.and_self,Bool.true_eq_false] at hf <;> simp[jq,Tryz.f66,aX,e1,e2,e3,af,aH,an,ao,aG,ag,ai,aO,aj,ak,aC,az,FP.none,av,aa,ae,ab,g1,g2,undef]
theorem GB (L:Lst)(run:aq)(k:Nat)(fr:List PV)(s t:ByteArray)(m n:Bool)(a b:List Nat)(g1:ar L run 115 [.sc (.string s)] (.tup [.sc (.bool m),bw a]))(g2:ar L run 115 [.sc (.string t)] (.tup [.sc (.bool n),bw b]))
  (h63:fr.length=63) (h0:nth fr 0 = .sc (.string s)) (h1:nth fr 1 = .sc (.string t)) :
  ∃ fr',aX (CC L) run k 2 (ah 4 jq) ⟨fr,[],[]⟩=some ⟨fr',[],[]⟩∧fr'.length=63∧nth fr' 9 = .sc (.bool m)∧nth fr' 10=bw a∧nth fr' 11 = .sc (.bool n)∧nth fr' 12=bw b:=by
 unfold ar at *
 simp[jq,Tryz.f66,ah,aX,h63,h0,h1,af,aH,an,ao,aG,ag,ai,aO,aj,ak,aC,az,FP.none,aa,ae,ab,g1,g2]
set_option maxHeartbeats 1000000 in
theorem Ri (L:Lst)(run:aq)(k:Nat)(fr:List PV)(m:Bool)(a b c:List Nat)(r:ByteArray)(g1:ar L run 117 [bw a,bw b] (bw c))(g2:ar L run 116 [.sc (.bool m),bw c] (.sc (.string r)))
  (h63:fr.length=63) (h9:nth fr 9 = .sc (.bool m)) (h10:nth fr 10=bw a) (h11:nth fr 11 = .sc (.bool m)) (h12:nth fr 12=bw b) :
  ∃ st,af (CC L) run k (ah 6 jq) ⟨fr,[],[]⟩=some (.ret,st)∧aV TT st.fr st.hp Tryz.f66.results.toList=some [.sc (.string r)]:=by
 unfold ar at *
 cases m <;> simp[jq,Tryz.f66,ah,h63,h9,h10,h11,h12,af,aH,an,ao,aG,ag,ai,aO,aj,ak,aC,az,FP.none,aY,dB,aa,ae,ab,bh,uB,g1,g2,aV]
set_option maxHeartbeats 1000000 in
theorem Mn (L:Lst)(run:aq)(k:Nat)(fr:List PV)(m:Bool)(a b c:List Nat)(r:ByteArray)(z:Int)(hz:z<0)(g0:ar L run 118 [bw a,bw b] (Ab.bC z))(g1:ar L run 119 [bw b,bw a] (bw c))(g2:ar L run 116 [.sc (.bool (!m)),bw c] (.sc (.string r)))
  (h63:fr.length=63) (h9:nth fr 9 = .sc (.bool m)) (h10:nth fr 10=bw a) (h11:nth fr 11 = .sc (.bool (!m))) (h12:nth fr 12=bw b) :
  ∃ st,af (CC L) run k (ah 6 jq) ⟨fr,[],[]⟩=some (.ret,st)∧aV TT st.fr st.hp Tryz.f66.results.toList=some [.sc (.string r)]:=by
 unfold ar at *
 simp only[Ab.bC] at *
 cases m <;> simp only[Bool.not_true,Bool.not_false] at g2 h11 <;> simp[jq,Tryz.f66,ah,h63,h9,h10,h11,h12,af,aH,an,ao,aG,ag,ai,aO,aj,ak,aC,az,FP.none,aY,au,bf,dB,av,aa,ae,ab,bh,uB,hz,g0,g1,g2,aV]
set_option maxHeartbeats 1000000 in
theorem Mm (L:Lst)(run:aq)(k:Nat)(fr:List PV)(m:Bool)(a b c:List Nat)(r:ByteArray)(z:Int)(hz : ¬ z<0)(g0:ar L run 118 [bw a,bw b] (Ab.bC z))(g1:ar L run 119 [bw a,bw b] (bw c))(g2:ar L run 116 [.sc (.bool m),bw c] (.sc (.string r)))
  (h63:fr.length=63) (h9:nth fr 9 = .sc (.bool m)) (h10:nth fr 10=bw a) (h11:nth fr 11 = .sc (.bool (!m))) (h12:nth fr 12=bw b) :
  ∃ st,af (CC L) run k (ah 6 jq) ⟨fr,[],[]⟩=some (.ret,st)∧aV TT st.fr st.hp Tryz.f66.results.toList=some [.sc (.string r)]:=by
 unfold ar at *
 simp only[Ab.bC] at *
 cases m <;> simp only[Bool.not_true,Bool.not_false] at h11 <;> simp[jq,Tryz.f66,ah,h63,h9,h10,h11,h12,af,aH,an,ao,aG,ag,ai,aO,aj,ak,aC,az,FP.none,aY,au,bf,dB,av,aa,ae,ab,bh,uB,hz,g0,g1,g2,aV]
def ij:List PV→Option (List PV)
 | [p,q]=>match fK p,fK q with
  | some x,some y=>some [zs (x+y)]
  | _,_=>none
 | _=>none
theorem x6 {z:Int}(h:(dN z).ble 9=true) : -1000000000<z∧z<1000000000:=by
 rw[Nat.ble_eq] at h
 have:=(rK (n:=z.natAbs) (k:=9) (by omega)).1 h
 omega
theorem OM (a b:List Nat)(ha:T.Dok a)(hb:T.Dok b):T.val (xC a b)=T.val a+T.val b:=by
 unfold xC
 refine T.fh _ _ ?_
 have h1:=T.eM ha
 have h2:=T.eM hb
 have hm:=lk a b
 have h3:10 ^ a.length≤10 ^ Nat.max a.length b.length:=Nat.pow_le_pow_right (by omega) (by omega)
 have h4:10 ^ b.length≤10 ^ Nat.max a.length b.length:=Nat.pow_le_pow_right (by omega) (by omega)
 split
 ·rw[Nat.pow_succ];omega
 ·rename_i h
  rw[Nat.add_zero];omega
theorem V1 (a b:List Nat):T.Dok (xC a b):=T.gu _ _
theorem ON (a b:List Nat):(xC a b).length≤Nat.max a.length b.length+1:=by
 unfold xC
 rw[T.di]
 split <;> omega
theorem jY (m:Bool)(n:Nat):gG m n=if m=true then -(n:Int) else (n:Int):=by
 cases m with
 | false=>rfl
 | true=>cases n <;> rfl
theorem mw:Ab.Spec base.P 66 ij:=Ab.Spec.bN (C:=CC LT4) (cU xt) fun args rs h=>by
 unfold ij at h
 split at h
 ·split at h
  ·rename_i x y ex ey
   obtain⟨rfl,hx⟩:=dc ex
   obtain⟨rfl,hy⟩:=dc ey
   simp only[Option.some.injEq] at h
   subst h
   have hx9:=Nat.lt_trans (Zm.aA hx) (show 9000000<10000000 by decide)
   have hy9:=Nat.lt_trans (Zm.aA hy) (show 9000000<10000000 by decide)
   have gs1:=nL (runK (CC LT4) 1) x hx
   have gs2:=nL (runK (CC LT4) 1) y hy
   suffices hgo:∃ st,af (CC LT4) (runK (CC LT4) 1) 1 jq ⟨entry 63 [zs x,zs y],[],[]⟩=some (.ret,st)∧aV TT st.fr st.hp Tryz.f66.results.toList=some [zs (x+y)] by
    obtain⟨st,x1,x2⟩:=hgo
    exact⟨2,_,_,_,_,_,aQ EX rfl x1 x2,rfl,Wk.refl rfl,trivial⟩
   have rest:∀ (u v:Int) (f1 f2:Bool),(f1 && f2)=false→ar LT4 (runK (CC LT4) 1) 113 [zs x] (.tup [Ab.bC u,.sc (.bool f1)])→ar LT4 (runK (CC LT4) 1) 113 [zs y] (.tup [Ab.bC v,.sc (.bool f2)]) →
     ∃ st,af (CC LT4) (runK (CC LT4) 1) 1 jq ⟨entry 63 [zs x,zs y],[],[]⟩=some (.ret,st)∧aV TT st.fr st.hp Tryz.f66.results.toList=some [zs (x+y)]:=by
    intro u v f1 f2 hf q1 q2
    obtain⟨fr1,a1,a2,a3,a4⟩:=GA LT4 (runK (CC LT4) 1) 1 _ _ u v f1 f2 hf q1 q2
    obtain⟨fr2,b1,b2,b3,b4,b5,b6⟩:=GB LT4 (runK (CC LT4) 1) 1 fr1 _ _ _ _ _ _ (kg _ x hx) (kg _ y hy) a2 a3 a4
    have hex:∀ {r},af (CC LT4) (runK (CC LT4) 1) 1 (ah 6 jq) ⟨fr2,[],[]⟩=r→af (CC LT4) (runK (CC LT4) 1) 1 jq ⟨entry 63 [zs x,zs y],[],[]⟩=r:=by
     intro r hr
     have e1:af (CC LT4) (runK (CC LT4) 1) 1 jq ⟨entry 63 [zs x,zs y],[],[]⟩=af (CC LT4) (runK (CC LT4) 1) 1 (ah 4 jq) ⟨fr1,[],[]⟩:=aM 4 a1
     rw[e1,aM 2 b1]
     exact hr
    by_cases hn:bt x=bt y
    ·have gt:=mQ (runK (CC LT4) 1) (bt x) (xC (T.aA x.natAbs) (T.aA y.natAbs)) (V1 _ _) (by
      have h1:=ON (T.aA x.natAbs) (T.aA y.natAbs)
      have h2:=lk (T.aA x.natAbs) (T.aA y.natAbs)
      have h3:=Zm.aA hx
      have h4:=Zm.aA hy
      omega)
     rw[OM _ _ (T.bP _) (T.bP _),T.bQ,T.bQ] at gt
     have e:gG (bt x) (x.natAbs+y.natAbs)=x+y:=by
      rw[jY,cI]
      rw[cI,cI] at hn
      by_cases h1:x<0 <;> by_cases h2:y<0 <;> simp[h1,h2] at hn ⊢ <;> omega
     rw[e] at gt
     rw[← hn] at b5
     obtain⟨st,x1,x2⟩:=Ri LT4 (runK (CC LT4) 1) 1 fr2 (bt x) _ _ _ _ (Zd _ x.natAbs y.natAbs hx9 hy9) gt b2 b3 b4 b5 b6
     exact⟨st,hex x1,x2⟩
    ·have hn':bt y = !bt x:=by revert hn;cases bt x <;> cases bt y <;> simp
     rw[hn'] at b5
     have gz:=wG (runK (CC LT4) 1) x.natAbs y.natAbs hx9 hy9
     by_cases hc:x.natAbs<y.natAbs
     ·have hz:dL x.natAbs y.natAbs<0:=by unfold dL;rw[if_pos hc];omega
      have gt:=mQ (runK (CC LT4) 1) (!bt x) (T.aA (y.natAbs - x.natAbs)) (T.bP _) (by
       have:=T.cw (show y.natAbs - x.natAbs≤y.natAbs by omega)
       omega)
      rw[T.bQ] at gt
      have e:gG (!bt x) (y.natAbs - x.natAbs)=x+y:=by
       rw[jY,← hn',cI]
       rw[cI,cI] at hn
       by_cases h1:x<0 <;> by_cases h2:y<0 <;> simp[h1,h2] at hn ⊢ <;> omega
      rw[e] at gt
      obtain⟨st,x1,x2⟩:=Mn LT4 (runK (CC LT4) 1) 1 fr2 (bt x) _ _ _ _ _ hz gz (JK _ y.natAbs x.natAbs hy9 hx9 (by omega)) gt b2 b3 b4 b5 b6
      exact⟨st,hex x1,x2⟩
     ·have hz : ¬ dL x.natAbs y.natAbs<0:=by
       unfold dL
       rw[if_neg hc]
       split <;> omega
      have gt:=mQ (runK (CC LT4) 1) (bt x) (T.aA (x.natAbs - y.natAbs)) (T.bP _) (by
       have:=T.cw (show x.natAbs - y.natAbs≤x.natAbs by omega)
       omega)
      rw[T.bQ] at gt
      have e:gG (bt x) (x.natAbs - y.natAbs)=x+y:=by
       rw[jY,cI]
       rw[cI,cI] at hn
       by_cases h1:x<0 <;> by_cases h2:y<0 <;> simp[h1,h2] at hn ⊢ <;> omega
      rw[e] at gt
      obtain⟨st,x1,x2⟩:=Mm LT4 (runK (CC LT4) 1) 1 fr2 (bt x) _ _ _ _ _ hz gz (JK _ x.natAbs y.natAbs hx9 hy9 (by omega)) gt b2 b3 b4 b5 b6
      exact⟨st,hex x1,x2⟩
   cases h1:(dN x).ble 9 with
   | false =>
    rw[h1] at gs1
    cases h2:(dN y).ble 9 with
    | false=>rw[h2] at gs2;exact rest _ _ false false rfl gs1 gs2
    | true=>rw[h2] at gs2;exact rest _ _ false true rfl gs1 gs2
   | true =>
    rw[h1] at gs1
    cases h2:(dN y).ble 9 with
    | false=>rw[h2] at gs2;exact rest _ _ true false rfl gs1 gs2
    | true =>
     rw[h2] at gs2
     have b1:=x6 h1
     have b2:=x6 h2
     exact Rj LT4 (runK (CC LT4) 1) 1 _ _ _ x y (x+y) gs1 gs2 (ft _ (by omega) (by omega)) (JJ _ (x+y) (by omega) (by omega))
  ·cases h
 ·cases h
end Go.Proofs.YtjdmodeenbdfpaaGreat
