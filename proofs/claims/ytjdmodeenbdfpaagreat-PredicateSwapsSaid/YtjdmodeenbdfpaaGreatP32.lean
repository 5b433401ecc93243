/- Contracts of numbers kept as digits in text, part 32 of the proof; each lemma states its own conditions. -/
import Derived.Test.YtjdmodeenbdfpaaGreatP31
set_option linter.unusedSimpArgs false
set_option linter.unusedVariables false
namespace Go.Proofs.YtjdmodeenbdfpaaGreat
open Go Go.Ab
noncomputable def LT3:Lst:=[(116,lN)]
theorem ac1:dK base.P LT3:=⟨qH,trivial⟩
theorem C4:bt LT3 116=fun a=>lN (aJ a):=rfl
noncomputable def fy:Code:=Tryz.f114.body.getD .skip
noncomputable def kD:Code:=match cu (seq1 (ah 1 fy)) with | .cond _ a _=>a | c=>c
noncomputable def qO:Code:=(aF kD).getD .skip
noncomputable def qN:Code:=(aF (ah 3 fy)).getD .skip
theorem LJ (L:Lst)(run:aq)(k:Nat)(fr:List PV)(hp:List Blk)(wr:List Nat)(h42:fr.length=42)(h0:nth fr 0=iv 0) :
  ∃ fr',af (CC L) run k qN ⟨fr,hp,wr⟩=some (.exit 2,⟨fr',hp,wr⟩)∧fr'.length=42∧nth fr' 6=nth fr 6:=by
 simp only[iv] at h0
 simp[qN,fy,Tryz.f114,ah,aF,af,aH,an,ao,aG,ag,ai,aj,ak,aC,az,FP.none,bc,ar,bd,au,aa,ae,ab,h42,h0]
set_option maxHeartbeats 1000000 in
theorem CI (L:Lst)(run:aq)(k:Nat)(fr:List PV)(hp:List Blk)(wr:List Nat)(x:Nat)(out:List Nat)(hx:0<x)(hx9:x≤9223372036854775807)(ho9:out.length<20000000)(h42:fr.length=42)(h0:nth fr 0=iv x)(hO:dh iv 0 hp out (nth fr 6)) :
  ∃ fr' hp' wr',af (CC L) run k qN ⟨fr,hp,wr⟩=some (.normal,⟨fr',hp',wr'⟩)∧fr'.length=42∧nth fr' 0=iv (x / 10)∧dh iv 0 hp' (out++[x % 10]) (nth fr' 6):=by
 obtain⟨q,hq⟩:∃ q,q=x / 10:=⟨_,rfl⟩
 obtain⟨r,hr⟩:∃ r,r=x % 10:=⟨_,rfl⟩
 obtain⟨p',hp',fp,g1,g2,-⟩:=hO.app r (by omega)
 have hq9:q≤9223372036854775807:=by rw[hq];exact Nat.le_trans (Nat.div_le_self _ _) hx9
 have hw1:bu .i64 ((x:Int) / 10)=(q:Int):=T.iX .i64 x q hq hq9
 have hw2:=T.ku x r hr
 have hlX:fZ TT 24 1 [(0,.sc (.int .i64 (r:Int)))]=some (1,[iv r]):=lR r
 rw[← hq,← hr]
 simp only[iv] at h0 ⊢
 simp[qN,fy,Tryz.f114,ah,aF,af,aH,an,ao,aG,ag,ai,aj,ak,aC,az,FP.none,bc,ar,bd,au,aa,ae,ab,bf,and_assoc,aX,dx,h42,h0,hx,hw1,hw2,hlX,jP,ia,uL,sI,bI,zI,bS,g1,g2]
theorem Gg (L:Lst)(run:aq)(k:Nat):∀ (x:Nat) (fr:List PV) (hp:List Blk) (wr:List Nat) (out:List Nat),x≤9223372036854775807→out.length+(T.aA x).length<20000000→fr.length=42→nth fr 0=iv x→dh iv 0 hp out (nth fr 6) →
  ∃ (fr':List PV) (hp':List Blk) (wr':List Nat),bX (af (CC L) run k qN) ((T.aA x).length+1) ⟨fr,hp,wr⟩=some (.exit 2,⟨fr',hp',wr'⟩)∧fr'.length=42∧dh iv 0 hp' (out++T.aA x) (nth fr' 6):=by
 intro x
 induction x using Nat.strongRecOn with
 | _ x ih =>
  intro fr hp wr out hx9 ho9 h42 h0 hO
  by_cases h:x=0
  ·subst h
   obtain⟨fr',q1,q2,q3⟩:=LJ L run k fr hp wr h42 h0
   exact⟨fr',hp,wr,by rw[T.ff];exact bw q1,q2,by rw[q3,T.ff,List.append_nil];exact hO⟩
  ·rw[T.dM h] at ho9 ⊢
   rw[List.length_cons] at ho9
   obtain⟨fr1,hp1,wr1,g1,g2,g3,g4⟩:=CI L run k fr hp wr x out (by omega) hx9 (by omega) h42 h0 hO
   obtain⟨fr',hp',wr',q1,q2,q3⟩:=ih (x / 10) (by omega) fr1 hp1 wr1 _ (Nat.le_trans (Nat.div_le_self _ _) hx9) (by simp;omega) g2 g3 g4
   exact⟨fr',hp',wr',by rw[List.length_cons,bV g1];exact q1,q2,by simpa using q3⟩
theorem LM (L:Lst)(run:aq)(k:Nat)(fr:List PV)(hp:List Blk)(wr:List Nat)(h42:fr.length=42)(h0:nth fr 3=iv 0) :
  ∃ fr',af (CC L) run k qO ⟨fr,hp,wr⟩=some (.exit 0,⟨fr',hp,wr⟩)∧fr'.length=42∧nth fr' 5=nth fr 5:=by
 simp only[iv] at h0
 simp[qO,kD,fy,Tryz.f114,ah,seq1,cu,aF,af,aH,an,ao,aG,ag,ai,aj,ak,aC,az,FP.none,bc,ar,bd,au,aa,ae,ab,h42,h0]
set_option maxHeartbeats 1000000 in
theorem CJ (L:Lst)(run:aq)(k:Nat)(fr:List PV)(hp:List Blk)(wr:List Nat)(x:Nat)(out:List Nat)(hx:0<x)(hx9:x≤9223372036854775807)(ho9:out.length<20000000)(h42:fr.length=42)(h0:nth fr 3=iv x)(hO:dh iv 0 hp out (nth fr 5)) :
  ∃ fr' hp' wr',af (CC L) run k qO ⟨fr,hp,wr⟩=some (.normal,⟨fr',hp',wr'⟩)∧fr'.length=42∧nth fr' 3=iv (x / 10)∧dh iv 0 hp' (out++[x % 10]) (nth fr' 5):=by
 obtain⟨q,hq⟩:∃ q,q=x / 10:=⟨_,rfl⟩
 obtain⟨r,hr⟩:∃ r,r=x % 10:=⟨_,rfl⟩
 obtain⟨p',hp',fp,g1,g2,-⟩:=hO.app r (by omega)
 have hq9:q≤9223372036854775807:=by rw[hq];exact Nat.le_trans (Nat.div_le_self _ _) hx9
 have hw1:bu .i64 ((x:Int) / 10)=(q:Int):=T.iX .i64 x q hq hq9
 have hw2:=T.ku x r hr
 have hlX:fZ TT 24 1 [(0,.sc (.int .i64 (r:Int)))]=some (1,[iv r]):=lR r
 rw[← hq,← hr]
 simp only[iv] at h0 ⊢
 simp[qO,kD,fy,Tryz.f114,ah,seq1,cu,aF,af,aH,an,ao,aG,ag,ai,aj,ak,aC,az,FP.none,bc,ar,bd,au,aa,ae,ab,bf,and_assoc,aX,dx,h42,h0,hx,hw1,hw2,hlX,jP,ia,uL,sI,bI,zI,bS,g1,g2]
theorem Gi (L:Lst)(run:aq)(k:Nat):∀ (x:Nat) (fr:List PV) (hp:List Blk) (wr:List Nat) (out:List Nat),x≤9223372036854775807→out.length+(T.aA x).length<20000000→fr.length=42→nth fr 3=iv x→dh iv 0 hp out (nth fr 5) →
  ∃ (fr':List PV) (hp':List Blk) (wr':List Nat),bX (af (CC L) run k qO) ((T.aA x).length+1) ⟨fr,hp,wr⟩=some (.exit 0,⟨fr',hp',wr'⟩)∧fr'.length=42∧dh iv 0 hp' (out++T.aA x) (nth fr' 5):=by
 intro x
 induction x using Nat.strongRecOn with
 | _ x ih =>
  intro fr hp wr out hx9 ho9 h42 h0 hO
  by_cases h:x=0
  ·subst h
   obtain⟨fr',q1,q2,q3⟩:=LM L run k fr hp wr h42 h0
   exact⟨fr',hp,wr,by rw[T.ff];exact bw q1,q2,by rw[q3,T.ff,List.append_nil];exact hO⟩
  ·rw[T.dM h] at ho9 ⊢
   rw[List.length_cons] at ho9
   obtain⟨fr1,hp1,wr1,g1,g2,g3,g4⟩:=CJ L run k fr hp wr x out (by omega) hx9 (by omega) h42 h0 hO
   obtain⟨fr',hp',wr',q1,q2,q3⟩:=ih (x / 10) (by omega) fr1 hp1 wr1 _ (Nat.le_trans (Nat.div_le_self _ _) hx9) (by simp;omega) g2 g3 g4
   exact⟨fr',hp',wr',by rw[List.length_cons,bV g1];exact q1,q2,by simpa using q3⟩
noncomputable def AD:Code:=seq1 (seq1 (ah 1 fy))
theorem so:ah 1 fy = .seq (.seq AD (.cond (.tmp 8) kD .skip)) (ah 2 fy):=rfl
theorem CH:ah 3 fy = .seq (.block 2 (.loop qN)) (ah 4 fy):=rfl
noncomputable def Gj:Code:=seq1 (seq1 (ah 3 kD))
theorem CG:ah 3 kD = .seq (.seq Gj (.block 0 (.loop qO))) (ah 4 kD):=rfl
theorem QL (L:Lst)(run:aq)(k:Nat)(z:Int) :
  ∃ fr,aY (CC L) run k 1 fy ⟨entry 42 [.sc (.int .i64 z)],[],[]⟩=some ⟨fr,[],[]⟩∧fr.length=42∧nth fr 0 = .sc (.int .i64 z):=by
 obtain⟨e1,e2⟩:=cP 41 (.sc (.int .i64 z))
 generalize entry 42 [.sc (.int .i64 z)]=fr0 at *
 simp[fy,Tryz.f114,aY,e1,e2,af,aH,an,ao,aG,ag,ai,aj,ak,aC,az,FP.none,au,ae,ab]
theorem WI (L:Lst)(run:aq)(k:Nat)(fr:List PV)(z:Int)(h42:fr.length=42)(h0:nth fr 0 = .sc (.int .i64 z)) :
  ∃ fr',af (CC L) run k AD ⟨fr,[],[]⟩=some (.normal,⟨fr',[],[]⟩)∧fr'.length=42∧nth fr' 0 = .sc (.int .i64 z)∧nth fr' 8 = .sc (.bool (decide (z<0))):=by
 simp[AD,fy,ah,seq1,Tryz.f114,af,aH,an,ao,aG,ag,ai,aj,ak,aC,az,FP.none,bc,ar,bd,au,aa,ae,ab,h42,h0]
theorem QK (L:Lst)(run:aq)(k:Nat)(fr:List PV)(h42:fr.length=42) :
  ∃ fr',aY (CC L) run k 1 (ah 2 fy) ⟨fr,[],[]⟩=some ⟨fr',[],[]⟩∧fr'.length=42∧nth fr' 0=nth fr 0∧nth fr' 6 = .sc (.slice none 0 0):=by
 simp[fy,ah,Tryz.f114,aY,af,aH,an,ao,aG,ag,ai,aj,ak,aC,az,FP.none,au,aa,ae,ab,h42]
theorem Gf (L:Lst)(run:aq)(k:Nat)(fr:List PV)(hp hp':List Blk)(wr:List Nat)(p q:PV)(fp:FP)(h42:fr.length=42)(h6:nth fr 6=p)(hc:bU (CC L) run false hp 116 [.sc (.bool false),p]=some (q,hp',fp)) :
  ∃ st,af (CC L) run k (ah 4 fy) ⟨fr,hp,wr⟩=some (.ret,st)∧aZ TT st.fr st.hp Tryz.f114.results.toList=some [q]:=by
 simp[fy,ah,Tryz.f114,af,aH,an,ao,aG,ag,ai,aP,aj,ak,aC,az,FP.none,au,aa,ab,h42,h6,hc,aZ]
theorem Gh (L:Lst)(run:aq)(k:Nat)(fr:List PV)(hp hp':List Blk)(wr:List Nat)(p q:PV)(fp:FP)(h42:fr.length=42)(h6:nth fr 5=p)(hc:bU (CC L) run false hp 116 [.sc (.bool true),p]=some (q,hp',fp)) :
  ∃ st,af (CC L) run k (ah 4 kD) ⟨fr,hp,wr⟩=some (.ret,st)∧aZ TT st.fr st.hp Tryz.f114.results.toList=some [q]:=by
 simp[kD,fy,ah,seq1,cu,Tryz.f114,af,aH,an,ao,aG,ag,ai,aP,aj,ak,aC,az,FP.none,au,aa,ab,h42,h6,hc,aZ]
set_option maxHeartbeats 1000000 in
theorem LL (L:Lst)(run:aq)(k:Nat)(fr:List PV)(z:Int)(q r:Nat)(hq:z.tdiv 10 = -(q:Int))(hr:z.tmod 10 = -(r:Int))(hq9:q≤9223372036854775807)(hr9:r<10)(h42:fr.length=42)(h0:nth fr 0 = .sc (.int .i64 z)) :
  ∃ fr' hp' wr',aY (CC L) run k 3 kD ⟨fr,[],[]⟩=some ⟨fr',hp',wr'⟩∧fr'.length=42∧nth fr' 3 = .sc (.int .i64 (-(q:Int)))∧dh iv 0 hp' [r] (nth fr' 5):=by
 obtain⟨p',hp',fp,g1,g2,-⟩:=(dh.nil (e:=iv) (b:=0) (hp:=[]) (Nat.le_refl _)).app r (by simp)
 rw[List.nil_append] at g2
 have hw1:bu .i64 (-(q:Int)) = -(q:Int):=fk _ (by omega) (by omega)
 have hw2:bu .i64 (r:Int)=(r:Int):=cb .i64 r (hiI (by omega))
 have hlX:fZ TT 24 1 [(0,.sc (.int .i64 (r:Int)))]=some (1,[iv r]):=lR r
 simp[kD,fy,Tryz.f114,ah,seq1,cu,aY,af,aH,an,ao,aG,ag,ai,aj,ak,aC,az,FP.none,bc,ar,bd,au,unP,aa,ae,ab,bf,and_assoc,aX,dx,h42,h0,hq,hr,hw1,hw2,hlX,jP,ia,uL,sI,bI,zI,bS,g1,g2]
theorem WH (L:Lst)(run:aq)(k:Nat)(fr:List PV)(hp:List Blk)(wr:List Nat)(q:Nat)(hq9:q≤9223372036854775807)(h42:fr.length=42)(h3:nth fr 3 = .sc (.int .i64 (-(q:Int)))) :
  ∃ fr',af (CC L) run k Gj ⟨fr,hp,wr⟩=some (.normal,⟨fr',hp,wr⟩)∧fr'.length=42∧nth fr' 3=iv q∧nth fr' 5=nth fr 5:=by
 have hw2:bu .i64 (q:Int)=(q:Int):=cb .i64 q (hiI hq9)
 simp[Gj,kD,fy,Tryz.f114,ah,seq1,cu,af,aH,an,ao,aG,ag,ai,aj,ak,aC,az,FP.none,unP,aa,ae,ab,h42,h3,hw2,iv]
def ss:List PV→Option (List PV)
 | [.sc (.int .i64 z)]=>bif decide (-9223372036854775808≤z) && decide (z≤9223372036854775807) then some [zs z] else none
 | _=>none
theorem sQ {x:Nat}(h:x≤9223372036854775808):(T.aA x).length≤19:=T.cY (Nat.lt_of_le_of_lt h (by decide))
theorem yz:Ab.Spec base.P 114 ss:=Ab.Spec.bL (C:=CC LT3) (cU ac1) fun args rs h=>by
 unfold ss at h
 split at h
 ·rename_i z
  cases hb:decide (-9223372036854775808≤z) && decide (z≤9223372036854775807) with
  | false=>rw[hb] at h;cases h
  | true =>
   rw[hb] at h
   simp only[cond_true,Option.some.injEq] at h
   subst h
   simp only[Bool.and_eq_true,decide_eq_true_eq] at hb
   have htext:∀ (m:Bool) (l:List Nat),T.Dok l→l.length<10000000→lN [.sc (.bool m),lC iv l]=some [zs (gq m (T.val l))]:=by
    intro m l h1 h2
    have:=dG h1 h2
    simp only[br] at this
    simp only[lN,this,zs,tC]
   obtain⟨f1,p1,p2,p3⟩:=QL LT3 (runK (CC LT3) 21) 21 z
   obtain⟨f2,q1,q2,q3,q4⟩:=WI LT3 (runK (CC LT3) 21) 21 f1 z p2 p3
   by_cases hz:z<0
   ·have hd:=sQ (x:=z.natAbs) (by omega)
    have hstep:=T.dM (show z.natAbs≠0 by omega)
    have hq:z.tdiv 10 = -((z.natAbs / 10:Nat):Int):=by
     have:z = -((z.natAbs:Nat):Int):=by omega
     rw[this,Int.neg_tdiv,Int.natAbs_neg,Int.natAbs_natCast]
     congr 1
    have hr:z.tmod 10 = -((z.natAbs % 10:Nat):Int):=by
     have:z = -((z.natAbs:Nat):Int):=by omega
     rw[this,Int.neg_tmod,Int.natAbs_neg,Int.natAbs_natCast]
     congr 1
    obtain⟨f3,hp3,wr3,r1,r2,r3,r4⟩:=LL LT3 (runK (CC LT3) 21) 21 f2 z _ _ hq hr (by omega) (by omega) q2 q3
    obtain⟨f4,s1,s2,s3,s4⟩:=WH LT3 (runK (CC LT3) 21) 21 f3 hp3 wr3 _ (by omega) r2 r3
    rw[hstep,List.length_cons] at hd
    obtain⟨f5,hp5,wr5,t1,t2,t3⟩:=Gi LT3 (runK (CC LT3) 21) 21 (z.natAbs / 10) f4 hp3 wr3 [z.natAbs % 10] (by omega) (by simp only[List.length_cons,List.length_nil];omega) s2 s3 (by rw[s4];exact r4)
    have e:[z.natAbs % 10]++T.aA (z.natAbs / 10)=T.aA z.natAbs:=by rw[hstep];rfl
    rw[e] at t3
    obtain⟨hp6,fp,c1,-⟩:=nI ju C4 (runK (CC LT3) 21) false il true t3.s _ (htext true _ (T.bM _) (by rw[hstep,List.length_cons];omega))
    rw[T.bN] at c1
    have hzz:gq true z.natAbs=z:=by
     have:bq z=true:=by rw[cF];simpa using hz
     rw[← this,gR]
    rw[hzz] at c1
    obtain⟨st,x1,x2⟩:=Gh LT3 (runK (CC LT3) 21) 21 f5 hp5 hp6 wr5 _ _ fp t2 rfl c1
    have hcond:decide (z<0)=true:=decide_eq_true hz
    rw[hcond] at q4
    have hx:af (CC LT3) (runK (CC LT3) 21) 21 fy ⟨entry 42 [.sc (.int .i64 z)],[],[]⟩=some (.ret,st):=by
     rw[aO 1 p1,so]
     refine cg ?_
     rw[aw q1,sN (by simpa [ak] using q4),aO 3 r1,CG,aw ((aw s1).trans (bE (bQ t1 (by omega))))]
     exact x1
    exact⟨22,_,_,_,_,_,aQ n5 rfl hx x2,rfl,Wk.refl rfl,trivial⟩
   ·have hd:=sQ (x:=z.natAbs) (by omega)
    have hcond:decide (z<0)=false:=decide_eq_false hz
    rw[hcond] at q4
    obtain⟨f3,r1,r2,r3,r4⟩:=QK LT3 (runK (CC LT3) 21) 21 f2 q2
    have hzi:PV.sc (.int .i64 z)=iv z.natAbs:=by
     unfold iv
     rw[show ((z.natAbs:Nat):Int)=z by omega]
    obtain⟨f5,hp5,wr5,t1,t2,t3⟩:=Gg LT3 (runK (CC LT3) 21) 21 z.natAbs f3 [] [] [] (by omega) (by simp only[List.length_nil];omega) r2 (by rw[r3,q3,hzi]) (by rw[r4];exact dh.nil (Nat.le_refl _))
    rw[List.nil_append] at t3
    obtain⟨hp6,fp,c1,-⟩:=nI ju C4 (runK (CC LT3) 21) false il false t3.s _ (htext false _ (T.bM _) (by omega))
    rw[T.bN] at c1
    have hzz:gq false z.natAbs=z:=by
     have:bq z=false:=by rw[cF];simpa using hz
     rw[← this,gR]
    rw[hzz] at c1
    obtain⟨st,x1,x2⟩:=Gf LT3 (runK (CC LT3) 21) 21 f5 hp5 hp6 wr5 _ _ fp t2 rfl c1
    have hx:af (CC LT3) (runK (CC LT3) 21) 21 fy ⟨entry 42 [.sc (.int .i64 z)],[],[]⟩=some (.ret,st):=by
     rw[aO 1 p1,so]
     have hm:af (CC LT3) (runK (CC LT3) 21) 21 (.seq AD (.cond (.tmp 8) kD .skip)) ⟨f1,[],[]⟩=some (.normal,⟨f2,[],[]⟩):=by
      rw[aw q1,sO (by simpa [ak] using q4),zh]
     rw[aw hm,aO 1 r1,show ah 1 (ah 2 fy)=ah 3 fy from rfl,CH,aw (bE (bQ t1 (by omega)))]
     exact x1
    exact⟨22,_,_,_,_,_,aQ n5 rfl hx x2,rfl,Wk.refl rfl,trivial⟩
 ·cases h
noncomputable def LT4:Lst:=[(115,sv),(116,lN),(113,sh),(114,ss),(118,jT),(117,uZ),(119,ml)]
theorem xb:dK base.P LT4:=⟨yD,qH,yu,yz,se,FV,vj,trivial⟩
theorem Xf:bt LT4 115=fun a=>sv (aJ a):=rfl
theorem C3:bt LT4 116=fun a=>lN (aJ a):=rfl
theorem Mk:bt LT4 113=fun a=>sh (aJ a):=rfl
theorem Xe:bt LT4 114=fun a=>ss (aJ a):=rfl
theorem RB:bt LT4 118=fun a=>jT (aJ a):=rfl
theorem Xd:bt LT4 117=fun a=>uZ (aJ a):=rfl
theorem Xg:bt LT4 119=fun a=>ml (aJ a):=rfl
def Zm (z:Int):Prop:=(ztx z).length≤fD
theorem Zm.lt {z:Int}(h:Zm z):(ztx z).length<9000000:=Nat.lt_of_le_of_lt h (by decide)
theorem Zm.dQ {z:Int}(h:Zm z):(dtx z.natAbs).length<9000000:=by
 have h1:=h.lt
 rw[fT] at h1
 exact Nat.lt_of_le_of_lt (Nat.le_add_left _ _) h1
theorem Zm.aA {z:Int}(h:Zm z):(T.aA z.natAbs).length<9000000:=Nat.lt_of_le_of_lt (zp _) h.dQ
theorem Zm.Jy {z:Int}(h:Zm z):(T.aA z.natAbs).length≤3000000:=by
 have h1:(ztx z).length≤3000000:=h
 rw[fT] at h1
 exact Nat.le_trans (zp _) (Nat.le_trans (Nat.le_add_left _ _) h1)
theorem Uj (z:Int):bys (tx (ztx z))=ztx z:=ja (j5 z)
theorem Tt (z:Int)(h:Zm z):sv [zs z]=some [.sc (.bool (bq z)),br (T.aA z.natAbs)]:=by
 obtain⟨m,h1,h2⟩:=l7 z
 have h3:(dtx z.natAbs).length.blt 9000000=true:=by rw[Nat.blt_eq];exact h.dQ
 simp only[sv,zs,Uj,h1,h3,cond_true,nF,h2]
theorem zU (m:Bool)(l:List Nat)(h1:T.Dok l)(h2:l.length<10000000):lN [.sc (.bool m),br l]=some [zs (gq m (T.val l))]:=by
 simp only[lN,dG h1 h2,zs,tC]
theorem OX (z:Int)(h:Zm z):sh [zs z]=some (bif (dQ z).ble 9 then [Ab.bC z,.sc (.bool true)] else [Ab.bC 0,.sc (.bool false)]):=by
 obtain⟨m,h1,h2⟩:=l7 z
 have h3:(ztx z).length.blt 100000000=true:=by rw[Nat.blt_eq];exact Nat.lt_trans h.lt (by decide)
 have h4:(dtx z.natAbs).length=dQ z:=rfl
 simp only[sh,zs,Uj,h1,h3,cond_true,nF,h2,gR,h4]
 cases (dQ z).ble 9 <;> rfl
theorem DZ (m:Bool)(l:List Nat):aJ [.sc (.bool m),br l]=[.sc (.bool m),br l]:=by
 simp only[aJ,oC];rfl
theorem mN (a b:List Nat):aJ [br a,br b]=[br a,br b]:=by
 simp only[aJ,oC]
theorem jZ (run:aq)(z:Int)(h:Zm z):av LT4 run 115 [zs z] (.tup [.sc (.bool (bq z)),br (T.aA z.natAbs)]):=fun dr hp =>
 bp rN Xf run dr hp _ [.sc (.bool (bq z)),br (T.aA z.natAbs)] rfl rfl (Tt z h)
theorem mD (run:aq)(m:Bool)(l:List Nat)(h1:T.Dok l)(h2:l.length<10000000):av LT4 run 116 [.sc (.bool m),br l] (zs (gq m (T.val l))):=fun dr hp =>
 bp ju C3 run dr hp _ [zs (gq m (T.val l))] rfl (DZ m l) (zU m l h1 h2)
theorem nt (run:aq)(z:Int)(h:Zm z):av LT4 run 113 [zs z] (.tup (bif (dQ z).ble 9 then [Ab.bC z,.sc (.bool true)] else [Ab.bC 0,.sc (.bool false)])):=fun dr hp=>by
 have:=bp uu Mk run dr hp [zs z] _ rfl rfl (OX z h)
 rw[this]
 cases (dQ z).ble 9 <;> rfl
theorem Ji (run:aq)(z:Int)(h1 : -9223372036854775808≤z)(h2:z≤9223372036854775807):av LT4 run 114 [.sc (.int .i64 z)] (zs z):=fun dr hp =>
 bp rO Xe run dr hp _ [zs z] rfl rfl (by simp only[ss,decide_eq_true h1,decide_eq_true h2,Bool.and_self,cond_true])
theorem pk (x y:Nat):jS (T.aA x) (T.aA y)=dH x y:=by
 unfold jS
 by_cases h1:(T.aA x).length<(T.aA y).length
 ·rw[if_pos h1,dH,if_pos]
  exact Nat.lt_of_not_le fun h=>absurd (T.cn h) (by omega)
 ·rw[if_neg h1]
  by_cases h2:(T.aA y).length<(T.aA x).length
  ·have h3:y<x:=Nat.lt_of_not_le fun h=>absurd (T.cn h) (by omega)
   rw[if_pos h2,dH,if_neg (by omega),if_neg (by omega)]
  ·rw[if_neg h2,T.bN,T.bN]
theorem wj (run:aq)(x y:Nat)(hx:(T.aA x).length<10000000)(hy:(T.aA y).length<10000000):av LT4 run 118 [br (T.aA x),br (T.aA y)] (Ab.bC (dH x y)):=fun dr hp =>
 bp xY RB run dr hp _ [Ab.bC (dH x y)] rfl (mN _ _) (by simp only[jT,dG (T.bM x) hx,dG (T.bM y) hy,pk])
theorem Yq (run:aq)(x y:Nat)(hx:(T.aA x).length<10000000)(hy:(T.aA y).length<10000000):av LT4 run 117 [br (T.aA x),br (T.aA y)] (br (xj (T.aA x) (T.aA y))):=fun dr hp =>
 bp OE Xd run dr hp _ [br (xj (T.aA x) (T.aA y))] rfl (mN _ _) (by simp only[uZ,dG (T.bM x) hx,dG (T.bM y) hy])
theorem Jj (run:aq)(x y:Nat)(hx:(T.aA x).length<10000000)(hy:(T.aA y).length<10000000)(h:y≤x):av LT4 run 119 [br (T.aA x),br (T.aA y)] (br (T.aA (x - y))):=fun dr hp =>
 bp xZ Xg run dr hp _ [br (T.aA (x - y))] rfl (mN _ _) (by
  have h1:(T.aA y).length.ble (T.aA x).length=true:=by rw[Nat.ble_eq];exact T.cn h
  have h2:y.ble x=true:=by rw[Nat.ble_eq];exact h
  simp only[ml,dG (T.bM x) hx,dG (T.bM y) hy,T.bN,h1,h2,Bool.and_self,cond_true])
theorem Ge (L:Lst)(run:aq)(k:Nat)(s r:ByteArray)(m:Bool)(l:List Nat)(g1:av L run 115 [.sc (.string s)] (.tup [.sc (.bool m),br l]))(g2:av L run 116 [.sc (.bool (!m)),br l] (.sc (.string r))) :
  ∃ st,af (CC L) run k (Tryz.f120.body.getD .skip) ⟨entry 14 [.sc (.string s)],[],[]⟩=some (.ret,st)∧aZ TT st.fr st.hp Tryz.f120.results.toList=some [.sc (.string r)]:=by
 obtain⟨e1,e2⟩:=cP 13 (.sc (.string s))
 generalize entry 14 [.sc (.string s)]=fr0 at *
 unfold av at *
 cases m <;> simp only[Bool.not_true,Bool.not_false] at g2 <;> simp[Tryz.f120,e1,e2,af,aH,an,ao,aG,ag,ai,aP,aj,ak,aC,az,FP.none,au,unP,aa,ae,ab,g1,g2,aZ]
theorem Gb (L:Lst)(run:aq)(k:Nat)(s r:ByteArray)(m:Bool)(l:List Nat)(g1:av L run 115 [.sc (.string s)] (.tup [.sc (.bool m),br l]))(g2:av L run 116 [.sc (.bool false),br l] (.sc (.string r))) :
  ∃ st,af (CC L) run k (Tryz.f155.body.getD .skip) ⟨entry 12 [.sc (.string s)],[],[]⟩=some (.ret,st)∧aZ TT st.fr st.hp Tryz.f155.results.toList=some [.sc (.string r)]:=by
 obtain⟨e1,e2⟩:=cP 11 (.sc (.string s))
 generalize entry 12 [.sc (.string s)]=fr0 at *
 unfold av at *
 simp[Tryz.f155,e1,e2,af,aH,an,ao,aG,ag,ai,aP,aj,ak,aC,az,FP.none,au,aa,ae,ab,g1,g2,aZ]
def mj:List PV→Option (List PV)
 | [p]=>match fB p with
  | some z=>some [zs (-z)]
  | none=>none
 | _=>none
def qM:List PV→Option (List PV)
 | [p]=>match fB p with
  | some z=>some [zs (Int.ofNat z.natAbs)]
  | none=>none
 | _=>none
theorem O2 (z:Int):gq (!bq z) z.natAbs = -z:=by
 cases z with
 | ofNat n=>cases n <;> rfl
 | negSucc n=>rfl
theorem vh:Ab.Spec base.P 120 mj:=Ab.Spec.bL (C:=CC LT4) (cU xb) fun args rs h=>by
 unfold mj at h
 split at h
 ·split at h
  ·rename_i z e
   obtain⟨rfl,hz⟩:=cZ e
   simp only[Option.some.injEq] at h
   subst h
   have g2:=mD (runK (CC LT4) 1) (!bq z) (T.aA z.natAbs) (T.bM _) (Nat.lt_trans (Zm.aA hz) (by decide))
   rw[T.bN,O2] at g2
   obtain⟨st,x1,x2⟩:=Ge LT4 (runK (CC LT4) 1) 1 _ _ _ _ (jZ _ z hz) g2
   exact⟨2,_,_,_,_,_,aQ HP rfl x1 x2,rfl,Wk.refl rfl,trivial⟩
  ·cases h
 ·cases h
theorem Ga:Ab.Spec base.P 155 qM:=Ab.Spec.bL (C:=CC LT4) (cU xb) fun args rs h=>by
 unfold qM at h
 split at h
 ·split at h
  ·rename_i z e
   obtain⟨rfl,hz⟩:=cZ e
   simp only[Option.some.injEq] at h
   subst h
   have g2:=mD (runK (CC LT4) 1) false (T.aA z.natAbs) (T.bM _) (Nat.lt_trans (Zm.aA hz) (by decide))
   rw[T.bN] at g2
   obtain⟨st,x1,x2⟩:=Gb LT4 (runK (CC LT4) 1) 1 _ _ _ _ (jZ _ z hz) g2
   exact⟨2,_,_,_,_,_,aQ HO rfl x1 x2,rfl,Wk.refl rfl,trivial⟩
  ·cases h
 ·cases h
set_option maxHeartbeats 1000000 in
theorem Gs (L:Lst)(run:aq)(k:Nat)(s t:ByteArray)(m n:Bool)(a b:List Nat)(r1 r2:Int)(g1:av L run 115 [.sc (.string s)] (.tup [.sc (.bool m),br a]))(g2:av L run 115 [.sc (.string t)] (.tup [.sc (.bool n),br b]))
  (g3:av L run 118 [br a,br b] (Ab.bC r1)) (g4:av L run 118 [br b,br a] (Ab.bC r2)) :
  ∃ st,af (CC L) run k (Tryz.f69.body.getD .skip) ⟨entry 30 [.sc (.string s),.sc (.string t)],[],[]⟩=some (.ret,st)∧aZ TT st.fr st.hp Tryz.f69.results.toList=some [Ab.bC (if m=n then (if m=true then r2 else r1) else (if m=true then -1 else 1))]:=by
 obtain⟨e1,e2,e3⟩:=cA 28 (.sc (.string s)) (.sc (.string t))
 generalize entry 30 [.sc (.string s),.sc (.string t)]=fr0 at *
 unfold av at *
 simp only[Ab.bC] at *
 cases m <;> cases n <;> simp[Tryz.f69,e1,e2,e3,af,aH,an,ao,aG,ag,ai,aP,aj,ak,aC,az,FP.none,bc,dz,au,aa,ae,ab,bf,uB,g1,g2,g3,g4,aZ]
def lp:List PV→Option (List PV)
 | [p,q]=>match fB p,fB q with
  | some x,some y=>some [Ab.bC (fE x y)]
  | _,_=>none
 | _=>none
theorem TP (x y:Int):(if bq x=bq y then (if bq x=true then dH y.natAbs x.natAbs else dH x.natAbs y.natAbs) else (if bq x=true then -1 else 1))=fE x y:=by
 rw[cF,cF]
 unfold fE dH
 by_cases hx:x<0 <;> by_cases hy:y<0 <;> simp[hx,hy]
 ·by_cases h1:x<y
  ·rw[if_pos (by omega),if_pos h1]
  ·rw[if_neg (by omega),if_neg h1]
   by_cases h2:x=y
   ·rw[if_pos (by omega),if_pos h2]
   ·rw[if_neg (by omega),if_neg h2]
 ·first | (intros;omega) | (rw[if_pos (by omega)])
 ·first | (intros;omega) | (rw[if_neg (by omega),if_neg (by omega)])
 ·by_cases h1:x<y
  ·rw[if_pos (by omega),if_pos h1]
  ·rw[if_neg (by omega),if_neg h1]
   by_cases h2:x=y
   ·rw[if_pos (by omega),if_pos h2]
   ·rw[if_neg (by omega),if_neg h2]
theorem oh:Ab.Spec base.P 69 lp:=Ab.Spec.bL (C:=CC LT4) (cU xb) fun args rs h=>by
 unfold lp at h
 split at h
 ·split at h
  ·rename_i x y ex ey
   obtain⟨rfl,hx⟩:=cZ ex
   obtain⟨rfl,hy⟩:=cZ ey
   simp only[Option.some.injEq] at h
   subst h
   have hx9:=Nat.lt_trans (Zm.aA hx) (show 9000000<10000000 by decide)
   have hy9:=Nat.lt_trans (Zm.aA hy) (show 9000000<10000000 by decide)
   obtain⟨st,x1,x2⟩:=Gs LT4 (runK (CC LT4) 1) 1 _ _ _ _ _ _ _ _ (jZ _ x hx) (jZ _ y hy) (wj _ x.natAbs y.natAbs hx9 hy9) (wj _ y.natAbs x.natAbs hy9 hx9)
   rw[TP] at x2
   exact⟨2,_,_,_,_,_,aQ HS rfl x1 x2,rfl,Wk.refl rfl,trivial⟩
  ·cases h
 ·cases h
set_option maxHeartbeats 1000000 in
theorem QJ (L:Lst)(run:aq)(k:Nat)(s t r:ByteArray)(u v w:Int)(g1:av L run 113 [.sc (.string s)] (.tup [Ab.bC u,.sc (.bool true)]))(g2:av L run 113 [.sc (.string t)] (.tup [Ab.bC v,.sc (.bool true)]))
  (hw:bu .i64 (u+v)=w) (g3:av L run 114 [.sc (.int .i64 w)] (.sc (.string r))) :
  ∃ st,af (CC L) run k (Tryz.f66.body.getD .skip) ⟨entry 63 [.sc (.string s),.sc (.string t)],[],[]⟩=some (.ret,st)∧aZ TT st.fr st.hp Tryz.f66.results.toList=some [.sc (.string r)]:=by
 obtain⟨e1,e2,e3⟩:=cA 61 (.sc (.string s)) (.sc (.string t))
 generalize entry 63 [.sc (.string s),.sc (.string t)]=fr0 at *
 unfold av at *
 simp only[Ab.bC] at *
 simp[Tryz.f66,e1,e2,e3,af,aH,an,ao,aG,ag,ai,aP,aj,ak,aC,az,FP.none,bc,ar,bd,au,aa,ae,ab,g1,g2,hw,g3,aZ]
noncomputable def jd:Code:=Tryz.f66.body.getD .skip
set_option maxHeartbeats 1000000 in
theorem Gc (L:Lst)(run:aq)(k:Nat)(s t:ByteArray)(u v:Int)(f1 f2:Bool)(hf:(f1 && f2)=false)(g1:av L run 113 [.sc (.string s)] (.tup [Ab.bC u,.sc (.bool f1)]))(g2:av L run 113 [.sc (.string t)] (.tup [Ab.bC v,.sc (.bool f2)])) :
  ∃ fr,aY (CC L) run k 4 jd ⟨entry 63 [.sc (.string s),.sc (.string t)],[],[]⟩=some ⟨fr,[],[]⟩∧fr.length=63∧nth fr 0 = .sc (.string s)∧nth fr 1 = .sc (.string t):=by
 obtain⟨e1,e2,e3⟩:=cA 61 (.sc (.string s)) (.sc (.string t))
 generalize entry 63 [.sc (.string s),.sc (.string t)]=fr0 at *
 unfold av at *
 simp only[Ab.bC] at *
 cases f1 <;> cases f2 <;> simp only[Bool.and_true,Bool.and_false,Bool.and_self,Bool.true_eq_false] at hf <;> simp[jd,Tryz.f66,aY,e1,e2,e3,af,aH,an,ao,aG,ag,ai,aP,aj,ak,aC,az,FP.none,au,aa,ae,ab,g1,g2,undef]
theorem Gd (L:Lst)(run:aq)(k:Nat)(fr:List PV)(s t:ByteArray)(m n:Bool)(a b:List Nat)(g1:av L run 115 [.sc (.string s)] (.tup [.sc (.bool m),br a]))(g2:av L run 115 [.sc (.string t)] (.tup [.sc (.bool n),br b]))
  (h63:fr.length=63) (h0:nth fr 0 = .sc (.string s)) (h1:nth fr 1 = .sc (.string t)) :
  ∃ fr',aY (CC L) run k 2 (ah 4 jd) ⟨fr,[],[]⟩=some ⟨fr',[],[]⟩∧fr'.length=63∧nth fr' 9 = .sc (.bool m)∧nth fr' 10=br a∧nth fr' 11 = .sc (.bool n)∧nth fr' 12=br b:=by
 unfold av at *
 simp[jd,Tryz.f66,ah,aY,h63,h0,h1,af,aH,an,ao,aG,ag,ai,aP,aj,ak,aC,az,FP.none,aa,ae,ab,g1,g2]
set_option maxHeartbeats 1000000 in
theorem QI (L:Lst)(run:aq)(k:Nat)(fr:List PV)(m:Bool)(a b c:List Nat)(r:ByteArray)(g1:av L run 117 [br a,br b] (br c))(g2:av L run 116 [.sc (.bool m),br c] (.sc (.string r)))
  (h63:fr.length=63) (h9:nth fr 9 = .sc (.bool m)) (h10:nth fr 10=br a) (h11:nth fr 11 = .sc (.bool m)) (h12:nth fr 12=br b) :
  ∃ st,af (CC L) run k (ah 6 jd) ⟨fr,[],[]⟩=some (.ret,st)∧aZ TT st.fr st.hp Tryz.f66.results.toList=some [.sc (.string r)]:=by
 unfold av at *
 cases m <;> simp[jd,Tryz.f66,ah,h63,h9,h10,h11,h12,af,aH,an,ao,aG,ag,ai,aP,aj,ak,aC,az,FP.none,bc,dz,aa,ae,ab,bf,uB,g1,g2,aZ]
set_option maxHeartbeats 1000000 in
theorem LG (L:Lst)(run:aq)(k:Nat)(fr:List PV)(m:Bool)(a b c:List Nat)(r:ByteArray)(z:Int)(hz:z<0)(g0:av L run 118 [br a,br b] (Ab.bC z))(g1:av L run 119 [br b,br a] (br c))(g2:av L run 116 [.sc (.bool (!m)),br c] (.sc (.string r)))
  (h63:fr.length=63) (h9:nth fr 9 = .sc (.bool m)) (h10:nth fr 10=br a) (h11:nth fr 11 = .sc (.bool (!m))) (h12:nth fr 12=br b) :
  ∃ st,af (CC L) run k (ah 6 jd) ⟨fr,[],[]⟩=some (.ret,st)∧aZ TT st.fr st.hp Tryz.f66.results.toList=some [.sc (.string r)]:=by
 unfold av at *
 simp only[Ab.bC] at *
 cases m <;> simp only[Bool.not_true,Bool.not_false] at g2 h11 <;> simp[jd,Tryz.f66,ah,h63,h9,h10,h11,h12,af,aH,an,ao,aG,ag,ai,aP,aj,ak,aC,az,FP.none,bc,ar,bd,dz,au,aa,ae,ab,bf,uB,hz,g0,g1,g2,aZ]
set_option maxHeartbeats 1000000 in
theorem LD (L:Lst)(run:aq)(k:Nat)(fr:List PV)(m:Bool)(a b c:List Nat)(r:ByteArray)(z:Int)(hz : ¬ z<0)(g0:av L run 118 [br a,br b] (Ab.bC z))(g1:av L run 119 [br a,br b] (br c))(g2:av L run 116 [.sc (.bool m),br c] (.sc (.string r)))
  (h63:fr.length=63) (h9:nth fr 9 = .sc (.bool m)) (h10:nth fr 10=br a) (h11:nth fr 11 = .sc (.bool (!m))) (h12:nth fr 12=br b) :
  ∃ st,af (CC L) run k (ah 6 jd) ⟨fr,[],[]⟩=some (.ret,st)∧aZ TT st.fr st.hp Tryz.f66.results.toList=some [.sc (.string r)]:=by
 unfold av at *
 simp only[Ab.bC] at *
 cases m <;> simp only[Bool.not_true,Bool.not_false] at h11 <;> simp[jd,Tryz.f66,ah,h63,h9,h10,h11,h12,af,aH,an,ao,aG,ag,ai,aP,aj,ak,aC,az,FP.none,bc,ar,bd,dz,au,aa,ae,ab,bf,uB,hz,g0,g1,g2,aZ]
def gZ:List PV→Option (List PV)
 | [p,q]=>match fB p,fB q with
  | some x,some y=>some [zs (x+y)]
  | _,_=>none
 | _=>none
theorem xG {z:Int}(h:(dQ z).ble 9=true) : -1000000000<z∧z<1000000000:=by
 rw[Nat.ble_eq] at h
 have:=(rh (n:=z.natAbs) (k:=9) (by omega)).1 h
 omega
theorem Ol (a b:List Nat)(ha:T.Dok a)(hb:T.Dok b):T.val (xj a b)=T.val a+T.val b:=by
 unfold xj
 refine T.fc _ _ ?_
 have h1:=T.eG ha
 have h2:=T.eG hb
 have hm:=kS a b
 have h3:10 ^ a.length≤10 ^ Nat.max a.length b.length:=Nat.pow_le_pow_right (by omega) (by omega)
 have h4:10 ^ b.length≤10 ^ Nat.max a.length b.length:=Nat.pow_le_pow_right (by omega) (by omega)
 split
 ·rw[Nat.pow_succ];omega
 ·rename_i h
  rw[Nat.add_zero];omega
theorem Vz (a b:List Nat):T.Dok (xj a b):=T.fY _ _
theorem Om (a b:List Nat):(xj a b).length≤Nat.max a.length b.length+1:=by
 unfold xj
 rw[T.de]
 split <;> omega
theorem jM (m:Bool)(n:Nat):gq m n=if m=true then -(n:Int) else (n:Int):=by
 cases m with
 | false=>rfl
 | true=>cases n <;> rfl
theorem mi:Ab.Spec base.P 66 gZ:=Ab.Spec.bL (C:=CC LT4) (cU xb) fun args rs h=>by
 unfold gZ at h
 split at h
 ·split at h
  ·rename_i x y ex ey
   obtain⟨rfl,hx⟩:=cZ ex
   obtain⟨rfl,hy⟩:=cZ ey
   simp only[Option.some.injEq] at h
   subst h
   have hx9:=Nat.lt_trans (Zm.aA hx) (show 9000000<10000000 by decide)
   have hy9:=Nat.lt_trans (Zm.aA hy) (show 9000000<10000000 by decide)
   have gs1:=nt (runK (CC LT4) 1) x hx
   have gs2:=nt (runK (CC LT4) 1) y hy
   suffices hgo:∃ st,af (CC LT4) (runK (CC LT4) 1) 1 jd ⟨entry 63 [zs x,zs y],[],[]⟩=some (.ret,st)∧aZ TT st.fr st.hp Tryz.f66.results.toList=some [zs (x+y)] by
    obtain⟨st,x1,x2⟩:=hgo
    exact⟨2,_,_,_,_,_,aQ EB rfl x1 x2,rfl,Wk.refl rfl,trivial⟩
   have rest:∀ (u v:Int) (f1 f2:Bool),(f1 && f2)=false→av LT4 (runK (CC LT4) 1) 113 [zs x] (.tup [Ab.bC u,.sc (.bool f1)])→av LT4 (runK (CC LT4) 1) 113 [zs y] (.tup [Ab.bC v,.sc (.bool f2)]) →
     ∃ st,af (CC LT4) (runK (CC LT4) 1) 1 jd ⟨entry 63 [zs x,zs y],[],[]⟩=some (.ret,st)∧aZ TT st.fr st.hp Tryz.f66.results.toList=some [zs (x+y)]:=by
    intro u v f1 f2 hf q1 q2
    obtain⟨fr1,a1,a2,a3,a4⟩:=Gc LT4 (runK (CC LT4) 1) 1 _ _ u v f1 f2 hf q1 q2
    obtain⟨fr2,b1,b2,b3,b4,b5,b6⟩:=Gd LT4 (runK (CC LT4) 1) 1 fr1 _ _ _ _ _ _ (jZ _ x hx) (jZ _ y hy) a2 a3 a4
    have hex:∀ {r},af (CC LT4) (runK (CC LT4) 1) 1 (ah 6 jd) ⟨fr2,[],[]⟩=r→af (CC LT4) (runK (CC LT4) 1) 1 jd ⟨entry 63 [zs x,zs y],[],[]⟩=r:=by
     intro r hr
     have e1:af (CC LT4) (runK (CC LT4) 1) 1 jd ⟨entry 63 [zs x,zs y],[],[]⟩=af (CC LT4) (runK (CC LT4) 1) 1 (ah 4 jd) ⟨fr1,[],[]⟩:=aO 4 a1
     rw[e1,aO 2 b1]
     exact hr
    by_cases hn:bq x=bq y
    ·have gt:=mD (runK (CC LT4) 1) (bq x) (xj (T.aA x.natAbs) (T.aA y.natAbs)) (Vz _ _) (by
      have h1:=Om (T.aA x.natAbs) (T.aA y.natAbs)
      have h2:=kS (T.aA x.natAbs) (T.aA y.natAbs)
      have h3:=Zm.aA hx
      have h4:=Zm.aA hy
      omega)
     rw[Ol _ _ (T.bM _) (T.bM _),T.bN,T.bN] at gt
     have e:gq (bq x) (x.natAbs+y.natAbs)=x+y:=by
      rw[jM,cF]
      rw[cF,cF] at hn
      by_cases h1:x<0 <;> by_cases h2:y<0 <;> simp[h1,h2] at hn ⊢ <;> omega
     rw[e] at gt
     rw[← hn] at b5
     obtain⟨st,x1,x2⟩:=QI LT4 (runK (CC LT4) 1) 1 fr2 (bq x) _ _ _ _ (Yq _ x.natAbs y.natAbs hx9 hy9) gt b2 b3 b4 b5 b6
     exact⟨st,hex x1,x2⟩
    ·have hn':bq y = !bq x:=by revert hn;cases bq x <;> cases bq y <;> simp
     rw[hn'] at b5
     have gz:=wj (runK (CC LT4) 1) x.natAbs y.natAbs hx9 hy9
     by_cases hc:x.natAbs<y.natAbs
     ·have hz:dH x.natAbs y.natAbs<0:=by unfold dH;rw[if_pos hc];omega
      have gt:=mD (runK (CC LT4) 1) (!bq x) (T.aA (y.natAbs - x.natAbs)) (T.bM _) (by
       have:=T.cn (show y.natAbs - x.natAbs≤y.natAbs by omega)
       omega)
      rw[T.bN] at gt
      have e:gq (!bq x) (y.natAbs - x.natAbs)=x+y:=by
       rw[jM,← hn',cF]
       rw[cF,cF] at hn
       by_cases h1:x<0 <;> by_cases h2:y<0 <;> simp[h1,h2] at hn ⊢ <;> omega
      rw[e] at gt
      obtain⟨st,x1,x2⟩:=LG LT4 (runK (CC LT4) 1) 1 fr2 (bq x) _ _ _ _ _ hz gz (Jj _ y.natAbs x.natAbs hy9 hx9 (by omega)) gt b2 b3 b4 b5 b6
      exact⟨st,hex x1,x2⟩
     ·have hz : ¬ dH x.natAbs y.natAbs<0:=by
       unfold dH
       rw[if_neg hc]
       split <;> omega
      have gt:=mD (runK (CC LT4) 1) (bq x) (T.aA (x.natAbs - y.natAbs)) (T.bM _) (by
       have:=T.cn (show x.natAbs - y.natAbs≤x.natAbs by omega)
       omega)
      rw[T.bN] at gt
      have e:gq (bq x) (x.natAbs - y.natAbs)=x+y:=by
       rw[jM,cF]
       rw[cF,cF] at hn
       by_cases h1:x<0 <;> by_cases h2:y<0 <;> simp[h1,h2] at hn ⊢ <;> omega
      rw[e] at gt
      obtain⟨st,x1,x2⟩:=LD LT4 (runK (CC LT4) 1) 1 fr2 (bq x) _ _ _ _ _ hz gz (Jj _ x.natAbs y.natAbs hx9 hy9 (by omega)) gt b2 b3 b4 b5 b6
      exact⟨st,hex x1,x2⟩
   cases h1:(dQ x).ble 9 with
   | false =>
    rw[h1] at gs1
    cases h2:(dQ y).ble 9 with
    | false=>rw[h2] at gs2;exact rest _ _ false false rfl gs1 gs2
    | true=>rw[h2] at gs2;exact rest _ _ false true rfl gs1 gs2
   | true =>
    rw[h1] at gs1
    cases h2:(dQ y).ble 9 with
    | false=>rw[h2] at gs2;exact rest _ _ true false rfl gs1 gs2
    | true =>
     rw[h2] at gs2
     have b1:=xG h1
     have b2:=xG h2
     exact QJ LT4 (runK (CC LT4) 1) 1 _ _ _ x y (x+y) gs1 gs2 (fk _ (by omega) (by omega)) (Ji _ (x+y) (by omega) (by omega))
  ·cases h
 ·cases h
end Go.Proofs.YtjdmodeenbdfpaaGreat
