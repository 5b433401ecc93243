/- Contracts of numbers kept as digits in text, part 30 of the proof; each lemma states its own conditions. -/
import Derived.Test.YtjdmodeenbdfpaaGreatR29
set_option linter.unusedSimpArgs false
set_option linter.unusedVariables false
namespace Go.Proofs.YtjdmodeenbdfpaaGreat
open Go Go.Ab
noncomputable def LT3:Lst:=[(116,mr)]
theorem ad0:dL base.P LT3:=⟨qZ,trivial⟩
theorem CE:bw LT3 116=fun a=>mr (aK a):=rfl
noncomputable def fB:Code:=Tryz.f114.body.getD .skip
noncomputable def kX:Code:=match cA (seq1 (ah 1 fB)) with | .cond _ a _=>a | c=>c
noncomputable def rj:Code:=(az kX).getD .skip
noncomputable def ri:Code:=(az (ah 3 fB)).getD .skip
theorem Lw (L:Lst)(run:ar)(k:Nat)(fr:List PV)(hp:List Blk)(wr:List Nat)(h42:fr.length=42)(h0:nth fr 0=iv 0) :
  ∃ fr',af (CC L) run k ri ⟨fr,hp,wr⟩=some (.exit 2,⟨fr',hp,wr⟩)∧fr'.length=42∧nth fr' 6=nth fr 6:=by
 simp only[iv] at h0
 simp[ri,fB,Tryz.f114,ah,az,af,aJ,ao,aq,aH,ag,ai,aj,an,aF,aC,FP.none,bd,au,bj,aw,aa,ae,ab,h42,h0]
set_option maxHeartbeats 1000000 in
theorem Ci (L:Lst)(run:ar)(k:Nat)(fr:List PV)(hp:List Blk)(wr:List Nat)(x:Nat)(out:List Nat)(hx:0<x)(hx9:x≤9223372036854775807)(ho9:out.length<20000000)(h42:fr.length=42)(h0:nth fr 0=iv x)(hO:dx iv 0 hp out (nth fr 6)) :
  ∃ fr' hp' wr',af (CC L) run k ri ⟨fr,hp,wr⟩=some (.normal,⟨fr',hp',wr'⟩)∧fr'.length=42∧nth fr' 0=iv (x / 10)∧dx iv 0 hp' (out++[x % 10]) (nth fr' 6):=by
 obtain⟨q,hq⟩:∃ q,q=x / 10:=⟨_,rfl⟩
 obtain⟨r,hr⟩:∃ r,r=x % 10:=⟨_,rfl⟩
 obtain⟨p',hp',fp,g1,g2,-⟩:=hO.app r (by omega)
 have hq9:q≤9223372036854775807:=by rw[hq];exact Nat.le_trans (Nat.div_le_self _ _) hx9
 have hw1:bA .i64 ((x:Int) / 10)=(q:Int):=T.jr .i64 x q hq hq9
 have hw2:=T.kS x r hr
 have hlX:ie TT 24 1 [(0,.sc (.int .i64 (r:Int)))]=some (1,[iv r]):=mA r
 rw[← hq,← hr]
 simp only[iv] at h0 ⊢
 simp[ri,fB,Tryz.f114,ah,az,af,aJ,ao,aq,aH,ag,ai,aj,an,aF,aC,FP.none,bd,au,bj,aw,aa,ae,ab,bh,and_assoc,bg,dN,h42,h0,hx,hw1,hw2,hlX,j9,iA,uL,sI,bI,zI,cn,g1,g2]
theorem FM (L:Lst)(run:ar)(k:Nat):∀ (x:Nat) (fr:List PV) (hp:List Blk) (wr:List Nat) (out:List Nat),x≤9223372036854775807→out.length+(T.aG x).length<20000000→fr.length=42→nth fr 0=iv x→dx iv 0 hp out (nth fr 6) →
  ∃ (fr':List PV) (hp':List Blk) (wr':List Nat),cl (af (CC L) run k ri) ((T.aG x).length+1) ⟨fr,hp,wr⟩=some (.exit 2,⟨fr',hp',wr'⟩)∧fr'.length=42∧dx iv 0 hp' (out++T.aG x) (nth fr' 6):=by
 intro x
 induction x using Nat.strongRecOn with
 | _ x ih =>
  intro fr hp wr out hx9 ho9 h42 h0 hO
  by_cases h:x=0
  ·subst h
   obtain⟨fr',q1,q2,q3⟩:=Lw L run k fr hp wr h42 h0
   exact⟨fr',hp,wr,by rw[T.fj];exact bD q1,q2,by rw[q3,T.fj,List.append_nil];exact hO⟩
  ·rw[T.dX h] at ho9 ⊢
   rw[List.length_cons] at ho9
   obtain⟨fr1,hp1,wr1,g1,g2,g3,g4⟩:=Ci L run k fr hp wr x out (by omega) hx9 (by omega) h42 h0 hO
   obtain⟨fr',hp',wr',q1,q2,q3⟩:=ih (x / 10) (by omega) fr1 hp1 wr1 _ (Nat.le_trans (Nat.div_le_self _ _) hx9) (by simp;omega) g2 g3 g4
   exact⟨fr',hp',wr',by rw[List.length_cons,ch g1];exact q1,q2,by simpa using q3⟩
theorem Ly (L:Lst)(run:ar)(k:Nat)(fr:List PV)(hp:List Blk)(wr:List Nat)(h42:fr.length=42)(h0:nth fr 3=iv 0) :
  ∃ fr',af (CC L) run k rj ⟨fr,hp,wr⟩=some (.exit 0,⟨fr',hp,wr⟩)∧fr'.length=42∧nth fr' 5=nth fr 5:=by
 simp only[iv] at h0
 simp[rj,kX,fB,Tryz.f114,ah,seq1,cA,az,af,aJ,ao,aq,aH,ag,ai,aj,an,aF,aC,FP.none,bd,au,bj,aw,aa,ae,ab,h42,h0]
set_option maxHeartbeats 1000000 in
theorem Cj (L:Lst)(run:ar)(k:Nat)(fr:List PV)(hp:List Blk)(wr:List Nat)(x:Nat)(out:List Nat)(hx:0<x)(hx9:x≤9223372036854775807)(ho9:out.length<20000000)(h42:fr.length=42)(h0:nth fr 3=iv x)(hO:dx iv 0 hp out (nth fr 5)) :
  ∃ fr' hp' wr',af (CC L) run k rj ⟨fr,hp,wr⟩=some (.normal,⟨fr',hp',wr'⟩)∧fr'.length=42∧nth fr' 3=iv (x / 10)∧dx iv 0 hp' (out++[x % 10]) (nth fr' 5):=by
 obtain⟨q,hq⟩:∃ q,q=x / 10:=⟨_,rfl⟩
 obtain⟨r,hr⟩:∃ r,r=x % 10:=⟨_,rfl⟩
 obtain⟨p',hp',fp,g1,g2,-⟩:=hO.app r (by omega)
 have hq9:q≤9223372036854775807:=by rw[hq];exact Nat.le_trans (Nat.div_le_self _ _) hx9
 have hw1:bA .i64 ((x:Int) / 10)=(q:Int):=T.jr .i64 x q hq hq9
 have hw2:=T.kS x r hr
 have hlX:ie TT 24 1 [(0,.sc (.int .i64 (r:Int)))]=some (1,[iv r]):=mA r
 rw[← hq,← hr]
 simp only[iv] at h0 ⊢
 simp[rj,kX,fB,Tryz.f114,ah,seq1,cA,az,af,aJ,ao,aq,aH,ag,ai,aj,an,aF,aC,FP.none,bd,au,bj,aw,aa,ae,ab,bh,and_assoc,bg,dN,h42,h0,hx,hw1,hw2,hlX,j9,iA,uL,sI,bI,zI,cn,g1,g2]
theorem FO (L:Lst)(run:ar)(k:Nat):∀ (x:Nat) (fr:List PV) (hp:List Blk) (wr:List Nat) (out:List Nat),x≤9223372036854775807→out.length+(T.aG x).length<20000000→fr.length=42→nth fr 3=iv x→dx iv 0 hp out (nth fr 5) →
  ∃ (fr':List PV) (hp':List Blk) (wr':List Nat),cl (af (CC L) run k rj) ((T.aG x).length+1) ⟨fr,hp,wr⟩=some (.exit 0,⟨fr',hp',wr'⟩)∧fr'.length=42∧dx iv 0 hp' (out++T.aG x) (nth fr' 5):=by
 intro x
 induction x using Nat.strongRecOn with
 | _ x ih =>
  intro fr hp wr out hx9 ho9 h42 h0 hO
  by_cases h:x=0
  ·subst h
   obtain⟨fr',q1,q2,q3⟩:=Ly L run k fr hp wr h42 h0
   exact⟨fr',hp,wr,by rw[T.fj];exact bD q1,q2,by rw[q3,T.fj,List.append_nil];exact hO⟩
  ·rw[T.dX h] at ho9 ⊢
   rw[List.length_cons] at ho9
   obtain⟨fr1,hp1,wr1,g1,g2,g3,g4⟩:=Cj L run k fr hp wr x out (by omega) hx9 (by omega) h42 h0 hO
   obtain⟨fr',hp',wr',q1,q2,q3⟩:=ih (x / 10) (by omega) fr1 hp1 wr1 _ (Nat.le_trans (Nat.div_le_self _ _) hx9) (by simp;omega) g2 g3 g4
   exact⟨fr',hp',wr',by rw[List.length_cons,ch g1];exact q1,q2,by simpa using q3⟩
noncomputable def Am:Code:=seq1 (seq1 (ah 1 fB))
theorem sN:ah 1 fB = .seq (.seq Am (.cond (.tmp 8) kX .skip)) (ah 2 fB):=rfl
theorem Ch:ah 3 fB = .seq (.block 2 (.loop ri)) (ah 4 fB):=rfl
noncomputable def FQ:Code:=seq1 (seq1 (ah 3 kX))
theorem Cg:ah 3 kX = .seq (.seq FQ (.block 0 (.loop rj))) (ah 4 kX):=rfl
theorem QE (L:Lst)(run:ar)(k:Nat)(z:Int) :
  ∃ fr,aY (CC L) run k 1 fB ⟨entry 42 [.sc (.int .i64 z)],[],[]⟩=some ⟨fr,[],[]⟩∧fr.length=42∧nth fr 0 = .sc (.int .i64 z):=by
 obtain⟨e1,e2⟩:=cW 41 (.sc (.int .i64 z))
 generalize entry 42 [.sc (.int .i64 z)]=fr0 at *
 simp[fB,Tryz.f114,aY,e1,e2,af,aJ,ao,aq,aH,ag,ai,aj,an,aF,aC,FP.none,aw,ae,ab]
theorem WX (L:Lst)(run:ar)(k:Nat)(fr:List PV)(z:Int)(h42:fr.length=42)(h0:nth fr 0 = .sc (.int .i64 z)) :
  ∃ fr',af (CC L) run k Am ⟨fr,[],[]⟩=some (.normal,⟨fr',[],[]⟩)∧fr'.length=42∧nth fr' 0 = .sc (.int .i64 z)∧nth fr' 8 = .sc (.bool (decide (z<0))):=by
 simp[Am,fB,ah,seq1,Tryz.f114,af,aJ,ao,aq,aH,ag,ai,aj,an,aF,aC,FP.none,bd,au,bj,aw,aa,ae,ab,h42,h0]
theorem QD (L:Lst)(run:ar)(k:Nat)(fr:List PV)(h42:fr.length=42) :
  ∃ fr',aY (CC L) run k 1 (ah 2 fB) ⟨fr,[],[]⟩=some ⟨fr',[],[]⟩∧fr'.length=42∧nth fr' 0=nth fr 0∧nth fr' 6 = .sc (.slice none 0 0):=by
 simp[fB,ah,Tryz.f114,aY,af,aJ,ao,aq,aH,ag,ai,aj,an,aF,aC,FP.none,aw,aa,ae,ab,h42]
theorem FL (L:Lst)(run:ar)(k:Nat)(fr:List PV)(hp hp':List Blk)(wr:List Nat)(p q:PV)(fp:FP)(h42:fr.length=42)(h6:nth fr 6=p)(hc:cg (CC L) run false hp 116 [.sc (.bool false),p]=some (q,hp',fp)) :
  ∃ st,af (CC L) run k (ah 4 fB) ⟨fr,hp,wr⟩=some (.ret,st)∧aZ TT st.fr st.hp Tryz.f114.results.toList=some [q]:=by
 simp[fB,ah,Tryz.f114,af,aJ,ao,aq,aH,ag,ai,aQ,aj,an,aF,aC,FP.none,aw,aa,ab,h42,h6,hc,aZ]
theorem FN (L:Lst)(run:ar)(k:Nat)(fr:List PV)(hp hp':List Blk)(wr:List Nat)(p q:PV)(fp:FP)(h42:fr.length=42)(h6:nth fr 5=p)(hc:cg (CC L) run false hp 116 [.sc (.bool true),p]=some (q,hp',fp)) :
  ∃ st,af (CC L) run k (ah 4 kX) ⟨fr,hp,wr⟩=some (.ret,st)∧aZ TT st.fr st.hp Tryz.f114.results.toList=some [q]:=by
 simp[kX,fB,ah,seq1,cA,Tryz.f114,af,aJ,ao,aq,aH,ag,ai,aQ,aj,an,aF,aC,FP.none,aw,aa,ab,h42,h6,hc,aZ]
set_option maxHeartbeats 1000000 in
theorem Lx (L:Lst)(run:ar)(k:Nat)(fr:List PV)(z:Int)(q r:Nat)(hq:z.tdiv 10 = -(q:Int))(hr:z.tmod 10 = -(r:Int))(hq9:q≤9223372036854775807)(hr9:r<10)(h42:fr.length=42)(h0:nth fr 0 = .sc (.int .i64 z)) :
  ∃ fr' hp' wr',aY (CC L) run k 3 kX ⟨fr,[],[]⟩=some ⟨fr',hp',wr'⟩∧fr'.length=42∧nth fr' 3 = .sc (.int .i64 (-(q:Int)))∧dx iv 0 hp' [r] (nth fr' 5):=by
 obtain⟨p',hp',fp,g1,g2,-⟩:=(dx.nil (e:=iv) (b:=0) (hp:=[]) (Nat.le_refl _)).app r (by simp)
 rw[List.nil_append] at g2
 have hw1:bA .i64 (-(q:Int)) = -(q:Int):=fh _ (by omega) (by omega)
 have hw2:bA .i64 (r:Int)=(r:Int):=cu .i64 r (hiI (by omega))
 have hlX:ie TT 24 1 [(0,.sc (.int .i64 (r:Int)))]=some (1,[iv r]):=mA r
 simp[kX,fB,Tryz.f114,ah,seq1,cA,aY,af,aJ,ao,aq,aH,ag,ai,aj,an,aF,aC,FP.none,bd,au,bj,aw,unP,aa,ae,ab,bh,and_assoc,bg,dN,h42,h0,hq,hr,hw1,hw2,hlX,j9,iA,uL,sI,bI,zI,cn,g1,g2]
theorem WW (L:Lst)(run:ar)(k:Nat)(fr:List PV)(hp:List Blk)(wr:List Nat)(q:Nat)(hq9:q≤9223372036854775807)(h42:fr.length=42)(h3:nth fr 3 = .sc (.int .i64 (-(q:Int)))) :
  ∃ fr',af (CC L) run k FQ ⟨fr,hp,wr⟩=some (.normal,⟨fr',hp,wr⟩)∧fr'.length=42∧nth fr' 3=iv q∧nth fr' 5=nth fr 5:=by
 have hw2:bA .i64 (q:Int)=(q:Int):=cu .i64 q (hiI hq9)
 simp[FQ,kX,fB,Tryz.f114,ah,seq1,cA,af,aJ,ao,aq,aH,ag,ai,aj,an,aF,aC,FP.none,unP,aa,ae,ab,h42,h3,hw2,iv]
def sO:List PV→Option (List PV)
 | [.sc (.int .i64 z)]=>bif decide (-9223372036854775808≤z) && decide (z≤9223372036854775807) then some [zs z] else none
 | _=>none
theorem tf {x:Nat}(h:x≤9223372036854775808):(T.aG x).length≤19:=T.di (Nat.lt_of_le_of_lt h (by decide))
theorem yr:Ab.Spec base.P 114 sO:=Ab.Spec.bQ (C:=CC LT3) (cV ad0) fun args rs h=>by
 unfold sO at h
 split at h
 ·rename_i z
  cases hb:decide (-9223372036854775808≤z) && decide (z≤9223372036854775807) with
  | false=>rw[hb] at h;cases h
  | true =>
   rw[hb] at h
   simp only[cond_true,Option.some.injEq] at h
   subst h
   simp only[Bool.and_eq_true,decide_eq_true_eq] at hb
   have htext:∀ (m:Bool) (l:List Nat),T.Dok l→l.length<10000000→mr [.sc (.bool m),mb iv l]=some [zs (gG m (T.val l))]:=by
    intro m l h1 h2
    have:=dP h1 h2
    simp only[bz] at this
    simp only[mr,this,zs,tQ]
   obtain⟨f1,p1,p2,p3⟩:=QE LT3 (runK (CC LT3) 21) 21 z
   obtain⟨f2,q1,q2,q3,q4⟩:=WX LT3 (runK (CC LT3) 21) 21 f1 z p2 p3
   by_cases hz:z<0
   ·have hd:=tf (x:=z.natAbs) (by omega)
    have hstep:=T.dX (show z.natAbs≠0 by omega)
    have hq:z.tdiv 10 = -((z.natAbs / 10:Nat):Int):=by
     have:z = -((z.natAbs:Nat):Int):=by omega
     rw[this,Int.neg_tdiv,Int.natAbs_neg,Int.natAbs_natCast]
     congr 1
    have hr:z.tmod 10 = -((z.natAbs % 10:Nat):Int):=by
     have:z = -((z.natAbs:Nat):Int):=by omega
     rw[this,Int.neg_tmod,Int.natAbs_neg,Int.natAbs_natCast]
     congr 1
    obtain⟨f3,hp3,wr3,r1,r2,r3,r4⟩:=Lx LT3 (runK (CC LT3) 21) 21 f2 z _ _ hq hr (by omega) (by omega) q2 q3
    obtain⟨f4,s1,s2,s3,s4⟩:=WW LT3 (runK (CC LT3) 21) 21 f3 hp3 wr3 _ (by omega) r2 r3
    rw[hstep,List.length_cons] at hd
    obtain⟨f5,hp5,wr5,t1,t2,t3⟩:=FO LT3 (runK (CC LT3) 21) 21 (z.natAbs / 10) f4 hp3 wr3 [z.natAbs % 10] (by omega) (by simp only[List.length_cons,List.length_nil];omega) s2 s3 (by rw[s4];exact r4)
    have e:[z.natAbs % 10]++T.aG (z.natAbs / 10)=T.aG z.natAbs:=by rw[hstep];rfl
    rw[e] at t3
    obtain⟨hp6,fp,c1,-⟩:=om jE CE (runK (CC LT3) 21) false iM true t3.s _ (htext true _ (T.bU _) (by rw[hstep,List.length_cons];omega))
    rw[T.bZ] at c1
    have hzz:gG true z.natAbs=z:=by
     have:bx z=true:=by rw[cN];simpa using hz
     rw[← this,ia]
    rw[hzz] at c1
    obtain⟨st,x1,x2⟩:=FN LT3 (runK (CC LT3) 21) 21 f5 hp5 hp6 wr5 _ _ fp t2 rfl c1
    have hcond:decide (z<0)=true:=decide_eq_true hz
    rw[hcond] at q4
    have hx:af (CC LT3) (runK (CC LT3) 21) 21 fB ⟨entry 42 [.sc (.int .i64 z)],[],[]⟩=some (.ret,st):=by
     rw[aP 1 p1,sN]
     refine cB ?_
     rw[av q1,tc (by simpa [an] using q4),aP 3 r1,Cg,av ((av s1).trans (bH (ca t1 (by omega))))]
     exact x1
    exact⟨22,_,_,_,_,_,aX oI rfl hx x2,rfl,Wk.refl rfl,trivial⟩
   ·have hd:=tf (x:=z.natAbs) (by omega)
    have hcond:decide (z<0)=false:=decide_eq_false hz
    rw[hcond] at q4
    obtain⟨f3,r1,r2,r3,r4⟩:=QD LT3 (runK (CC LT3) 21) 21 f2 q2
    have hzi:PV.sc (.int .i64 z)=iv z.natAbs:=by
     unfold iv
     rw[show ((z.natAbs:Nat):Int)=z by omega]
    obtain⟨f5,hp5,wr5,t1,t2,t3⟩:=FM LT3 (runK (CC LT3) 21) 21 z.natAbs f3 [] [] [] (by omega) (by simp only[List.length_nil];omega) r2 (by rw[r3,q3,hzi]) (by rw[r4];exact dx.nil (Nat.le_refl _))
    rw[List.nil_append] at t3
    obtain⟨hp6,fp,c1,-⟩:=om jE CE (runK (CC LT3) 21) false iM false t3.s _ (htext false _ (T.bU _) (by omega))
    rw[T.bZ] at c1
    have hzz:gG false z.natAbs=z:=by
     have:bx z=false:=by rw[cN];simpa using hz
     rw[← this,ia]
    rw[hzz] at c1
    obtain⟨st,x1,x2⟩:=FL LT3 (runK (CC LT3) 21) 21 f5 hp5 hp6 wr5 _ _ fp t2 rfl c1
    have hx:af (CC LT3) (runK (CC LT3) 21) 21 fB ⟨entry 42 [.sc (.int .i64 z)],[],[]⟩=some (.ret,st):=by
     rw[aP 1 p1,sN]
     have hm:af (CC LT3) (runK (CC LT3) 21) 21 (.seq Am (.cond (.tmp 8) kX .skip)) ⟨f1,[],[]⟩=some (.normal,⟨f2,[],[]⟩):=by
      rw[av q1,td (by simpa [an] using q4),y0]
     rw[av hm,aP 1 r1,show ah 1 (ah 2 fB)=ah 3 fB from rfl,Ch,av (bH (ca t1 (by omega)))]
     exact x1
    exact⟨22,_,_,_,_,_,aX oI rfl hx x2,rfl,Wk.refl rfl,trivial⟩
 ·cases h
noncomputable def LT4:Lst:=[(115,sQ),(116,mr),(113,sJ),(114,sO),(118,ke),(117,vh),(119,mS)]
theorem wY:dL base.P LT4:=⟨yw,qZ,ym,yr,sG,Fz,vu,trivial⟩
theorem XP:bw LT4 115=fun a=>sQ (aK a):=rfl
theorem CD:bw LT4 116=fun a=>mr (aK a):=rfl
theorem LZ:bw LT4 113=fun a=>sJ (aK a):=rfl
theorem XO:bw LT4 114=fun a=>sO (aK a):=rfl
theorem Ru:bw LT4 118=fun a=>ke (aK a):=rfl
theorem XM:bw LT4 117=fun a=>vh (aK a):=rfl
theorem XQ:bw LT4 119=fun a=>mS (aK a):=rfl
def Zm (z:Int):Prop:=(ztx z).length≤fE
theorem Zm.lt {z:Int}(h:Zm z):(ztx z).length<9000000:=Nat.lt_of_le_of_lt h (by decide)
theorem Zm.eh {z:Int}(h:Zm z):(dtx z.natAbs).length<9000000:=by
 have h1:=h.lt
 rw[fZ] at h1
 exact Nat.lt_of_le_of_lt (Nat.le_add_left _ _) h1
theorem Zm.aG {z:Int}(h:Zm z):(T.aG z.natAbs).length<9000000:=Nat.lt_of_le_of_lt (ze _) h.eh
theorem Zm.Jh {z:Int}(h:Zm z):(T.aG z.natAbs).length≤3000000:=by
 have h1:(ztx z).length≤3000000:=h
 rw[fZ] at h1
 exact Nat.le_trans (ze _) (Nat.le_trans (Nat.le_add_left _ _) h1)
theorem Uy (z:Int):bys (tx (ztx z))=ztx z:=jX (kr z)
theorem TE (z:Int)(h:Zm z):sQ [zs z]=some [.sc (.bool (bx z)),bz (T.aG z.natAbs)]:=by
 obtain⟨m,h1,h2⟩:=mJ z
 have h3:(dtx z.natAbs).length.blt 9000000=true:=by rw[Nat.blt_eq];exact h.eh
 simp only[sQ,zs,Uy,h1,h3,cond_true,oe,h2]
theorem zF (m:Bool)(l:List Nat)(h1:T.Dok l)(h2:l.length<10000000):mr [.sc (.bool m),bz l]=some [zs (gG m (T.val l))]:=by
 simp only[mr,dP h1 h2,zs,tQ]
theorem OO (z:Int)(h:Zm z):sJ [zs z]=some (bif (eh z).ble 9 then [Ab.bJ z,.sc (.bool true)] else [Ab.bJ 0,.sc (.bool false)]):=by
 obtain⟨m,h1,h2⟩:=mJ z
 have h3:(ztx z).length.blt 100000000=true:=by rw[Nat.blt_eq];exact Nat.lt_trans h.lt (by decide)
 have h4:(dtx z.natAbs).length=eh z:=rfl
 simp only[sJ,zs,Uy,h1,h3,cond_true,oe,h2,ia,h4]
 cases (eh z).ble 9 <;> rfl
theorem DD (m:Bool)(l:List Nat):aK [.sc (.bool m),bz l]=[.sc (.bool m),bz l]:=by
 simp only[aK,oY];rfl
theorem nD (a b:List Nat):aK [bz a,bz b]=[bz a,bz b]:=by
 simp only[aK,oY]
theorem kl (run:ar)(z:Int)(h:Zm z):aA LT4 run 115 [zs z] (.tup [.sc (.bool (bx z)),bz (T.aG z.natAbs)]):=fun dr hp =>
 bu sh XP run dr hp _ [.sc (.bool (bx z)),bz (T.aG z.natAbs)] rfl rfl (TE z h)
theorem nj (run:ar)(m:Bool)(l:List Nat)(h1:T.Dok l)(h2:l.length<10000000):aA LT4 run 116 [.sc (.bool m),bz l] (zs (gG m (T.val l))):=fun dr hp =>
 bu jE CD run dr hp _ [zs (gG m (T.val l))] rfl (DD m l) (zF m l h1 h2)
theorem n9 (run:ar)(z:Int)(h:Zm z):aA LT4 run 113 [zs z] (.tup (bif (eh z).ble 9 then [Ab.bJ z,.sc (.bool true)] else [Ab.bJ 0,.sc (.bool false)])):=fun dr hp=>by
 have:=bu uG LZ run dr hp [zs z] _ rfl rfl (OO z h)
 rw[this]
 cases (eh z).ble 9 <;> rfl
theorem I5 (run:ar)(z:Int)(h1 : -9223372036854775808≤z)(h2:z≤9223372036854775807):aA LT4 run 114 [.sc (.int .i64 z)] (zs z):=fun dr hp =>
 bu si XO run dr hp _ [zs z] rfl rfl (by simp only[sO,decide_eq_true h1,decide_eq_true h2,Bool.and_self,cond_true])
theorem pG (x y:Nat):kd (T.aG x) (T.aG y)=dQ x y:=by
 unfold kd
 by_cases h1:(T.aG x).length<(T.aG y).length
 ·rw[if_pos h1,dQ,if_pos]
  exact Nat.lt_of_not_le fun h=>absurd (T.cH h) (by omega)
 ·rw[if_neg h1]
  by_cases h2:(T.aG y).length<(T.aG x).length
  ·have h3:y<x:=Nat.lt_of_not_le fun h=>absurd (T.cH h) (by omega)
   rw[if_pos h2,dQ,if_neg (by omega),if_neg (by omega)]
  ·rw[if_neg h2,T.bZ,T.bZ]
theorem wu (run:ar)(x y:Nat)(hx:(T.aG x).length<10000000)(hy:(T.aG y).length<10000000):aA LT4 run 118 [bz (T.aG x),bz (T.aG y)] (Ab.bJ (dQ x y)):=fun dr hp =>
 bu xV Ru run dr hp _ [Ab.bJ (dQ x y)] rfl (nD _ _) (by simp only[ke,dP (T.bU x) hx,dP (T.bU y) hy,pG])
theorem Zh (run:ar)(x y:Nat)(hx:(T.aG x).length<10000000)(hy:(T.aG y).length<10000000):aA LT4 run 117 [bz (T.aG x),bz (T.aG y)] (bz (xi (T.aG x) (T.aG y))):=fun dr hp =>
 bu Ox XM run dr hp _ [bz (xi (T.aG x) (T.aG y))] rfl (nD _ _) (by simp only[vh,dP (T.bU x) hx,dP (T.bU y) hy])
theorem I6 (run:ar)(x y:Nat)(hx:(T.aG x).length<10000000)(hy:(T.aG y).length<10000000)(h:y≤x):aA LT4 run 119 [bz (T.aG x),bz (T.aG y)] (bz (T.aG (x - y))):=fun dr hp =>
 bu xW XQ run dr hp _ [bz (T.aG (x - y))] rfl (nD _ _) (by
  have h1:(T.aG y).length.ble (T.aG x).length=true:=by rw[Nat.ble_eq];exact T.cH h
  have h2:y.ble x=true:=by rw[Nat.ble_eq];exact h
  simp only[mS,dP (T.bU x) hx,dP (T.bU y) hy,T.bZ,h1,h2,Bool.and_self,cond_true])
theorem FK (L:Lst)(run:ar)(k:Nat)(s r:ByteArray)(m:Bool)(l:List Nat)(g1:aA L run 115 [.sc (.string s)] (.tup [.sc (.bool m),bz l]))(g2:aA L run 116 [.sc (.bool (!m)),bz l] (.sc (.string r))) :
  ∃ st,af (CC L) run k (Tryz.f120.body.getD .skip) ⟨entry 14 [.sc (.string s)],[],[]⟩=some (.ret,st)∧aZ TT st.fr st.hp Tryz.f120.results.toList=some [.sc (.string r)]:=by
 obtain⟨e1,e2⟩:=cW 13 (.sc (.string s))
 generalize entry 14 [.sc (.string s)]=fr0 at *
 unfold aA at *
 cases m <;> simp only[Bool.not_true,Bool.not_false] at g2 <;> simp[Tryz.f120,e1,e2,af,aJ,ao,aq,aH,ag,ai,aQ,aj,an,aF,aC,FP.none,aw,unP,aa,ae,ab,g1,g2,aZ]
theorem FH (L:Lst)(run:ar)(k:Nat)(s r:ByteArray)(m:Bool)(l:List Nat)(g1:aA L run 115 [.sc (.string s)] (.tup [.sc (.bool m),bz l]))(g2:aA L run 116 [.sc (.bool false),bz l] (.sc (.string r))) :
  ∃ st,af (CC L) run k (Tryz.f155.body.getD .skip) ⟨entry 12 [.sc (.string s)],[],[]⟩=some (.ret,st)∧aZ TT st.fr st.hp Tryz.f155.results.toList=some [.sc (.string r)]:=by
 obtain⟨e1,e2⟩:=cW 11 (.sc (.string s))
 generalize entry 12 [.sc (.string s)]=fr0 at *
 unfold aA at *
 simp[Tryz.f155,e1,e2,af,aJ,ao,aq,aH,ag,ai,aQ,aj,an,aF,aC,FP.none,aw,aa,ae,ab,g1,g2,aZ]
def mR:List PV→Option (List PV)
 | [p]=>match fT p with
  | some z=>some [zs (-z)]
  | none=>none
 | _=>none
def rh:List PV→Option (List PV)
 | [p]=>match fT p with
  | some z=>some [zs (Int.ofNat z.natAbs)]
  | none=>none
 | _=>none
theorem OU (z:Int):gG (!bx z) z.natAbs = -z:=by
 cases z with
 | ofNat n=>cases n <;> rfl
 | negSucc n=>rfl
theorem vr:Ab.Spec base.P 120 mR:=Ab.Spec.bQ (C:=CC LT4) (cV wY) fun args rs h=>by
 unfold mR at h
 split at h
 ·split at h
  ·rename_i z e
   obtain⟨rfl,hz⟩:=dj e
   simp only[Option.some.injEq] at h
   subst h
   have g2:=nj (runK (CC LT4) 1) (!bx z) (T.aG z.natAbs) (T.bU _) (Nat.lt_trans (Zm.aG hz) (by decide))
   rw[T.bZ,OU] at g2
   obtain⟨st,x1,x2⟩:=FK LT4 (runK (CC LT4) 1) 1 _ _ _ _ (kl _ z hz) g2
   exact⟨2,_,_,_,_,_,aX HH rfl x1 x2,rfl,Wk.refl rfl,trivial⟩
  ·cases h
 ·cases h
theorem FG:Ab.Spec base.P 155 rh:=Ab.Spec.bQ (C:=CC LT4) (cV wY) fun args rs h=>by
 unfold rh at h
 split at h
 ·split at h
  ·rename_i z e
   obtain⟨rfl,hz⟩:=dj e
   simp only[Option.some.injEq] at h
   subst h
   have g2:=nj (runK (CC LT4) 1) false (T.aG z.natAbs) (T.bU _) (Nat.lt_trans (Zm.aG hz) (by decide))
   rw[T.bZ] at g2
   obtain⟨st,x1,x2⟩:=FH LT4 (runK (CC LT4) 1) 1 _ _ _ _ (kl _ z hz) g2
   exact⟨2,_,_,_,_,_,aX HG rfl x1 x2,rfl,Wk.refl rfl,trivial⟩
  ·cases h
 ·cases h
set_option maxHeartbeats 1000000 in
theorem F0 (L:Lst)(run:ar)(k:Nat)(s t:ByteArray)(m n:Bool)(a b:List Nat)(r1 r2:Int)(g1:aA L run 115 [.sc (.string s)] (.tup [.sc (.bool m),bz a]))(g2:aA L run 115 [.sc (.string t)] (.tup [.sc (.bool n),bz b]))
  (g3:aA L run 118 [bz a,bz b] (Ab.bJ r1)) (g4:aA L run 118 [bz b,bz a] (Ab.bJ r2)) :
  ∃ st,af (CC L) run k (Tryz.f69.body.getD .skip) ⟨entry 30 [.sc (.string s),.sc (.string t)],[],[]⟩=some (.ret,st)∧aZ TT st.fr st.hp Tryz.f69.results.toList=some [Ab.bJ (if m=n then (if m=true then r2 else r1) else (if m=true then -1 else 1))]:=by
 obtain⟨e1,e2,e3⟩:=cC 28 (.sc (.string s)) (.sc (.string t))
 generalize entry 30 [.sc (.string s),.sc (.string t)]=fr0 at *
 unfold aA at *
 simp only[Ab.bJ] at *
 cases m <;> cases n <;> simp[Tryz.f69,e1,e2,e3,af,aJ,ao,aq,aH,ag,ai,aQ,aj,an,aF,aC,FP.none,bd,dE,aw,aa,ae,ab,bh,uB,g1,g2,g3,g4,aZ]
def lT:List PV→Option (List PV)
 | [p,q]=>match fT p,fT q with
  | some x,some y=>some [Ab.bJ (fF x y)]
  | _,_=>none
 | _=>none
theorem Ua (x y:Int):(if bx x=bx y then (if bx x=true then dQ y.natAbs x.natAbs else dQ x.natAbs y.natAbs) else (if bx x=true then -1 else 1))=fF x y:=by
 rw[cN,cN]
 unfold fF dQ
 by_cases hx:x<0 <;> by_cases hy:y<0 <;> simp[hx,hy]
 ·by_cases h1:x<y
  ·rw[if_pos (by omega),if_pos h1]
  ·rw[if_neg (by omega),if_neg h1]
   by_cases h2:x=y
   ·rw[if_pos (by omega),if_pos h2]
   ·rw[if_neg (by omega),if_neg h2]
 ·first | (intros;omega) | (rw[if_pos (by omega)])
 ·first | (intros;omega) | (rw[if_neg (by omega),if_neg (by omega)])
 ·by_cases h1:x<y
  ·rw[if_pos (by omega),if_pos h1]
  ·rw[if_neg (by omega),if_neg h1]
   by_cases h2:x=y
   ·rw[if_pos (by omega),if_pos h2]
   ·rw[if_neg (by omega),if_neg h2]
theorem oN:Ab.Spec base.P 69 lT:=Ab.Spec.bQ (C:=CC LT4) (cV wY) fun args rs h=>by
 unfold lT at h
 split at h
 ·split at h
  ·rename_i x y ex ey
   obtain⟨rfl,hx⟩:=dj ex
   obtain⟨rfl,hy⟩:=dj ey
   simp only[Option.some.injEq] at h
   subst h
   have hx9:=Nat.lt_trans (Zm.aG hx) (show 9000000<10000000 by decide)
   have hy9:=Nat.lt_trans (Zm.aG hy) (show 9000000<10000000 by decide)
   obtain⟨st,x1,x2⟩:=F0 LT4 (runK (CC LT4) 1) 1 _ _ _ _ _ _ _ _ (kl _ x hx) (kl _ y hy) (wu _ x.natAbs y.natAbs hx9 hy9) (wu _ y.natAbs x.natAbs hy9 hx9)
   rw[Ua] at x2
   exact⟨2,_,_,_,_,_,aX HJ rfl x1 x2,rfl,Wk.refl rfl,trivial⟩
  ·cases h
 ·cases h
set_option maxHeartbeats 1000000 in
theorem QC (L:Lst)(run:ar)(k:Nat)(s t r:ByteArray)(u v w:Int)(g1:aA L run 113 [.sc (.string s)] (.tup [Ab.bJ u,.sc (.bool true)]))(g2:aA L run 113 [.sc (.string t)] (.tup [Ab.bJ v,.sc (.bool true)]))
  (hw:bA .i64 (u+v)=w) (g3:aA L run 114 [.sc (.int .i64 w)] (.sc (.string r))) :
  ∃ st,af (CC L) run k (Tryz.f66.body.getD .skip) ⟨entry 63 [.sc (.string s),.sc (.string t)],[],[]⟩=some (.ret,st)∧aZ TT st.fr st.hp Tryz.f66.results.toList=some [.sc (.string r)]:=by
 obtain⟨e1,e2,e3⟩:=cC 61 (.sc (.string s)) (.sc (.string t))
 generalize entry 63 [.sc (.string s),.sc (.string t)]=fr0 at *
 unfold aA at *
 simp only[Ab.bJ] at *
 simp[Tryz.f66,e1,e2,e3,af,aJ,ao,aq,aH,ag,ai,aQ,aj,an,aF,aC,FP.none,bd,au,bj,aw,aa,ae,ab,g1,g2,hw,g3,aZ]
noncomputable def jv:Code:=Tryz.f66.body.getD .skip
set_option maxHeartbeats 1000000 in
theorem FI (L:Lst)(run:ar)(k:Nat)(s t:ByteArray)(u v:Int)(f1 f2:Bool)(hf:(f1 && f2)=false)(g1:aA L run 113 [.sc (.string s)] (.tup [Ab.bJ u,.sc (.bool f1)]))(g2:aA L run 113 [.sc (.string t)] (.tup [Ab.bJ v,.sc (.bool f2)])) :
  ∃ fr,aY (CC L) run k 4 jv ⟨entry 63 [.sc (.string s),.sc (.string t)],[],[]⟩=some ⟨fr,[],[]⟩∧fr.length=63∧nth fr 0 = .sc (.string s)∧nth fr 1 = .sc (.string t):=by
 obtain⟨e1,e2,e3⟩:=cC 61 (.sc (.string s)) (.sc (.string t))
 generalize entry 63 [.sc (.string s),.sc (.string t)]=fr0 at *
 unfold aA at *
 simp only[Ab.bJ] at *
 cases f1 <;> cases f2 <;> simp only[Bool.and_true,Bool.and_false,Bool.and_self,Bool.true_eq_false] at hf <;> simp[jv,Tryz.f66,aY,e1,e2,e3,af,aJ,ao,aq,aH,ag,ai,aQ,aj,an,aF,aC,FP.none,aw,aa,ae,ab,g1,g2,undef]
theorem FJ (L:Lst)(run:ar)(k:Nat)(fr:List PV)(s t:ByteArray)(m n:Bool)(a b:List Nat)(g1:aA L run 115 [.sc (.string s)] (.tup [.sc (.bool m),bz a]))(g2:aA L run 115 [.sc (.string t)] (.tup [.sc (.bool n),bz b]))
  (h63:fr.length=63) (h0:nth fr 0 = .sc (.string s)) (h1:nth fr 1 = .sc (.string t)) :
  ∃ fr',aY (CC L) run k 2 (ah 4 jv) ⟨fr,[],[]⟩=some ⟨fr',[],[]⟩∧fr'.length=63∧nth fr' 9 = .sc (.bool m)∧nth fr' 10=bz a∧nth fr' 11 = .sc (.bool n)∧nth fr' 12=bz b:=by
 unfold aA at *
 simp[jv,Tryz.f66,ah,aY,h63,h0,h1,af,aJ,ao,aq,aH,ag,ai,aQ,aj,an,aF,aC,FP.none,aa,ae,ab,g1,g2]
set_option maxHeartbeats 1000000 in
theorem QB (L:Lst)(run:ar)(k:Nat)(fr:List PV)(m:Bool)(a b c:List Nat)(r:ByteArray)(g1:aA L run 117 [bz a,bz b] (bz c))(g2:aA L run 116 [.sc (.bool m),bz c] (.sc (.string r)))
  (h63:fr.length=63) (h9:nth fr 9 = .sc (.bool m)) (h10:nth fr 10=bz a) (h11:nth fr 11 = .sc (.bool m)) (h12:nth fr 12=bz b) :
  ∃ st,af (CC L) run k (ah 6 jv) ⟨fr,[],[]⟩=some (.ret,st)∧aZ TT st.fr st.hp Tryz.f66.results.toList=some [.sc (.string r)]:=by
 unfold aA at *
 cases m <;> simp[jv,Tryz.f66,ah,h63,h9,h10,h11,h12,af,aJ,ao,aq,aH,ag,ai,aQ,aj,an,aF,aC,FP.none,bd,dE,aa,ae,ab,bh,uB,g1,g2,aZ]
set_option maxHeartbeats 1000000 in
theorem Lv (L:Lst)(run:ar)(k:Nat)(fr:List PV)(m:Bool)(a b c:List Nat)(r:ByteArray)(z:Int)(hz:z<0)(g0:aA L run 118 [bz a,bz b] (Ab.bJ z))(g1:aA L run 119 [bz b,bz a] (bz c))(g2:aA L run 116 [.sc (.bool (!m)),bz c] (.sc (.string r)))
  (h63:fr.length=63) (h9:nth fr 9 = .sc (.bool m)) (h10:nth fr 10=bz a) (h11:nth fr 11 = .sc (.bool (!m))) (h12:nth fr 12=bz b) :
  ∃ st,af (CC L) run k (ah 6 jv) ⟨fr,[],[]⟩=some (.ret,st)∧aZ TT st.fr st.hp Tryz.f66.results.toList=some [.sc (.string r)]:=by
 unfold aA at *
 simp only[Ab.bJ] at *
 cases m <;> simp only[Bool.not_true,Bool.not_false] at g2 h11 <;> simp[jv,Tryz.f66,ah,h63,h9,h10,h11,h12,af,aJ,ao,aq,aH,ag,ai,aQ,aj,an,aF,aC,FP.none,bd,au,bj,dE,aw,aa,ae,ab,bh,uB,hz,g0,g1,g2,aZ]
set_option maxHeartbeats 1000000 in
theorem Lu (L:Lst)(run:ar)(k:Nat)(fr:List PV)(m:Bool)(a b c:List Nat)(r:ByteArray)(z:Int)(hz : ¬ z<0)(g0:aA L run 118 [bz a,bz b] (Ab.bJ z))(g1:aA L run 119 [bz a,bz b] (bz c))(g2:aA L run 116 [.sc (.bool m),bz c] (.sc (.string r)))
  (h63:fr.length=63) (h9:nth fr 9 = .sc (.bool m)) (h10:nth fr 10=bz a) (h11:nth fr 11 = .sc (.bool (!m))) (h12:nth fr 12=bz b) :
  ∃ st,af (CC L) run k (ah 6 jv) ⟨fr,[],[]⟩=some (.ret,st)∧aZ TT st.fr st.hp Tryz.f66.results.toList=some [.sc (.string r)]:=by
 unfold aA at *
 simp only[Ab.bJ] at *
 cases m <;> simp only[Bool.not_true,Bool.not_false] at h11 <;> simp[jv,Tryz.f66,ah,h63,h9,h10,h11,h12,af,aJ,ao,aq,aH,ag,ai,aQ,aj,an,aF,aC,FP.none,bd,au,bj,dE,aw,aa,ae,ab,bh,uB,hz,g0,g1,g2,aZ]
def iw:List PV→Option (List PV)
 | [p,q]=>match fT p,fT q with
  | some x,some y=>some [zs (x+y)]
  | _,_=>none
 | _=>none
theorem xF {z:Int}(h:(eh z).ble 9=true) : -1000000000<z∧z<1000000000:=by
 rw[Nat.ble_eq] at h
 have:=(rL (n:=z.natAbs) (k:=9) (by omega)).1 h
 omega
theorem Og (a b:List Nat)(ha:T.Dok a)(hb:T.Dok b):T.val (xi a b)=T.val a+T.val b:=by
 unfold xi
 refine T.fi _ _ ?_
 have h1:=T.eL ha
 have h2:=T.eL hb
 have hm:=lB a b
 have h3:10 ^ a.length≤10 ^ Nat.max a.length b.length:=Nat.pow_le_pow_right (by omega) (by omega)
 have h4:10 ^ b.length≤10 ^ Nat.max a.length b.length:=Nat.pow_le_pow_right (by omega) (by omega)
 split
 ·rw[Nat.pow_succ];omega
 ·rename_i h
  rw[Nat.add_zero];omega
theorem VG (a b:List Nat):T.Dok (xi a b):=T.gp _ _
theorem Oh (a b:List Nat):(xi a b).length≤Nat.max a.length b.length+1:=by
 unfold xi
 rw[T.dn]
 split <;> omega
theorem j6 (m:Bool)(n:Nat):gG m n=if m=true then -(n:Int) else (n:Int):=by
 cases m with
 | false=>rfl
 | true=>cases n <;> rfl
theorem mQ:Ab.Spec base.P 66 iw:=Ab.Spec.bQ (C:=CC LT4) (cV wY) fun args rs h=>by
 unfold iw at h
 split at h
 ·split at h
  ·rename_i x y ex ey
   obtain⟨rfl,hx⟩:=dj ex
   obtain⟨rfl,hy⟩:=dj ey
   simp only[Option.some.injEq] at h
   subst h
   have hx9:=Nat.lt_trans (Zm.aG hx) (show 9000000<10000000 by decide)
   have hy9:=Nat.lt_trans (Zm.aG hy) (show 9000000<10000000 by decide)
   have gs1:=n9 (runK (CC LT4) 1) x hx
   have gs2:=n9 (runK (CC LT4) 1) y hy
   suffices hgo:∃ st,af (CC LT4) (runK (CC LT4) 1) 1 jv ⟨entry 63 [zs x,zs y],[],[]⟩=some (.ret,st)∧aZ TT st.fr st.hp Tryz.f66.results.toList=some [zs (x+y)] by
    obtain⟨st,x1,x2⟩:=hgo
    exact⟨2,_,_,_,_,_,aX Ea rfl x1 x2,rfl,Wk.refl rfl,trivial⟩
   have rest:∀ (u v:Int) (f1 f2:Bool),(f1 && f2)=false→aA LT4 (runK (CC LT4) 1) 113 [zs x] (.tup [Ab.bJ u,.sc (.bool f1)])→aA LT4 (runK (CC LT4) 1) 113 [zs y] (.tup [Ab.bJ v,.sc (.bool f2)]) →
     ∃ st,af (CC LT4) (runK (CC LT4) 1) 1 jv ⟨entry 63 [zs x,zs y],[],[]⟩=some (.ret,st)∧aZ TT st.fr st.hp Tryz.f66.results.toList=some [zs (x+y)]:=by
    intro u v f1 f2 hf q1 q2
    obtain⟨fr1,a1,a2,a3,a4⟩:=FI LT4 (runK (CC LT4) 1) 1 _ _ u v f1 f2 hf q1 q2
    obtain⟨fr2,b1,b2,b3,b4,b5,b6⟩:=FJ LT4 (runK (CC LT4) 1) 1 fr1 _ _ _ _ _ _ (kl _ x hx) (kl _ y hy) a2 a3 a4
    have hex:∀ {r},af (CC LT4) (runK (CC LT4) 1) 1 (ah 6 jv) ⟨fr2,[],[]⟩=r→af (CC LT4) (runK (CC LT4) 1) 1 jv ⟨entry 63 [zs x,zs y],[],[]⟩=r:=by
     intro r hr
     have e1:af (CC LT4) (runK (CC LT4) 1) 1 jv ⟨entry 63 [zs x,zs y],[],[]⟩=af (CC LT4) (runK (CC LT4) 1) 1 (ah 4 jv) ⟨fr1,[],[]⟩:=aP 4 a1
     rw[e1,aP 2 b1]
     exact hr
    by_cases hn:bx x=bx y
    ·have gt:=nj (runK (CC LT4) 1) (bx x) (xi (T.aG x.natAbs) (T.aG y.natAbs)) (VG _ _) (by
      have h1:=Oh (T.aG x.natAbs) (T.aG y.natAbs)
      have h2:=lB (T.aG x.natAbs) (T.aG y.natAbs)
      have h3:=Zm.aG hx
      have h4:=Zm.aG hy
      omega)
     rw[Og _ _ (T.bU _) (T.bU _),T.bZ,T.bZ] at gt
     have e:gG (bx x) (x.natAbs+y.natAbs)=x+y:=by
      rw[j6,cN]
      rw[cN,cN] at hn
      by_cases h1:x<0 <;> by_cases h2:y<0 <;> simp[h1,h2] at hn ⊢ <;> omega
     rw[e] at gt
     rw[← hn] at b5
     obtain⟨st,x1,x2⟩:=QB LT4 (runK (CC LT4) 1) 1 fr2 (bx x) _ _ _ _ (Zh _ x.natAbs y.natAbs hx9 hy9) gt b2 b3 b4 b5 b6
     exact⟨st,hex x1,x2⟩
    ·have hn':bx y = !bx x:=by revert hn;cases bx x <;> cases bx y <;> simp
     rw[hn'] at b5
     have gz:=wu (runK (CC LT4) 1) x.natAbs y.natAbs hx9 hy9
     by_cases hc:x.natAbs<y.natAbs
     ·have hz:dQ x.natAbs y.natAbs<0:=by unfold dQ;rw[if_pos hc];omega
      have gt:=nj (runK (CC LT4) 1) (!bx x) (T.aG (y.natAbs - x.natAbs)) (T.bU _) (by
       have:=T.cH (show y.natAbs - x.natAbs≤y.natAbs by omega)
       omega)
      rw[T.bZ] at gt
      have e:gG (!bx x) (y.natAbs - x.natAbs)=x+y:=by
       rw[j6,← hn',cN]
       rw[cN,cN] at hn
       by_cases h1:x<0 <;> by_cases h2:y<0 <;> simp[h1,h2] at hn ⊢ <;> omega
      rw[e] at gt
      obtain⟨st,x1,x2⟩:=Lv LT4 (runK (CC LT4) 1) 1 fr2 (bx x) _ _ _ _ _ hz gz (I6 _ y.natAbs x.natAbs hy9 hx9 (by omega)) gt b2 b3 b4 b5 b6
      exact⟨st,hex x1,x2⟩
     ·have hz : ¬ dQ x.natAbs y.natAbs<0:=by
       unfold dQ
       rw[if_neg hc]
       split <;> omega
      have gt:=nj (runK (CC LT4) 1) (bx x) (T.aG (x.natAbs - y.natAbs)) (T.bU _) (by
       have:=T.cH (show x.natAbs - y.natAbs≤x.natAbs by omega)
       omega)
      rw[T.bZ] at gt
      have e:gG (bx x) (x.natAbs - y.natAbs)=x+y:=by
       rw[j6,cN]
       rw[cN,cN] at hn
       by_cases h1:x<0 <;> by_cases h2:y<0 <;> simp[h1,h2] at hn ⊢ <;> omega
      rw[e] at gt
      obtain⟨st,x1,x2⟩:=Lu LT4 (runK (CC LT4) 1) 1 fr2 (bx x) _ _ _ _ _ hz gz (I6 _ x.natAbs y.natAbs hx9 hy9 (by omega)) gt b2 b3 b4 b5 b6
      exact⟨st,hex x1,x2⟩
   cases h1:(eh x).ble 9 with
   | false =>
    rw[h1] at gs1
    cases h2:(eh y).ble 9 with
    | false=>rw[h2] at gs2;exact rest _ _ false false rfl gs1 gs2
    | true=>rw[h2] at gs2;exact rest _ _ false true rfl gs1 gs2
   | true =>
    rw[h1] at gs1
    cases h2:(eh y).ble 9 with
    | false=>rw[h2] at gs2;exact rest _ _ true false rfl gs1 gs2
    | true =>
     rw[h2] at gs2
     have b1:=xF h1
     have b2:=xF h2
     exact QC LT4 (runK (CC LT4) 1) 1 _ _ _ x y (x+y) gs1 gs2 (fh _ (by omega) (by omega)) (I5 _ (x+y) (by omega) (by omega))
  ·cases h
 ·cases h
end Go.Proofs.YtjdmodeenbdfpaaGreat
