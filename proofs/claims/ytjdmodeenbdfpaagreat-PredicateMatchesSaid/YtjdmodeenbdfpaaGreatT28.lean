/- Contracts of numbers kept as digits in text, part 28 of the proof; each lemma states its own conditions. -/
import Derived.Test.YtjdmodeenbdfpaaGreatT27
set_option linter.unusedSimpArgs false
set_option linter.unusedVariables false
noncomputable section
namespace Go.Proofs.YtjdmodeenbdfpaaGreat
open Go Go.Ab List Tryz
attribute [local simp] FzZ aA aF aG aH aL aU aa ab ae af ag ah ai aj an ao aq aw az bc bd bj seq1
variable(L:Lst)(run:ar)(k:Nat)(fr:List PV)(hp:List Blk)(wr:List Nat)
def LT3:Lst:=[(116,nf)]
theorem agW:dw base.P LT3:=⟨sK,trivial⟩
theorem Em:bu LT3 116=fun a=>nf (aJ a):=rfl
def fR:Code:=f114.body.getD .skip
def lS:Code:=match cw (seq1 (ah 1 fR)) with | .cond _ a _=>a | c=>c
def sQ:Code:=(aC lS).getD .skip
def sP:Code:=(aC (ah 3 fR)).getD .skip
theorem NO(h42:fr.length=42)(h0:nth fr 0=iv 0) :
  ∃ fr',af (CC L) run k sP ⟨fr,hp,wr⟩=some (.exit 2,⟨fr',hp,wr⟩)∧fr'.length=42∧nth fr' 6=nth fr 6:=by
 simp only[iv] at h0
 simp[sP,fR,f114,aC,h42,h0]
set_option maxHeartbeats 1000000 in
theorem DP(x:Nat)(out:List Nat)(hx:0<x)(hx9:x≤9223372036854775807)(ho9:out.length<20000000)(h42:fr.length=42)(h0:nth fr 0=iv x)(hO:dF iv 0 hp out (nth fr 6)) :
  ∃ fr' hp' wr',af (CC L) run k sP ⟨fr,hp,wr⟩=some (.normal,⟨fr',hp',wr'⟩)∧fr'.length=42∧nth fr' 0=iv (x / 10)∧dF iv 0 hp' (out++[x % 10]) (nth fr' 6):=by
 obtain⟨q,hq⟩:∃ q,q=x / 10:=⟨_,rfl⟩
 obtain⟨r,hr⟩:∃ r,r=x % 10:=⟨_,rfl⟩
 obtain⟨p',hp',fp,g1,g2,-⟩:=hO.app r (by omega)
 have hq9:q≤9223372036854775807:=by rw[hq];exact Nat.le_trans (Nat.div_le_self _ _) hx9
 have hw1:bE .i64 ((x:Int) / 10)=(q:Int):=T.jQ .i64 x q hq hq9
 have hw2:=T.lO x r hr
 have hlX:eL TT 24 1 [(0,.sc (.int .i64 (r:Int)))]=some (1,[iv r]):=og r
 rw[← hq,← hr]
 simp only[iv] at h0 ⊢
 simp[sP,fR,f114,aC,and_assoc,bh,dZ,h42,h0,hx,hw1,hw2,hlX,lR,iY,uL,sI,bI,zI,cg,g1,g2]
theorem HC (L:Lst)(run:ar)(k:Nat):∀ (x:Nat) (fr:List PV) (hp:List Blk) (wr:List Nat) (out:List Nat),x≤9223372036854775807→out.length+(T.aK x).length<20000000→fr.length=42→nth fr 0=iv x→dF iv 0 hp out (nth fr 6) →
  ∃ (fr':List PV) (hp':List Blk) (wr':List Nat),cu (af (CC L) run k sP) ((T.aK x).length+1) ⟨fr,hp,wr⟩=some (.exit 2,⟨fr',hp',wr'⟩)∧fr'.length=42∧dF iv 0 hp' (out++T.aK x) (nth fr' 6):=by
 intro x
 induction x using Nat.strongRecOn with
 | _ x ih =>
  intro fr hp wr out hx9 ho9 h42 h0 hO
  by_cases h:x=0
  ·subst h
   obtain⟨fr',q1,q2,q3⟩:=NO L run k fr hp wr h42 h0
   exact⟨fr',hp,wr,by rw[T.fB];exact bD q1,q2,by rw[q3,T.fB,append_nil];exact hO⟩
  ·rw[T.eC h] at ho9 ⊢
   rw[length_cons] at ho9
   obtain⟨fr1,hp1,wr1,g1,g2,g3,g4⟩:=DP L run k fr hp wr x out (by omega) hx9 (by omega) h42 h0 hO
   obtain⟨fr',hp',wr',q1,q2,q3⟩:=ih (x / 10) (by omega) fr1 hp1 wr1 _ (Nat.le_trans (Nat.div_le_self _ _) hx9) (by simp;omega) g2 g3 g4
   exact⟨fr',hp',wr',by rw[length_cons,ct g1];exact q1,q2,by simpa using q3⟩
theorem NQ(h42:fr.length=42)(h0:nth fr 3=iv 0) :
  ∃ fr',af (CC L) run k sQ ⟨fr,hp,wr⟩=some (.exit 0,⟨fr',hp,wr⟩)∧fr'.length=42∧nth fr' 5=nth fr 5:=by
 simp only[iv] at h0
 simp[sQ,lS,fR,f114,cw,aC,h42,h0]
set_option maxHeartbeats 1000000 in
theorem DQ(x:Nat)(out:List Nat)(hx:0<x)(hx9:x≤9223372036854775807)(ho9:out.length<20000000)(h42:fr.length=42)(h0:nth fr 3=iv x)(hO:dF iv 0 hp out (nth fr 5)) :
  ∃ fr' hp' wr',af (CC L) run k sQ ⟨fr,hp,wr⟩=some (.normal,⟨fr',hp',wr'⟩)∧fr'.length=42∧nth fr' 3=iv (x / 10)∧dF iv 0 hp' (out++[x % 10]) (nth fr' 5):=by
 obtain⟨q,hq⟩:∃ q,q=x / 10:=⟨_,rfl⟩
 obtain⟨r,hr⟩:∃ r,r=x % 10:=⟨_,rfl⟩
 obtain⟨p',hp',fp,g1,g2,-⟩:=hO.app r (by omega)
 have hq9:q≤9223372036854775807:=by rw[hq];exact Nat.le_trans (Nat.div_le_self _ _) hx9
 have hw1:bE .i64 ((x:Int) / 10)=(q:Int):=T.jQ .i64 x q hq hq9
 have hw2:=T.lO x r hr
 have hlX:eL TT 24 1 [(0,.sc (.int .i64 (r:Int)))]=some (1,[iv r]):=og r
 rw[← hq,← hr]
 simp only[iv] at h0 ⊢
 simp[sQ,lS,fR,f114,cw,aC,and_assoc,bh,dZ,h42,h0,hx,hw1,hw2,hlX,lR,iY,uL,sI,bI,zI,cg,g1,g2]
theorem HE (L:Lst)(run:ar)(k:Nat):∀ (x:Nat) (fr:List PV) (hp:List Blk) (wr:List Nat) (out:List Nat),x≤9223372036854775807→out.length+(T.aK x).length<20000000→fr.length=42→nth fr 3=iv x→dF iv 0 hp out (nth fr 5) →
  ∃ (fr':List PV) (hp':List Blk) (wr':List Nat),cu (af (CC L) run k sQ) ((T.aK x).length+1) ⟨fr,hp,wr⟩=some (.exit 0,⟨fr',hp',wr'⟩)∧fr'.length=42∧dF iv 0 hp' (out++T.aK x) (nth fr' 5):=by
 intro x
 induction x using Nat.strongRecOn with
 | _ x ih =>
  intro fr hp wr out hx9 ho9 h42 h0 hO
  by_cases h:x=0
  ·subst h
   obtain⟨fr',q1,q2,q3⟩:=NQ L run k fr hp wr h42 h0
   exact⟨fr',hp,wr,by rw[T.fB];exact bD q1,q2,by rw[q3,T.fB,append_nil];exact hO⟩
  ·rw[T.eC h] at ho9 ⊢
   rw[length_cons] at ho9
   obtain⟨fr1,hp1,wr1,g1,g2,g3,g4⟩:=DQ L run k fr hp wr x out (by omega) hx9 (by omega) h42 h0 hO
   obtain⟨fr',hp',wr',q1,q2,q3⟩:=ih (x / 10) (by omega) fr1 hp1 wr1 _ (Nat.le_trans (Nat.div_le_self _ _) hx9) (by simp;omega) g2 g3 g4
   exact⟨fr',hp',wr',by rw[length_cons,ct g1];exact q1,q2,by simpa using q3⟩
def BJ:Code:=seq1 (seq1 (ah 1 fR))
theorem uj:ah 1 fR = .seq (.seq BJ (.cond (.tmp 8) lS .skip)) (ah 2 fR):=rfl
theorem DN:ah 3 fR = .seq (.block 2 (.loop sP)) (ah 4 fR):=rfl
def HF:Code:=seq1 (seq1 (ah 3 lS))
theorem DM:ah 3 lS = .seq (.seq HF (.block 0 (.loop sQ))) (ah 4 lS):=rfl
theorem Tf (L:Lst)(run:ar)(k:Nat)(z:Int) :
  ∃ fr,aX (CC L) run k 1 fR ⟨entry 42 [.sc (.int .i64 z)],[],[]⟩=some ⟨fr,[],[]⟩∧fr.length=42∧nth fr 0 = .sc (.int .i64 z):=by
 obtain⟨e1,e2⟩:=cW 41 (.sc (.int .i64 z))
 generalize entry 42 [.sc (.int .i64 z)]=fr0 at *
 simp[fR,f114,aX,e1,e2]
theorem ZT(z:Int)(h42:fr.length=42)(h0:nth fr 0 = .sc (.int .i64 z)) :
  ∃ fr',af (CC L) run k BJ ⟨fr,[],[]⟩=some (.normal,⟨fr',[],[]⟩)∧fr'.length=42∧nth fr' 0 = .sc (.int .i64 z)∧nth fr' 8 = .sc (.bool (decide (z<0))):=by
 simp[BJ,fR,f114,h42,h0]
theorem Te(h42:fr.length=42) :
  ∃ fr',aX (CC L) run k 1 (ah 2 fR) ⟨fr,[],[]⟩=some ⟨fr',[],[]⟩∧fr'.length=42∧nth fr' 0=nth fr 0∧nth fr' 6 = .sc (.slice none 0 0):=by
 simp[fR,f114,aX,h42]
theorem HB (L:Lst)(run:ar)(k:Nat)(fr:List PV)(hp hp':List Blk)(wr:List Nat)(p q:PV)(fp:FP)(h42:fr.length=42)(h6:nth fr 6=p)(hc:bX (CC L) run false hp 116 [.sc (.bool false),p]=some (q,hp',fp)) :
  ∃ st,af (CC L) run k (ah 4 fR) ⟨fr,hp,wr⟩=some (.ret,st)∧aU TT st.fr st.hp f114.results.toList=some [q]:=by
 simp[fR,f114,h42,h6,hc]
theorem HD (L:Lst)(run:ar)(k:Nat)(fr:List PV)(hp hp':List Blk)(wr:List Nat)(p q:PV)(fp:FP)(h42:fr.length=42)(h6:nth fr 5=p)(hc:bX (CC L) run false hp 116 [.sc (.bool true),p]=some (q,hp',fp)) :
  ∃ st,af (CC L) run k (ah 4 lS) ⟨fr,hp,wr⟩=some (.ret,st)∧aU TT st.fr st.hp f114.results.toList=some [q]:=by
 simp[lS,fR,cw,f114,h42,h6,hc]
set_option maxHeartbeats 1000000 in
theorem NP(z:Int)(q r:Nat)(hq:z.tdiv 10 = -(q:Int))(hr:z.tmod 10 = -(r:Int))(hq9:q≤9223372036854775807)(hr9:r<10)(h42:fr.length=42)(h0:nth fr 0 = .sc (.int .i64 z)) :
  ∃ fr' hp' wr',aX (CC L) run k 3 lS ⟨fr,[],[]⟩=some ⟨fr',hp',wr'⟩∧fr'.length=42∧nth fr' 3 = .sc (.int .i64 (-(q:Int)))∧dF iv 0 hp' [r] (nth fr' 5):=by
 obtain⟨p',hp',fp,g1,g2,-⟩:=(dF.nil (e:=iv) (b:=0) (hp:=[]) (Nat.le_refl _)).app r (by simp)
 rw[nil_append] at g2
 have hw1:bE .i64 (-(q:Int)) = -(q:Int):=fI _ (by omega) (by omega)
 have hw2:bE .i64 (r:Int)=(r:Int):=cG .i64 r (hiI (by omega))
 have hlX:eL TT 24 1 [(0,.sc (.int .i64 (r:Int)))]=some (1,[iv r]):=og r
 simp[lS,fR,f114,cw,aX,unP,and_assoc,bh,dZ,h42,h0,hq,hr,hw1,hw2,hlX,lR,iY,uL,sI,bI,zI,cg,g1,g2]
theorem ZS(q:Nat)(hq9:q≤9223372036854775807)(h42:fr.length=42)(h3:nth fr 3 = .sc (.int .i64 (-(q:Int)))) :
  ∃ fr',af (CC L) run k HF ⟨fr,hp,wr⟩=some (.normal,⟨fr',hp,wr⟩)∧fr'.length=42∧nth fr' 3=iv q∧nth fr' 5=nth fr 5:=by
 have hw2:bE .i64 (q:Int)=(q:Int):=cG .i64 q (hiI hq9)
 simp[HF,lS,fR,f114,cw,unP,h42,h3,hw2,iv]
def uk:List PV→Option (List PV)
 | [.sc (.int .i64 z)]=>bif decide (-9223372036854775808≤z) && decide (z≤9223372036854775807) then some [zs z] else none
 | _=>none
theorem uH {x:Nat}(h:x≤9223372036854775808):(T.aK x).length≤19:=T.du (Nat.lt_of_le_of_lt h (by decide))
theorem Ad:Ab.Spec base.P 114 uk:=Ab.Spec.bM (C:=CC LT3) (cP agW) fun args rs h=>by
 unfold uk at h
 split at h
 ·rename_i z
  cases hb:decide (-9223372036854775808≤z) && decide (z≤9223372036854775807) with
  | false=>rw[hb] at h;cases h
  | true =>
   rw[hb] at h
   simp only[cond_true,OiE] at h
   subst h
   simp only[Bool.and_eq_true,decide_eq_true_eq] at hb
   have htext:∀ (m:Bool) (l:List Nat),T.Dok l→l.length<10000000→nf [.sc (.bool m),mS iv l]=some [zs (ia m (T.val l))]:=by
    intro m l h1 h2
    have:=ed h1 h2
    simp only[bC] at this
    simp only[nf,this,zs,vB]
   obtain⟨f1,p1,p2,p3⟩:=Tf LT3 (runK (CC LT3) 21) 21 z
   obtain⟨f2,q1,q2,q3,q4⟩:=ZT LT3 (runK (CC LT3) 21) 21 f1 z p2 p3
   by_cases hz:z<0
   ·have hd:=uH (x:=z.natAbs) (by omega)
    have hstep:=T.eC (show z.natAbs≠0 by omega)
    have hq:z.tdiv 10 = -((z.natAbs / 10:Nat):Int):=by
     have:z = -((z.natAbs:Nat):Int):=by omega
     rw[this,Int.neg_tdiv,Int.natAbs_neg,Int.natAbs_natCast]
     congr 1
    have hr:z.tmod 10 = -((z.natAbs % 10:Nat):Int):=by
     have:z = -((z.natAbs:Nat):Int):=by omega
     rw[this,Int.neg_tmod,Int.natAbs_neg,Int.natAbs_natCast]
     congr 1
    obtain⟨f3,hp3,wr3,r1,r2,r3,r4⟩:=NP LT3 (runK (CC LT3) 21) 21 f2 z _ _ hq hr (by omega) (by omega) q2 q3
    obtain⟨f4,s1,s2,s3,s4⟩:=ZS LT3 (runK (CC LT3) 21) 21 f3 hp3 wr3 _ (by omega) r2 r3
    rw[hstep,length_cons] at hd
    obtain⟨f5,hp5,wr5,t1,t2,t3⟩:=HE LT3 (runK (CC LT3) 21) 21 (z.natAbs / 10) f4 hp3 wr3 [z.natAbs % 10] (by omega) (by simp only[length_cons,length_nil];omega) s2 s3 (by rw[s4];exact r4)
    have e:[z.natAbs % 10]++T.aK (z.natAbs / 10)=T.aK z.natAbs:=by rw[hstep];rfl
    rw[e] at t3
    obtain⟨hp6,fp,c1,-⟩:=pg kj Em (runK (CC LT3) 21) false jh true t3.s _ (htext true _ (T.cb _) (by rw[hstep,length_cons];omega))
    rw[T.cj] at c1
    have hzz:ia true z.natAbs=z:=by
     have:bA z=true:=by rw[cR];simpa using hz
     rw[← this,iG]
    rw[hzz] at c1
    obtain⟨st,x1,x2⟩:=HD LT3 (runK (CC LT3) 21) 21 f5 hp5 hp6 wr5 _ _ fp t2 rfl c1
    have hcond:decide (z<0)=true:=decide_eq_true hz
    rw[hcond] at q4
    have hx:af (CC LT3) (runK (CC LT3) 21) 21 fR ⟨entry 42 [.sc (.int .i64 z)],[],[]⟩=some (.ret,st):=by
     rw[aO 1 p1,uj]
     refine cC ?_
     rw[av q1,uE (by simpa [aj] using q4),aO 3 r1,DM,av ((av s1).trans (bN (ca t1 (by omega))))]
     exact x1
    exact⟨22,_,_,_,_,_,aP pJ rfl hx x2,rfl,Wk.refl rfl,trivial⟩
   ·have hd:=uH (x:=z.natAbs) (by omega)
    have hcond:decide (z<0)=false:=decide_eq_false hz
    rw[hcond] at q4
    obtain⟨f3,r1,r2,r3,r4⟩:=Te LT3 (runK (CC LT3) 21) 21 f2 q2
    have hzi:PV.sc (.int .i64 z)=iv z.natAbs:=by
     unfold iv
     rw[show ((z.natAbs:Nat):Int)=z by omega]
    obtain⟨f5,hp5,wr5,t1,t2,t3⟩:=HC LT3 (runK (CC LT3) 21) 21 z.natAbs f3 [] [] [] (by omega) (by simp only[length_nil];omega) r2 (by rw[r3,q3,hzi]) (by rw[r4];exact dF.nil (Nat.le_refl _))
    rw[nil_append] at t3
    obtain⟨hp6,fp,c1,-⟩:=pg kj Em (runK (CC LT3) 21) false jh false t3.s _ (htext false _ (T.cb _) (by omega))
    rw[T.cj] at c1
    have hzz:ia false z.natAbs=z:=by
     have:bA z=false:=by rw[cR];simpa using hz
     rw[← this,iG]
    rw[hzz] at c1
    obtain⟨st,x1,x2⟩:=HB LT3 (runK (CC LT3) 21) 21 f5 hp5 hp6 wr5 _ _ fp t2 rfl c1
    have hx:af (CC LT3) (runK (CC LT3) 21) 21 fR ⟨entry 42 [.sc (.int .i64 z)],[],[]⟩=some (.ret,st):=by
     rw[aO 1 p1,uj]
     have hm:af (CC LT3) (runK (CC LT3) 21) 21 (.seq BJ (.cond (.tmp 8) lS .skip)) ⟨f1,[],[]⟩=some (.normal,⟨f2,[],[]⟩):=by
      rw[av q1,uF (by simpa [aj] using q4),AM]
     rw[av hm,aO 1 r1,show ah 1 (ah 2 fR)=ah 3 fR from rfl,DN,av (bN (ca t1 (by omega)))]
     exact x1
    exact⟨22,_,_,_,_,_,aP pJ rfl hx x2,rfl,Wk.refl rfl,trivial⟩
 ·cases h
def LT4:Lst:=[(115,uo),(116,nf),(113,ue),(114,uk),(118,kX),(117,xd),(119,nR)]
theorem yy:dw base.P LT4:=⟨Ai,sK,z6,Ad,uc,Hp,xl,trivial⟩
theorem aaq:bu LT4 115=fun a=>uo (aJ a):=rfl
theorem Ek:bu LT4 116=fun a=>nf (aJ a):=rfl
theorem Ob:bu LT4 113=fun a=>ue (aJ a):=rfl
theorem aap:bu LT4 114=fun a=>uk (aJ a):=rfl
theorem TQ:bu LT4 118=fun a=>kX (aJ a):=rfl
theorem aao:bu LT4 117=fun a=>xd (aJ a):=rfl
theorem aar:bu LT4 119=fun a=>nR (aJ a):=rfl
def Zm (z:Int):Prop:=(ztx z).length≤fX
theorem Zm.lt {z:Int}(h:Zm z):(ztx z).length<9000000:=Nat.lt_of_le_of_lt h (by decide)
theorem Zm.eH {z:Int}(h:Zm z):(dtx z.natAbs).length<9000000:=by
 have h1:=h.lt
 rw[gN] at h1
 exact Nat.lt_of_le_of_lt (Nat.le_add_left _ _) h1
theorem Zm.aK {z:Int}(h:Zm z):(T.aK z.natAbs).length<9000000:=Nat.lt_of_le_of_lt (AU _) h.eH
theorem Zm.Lq {z:Int}(h:Zm z):(T.aK z.natAbs).length≤3000000:=by
 have h1:(ztx z).length≤3000000:=h
 rw[gN] at h1
 exact Nat.le_trans (AU _) (Nat.le_trans (Nat.le_add_left _ _) h1)
theorem W7 (z:Int):bys (tx (ztx z))=ztx z:=jZ (lp z)
theorem Wm (z:Int)(h:Zm z):uo [zs z]=some [.sc (.bool (bA z)),bC (T.aK z.natAbs)]:=by
 obtain⟨m,h1,h2⟩:=nG z
 have h3:(dtx z.natAbs).length.blt 9000000=true:=by rw[Nat.blt_eq];exact h.eH
 simp only[uo,zs,W7,h1,h3,cond_true,pe,h2]
theorem Bb (m:Bool)(l:List Nat)(h1:T.Dok l)(h2:l.length<10000000):nf [.sc (.bool m),bC l]=some [zs (ia m (T.val l))]:=by
 simp only[nf,ed h1 h2,zs,vB]
theorem RC (z:Int)(h:Zm z):ue [zs z]=some (bif (eH z).ble 9 then [Ab.bz z,.sc (.bool true)] else [Ab.bz 0,.sc (.bool false)]):=by
 obtain⟨m,h1,h2⟩:=nG z
 have h3:(ztx z).length.blt 100000000=true:=by rw[Nat.blt_eq];exact Nat.lt_trans h.lt (by decide)
 have h4:(dtx z.natAbs).length=eH z:=rfl
 simp only[ue,zs,W7,h1,h3,cond_true,pe,h2,iG,h4]
 cases (eH z).ble 9 <;> rfl
theorem Ft (m:Bool)(l:List Nat):aJ [.sc (.bool m),bC l]=[.sc (.bool m),bC l]:=by
 simp only[aJ,qg];rfl
theorem oz (a b:List Nat):aJ [bC a,bC b]=[bC a,bC b]:=by
 simp only[aJ,qg]
theorem ld(z:Int)(h:Zm z):au LT4 run 115 [zs z] (.tup [.sc (.bool (bA z)),bC (T.aK z.natAbs)]):=fun dr hp =>
 bw tL aaq run dr hp _ [.sc (.bool (bA z)),bC (T.aK z.natAbs)] rfl rfl (Wm z h)
theorem oo(m:Bool)(l:List Nat)(h1:T.Dok l)(h2:l.length<10000000):au LT4 run 116 [.sc (.bool m),bC l] (zs (ia m (T.val l))):=fun dr hp =>
 bw kj Ek run dr hp _ [zs (ia m (T.val l))] rfl (Ft m l) (Bb m l h1 h2)
theorem o9(z:Int)(h:Zm z):au LT4 run 113 [zs z] (.tup (bif (eH z).ble 9 then [Ab.bz z,.sc (.bool true)] else [Ab.bz 0,.sc (.bool false)])):=fun dr hp=>by
 have:=bw wz Ob run dr hp [zs z] _ rfl rfl (RC z h)
 rw[this]
 cases (eH z).ble 9 <;> rfl
theorem La(z:Int)(h1 : -9223372036854775808≤z)(h2:z≤9223372036854775807):au LT4 run 114 [.sc (.int .i64 z)] (zs z):=fun dr hp =>
 bw tM aap run dr hp _ [zs z] rfl rfl (by simp only[uk,decide_eq_true h1,decide_eq_true h2,Bool.and_self,cond_true])
theorem qV (x y:Nat):kW (T.aK x) (T.aK y)=ee x y:=by
 unfold kW
 by_cases h1:(T.aK x).length<(T.aK y).length
 ·rw[if_pos h1,ee,if_pos]
  exact Nat.lt_of_not_le fun h=>absurd (T.cK h) (by omega)
 ·rw[if_neg h1]
  by_cases h2:(T.aK y).length<(T.aK x).length
  ·have h3:y<x:=Nat.lt_of_not_le fun h=>absurd (T.cK h) (by omega)
   rw[if_pos h2,ee,if_neg (by omega),if_neg (by omega)]
  ·rw[if_neg h2,T.cj,T.cj]
theorem xZ(x y:Nat)(hx:(T.aK x).length<10000000)(hy:(T.aK y).length<10000000):au LT4 run 118 [bC (T.aK x),bC (T.aK y)] (Ab.bz (ee x y)):=fun dr hp =>
 bw zD TQ run dr hp _ [Ab.bz (ee x y)] rfl (oz _ _) (by simp only[kX,ed (T.cb x) hx,ed (T.cb y) hy,qV])
theorem ab0(x y:Nat)(hx:(T.aK x).length<10000000)(hy:(T.aK y).length<10000000):au LT4 run 117 [bC (T.aK x),bC (T.aK y)] (bC (yI (T.aK x) (T.aK y))):=fun dr hp =>
 bw Q6 aao run dr hp _ [bC (yI (T.aK x) (T.aK y))] rfl (oz _ _) (by simp only[xd,ed (T.cb x) hx,ed (T.cb y) hy])
theorem Lb (run:ar)(x y:Nat)(hx:(T.aK x).length<10000000)(hy:(T.aK y).length<10000000)(h:y≤x):au LT4 run 119 [bC (T.aK x),bC (T.aK y)] (bC (T.aK (x - y))):=fun dr hp =>
 bw zE aar run dr hp _ [bC (T.aK (x - y))] rfl (oz _ _) (by
  have h1:(T.aK y).length.ble (T.aK x).length=true:=by rw[Nat.ble_eq];exact T.cK h
  have h2:y.ble x=true:=by rw[Nat.ble_eq];exact h
  simp only[nR,ed (T.cb x) hx,ed (T.cb y) hy,T.cj,h1,h2,Bool.and_self,cond_true])
theorem HA(s r:ByteArray)(m:Bool)(l:List Nat)(g1:au L run 115 [.sc (.string s)] (.tup [.sc (.bool m),bC l]))(g2:au L run 116 [.sc (.bool (!m)),bC l] (.sc (.string r))) :
  ∃ st,af (CC L) run k (f120.body.getD .skip) ⟨entry 14 [.sc (.string s)],[],[]⟩=some (.ret,st)∧aU TT st.fr st.hp f120.results.toList=some [.sc (.string r)]:=by
 obtain⟨e1,e2⟩:=cW 13 (.sc (.string s))
 generalize entry 14 [.sc (.string s)]=fr0 at *
 unfold au at *
 cases m <;> simp only[Bool.not_true,Bool.not_false] at g2 <;> simp[f120,e1,e2,unP,g1,g2]
theorem Hx(s r:ByteArray)(m:Bool)(l:List Nat)(g1:au L run 115 [.sc (.string s)] (.tup [.sc (.bool m),bC l]))(g2:au L run 116 [.sc (.bool false),bC l] (.sc (.string r))) :
  ∃ st,af (CC L) run k (f155.body.getD .skip) ⟨entry 12 [.sc (.string s)],[],[]⟩=some (.ret,st)∧aU TT st.fr st.hp f155.results.toList=some [.sc (.string r)]:=by
 obtain⟨e1,e2⟩:=cW 11 (.sc (.string s))
 generalize entry 12 [.sc (.string s)]=fr0 at *
 unfold au at *
 simp[f155,e1,e2,g1,g2]
def nQ:List PV→Option (List PV)
 | [p]=>match fT p with
  | some z=>some [zs (-z)]
  | none=>none
 | _=>none
def sO:List PV→Option (List PV)
 | [p]=>match fT p with
  | some z=>some [zs (Int.ofNat z.natAbs)]
  | none=>none
 | _=>none
theorem RI (z:Int):ia (!bA z) z.natAbs = -z:=by
 cases z with
 | ofNat n=>cases n <;> rfl
 | negSucc n=>rfl
theorem xj:Ab.Spec base.P 120 nQ:=Ab.Spec.bM (C:=CC LT4) (cP yy) fun args rs h=>by
 unfold nQ at h
 split at h
 ·split at h
  ·rename_i z e
   obtain⟨rfl,hz⟩:=dx e
   simp only[OiE] at h
   subst h
   have g2:=oo (runK (CC LT4) 1) (!bA z) (T.aK z.natAbs) (T.cb _) (Nat.lt_trans (Zm.aK hz) (by decide))
   rw[T.cj,RI] at g2
   obtain⟨st,x1,x2⟩:=HA LT4 (runK (CC LT4) 1) 1 _ _ _ _ (ld _ z hz) g2
   exact⟨2,_,_,_,_,_,aP Jq rfl x1 x2,rfl,Wk.refl rfl,trivial⟩
  ·cases h
 ·cases h
theorem Hw:Ab.Spec base.P 155 sO:=Ab.Spec.bM (C:=CC LT4) (cP yy) fun args rs h=>by
 unfold sO at h
 split at h
 ·split at h
  ·rename_i z e
   obtain⟨rfl,hz⟩:=dx e
   simp only[OiE] at h
   subst h
   have g2:=oo (runK (CC LT4) 1) false (T.aK z.natAbs) (T.cb _) (Nat.lt_trans (Zm.aK hz) (by decide))
   rw[T.cj] at g2
   obtain⟨st,x1,x2⟩:=Hx LT4 (runK (CC LT4) 1) 1 _ _ _ _ (ld _ z hz) g2
   exact⟨2,_,_,_,_,_,aP Jp rfl x1 x2,rfl,Wk.refl rfl,trivial⟩
  ·cases h
 ·cases h
set_option maxHeartbeats 1000000 in
theorem HN(s t:ByteArray)(m n:Bool)(a b:List Nat)(r1 r2:Int)(g1:au L run 115 [.sc (.string s)] (.tup [.sc (.bool m),bC a]))(g2:au L run 115 [.sc (.string t)] (.tup [.sc (.bool n),bC b]))
  (g3:au L run 118 [bC a,bC b] (Ab.bz r1)) (g4:au L run 118 [bC b,bC a] (Ab.bz r2)) :
  ∃ st,af (CC L) run k (f69.body.getD .skip) ⟨entry 30 [.sc (.string s),.sc (.string t)],[],[]⟩=some (.ret,st)∧aU TT st.fr st.hp f69.results.toList=some [Ab.bz (if m=n then (if m=true then r2 else r1) else (if m=true then -1 else 1))]:=by
 obtain⟨e1,e2,e3⟩:=cn 28 (.sc (.string s)) (.sc (.string t))
 generalize entry 30 [.sc (.string s),.sc (.string t)]=fr0 at *
 unfold au at *
 simp only[Ab.bz] at *
 cases m <;> cases n <;> simp[f69,e1,e2,e3,dT,uB,g1,g2,g3,g4]
def mG:List PV→Option (List PV)
 | [p,q]=>match fT p,fT q with
  | some x,some y=>some [Ab.bz (fO x y)]
  | _,_=>none
 | _=>none
theorem WI (x y:Int):(if bA x=bA y then (if bA x=true then ee y.natAbs x.natAbs else ee x.natAbs y.natAbs) else (if bA x=true then -1 else 1))=fO x y:=by
 rw[cR,cR]
 unfold fO ee
 by_cases hx:x<0 <;> by_cases hy:y<0 <;> simp[hx,hy]
 ·by_cases h1:x<y
  ·rw[if_pos (by omega),if_pos h1]
  ·rw[if_neg (by omega),if_neg h1]
   by_cases h2:x=y
   ·rw[if_pos (by omega),if_pos h2]
   ·rw[if_neg (by omega),if_neg h2]
 ·first | (intros;omega) | (rw[if_pos (by omega)])
 ·first | (intros;omega) | (rw[if_neg (by omega),if_neg (by omega)])
 ·by_cases h1:x<y
  ·rw[if_pos (by omega),if_pos h1]
  ·rw[if_neg (by omega),if_neg h1]
   by_cases h2:x=y
   ·rw[if_pos (by omega),if_pos h2]
   ·rw[if_neg (by omega),if_neg h2]
theorem pQ:Ab.Spec base.P 69 mG:=Ab.Spec.bM (C:=CC LT4) (cP yy) fun args rs h=>by
 unfold mG at h
 split at h
 ·split at h
  ·rename_i x y ex ey
   obtain⟨rfl,hx⟩:=dx ex
   obtain⟨rfl,hy⟩:=dx ey
   simp only[OiE] at h
   subst h
   have hx9:=Nat.lt_trans (Zm.aK hx) (show 9000000<10000000 by decide)
   have hy9:=Nat.lt_trans (Zm.aK hy) (show 9000000<10000000 by decide)
   obtain⟨st,x1,x2⟩:=HN LT4 (runK (CC LT4) 1) 1 _ _ _ _ _ _ _ _ (ld _ x hx) (ld _ y hy) (xZ _ x.natAbs y.natAbs hx9 hy9) (xZ _ y.natAbs x.natAbs hy9 hx9)
   rw[WI] at x2
   exact⟨2,_,_,_,_,_,aP Js rfl x1 x2,rfl,Wk.refl rfl,trivial⟩
  ·cases h
 ·cases h
set_option maxHeartbeats 1000000 in
theorem Td(s t r:ByteArray)(u v w:Int)(g1:au L run 113 [.sc (.string s)] (.tup [Ab.bz u,.sc (.bool true)]))(g2:au L run 113 [.sc (.string t)] (.tup [Ab.bz v,.sc (.bool true)]))
  (hw:bE .i64 (u+v)=w) (g3:au L run 114 [.sc (.int .i64 w)] (.sc (.string r))) :
  ∃ st,af (CC L) run k (f66.body.getD .skip) ⟨entry 63 [.sc (.string s),.sc (.string t)],[],[]⟩=some (.ret,st)∧aU TT st.fr st.hp f66.results.toList=some [.sc (.string r)]:=by
 obtain⟨e1,e2,e3⟩:=cn 61 (.sc (.string s)) (.sc (.string t))
 generalize entry 63 [.sc (.string s),.sc (.string t)]=fr0 at *
 unfold au at *
 simp only[Ab.bz] at *
 simp[f66,e1,e2,e3,g1,g2,hw,g3]
def j5:Code:=f66.body.getD .skip
set_option maxHeartbeats 1000000 in
theorem Hy (L:Lst)(run:ar)(k:Nat)(s t:ByteArray)(u v:Int)(f1 f2:Bool)(hf:(f1 && f2)=false)(g1:au L run 113 [.sc (.string s)] (.tup [Ab.bz u,.sc (.bool f1)]))(g2:au L run 113 [.sc (.string t)] (.tup [Ab.bz v,.sc (.bool f2)])) :
  ∃ fr,aX (CC L) run k 4 j5 ⟨entry 63 [.sc (.string s),.sc (.string t)],[],[]⟩=some ⟨fr,[],[]⟩∧fr.length=63∧nth fr 0 = .sc (.string s)∧nth fr 1 = .sc (.string t):=by
 obtain⟨e1,e2,e3⟩:=cn 61 (.sc (.string s)) (.sc (.string t))
 generalize entry 63 [.sc (.string s),.sc (.string t)]=fr0 at *
 unfold au at *
 simp only[Ab.bz] at *
 cases f1 <;> cases f2 <;> simp only[Bool.and_true,Bool.and_false,Bool.and_self,Bool.true_eq_false] at hf <;> simp[j5,f66,aX,e1,e2,e3,g1,g2,undef]
theorem Hz(s t:ByteArray)(m n:Bool)(a b:List Nat)(g1:au L run 115 [.sc (.string s)] (.tup [.sc (.bool m),bC a]))(g2:au L run 115 [.sc (.string t)] (.tup [.sc (.bool n),bC b]))
  (h63:fr.length=63) (h0:nth fr 0 = .sc (.string s)) (h1:nth fr 1 = .sc (.string t)) :
  ∃ fr',aX (CC L) run k 2 (ah 4 j5) ⟨fr,[],[]⟩=some ⟨fr',[],[]⟩∧fr'.length=63∧nth fr' 9 = .sc (.bool m)∧nth fr' 10=bC a∧nth fr' 11 = .sc (.bool n)∧nth fr' 12=bC b:=by
 unfold au at *
 simp[j5,f66,aX,h63,h0,h1,g1,g2]
set_option maxHeartbeats 1000000 in
theorem Tc(m:Bool)(a b c:List Nat)(r:ByteArray)(g1:au L run 117 [bC a,bC b] (bC c))(g2:au L run 116 [.sc (.bool m),bC c] (.sc (.string r)))
  (h63:fr.length=63) (h9:nth fr 9 = .sc (.bool m)) (h10:nth fr 10=bC a) (h11:nth fr 11 = .sc (.bool m)) (h12:nth fr 12=bC b) :
  ∃ st,af (CC L) run k (ah 6 j5) ⟨fr,[],[]⟩=some (.ret,st)∧aU TT st.fr st.hp f66.results.toList=some [.sc (.string r)]:=by
 unfold au at *
 cases m <;> simp[j5,f66,h63,h9,h10,h11,h12,dT,uB,g1,g2]
set_option maxHeartbeats 1000000 in
theorem NN(m:Bool)(a b c:List Nat)(r:ByteArray)(z:Int)(hz:z<0)(g0:au L run 118 [bC a,bC b] (Ab.bz z))(g1:au L run 119 [bC b,bC a] (bC c))(g2:au L run 116 [.sc (.bool (!m)),bC c] (.sc (.string r)))
  (h63:fr.length=63) (h9:nth fr 9 = .sc (.bool m)) (h10:nth fr 10=bC a) (h11:nth fr 11 = .sc (.bool (!m))) (h12:nth fr 12=bC b) :
  ∃ st,af (CC L) run k (ah 6 j5) ⟨fr,[],[]⟩=some (.ret,st)∧aU TT st.fr st.hp f66.results.toList=some [.sc (.string r)]:=by
 unfold au at *
 simp only[Ab.bz] at *
 cases m <;> simp only[Bool.not_true,Bool.not_false] at g2 h11 <;> simp[j5,f66,h63,h9,h10,h11,h12,dT,uB,hz,g0,g1,g2]
set_option maxHeartbeats 1000000 in
theorem NM(m:Bool)(a b c:List Nat)(r:ByteArray)(z:Int)(hz : ¬ z<0)(g0:au L run 118 [bC a,bC b] (Ab.bz z))(g1:au L run 119 [bC a,bC b] (bC c))(g2:au L run 116 [.sc (.bool m),bC c] (.sc (.string r)))
  (h63:fr.length=63) (h9:nth fr 9 = .sc (.bool m)) (h10:nth fr 10=bC a) (h11:nth fr 11 = .sc (.bool (!m))) (h12:nth fr 12=bC b) :
  ∃ st,af (CC L) run k (ah 6 j5) ⟨fr,[],[]⟩=some (.ret,st)∧aU TT st.fr st.hp f66.results.toList=some [.sc (.string r)]:=by
 unfold au at *
 simp only[Ab.bz] at *
 cases m <;> simp only[Bool.not_true,Bool.not_false] at h11 <;> simp[j5,f66,h63,h9,h10,h11,h12,dT,uB,hz,g0,g1,g2]
def iV:List PV→Option (List PV)
 | [p,q]=>match fT p,fT q with
  | some x,some y=>some [zs (x+y)]
  | _,_=>none
 | _=>none
theorem ze {z:Int}(h:(eH z).ble 9=true) : -1000000000<z∧z<1000000000:=by
 rw[Nat.ble_eq] at h
 have:=(tk (n:=z.natAbs) (k:=9) (by omega)).1 h
 omega
theorem QK (a b:List Nat)(ha:T.Dok a)(hb:T.Dok b):T.val (yI a b)=T.val a+T.val b:=by
 unfold yI
 refine T.fA _ _ ?_
 have h1:=T.fh ha
 have h2:=T.fh hb
 have hm:=mi a b
 have h3:10 ^ a.length≤10 ^ Nat.max a.length b.length:=Nat.pow_le_pow_right (by omega) (by omega)
 have h4:10 ^ b.length≤10 ^ Nat.max a.length b.length:=Nat.pow_le_pow_right (by omega) (by omega)
 split
 ·rw[Nat.pow_succ];omega
 ·rename_i h
  rw[Nat.add_zero];omega
theorem YE (a b:List Nat):T.Dok (yI a b):=T.gU _ _
theorem QL (a b:List Nat):(yI a b).length≤Nat.max a.length b.length+1:=by
 unfold yI
 rw[T.dC]
 split <;> omega
theorem kQ (m:Bool)(n:Nat):ia m n=if m=true then -(n:Int) else (n:Int):=by
 cases m with
 | false=>rfl
 | true=>cases n <;> rfl
theorem nP:Ab.Spec base.P 66 iV:=Ab.Spec.bM (C:=CC LT4) (cP yy) fun args rs h=>by
 unfold iV at h
 split at h
 ·split at h
  ·rename_i x y ex ey
   obtain⟨rfl,hx⟩:=dx ex
   obtain⟨rfl,hy⟩:=dx ey
   simp only[OiE] at h
   subst h
   have hx9:=Nat.lt_trans (Zm.aK hx) (show 9000000<10000000 by decide)
   have hy9:=Nat.lt_trans (Zm.aK hy) (show 9000000<10000000 by decide)
   have gs1:=o9 (runK (CC LT4) 1) x hx
   have gs2:=o9 (runK (CC LT4) 1) y hy
   suffices hgo:∃ st,af (CC LT4) (runK (CC LT4) 1) 1 j5 ⟨entry 63 [zs x,zs y],[],[]⟩=some (.ret,st)∧aU TT st.fr st.hp f66.results.toList=some [zs (x+y)] by
    obtain⟨st,x1,x2⟩:=hgo
    exact⟨2,_,_,_,_,_,aP FQ rfl x1 x2,rfl,Wk.refl rfl,trivial⟩
   have rest:∀ (u v:Int) (f1 f2:Bool),(f1 && f2)=false→au LT4 (runK (CC LT4) 1) 113 [zs x] (.tup [Ab.bz u,.sc (.bool f1)])→au LT4 (runK (CC LT4) 1) 113 [zs y] (.tup [Ab.bz v,.sc (.bool f2)]) →
     ∃ st,af (CC LT4) (runK (CC LT4) 1) 1 j5 ⟨entry 63 [zs x,zs y],[],[]⟩=some (.ret,st)∧aU TT st.fr st.hp f66.results.toList=some [zs (x+y)]:=by
    intro u v f1 f2 hf q1 q2
    obtain⟨fr1,a1,a2,a3,a4⟩:=Hy LT4 (runK (CC LT4) 1) 1 _ _ u v f1 f2 hf q1 q2
    obtain⟨fr2,b1,b2,b3,b4,b5,b6⟩:=Hz LT4 (runK (CC LT4) 1) 1 fr1 _ _ _ _ _ _ (ld _ x hx) (ld _ y hy) a2 a3 a4
    have hex:∀ {r},af (CC LT4) (runK (CC LT4) 1) 1 (ah 6 j5) ⟨fr2,[],[]⟩=r→af (CC LT4) (runK (CC LT4) 1) 1 j5 ⟨entry 63 [zs x,zs y],[],[]⟩=r:=by
     intro r hr
     have e1:af (CC LT4) (runK (CC LT4) 1) 1 j5 ⟨entry 63 [zs x,zs y],[],[]⟩=af (CC LT4) (runK (CC LT4) 1) 1 (ah 4 j5) ⟨fr1,[],[]⟩:=aO 4 a1
     rw[e1,aO 2 b1]
     exact hr
    by_cases hn:bA x=bA y
    ·have gt:=oo (runK (CC LT4) 1) (bA x) (yI (T.aK x.natAbs) (T.aK y.natAbs)) (YE _ _) (by
      have h1:=QL (T.aK x.natAbs) (T.aK y.natAbs)
      have h2:=mi (T.aK x.natAbs) (T.aK y.natAbs)
      have h3:=Zm.aK hx
      have h4:=Zm.aK hy
      omega)
     rw[QK _ _ (T.cb _) (T.cb _),T.cj,T.cj] at gt
     have e:ia (bA x) (x.natAbs+y.natAbs)=x+y:=by
      rw[kQ,cR]
      rw[cR,cR] at hn
      by_cases h1:x<0 <;> by_cases h2:y<0 <;> simp[h1,h2] at hn ⊢ <;> omega
     rw[e] at gt
     rw[← hn] at b5
     obtain⟨st,x1,x2⟩:=Tc LT4 (runK (CC LT4) 1) 1 fr2 (bA x) _ _ _ _ (ab0 _ x.natAbs y.natAbs hx9 hy9) gt b2 b3 b4 b5 b6
     exact⟨st,hex x1,x2⟩
    ·have hn':bA y = !bA x:=by revert hn;cases bA x <;> cases bA y <;> simp
     rw[hn'] at b5
     have gz:=xZ (runK (CC LT4) 1) x.natAbs y.natAbs hx9 hy9
     by_cases hc:x.natAbs<y.natAbs
     ·have hz:ee x.natAbs y.natAbs<0:=by unfold ee;rw[if_pos hc];omega
      have gt:=oo (runK (CC LT4) 1) (!bA x) (T.aK (y.natAbs - x.natAbs)) (T.cb _) (by
       have:=T.cK (show y.natAbs - x.natAbs≤y.natAbs by omega)
       omega)
      rw[T.cj] at gt
      have e:ia (!bA x) (y.natAbs - x.natAbs)=x+y:=by
       rw[kQ,← hn',cR]
       rw[cR,cR] at hn
       by_cases h1:x<0 <;> by_cases h2:y<0 <;> simp[h1,h2] at hn ⊢ <;> omega
      rw[e] at gt
      obtain⟨st,x1,x2⟩:=NN LT4 (runK (CC LT4) 1) 1 fr2 (bA x) _ _ _ _ _ hz gz (Lb _ y.natAbs x.natAbs hy9 hx9 (by omega)) gt b2 b3 b4 b5 b6
      exact⟨st,hex x1,x2⟩
     ·have hz : ¬ ee x.natAbs y.natAbs<0:=by
       unfold ee
       rw[if_neg hc]
       split <;> omega
      have gt:=oo (runK (CC LT4) 1) (bA x) (T.aK (x.natAbs - y.natAbs)) (T.cb _) (by
       have:=T.cK (show x.natAbs - y.natAbs≤x.natAbs by omega)
       omega)
      rw[T.cj] at gt
      have e:ia (bA x) (x.natAbs - y.natAbs)=x+y:=by
       rw[kQ,cR]
       rw[cR,cR] at hn
       by_cases h1:x<0 <;> by_cases h2:y<0 <;> simp[h1,h2] at hn ⊢ <;> omega
      rw[e] at gt
      obtain⟨st,x1,x2⟩:=NM LT4 (runK (CC LT4) 1) 1 fr2 (bA x) _ _ _ _ _ hz gz (Lb _ x.natAbs y.natAbs hx9 hy9 (by omega)) gt b2 b3 b4 b5 b6
      exact⟨st,hex x1,x2⟩
   cases h1:(eH x).ble 9 with
   | false =>
    rw[h1] at gs1
    cases h2:(eH y).ble 9 with
    | false=>rw[h2] at gs2;exact rest _ _ false false rfl gs1 gs2
    | true=>rw[h2] at gs2;exact rest _ _ false true rfl gs1 gs2
   | true =>
    rw[h1] at gs1
    cases h2:(eH y).ble 9 with
    | false=>rw[h2] at gs2;exact rest _ _ true false rfl gs1 gs2
    | true =>
     rw[h2] at gs2
     have b1:=ze h1
     have b2:=ze h2
     exact Td LT4 (runK (CC LT4) 1) 1 _ _ _ x y (x+y) gs1 gs2 (fI _ (by omega) (by omega)) (La _ (x+y) (by omega) (by omega))
  ·cases h
 ·cases h
end Go.Proofs.YtjdmodeenbdfpaaGreat
end
