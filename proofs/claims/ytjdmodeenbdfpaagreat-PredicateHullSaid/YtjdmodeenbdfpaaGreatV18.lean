/- Contracts of numbers kept as digits in text, part 18; each lemma states its conditions. -/
import Derived.Test.YtjdmodeenbdfpaaGreatV17
set_option linter.unusedSimpArgs false
set_option linter.unusedVariables false
noncomputable section
namespace Go.Proofs.YtjdmodeenbdfpaaGreat
open Go Go.Ab List Tryz
attribute [local simp] FzZ aC aF aG aH aZ aa ab ae af ag ah ai aj an ao aq au av bL bc bf seq1
variable(L:Lst)(run:aw)(k:Nat)(fr:Ψ)(hp:Θ)(wr:Ω)
def LT3:Lst:=[(116,nB)]
theorem aie:dE base.P LT3:=⟨sY,trivial⟩
theorem ES:bx LT3 116=fun a=>nB (aK a):=rfl
def fM:Code:=f114.body.getD .skip
def lV:Code:=match aQ (seq1 (ai 1 fM)) with | .cond _ a _=>a | c=>c
def tc:Code:=(aA lV).getD .skip
def tb:Code:=(aA (ai 3 fM)).getD .skip
theorem Ow(h42:fr.length=42)(h0:nth fr 0=iv 0) :
  ∃ fr',ae (CC L) run k tb ⟨fr,hp,wr⟩=some (.exit 2,⟨fr',hp,wr⟩)∧fr'.length=42∧nth fr' 6=nth fr 6:=by
 simp only[iv] at h0
 simp[tb,fM,f114,aA,h42,h0]
set_option maxHeartbeats 1000000 in
theorem Es(x:Nat)(out:Ω)(hx:0<x)(hx9:x≤9223372036854775807)(ho9:out.length<20000000)(h42:fr.length=42)(h0:nth fr 0=iv x)(hO:dt iv 0 hp out (nth fr 6)) :
  ∃ fr' hp' wr',ae (CC L) run k tb ⟨fr,hp,wr⟩=some (.normal,⟨fr',hp',wr'⟩)∧fr'.length=42∧nth fr' 0=iv (x / 10)∧dt iv 0 hp' (out++[x % 10]) (nth fr' 6):=by
 obtain⟨q,hq⟩:∃ q,q=x / 10:=⟨_,rfl⟩
 obtain⟨r,hr⟩:∃ r,r=x % 10:=⟨_,rfl⟩
 obtain⟨p',hp',fp,g1,g2,-⟩:=hO.app r (by omega)
 have hq9:q≤9223372036854775807:=by rw[hq];exact Nat.le_trans (Nat.div_le_self _ _) hx9
 have hw1:bA .i64 ((x:Int) / 10)=(q:Int):=T.jO .i64 x q hq hq9
 have hw2:=T.lQ x r hr
 have hlX:fY TT 24 1 [(0,.sc (.int .i64 (r:Int)))]=some (1,[iv r]):=nG r
 rw[← hq,← hr]
 simp only[iv] at h0 ⊢
 simp[tb,fM,f114,aA,and_assoc,bg,dQ,h42,h0,hx,hw1,hw2,hlX,lT,iW,uL,sI,bI,zI,ch,g1,g2]
theorem Ib (L:Lst)(run:aw)(k:Nat):∀ (x:Nat) (fr:Ψ) (hp:Θ) (wr:Ω) (out:Ω),x≤9223372036854775807→out.length+(T.aJ x).length<20000000→fr.length=42→nth fr 0=iv x→dt iv 0 hp out (nth fr 6) →
  ∃ (fr':Ψ) (hp':Θ) (wr':Ω),cb (ae (CC L) run k tb) ((T.aJ x).length+1) ⟨fr,hp,wr⟩=some (.exit 2,⟨fr',hp',wr'⟩)∧fr'.length=42∧dt iv 0 hp' (out++T.aJ x) (nth fr' 6):=by
 intro x
 induction x using Nat.strongRecOn with
 | _ x ih =>
  intro fr hp wr out hx9 ho9 h42 h0 hO
  by_cases h:x=0
  ·subst h
   obtain⟨fr',q1,q2,q3⟩:=Ow L run k fr hp wr h42 h0
   exact⟨fr',hp,wr,by rw[T.fq];exact bu q1,q2,by rw[q3,T.fq,append_nil];exact hO⟩
  ·rw[T.dZ h] at ho9 ⊢
   rw[length_cons] at ho9
   obtain⟨fr1,hp1,wr1,g1,g2,g3,g4⟩:=Es L run k fr hp wr x out (by omega) hx9 (by omega) h42 h0 hO
   obtain⟨fr',hp',wr',q1,q2,q3⟩:=ih (x / 10) (by omega) fr1 hp1 wr1 _ (Nat.le_trans (Nat.div_le_self _ _) hx9) (by simp;omega) g2 g3 g4
   exact⟨fr',hp',wr',by rw[length_cons,bT g1];exact q1,q2,by simpa using q3⟩
theorem Oy(h42:fr.length=42)(h0:nth fr 3=iv 0) :
  ∃ fr',ae (CC L) run k tc ⟨fr,hp,wr⟩=some (.exit 0,⟨fr',hp,wr⟩)∧fr'.length=42∧nth fr' 5=nth fr 5:=by
 simp only[iv] at h0
 simp[tc,lV,fM,f114,aQ,aA,h42,h0]
set_option maxHeartbeats 1000000 in
theorem Et(x:Nat)(out:Ω)(hx:0<x)(hx9:x≤9223372036854775807)(ho9:out.length<20000000)(h42:fr.length=42)(h0:nth fr 3=iv x)(hO:dt iv 0 hp out (nth fr 5)) :
  ∃ fr' hp' wr',ae (CC L) run k tc ⟨fr,hp,wr⟩=some (.normal,⟨fr',hp',wr'⟩)∧fr'.length=42∧nth fr' 3=iv (x / 10)∧dt iv 0 hp' (out++[x % 10]) (nth fr' 5):=by
 obtain⟨q,hq⟩:∃ q,q=x / 10:=⟨_,rfl⟩
 obtain⟨r,hr⟩:∃ r,r=x % 10:=⟨_,rfl⟩
 obtain⟨p',hp',fp,g1,g2,-⟩:=hO.app r (by omega)
 have hq9:q≤9223372036854775807:=by rw[hq];exact Nat.le_trans (Nat.div_le_self _ _) hx9
 have hw1:bA .i64 ((x:Int) / 10)=(q:Int):=T.jO .i64 x q hq hq9
 have hw2:=T.lQ x r hr
 have hlX:fY TT 24 1 [(0,.sc (.int .i64 (r:Int)))]=some (1,[iv r]):=nG r
 rw[← hq,← hr]
 simp only[iv] at h0 ⊢
 simp[tc,lV,fM,f114,aQ,aA,and_assoc,bg,dQ,h42,h0,hx,hw1,hw2,hlX,lT,iW,uL,sI,bI,zI,ch,g1,g2]
theorem Ie (L:Lst)(run:aw)(k:Nat):∀ (x:Nat) (fr:Ψ) (hp:Θ) (wr:Ω) (out:Ω),x≤9223372036854775807→out.length+(T.aJ x).length<20000000→fr.length=42→nth fr 3=iv x→dt iv 0 hp out (nth fr 5) →
  ∃ (fr':Ψ) (hp':Θ) (wr':Ω),cb (ae (CC L) run k tc) ((T.aJ x).length+1) ⟨fr,hp,wr⟩=some (.exit 0,⟨fr',hp',wr'⟩)∧fr'.length=42∧dt iv 0 hp' (out++T.aJ x) (nth fr' 5):=by
 intro x
 induction x using Nat.strongRecOn with
 | _ x ih =>
  intro fr hp wr out hx9 ho9 h42 h0 hO
  by_cases h:x=0
  ·subst h
   obtain⟨fr',q1,q2,q3⟩:=Oy L run k fr hp wr h42 h0
   exact⟨fr',hp,wr,by rw[T.fq];exact bu q1,q2,by rw[q3,T.fq,append_nil];exact hO⟩
  ·rw[T.dZ h] at ho9 ⊢
   rw[length_cons] at ho9
   obtain⟨fr1,hp1,wr1,g1,g2,g3,g4⟩:=Et L run k fr hp wr x out (by omega) hx9 (by omega) h42 h0 hO
   obtain⟨fr',hp',wr',q1,q2,q3⟩:=ih (x / 10) (by omega) fr1 hp1 wr1 _ (Nat.le_trans (Nat.div_le_self _ _) hx9) (by simp;omega) g2 g3 g4
   exact⟨fr',hp',wr',by rw[length_cons,bT g1];exact q1,q2,by simpa using q3⟩
def B7:Code:=seq1 (seq1 (ai 1 fM))
theorem uv:ai 1 fM = .seq (.seq B7 (.cond (.tmp 8) lV .skip)) (ai 2 fM):=rfl
theorem Er:ai 3 fM = .seq (.block 2 (.loop tb)) (ai 4 fM):=rfl
def Ig:Code:=seq1 (seq1 (ai 3 lV))
theorem Ep:ai 3 lV = .seq (.seq Ig (.block 0 (.loop tc))) (ai 4 lV):=rfl
theorem Uq (L:Lst)(run:aw)(k:Nat)(z:Int) :
  ∃ fr,bh (CC L) run k 1 fM ⟨entry 42 [.sc (.int .i64 z)],[],[]⟩=some ⟨fr,[],[]⟩∧fr.length=42∧nth fr 0 = .sc (.int .i64 z):=by
 obtain⟨e1,e2⟩:=cO 41 (.sc (.int .i64 z))
 generalize entry 42 [.sc (.int .i64 z)]=fr0 at *
 simp[fM,f114,bh,e1,e2]
theorem abj(z:Int)(h42:fr.length=42)(h0:nth fr 0 = .sc (.int .i64 z)) :
  ∃ fr',ae (CC L) run k B7 ⟨fr,[],[]⟩=some (.normal,⟨fr',[],[]⟩)∧fr'.length=42∧nth fr' 0 = .sc (.int .i64 z)∧nth fr' 8 = .sc (.bool (decide (z<0))):=by
 simp[B7,fM,f114,h42,h0]
theorem Up(h42:fr.length=42) :
  ∃ fr',bh (CC L) run k 1 (ai 2 fM) ⟨fr,[],[]⟩=some ⟨fr',[],[]⟩∧fr'.length=42∧nth fr' 0=nth fr 0∧nth fr' 6 = .sc (.slice none 0 0):=by
 simp[fM,f114,bh,h42]
theorem Ia (L:Lst)(run:aw)(k:Nat)(fr:Ψ)(hp hp':Θ)(wr:Ω)(p q:PV)(fp:FP)(h42:fr.length=42)(h6:nth fr 6=p)(hc:bP (CC L) run false hp 116 [.sc (.bool false),p]=some (q,hp',fp)) :
  ∃ st,ae (CC L) run k (ai 4 fM) ⟨fr,hp,wr⟩=some (.ret,st)∧aX TT st.fr st.hp f114.results.toList=some [q]:=by
 simp[fM,f114,aM,h42,h6,hc,aX]
theorem Ic (L:Lst)(run:aw)(k:Nat)(fr:Ψ)(hp hp':Θ)(wr:Ω)(p q:PV)(fp:FP)(h42:fr.length=42)(h6:nth fr 5=p)(hc:bP (CC L) run false hp 116 [.sc (.bool true),p]=some (q,hp',fp)) :
  ∃ st,ae (CC L) run k (ai 4 lV) ⟨fr,hp,wr⟩=some (.ret,st)∧aX TT st.fr st.hp f114.results.toList=some [q]:=by
 simp[lV,fM,aQ,f114,aM,h42,h6,hc,aX]
set_option maxHeartbeats 1000000 in
theorem Ox(z:Int)(q r:Nat)(hq:z.tdiv 10 = -(q:Int))(hr:z.tmod 10 = -(r:Int))(hq9:q≤9223372036854775807)(hr9:r<10)(h42:fr.length=42)(h0:nth fr 0 = .sc (.int .i64 z)) :
  ∃ fr' hp' wr',bh (CC L) run k 3 lV ⟨fr,[],[]⟩=some ⟨fr',hp',wr'⟩∧fr'.length=42∧nth fr' 3 = .sc (.int .i64 (-(q:Int)))∧dt iv 0 hp' [r] (nth fr' 5):=by
 obtain⟨p',hp',fp,g1,g2,-⟩:=(dt.nil (e:=iv) (b:=0) (hp:=[]) (Nat.le_refl _)).app r (by simp)
 rw[nil_append] at g2
 have hw1:bA .i64 (-(q:Int)) = -(q:Int):=fm _ (by omega) (by omega)
 have hw2:bA .i64 (r:Int)=(r:Int):=cq .i64 r (hiI (by omega))
 have hlX:fY TT 24 1 [(0,.sc (.int .i64 (r:Int)))]=some (1,[iv r]):=nG r
 simp[lV,fM,f114,aQ,bh,unP,and_assoc,bg,dQ,h42,h0,hq,hr,hw1,hw2,hlX,lT,iW,uL,sI,bI,zI,ch,g1,g2]
theorem abi(q:Nat)(hq9:q≤9223372036854775807)(h42:fr.length=42)(h3:nth fr 3 = .sc (.int .i64 (-(q:Int)))) :
  ∃ fr',ae (CC L) run k Ig ⟨fr,hp,wr⟩=some (.normal,⟨fr',hp,wr⟩)∧fr'.length=42∧nth fr' 3=iv q∧nth fr' 5=nth fr 5:=by
 have hw2:bA .i64 (q:Int)=(q:Int):=cq .i64 q (hiI hq9)
 simp[Ig,lV,fM,f114,aQ,unP,h42,h3,hw2,iv]
def uw:Ψ→Option Ψ
 | [.sc (.int .i64 z)]=>bif decide (-9223372036854775808≤z) && decide (z≤9223372036854775807) then some [zs z] else none
 | _=>none
theorem uO {x:Nat}(h:x≤9223372036854775808):(T.aJ x).length≤19:=T.df (Nat.lt_of_le_of_lt h (by decide))
theorem Aq:Ab.Spec base.P 114 uw:=Ab.Spec.bS (C:=CC LT3) (cR aie) fun args rs h=>by
 unfold uw at h
 split at h
 ·rename_i z
  cases hb:decide (-9223372036854775808≤z) && decide (z≤9223372036854775807) with
  | false=>rw[hb] at h;cases h
  | true =>
   rw[hb] at h
   simp only[cond_true,OiE] at h
   subst h
   simp only[Bool.and_eq_true,decide_eq_true_eq] at hb
   have htext:∀ (m:Bool) (l:Ω),T.Dok l→l.length<10000000→nB [.sc (.bool m),mX iv l]=some [zs (gM m (T.val l))]:=by
    intro m l h1 h2
    have:=dR h1 h2
    simp only[bC] at this
    simp only[nB,this,zs,vI]
   obtain⟨f1,p1,p2,p3⟩:=Uq LT3 (runK (CC LT3) 21) 21 z
   obtain⟨f2,q1,q2,q3,q4⟩:=abj LT3 (runK (CC LT3) 21) 21 f1 z p2 p3
   by_cases hz:z<0
   ·have hd:=uO (x:=z.natAbs) (by omega)
    have hstep:=T.dZ (show z.natAbs≠0 by omega)
    have hq:z.tdiv 10 = -((z.natAbs / 10:Nat):Int):=by
     have:z = -((z.natAbs:Nat):Int):=by omega
     rw[this,Int.neg_tdiv,Int.natAbs_neg,Int.natAbs_natCast]
     congr 1
    have hr:z.tmod 10 = -((z.natAbs % 10:Nat):Int):=by
     have:z = -((z.natAbs:Nat):Int):=by omega
     rw[this,Int.neg_tmod,Int.natAbs_neg,Int.natAbs_natCast]
     congr 1
    obtain⟨f3,hp3,wr3,r1,r2,r3,r4⟩:=Ox LT3 (runK (CC LT3) 21) 21 f2 z _ _ hq hr (by omega) (by omega) q2 q3
    obtain⟨f4,s1,s2,s3,s4⟩:=abi LT3 (runK (CC LT3) 21) 21 f3 hp3 wr3 _ (by omega) r2 r3
    rw[hstep,length_cons] at hd
    obtain⟨f5,hp5,wr5,t1,t2,t3⟩:=Ie LT3 (runK (CC LT3) 21) 21 (z.natAbs / 10) f4 hp3 wr3 [z.natAbs % 10] (by omega) (by simp only[length_cons,length_nil];omega) s2 s3 (by rw[s4];exact r4)
    have e:[z.natAbs % 10]++T.aJ (z.natAbs / 10)=T.aJ z.natAbs:=by rw[hstep];rfl
    rw[e] at t3
    obtain⟨hp6,fp,c1,-⟩:=pz kg ES (runK (CC LT3) 21) false jl true t3.s _ (htext true _ (T.bU _) (by rw[hstep,length_cons];omega))
    rw[T.bX] at c1
    have hzz:gM true z.natAbs=z:=by
     have:bz z=true:=by rw[cL];simpa using hz
     rw[← this,iq]
    rw[hzz] at c1
    obtain⟨st,x1,x2⟩:=Ic LT3 (runK (CC LT3) 21) 21 f5 hp5 hp6 wr5 _ _ fp t2 rfl c1
    have hcond:decide (z<0)=true:=decide_eq_true hz
    rw[hcond] at q4
    have hx:ae (CC LT3) (runK (CC LT3) 21) 21 fM ⟨entry 42 [.sc (.int .i64 z)],[],[]⟩=some (.ret,st):=by
     rw[aY 1 p1,uv]
     refine bO ?_
     rw[ar q1,uM (by simpa [aj] using q4),aY 3 r1,Ep,ar ((ar s1).trans (bE (bK t1 (by omega))))]
     exact x1
    exact⟨22,_,_,_,_,_,ba pQ rfl hx x2,rfl,Wk.refl rfl,trivial⟩
   ·have hd:=uO (x:=z.natAbs) (by omega)
    have hcond:decide (z<0)=false:=decide_eq_false hz
    rw[hcond] at q4
    obtain⟨f3,r1,r2,r3,r4⟩:=Up LT3 (runK (CC LT3) 21) 21 f2 q2
    have hzi:PV.sc (.int .i64 z)=iv z.natAbs:=by
     unfold iv
     rw[show ((z.natAbs:Nat):Int)=z by omega]
    obtain⟨f5,hp5,wr5,t1,t2,t3⟩:=Ib LT3 (runK (CC LT3) 21) 21 z.natAbs f3 [] [] [] (by omega) (by simp only[length_nil];omega) r2 (by rw[r3,q3,hzi]) (by rw[r4];exact dt.nil (Nat.le_refl _))
    rw[nil_append] at t3
    obtain⟨hp6,fp,c1,-⟩:=pz kg ES (runK (CC LT3) 21) false jl false t3.s _ (htext false _ (T.bU _) (by omega))
    rw[T.bX] at c1
    have hzz:gM false z.natAbs=z:=by
     have:bz z=false:=by rw[cL];simpa using hz
     rw[← this,iq]
    rw[hzz] at c1
    obtain⟨st,x1,x2⟩:=Ia LT3 (runK (CC LT3) 21) 21 f5 hp5 hp6 wr5 _ _ fp t2 rfl c1
    have hx:ae (CC LT3) (runK (CC LT3) 21) 21 fM ⟨entry 42 [.sc (.int .i64 z)],[],[]⟩=some (.ret,st):=by
     rw[aY 1 p1,uv]
     have hm:ae (CC LT3) (runK (CC LT3) 21) 21 (.seq B7 (.cond (.tmp 8) lV .skip)) ⟨f1,[],[]⟩=some (.normal,⟨f2,[],[]⟩):=by
      rw[ar q1,uN (by simpa [aj] using q4),A5]
     rw[ar hm,aY 1 r1,show ai 1 (ai 2 fM)=ai 3 fM from rfl,Er,ar (bE (bK t1 (by omega)))]
     exact x1
    exact⟨22,_,_,_,_,_,ba pQ rfl hx x2,rfl,Wk.refl rfl,trivial⟩
 ·cases h
def LT4:Lst:=[(115,uA),(116,nB),(113,uo),(114,uw),(118,kW),(117,xd),(119,nX)]
theorem yK:dE base.P LT4:=⟨Aw,sY,Al,Aq,uk,HO,xp,trivial⟩
theorem abV:bx LT4 115=fun a=>uA (aK a):=rfl
theorem ER:bx LT4 116=fun a=>nB (aK a):=rfl
theorem OX:bx LT4 113=fun a=>uo (aK a):=rfl
theorem abU:bx LT4 114=fun a=>uw (aK a):=rfl
theorem U8:bx LT4 118=fun a=>kW (aK a):=rfl
theorem abT:bx LT4 117=fun a=>xd (aK a):=rfl
theorem abW:bx LT4 119=fun a=>nX (aK a):=rfl
def Zm (z:Int):Prop:=(ztx z).length≤eQ
theorem Zm.lt {z:Int}(h:Zm z):(ztx z).length<9000000:=Nat.lt_of_le_of_lt h (by decide)
theorem Zm.dT {z:Int}(h:Zm z):(dtx z.natAbs).length<9000000:=by
 have h1:=h.lt
 rw[gr] at h1
 exact Nat.lt_of_le_of_lt (Nat.le_add_left _ _) h1
theorem Zm.aJ {z:Int}(h:Zm z):(T.aJ z.natAbs).length<9000000:=Nat.lt_of_le_of_lt (Bb _) h.dT
theorem Zm.Mz {z:Int}(h:Zm z):(T.aJ z.natAbs).length≤3000000:=by
 have h1:(ztx z).length≤3000000:=h
 rw[gr] at h1
 exact Nat.le_trans (Bb _) (Nat.le_trans (Nat.le_add_left _ _) h1)
theorem YJ (z:Int):bys (tx (ztx z))=ztx z:=jW (lq z)
theorem XJ (z:Int)(h:Zm z):uA [zs z]=some [.sc (.bool (bz z)),bC (T.aJ z.natAbs)]:=by
 obtain⟨m,h1,h2⟩:=nP z
 have h3:(dtx z.natAbs).length.blt 9000000=true:=by rw[Nat.blt_eq];exact h.dT
 simp only[uA,zs,YJ,h1,h3,cond_true,pt,h2]
theorem BB (m:Bool)(l:Ω)(h1:T.Dok l)(h2:l.length<10000000):nB [.sc (.bool m),bC l]=some [zs (gM m (T.val l))]:=by
 simp only[nB,dR h1 h2,zs,vI]
theorem SL (z:Int)(h:Zm z):uo [zs z]=some (bif (dT z).ble 9 then [Ab.bN z,.sc (.bool true)] else [Ab.bN 0,.sc (.bool false)]):=by
 obtain⟨m,h1,h2⟩:=nP z
 have h3:(ztx z).length.blt 100000000=true:=by rw[Nat.blt_eq];exact Nat.lt_trans h.lt (by decide)
 have h4:(dtx z.natAbs).length=dT z:=rfl
 simp only[uo,zs,YJ,h1,h3,cond_true,pt,h2,iq,h4]
 cases (dT z).ble 9 <;> rfl
theorem F5 (m:Bool)(l:Ω):aK [.sc (.bool m),bC l]=[.sc (.bool m),bC l]:=by
 simp only[aK,qo];rfl
theorem oD (a b:Ω):aK [bC a,bC b]=[bC a,bC b]:=by
 simp only[aK,qo]
theorem ld(z:Int)(h:Zm z):az LT4 run 115 [zs z] (.tup [.sc (.bool (bz z)),bC (T.aJ z.natAbs)]):=fun dr hp =>
 bt tR abV run dr hp _ [.sc (.bool (bz z)),bC (T.aJ z.natAbs)] rfl rfl (XJ z h)
theorem ou(m:Bool)(l:Ω)(h1:T.Dok l)(h2:l.length<10000000):az LT4 run 116 [.sc (.bool m),bC l] (zs (gM m (T.val l))):=fun dr hp =>
 bt kg ER run dr hp _ [zs (gM m (T.val l))] rfl (F5 m l) (BB m l h1 h2)
theorem pk(z:Int)(h:Zm z):az LT4 run 113 [zs z] (.tup (bif (dT z).ble 9 then [Ab.bN z,.sc (.bool true)] else [Ab.bN 0,.sc (.bool false)])):=fun dr hp=>by
 have:=bt wE OX run dr hp [zs z] _ rfl rfl (SL z h)
 rw[this]
 cases (dT z).ble 9 <;> rfl
theorem Mj(z:Int)(h1 : -9223372036854775808≤z)(h2:z≤9223372036854775807):az LT4 run 114 [.sc (.int .i64 z)] (zs z):=fun dr hp =>
 bt tS abU run dr hp _ [zs z] rfl rfl (by simp only[uw,decide_eq_true h1,decide_eq_true h2,Bool.and_self,cond_true])
theorem rf (x y:Nat):kV (T.aJ x) (T.aJ y)=dS x y:=by
 unfold kV
 by_cases h1:(T.aJ x).length<(T.aJ y).length
 ·rw[if_pos h1,dS,if_pos]
  exact Nat.lt_of_not_le fun h=>absurd (T.cC h) (by omega)
 ·rw[if_neg h1]
  by_cases h2:(T.aJ y).length<(T.aJ x).length
  ·have h3:y<x:=Nat.lt_of_not_le fun h=>absurd (T.cC h) (by omega)
   rw[if_pos h2,dS,if_neg (by omega),if_neg (by omega)]
  ·rw[if_neg h2,T.bX,T.bX]
theorem yc(x y:Nat)(hx:(T.aJ x).length<10000000)(hy:(T.aJ y).length<10000000):az LT4 run 118 [bC (T.aJ x),bC (T.aJ y)] (Ab.bN (dS x y)):=fun dr hp =>
 bt zS U8 run dr hp _ [Ab.bN (dS x y)] rfl (oD _ _) (by simp only[kW,dR (T.bU x) hx,dR (T.bU y) hy,rf])
theorem ado(x y:Nat)(hx:(T.aJ x).length<10000000)(hy:(T.aJ y).length<10000000):az LT4 run 117 [bC (T.aJ x),bC (T.aJ y)] (bC (yT (T.aJ x) (T.aJ y))):=fun dr hp =>
 bt Si abT run dr hp _ [bC (yT (T.aJ x) (T.aJ y))] rfl (oD _ _) (by simp only[xd,dR (T.bU x) hx,dR (T.bU y) hy])
theorem Mk (run:aw)(x y:Nat)(hx:(T.aJ x).length<10000000)(hy:(T.aJ y).length<10000000)(h:y≤x):az LT4 run 119 [bC (T.aJ x),bC (T.aJ y)] (bC (T.aJ (x - y))):=fun dr hp =>
 bt zT abW run dr hp _ [bC (T.aJ (x - y))] rfl (oD _ _) (by
  have h1:(T.aJ y).length.ble (T.aJ x).length=true:=by rw[Nat.ble_eq];exact T.cC h
  have h2:y.ble x=true:=by rw[Nat.ble_eq];exact h
  simp only[nX,dR (T.bU x) hx,dR (T.bU y) hy,T.bX,h1,h2,Bool.and_self,cond_true])
theorem HZ(s r:ByteArray)(m:Bool)(l:Ω)(g1:az L run 115 [.sc (.string s)] (.tup [.sc (.bool m),bC l]))(g2:az L run 116 [.sc (.bool (!m)),bC l] (.sc (.string r))) :
  ∃ st,ae (CC L) run k (f120.body.getD .skip) ⟨entry 14 [.sc (.string s)],[],[]⟩=some (.ret,st)∧aX TT st.fr st.hp f120.results.toList=some [.sc (.string r)]:=by
 obtain⟨e1,e2⟩:=cO 13 (.sc (.string s))
 generalize entry 14 [.sc (.string s)]=fr0 at *
 unfold az at *
 cases m <;> simp only[Bool.not_true,Bool.not_false] at g2 <;> simp[f120,e1,e2,aM,unP,g1,g2,aX]
theorem HW(s r:ByteArray)(m:Bool)(l:Ω)(g1:az L run 115 [.sc (.string s)] (.tup [.sc (.bool m),bC l]))(g2:az L run 116 [.sc (.bool false),bC l] (.sc (.string r))) :
  ∃ st,ae (CC L) run k (f155.body.getD .skip) ⟨entry 12 [.sc (.string s)],[],[]⟩=some (.ret,st)∧aX TT st.fr st.hp f155.results.toList=some [.sc (.string r)]:=by
 obtain⟨e1,e2⟩:=cO 11 (.sc (.string s))
 generalize entry 12 [.sc (.string s)]=fr0 at *
 unfold az at *
 simp[f155,e1,e2,aM,g1,g2,aX]
def nW:Ψ→Option Ψ
 | [p]=>match fP p with
  | some z=>some [zs (-z)]
  | none=>none
 | _=>none
def ta:Ψ→Option Ψ
 | [p]=>match fP p with
  | some z=>some [zs (Int.ofNat z.natAbs)]
  | none=>none
 | _=>none
theorem SQ (z:Int):gM (!bz z) z.natAbs = -z:=by
 cases z with
 | ofNat n=>cases n <;> rfl
 | negSucc n=>rfl
theorem xl:Ab.Spec base.P 120 nW:=Ab.Spec.bS (C:=CC LT4) (cR yK) fun args rs h=>by
 unfold nW at h
 split at h
 ·split at h
  ·rename_i z e
   obtain⟨rfl,hz⟩:=di e
   simp only[OiE] at h
   subst h
   have g2:=ou (runK (CC LT4) 1) (!bz z) (T.aJ z.natAbs) (T.bU _) (Nat.lt_trans (Zm.aJ hz) (by decide))
   rw[T.bX,SQ] at g2
   obtain⟨st,x1,x2⟩:=HZ LT4 (runK (CC LT4) 1) 1 _ _ _ _ (ld _ z hz) g2
   exact⟨2,_,_,_,_,_,ba J8 rfl x1 x2,rfl,Wk.refl rfl,trivial⟩
  ·cases h
 ·cases h
theorem HV:Ab.Spec base.P 155 ta:=Ab.Spec.bS (C:=CC LT4) (cR yK) fun args rs h=>by
 unfold ta at h
 split at h
 ·split at h
  ·rename_i z e
   obtain⟨rfl,hz⟩:=di e
   simp only[OiE] at h
   subst h
   have g2:=ou (runK (CC LT4) 1) false (T.aJ z.natAbs) (T.bU _) (Nat.lt_trans (Zm.aJ hz) (by decide))
   rw[T.bX] at g2
   obtain⟨st,x1,x2⟩:=HW LT4 (runK (CC LT4) 1) 1 _ _ _ _ (ld _ z hz) g2
   exact⟨2,_,_,_,_,_,ba J7 rfl x1 x2,rfl,Wk.refl rfl,trivial⟩
  ·cases h
 ·cases h
set_option maxHeartbeats 1000000 in
theorem Ip(s t:ByteArray)(m n:Bool)(a b:Ω)(r1 r2:Int)(g1:az L run 115 [.sc (.string s)] (.tup [.sc (.bool m),bC a]))(g2:az L run 115 [.sc (.string t)] (.tup [.sc (.bool n),bC b]))
  (g3:az L run 118 [bC a,bC b] (Ab.bN r1)) (g4:az L run 118 [bC b,bC a] (Ab.bN r2)) :
  ∃ st,ae (CC L) run k (f69.body.getD .skip) ⟨entry 30 [.sc (.string s),.sc (.string t)],[],[]⟩=some (.ret,st)∧aX TT st.fr st.hp f69.results.toList=some [Ab.bN (if m=n then (if m=true then r2 else r1) else (if m=true then -1 else 1))]:=by
 obtain⟨e1,e2,e3⟩:=cl 28 (.sc (.string s)) (.sc (.string t))
 generalize entry 30 [.sc (.string s),.sc (.string t)]=fr0 at *
 unfold az at *
 simp only[Ab.bN] at *
 cases m <;> cases n <;> simp[f69,e1,e2,e3,aM,dK,uB,g1,g2,g3,g4,aX]
def mI:Ψ→Option Ψ
 | [p,q]=>match fP p,fP q with
  | some x,some y=>some [Ab.bN (fI x y)]
  | _,_=>none
 | _=>none
theorem X6 (x y:Int):(if bz x=bz y then (if bz x=true then dS y.natAbs x.natAbs else dS x.natAbs y.natAbs) else (if bz x=true then -1 else 1))=fI x y:=by
 rw[cL,cL]
 unfold fI dS
 by_cases hx:x<0 <;> by_cases hy:y<0 <;> simp[hx,hy]
 ·by_cases h1:x<y
  ·rw[if_pos (by omega),if_pos h1]
  ·rw[if_neg (by omega),if_neg h1]
   by_cases h2:x=y
   ·rw[if_pos (by omega),if_pos h2]
   ·rw[if_neg (by omega),if_neg h2]
 ·first | (intros;omega) | (rw[if_pos (by omega)])
 ·first | (intros;omega) | (rw[if_neg (by omega),if_neg (by omega)])
 ·by_cases h1:x<y
  ·rw[if_pos (by omega),if_pos h1]
  ·rw[if_neg (by omega),if_neg h1]
   by_cases h2:x=y
   ·rw[if_pos (by omega),if_pos h2]
   ·rw[if_neg (by omega),if_neg h2]
theorem pX:Ab.Spec base.P 69 mI:=Ab.Spec.bS (C:=CC LT4) (cR yK) fun args rs h=>by
 unfold mI at h
 split at h
 ·split at h
  ·rename_i x y ex ey
   obtain⟨rfl,hx⟩:=di ex
   obtain⟨rfl,hy⟩:=di ey
   simp only[OiE] at h
   subst h
   have hx9:=Nat.lt_trans (Zm.aJ hx) (show 9000000<10000000 by decide)
   have hy9:=Nat.lt_trans (Zm.aJ hy) (show 9000000<10000000 by decide)
   obtain⟨st,x1,x2⟩:=Ip LT4 (runK (CC LT4) 1) 1 _ _ _ _ _ _ _ _ (ld _ x hx) (ld _ y hy) (yc _ x.natAbs y.natAbs hx9 hy9) (yc _ y.natAbs x.natAbs hy9 hx9)
   rw[X6] at x2
   exact⟨2,_,_,_,_,_,ba Kq rfl x1 x2,rfl,Wk.refl rfl,trivial⟩
  ·cases h
 ·cases h
set_option maxHeartbeats 1000000 in
theorem Uo(s t r:ByteArray)(u v w:Int)(g1:az L run 113 [.sc (.string s)] (.tup [Ab.bN u,.sc (.bool true)]))(g2:az L run 113 [.sc (.string t)] (.tup [Ab.bN v,.sc (.bool true)]))
  (hw:bA .i64 (u+v)=w) (g3:az L run 114 [.sc (.int .i64 w)] (.sc (.string r))) :
  ∃ st,ae (CC L) run k (f66.body.getD .skip) ⟨entry 63 [.sc (.string s),.sc (.string t)],[],[]⟩=some (.ret,st)∧aX TT st.fr st.hp f66.results.toList=some [.sc (.string r)]:=by
 obtain⟨e1,e2,e3⟩:=cl 61 (.sc (.string s)) (.sc (.string t))
 generalize entry 63 [.sc (.string s),.sc (.string t)]=fr0 at *
 unfold az at *
 simp only[Ab.bN] at *
 simp[f66,e1,e2,e3,aM,g1,g2,hw,g3,aX]
def jX:Code:=f66.body.getD .skip
set_option maxHeartbeats 1000000 in
theorem HX (L:Lst)(run:aw)(k:Nat)(s t:ByteArray)(u v:Int)(f1 f2:Bool)(hf:(f1 && f2)=false)(g1:az L run 113 [.sc (.string s)] (.tup [Ab.bN u,.sc (.bool f1)]))(g2:az L run 113 [.sc (.string t)] (.tup [Ab.bN v,.sc (.bool f2)])) :
  ∃ fr,bh (CC L) run k 4 jX ⟨entry 63 [.sc (.string s),.sc (.string t)],[],[]⟩=some ⟨fr,[],[]⟩∧fr.length=63∧nth fr 0 = .sc (.string s)∧nth fr 1 = .sc (.string t):=by
 obtain⟨e1,e2,e3⟩:=cl 61 (.sc (.string s)) (.sc (.string t))
 generalize entry 63 [.sc (.string s),.sc (.string t)]=fr0 at *
 unfold az at *
 simp only[Ab.bN] at *
 cases f1 <;> cases f2 <;> simp only[Bool.and_true,Bool.and_false,Bool.and_self,Bool.true_eq_false] at hf <;> simp[jX,f66,bh,e1,e2,e3,aM,g1,g2,undef]
theorem HY(s t:ByteArray)(m n:Bool)(a b:Ω)(g1:az L run 115 [.sc (.string s)] (.tup [.sc (.bool m),bC a]))(g2:az L run 115 [.sc (.string t)] (.tup [.sc (.bool n),bC b]))
  (h63:fr.length=63) (h0:nth fr 0 = .sc (.string s)) (h1:nth fr 1 = .sc (.string t)) :
  ∃ fr',bh (CC L) run k 2 (ai 4 jX) ⟨fr,[],[]⟩=some ⟨fr',[],[]⟩∧fr'.length=63∧nth fr' 9 = .sc (.bool m)∧nth fr' 10=bC a∧nth fr' 11 = .sc (.bool n)∧nth fr' 12=bC b:=by
 unfold az at *
 simp[jX,f66,bh,h63,h0,h1,aM,g1,g2]
set_option maxHeartbeats 1000000 in
theorem Un(m:Bool)(a b c:Ω)(r:ByteArray)(g1:az L run 117 [bC a,bC b] (bC c))(g2:az L run 116 [.sc (.bool m),bC c] (.sc (.string r)))
  (h63:fr.length=63) (h9:nth fr 9 = .sc (.bool m)) (h10:nth fr 10=bC a) (h11:nth fr 11 = .sc (.bool m)) (h12:nth fr 12=bC b) :
  ∃ st,ae (CC L) run k (ai 6 jX) ⟨fr,[],[]⟩=some (.ret,st)∧aX TT st.fr st.hp f66.results.toList=some [.sc (.string r)]:=by
 unfold az at *
 cases m <;> simp[jX,f66,h63,h9,h10,h11,h12,aM,dK,uB,g1,g2,aX]
set_option maxHeartbeats 1000000 in
theorem Ov(m:Bool)(a b c:Ω)(r:ByteArray)(z:Int)(hz:z<0)(g0:az L run 118 [bC a,bC b] (Ab.bN z))(g1:az L run 119 [bC b,bC a] (bC c))(g2:az L run 116 [.sc (.bool (!m)),bC c] (.sc (.string r)))
  (h63:fr.length=63) (h9:nth fr 9 = .sc (.bool m)) (h10:nth fr 10=bC a) (h11:nth fr 11 = .sc (.bool (!m))) (h12:nth fr 12=bC b) :
  ∃ st,ae (CC L) run k (ai 6 jX) ⟨fr,[],[]⟩=some (.ret,st)∧aX TT st.fr st.hp f66.results.toList=some [.sc (.string r)]:=by
 unfold az at *
 simp only[Ab.bN] at *
 cases m <;> simp only[Bool.not_true,Bool.not_false] at g2 h11 <;> simp[jX,f66,h63,h9,h10,h11,h12,aM,dK,uB,hz,g0,g1,g2,aX]
set_option maxHeartbeats 1000000 in
theorem Ou(m:Bool)(a b c:Ω)(r:ByteArray)(z:Int)(hz : ¬ z<0)(g0:az L run 118 [bC a,bC b] (Ab.bN z))(g1:az L run 119 [bC a,bC b] (bC c))(g2:az L run 116 [.sc (.bool m),bC c] (.sc (.string r)))
  (h63:fr.length=63) (h9:nth fr 9 = .sc (.bool m)) (h10:nth fr 10=bC a) (h11:nth fr 11 = .sc (.bool (!m))) (h12:nth fr 12=bC b) :
  ∃ st,ae (CC L) run k (ai 6 jX) ⟨fr,[],[]⟩=some (.ret,st)∧aX TT st.fr st.hp f66.results.toList=some [.sc (.string r)]:=by
 unfold az at *
 simp only[Ab.bN] at *
 cases m <;> simp only[Bool.not_true,Bool.not_false] at h11 <;> simp[jX,f66,h63,h9,h10,h11,h12,aM,dK,uB,hz,g0,g1,g2,aX]
def iR:Ψ→Option Ψ
 | [p,q]=>match fP p,fP q with
  | some x,some y=>some [zs (x+y)]
  | _,_=>none
 | _=>none
theorem zw {z:Int}(h:(dT z).ble 9=true) : -1000000000<z∧z<1000000000:=by
 rw[Nat.ble_eq] at h
 have:=(tv (n:=z.natAbs) (k:=9) (by omega)).1 h
 omega
theorem RZ (a b:Ω)(ha:T.Dok a)(hb:T.Dok b):T.val (yT a b)=T.val a+T.val b:=by
 unfold yT
 refine T.fo _ _ ?_
 have h1:=T.eW ha
 have h2:=T.eW hb
 have hm:=mh a b
 have h3:10 ^ a.length≤10 ^ Nat.max a.length b.length:=Nat.pow_le_pow_right (by omega) (by omega)
 have h4:10 ^ b.length≤10 ^ Nat.max a.length b.length:=Nat.pow_le_pow_right (by omega) (by omega)
 split
 ·rw[Nat.pow_succ];omega
 ·rename_i h
  rw[Nat.add_zero];omega
theorem Z7 (a b:Ω):T.Dok (yT a b):=T.gD _ _
theorem R0 (a b:Ω):(yT a b).length≤Nat.max a.length b.length+1:=by
 unfold yT
 rw[T.dn]
 split <;> omega
theorem kP (m:Bool)(n:Nat):gM m n=if m=true then -(n:Int) else (n:Int):=by
 cases m with
 | false=>rfl
 | true=>cases n <;> rfl
theorem nV:Ab.Spec base.P 66 iR:=Ab.Spec.bS (C:=CC LT4) (cR yK) fun args rs h=>by
 unfold iR at h
 split at h
 ·split at h
  ·rename_i x y ex ey
   obtain⟨rfl,hx⟩:=di ex
   obtain⟨rfl,hy⟩:=di ey
   simp only[OiE] at h
   subst h
   have hx9:=Nat.lt_trans (Zm.aJ hx) (show 9000000<10000000 by decide)
   have hy9:=Nat.lt_trans (Zm.aJ hy) (show 9000000<10000000 by decide)
   have gs1:=pk (runK (CC LT4) 1) x hx
   have gs2:=pk (runK (CC LT4) 1) y hy
   suffices hgo:∃ st,ae (CC LT4) (runK (CC LT4) 1) 1 jX ⟨entry 63 [zs x,zs y],[],[]⟩=some (.ret,st)∧aX TT st.fr st.hp f66.results.toList=some [zs (x+y)] by
    obtain⟨st,x1,x2⟩:=hgo
    exact⟨2,_,_,_,_,_,ba Gy rfl x1 x2,rfl,Wk.refl rfl,trivial⟩
   have rest:∀ (u v:Int) (f1 f2:Bool),(f1 && f2)=false→az LT4 (runK (CC LT4) 1) 113 [zs x] (.tup [Ab.bN u,.sc (.bool f1)])→az LT4 (runK (CC LT4) 1) 113 [zs y] (.tup [Ab.bN v,.sc (.bool f2)]) →
     ∃ st,ae (CC LT4) (runK (CC LT4) 1) 1 jX ⟨entry 63 [zs x,zs y],[],[]⟩=some (.ret,st)∧aX TT st.fr st.hp f66.results.toList=some [zs (x+y)]:=by
    intro u v f1 f2 hf q1 q2
    obtain⟨fr1,a1,a2,a3,a4⟩:=HX LT4 (runK (CC LT4) 1) 1 _ _ u v f1 f2 hf q1 q2
    obtain⟨fr2,b1,b2,b3,b4,b5,b6⟩:=HY LT4 (runK (CC LT4) 1) 1 fr1 _ _ _ _ _ _ (ld _ x hx) (ld _ y hy) a2 a3 a4
    have hex:∀ {r},ae (CC LT4) (runK (CC LT4) 1) 1 (ai 6 jX) ⟨fr2,[],[]⟩=r→ae (CC LT4) (runK (CC LT4) 1) 1 jX ⟨entry 63 [zs x,zs y],[],[]⟩=r:=by
     intro r hr
     have e1:ae (CC LT4) (runK (CC LT4) 1) 1 jX ⟨entry 63 [zs x,zs y],[],[]⟩=ae (CC LT4) (runK (CC LT4) 1) 1 (ai 4 jX) ⟨fr1,[],[]⟩:=aY 4 a1
     rw[e1,aY 2 b1]
     exact hr
    by_cases hn:bz x=bz y
    ·have gt:=ou (runK (CC LT4) 1) (bz x) (yT (T.aJ x.natAbs) (T.aJ y.natAbs)) (Z7 _ _) (by
      have h1:=R0 (T.aJ x.natAbs) (T.aJ y.natAbs)
      have h2:=mh (T.aJ x.natAbs) (T.aJ y.natAbs)
      have h3:=Zm.aJ hx
      have h4:=Zm.aJ hy
      omega)
     rw[RZ _ _ (T.bU _) (T.bU _),T.bX,T.bX] at gt
     have e:gM (bz x) (x.natAbs+y.natAbs)=x+y:=by
      rw[kP,cL]
      rw[cL,cL] at hn
      by_cases h1:x<0 <;> by_cases h2:y<0 <;> simp[h1,h2] at hn ⊢ <;> omega
     rw[e] at gt
     rw[← hn] at b5
     obtain⟨st,x1,x2⟩:=Un LT4 (runK (CC LT4) 1) 1 fr2 (bz x) _ _ _ _ (ado _ x.natAbs y.natAbs hx9 hy9) gt b2 b3 b4 b5 b6
     exact⟨st,hex x1,x2⟩
    ·have hn':bz y = !bz x:=by revert hn;cases bz x <;> cases bz y <;> simp
     rw[hn'] at b5
     have gz:=yc (runK (CC LT4) 1) x.natAbs y.natAbs hx9 hy9
     by_cases hc:x.natAbs<y.natAbs
     ·have hz:dS x.natAbs y.natAbs<0:=by unfold dS;rw[if_pos hc];omega
      have gt:=ou (runK (CC LT4) 1) (!bz x) (T.aJ (y.natAbs - x.natAbs)) (T.bU _) (by
       have:=T.cC (show y.natAbs - x.natAbs≤y.natAbs by omega)
       omega)
      rw[T.bX] at gt
      have e:gM (!bz x) (y.natAbs - x.natAbs)=x+y:=by
       rw[kP,← hn',cL]
       rw[cL,cL] at hn
       by_cases h1:x<0 <;> by_cases h2:y<0 <;> simp[h1,h2] at hn ⊢ <;> omega
      rw[e] at gt
      obtain⟨st,x1,x2⟩:=Ov LT4 (runK (CC LT4) 1) 1 fr2 (bz x) _ _ _ _ _ hz gz (Mk _ y.natAbs x.natAbs hy9 hx9 (by omega)) gt b2 b3 b4 b5 b6
      exact⟨st,hex x1,x2⟩
     ·have hz : ¬ dS x.natAbs y.natAbs<0:=by
       unfold dS
       rw[if_neg hc]
       split <;> omega
      have gt:=ou (runK (CC LT4) 1) (bz x) (T.aJ (x.natAbs - y.natAbs)) (T.bU _) (by
       have:=T.cC (show x.natAbs - y.natAbs≤x.natAbs by omega)
       omega)
      rw[T.bX] at gt
      have e:gM (bz x) (x.natAbs - y.natAbs)=x+y:=by
       rw[kP,cL]
       rw[cL,cL] at hn
       by_cases h1:x<0 <;> by_cases h2:y<0 <;> simp[h1,h2] at hn ⊢ <;> omega
      rw[e] at gt
      obtain⟨st,x1,x2⟩:=Ou LT4 (runK (CC LT4) 1) 1 fr2 (bz x) _ _ _ _ _ hz gz (Mk _ x.natAbs y.natAbs hx9 hy9 (by omega)) gt b2 b3 b4 b5 b6
      exact⟨st,hex x1,x2⟩
   cases h1:(dT x).ble 9 with
   | false =>
    rw[h1] at gs1
    cases h2:(dT y).ble 9 with
    | false=>rw[h2] at gs2;exact rest _ _ false false rfl gs1 gs2
    | true=>rw[h2] at gs2;exact rest _ _ false true rfl gs1 gs2
   | true =>
    rw[h1] at gs1
    cases h2:(dT y).ble 9 with
    | false=>rw[h2] at gs2;exact rest _ _ true false rfl gs1 gs2
    | true =>
     rw[h2] at gs2
     have b1:=zw h1
     have b2:=zw h2
     exact Uo LT4 (runK (CC LT4) 1) 1 _ _ _ x y (x+y) gs1 gs2 (fm _ (by omega) (by omega)) (Mj _ (x+y) (by omega) (by omega))
  ·cases h
 ·cases h
def fy:Code:=f68.body.getD .skip
def jD:Code:=((f68.body).bind aA).getD .skip
def ug:Code:=(aA jD).getD .skip
def ui:Code:=(aA (ai 8 fy)).getD .skip
abbrev hpT (out:Ω):Θ:=[⟨.live,out.map iv⟩]
def TF (fr:Ψ)(p q:Bool)(x y:Ω)(n:Nat):Prop :=
 fr.length=120∧nth fr 9 = .sc (.bool p)∧nth fr 10=bC x∧nth fr 11 = .sc (.bool q)∧nth fr 12=bC y∧nth fr 13 = .own 0 1 0 n true
def gG:Code→Array Oper
 | .region _ ops _=>ops
 | _=>#[]
def TY:Code:=match aQ ug with | .seq (.block _ c) _=>c | c=>c
theorem aa7:((Region.before (gG TY))[21]?.getD 0).testBit 9=true:=by kernel_rfl
theorem Ob(p q:Bool)(x y:Ω)(n i:Nat)(h:TF fr p q x y n)(h14:nth fr 14=iv i)(h15:nth fr 15=iv y.length) :
  ∃ fr',ae (CC L) run k ug ⟨fr,hp,wr⟩=some (.exit 2,⟨fr',hp,wr⟩)∧TF fr' p q x y n∧nth fr' 14=iv i:=by
 obtain⟨h0,h9,h10,h11,h12,h13⟩:=h
 simp only[iv] at h14 h15 ⊢
 simp[TF,ug,jD,f68,aA,and_assoc,dP,h0,h9,h10,h11,h12,h13,h14,h15,uL]
set_option maxHeartbeats 4000000 in
theorem Ef (L:Lst)(run:aw)(kk:Nat)(fr:Ψ)(wr:Ω)(p q:Bool)(x y out:Ω)(n i k j s:Nat)(hx:T.Dok x)(hy:T.Dok y)(hi:i<x.length)(hk:k<y.length)(hj:j=i+k)(hjn:j<out.length)(hn:out.length=n)(hn9:n<30000000)
  (hb:at0 out j≤10000000000) (hs:s=at0 out j+at0 x i*at0 y k) (h:TF fr p q x y n) (h14:nth fr 14=iv i) (h15:nth fr 15=iv k) :
  ∃ fr' wr',ae (CC L) run kk ug ⟨fr,hpT out,wr⟩=some (.normal,⟨fr',hpT (out.set j s),wr'⟩)∧TF fr' p q x y n∧nth fr' 14=iv i∧nth fr' 15=iv (k+1):=by
 obtain⟨h0,h9,h10,h11,h12,h13⟩:=h
 subst hn
 have hd1:=fE x i hi
 have hd2:=fE y k hk
 have hd3:=fE out j hjn
 have hov:=mK (e:=iv) out j s hjn
 have a1:=T.cn hx i
 have a2:=T.cn hy k
 have hm:at0 x i*at0 y k≤9*9:=Nat.mul_le_mul (by omega) (by omega)
 generalize at0 x i=a at *
 generalize at0 y k=b at *
 generalize at0 out j=o at *
 obtain⟨t,ht⟩:∃ t,t=a*b:=⟨_,rfl⟩
 rw[← ht] at hs hm
 have hwj:=dm .i64 i k j hj (hiI (by omega))
 have hw1:=wrapM .i64 a b t ht (hiI (by omega))
 have hw2:=dm .i64 o t s hs (hiI (by omega))
 have hwk:=bD k (by omega)
 have hb1:=aa7
 simp[-Nat.testBit_zero,TY,ug,jD,f68,aA,aQ,gG] at hb1
 have e1:bC x = .imm x.length false (x.map iv):=rfl
 have e2:bC y = .imm y.length false (y.map iv):=rfl
 rw[e1] at h10;rw[e2] at h12
 simp only[iv] at h14 h15 ⊢
 simp[-Nat.testBit_zero,hb1,TF,e1,e2,ug,jD,f68,aA,bd,bn,partOf,and_assoc,cP,bg,sd,dQ,h0,h9,h10,h11,h12,h13,h14,h15,uL,sI,aI,aU,aL,cg,hi,hk,hjn,hd1,hd2,hd3,hov,hwj,hw1,hw2,hwk,qW s,number,FP.free,cw,FP.apart]
theorem wX (L:Lst)(run:aw)(kk:Nat)(p q:Bool)(x y:Ω)(n i V0:Nat)(hx:T.Dok x)(hy:T.Dok y)(hi:i<x.length)(hn:n=x.length+y.length+1)(hn9:n<20000000) :
  ∀ (d k:Nat) (fr:Ψ) (wr out:Ω),k+d=y.length→out.length=n→TF fr p q x y n→nth fr 14=iv i→nth fr 15=iv k→(∀ m,at0 out m≤81*(i+1))→(∀ m,i+k≤m→at0 out m≤81*i)→T.val out=V0+at0 x i*T.val (y.take k)*10 ^ i →
  ∃ (fr':Ψ) (wr' out':Ω),cb (ae (CC L) run kk ug) (d+1) ⟨fr,hpT out,wr⟩=some (.exit 2,⟨fr',hpT out',wr'⟩)∧TF fr' p q x y n∧nth fr' 14=iv i∧out'.length=n∧(∀ m,at0 out' m≤81*(i+1))∧T.val out'=V0+at0 x i*T.val y*10 ^ i
 | 0,k,fr,wr,out,hk,ho,h,h14,h15,hB1,hB2,hv=>by
  have:k=y.length:=by omega
  subst this
  obtain⟨fr',g1,g2,g3⟩:=Ob L run kk fr (hpT out) wr p q x y n i h h14 h15
  exact⟨fr',wr,out,bu g1,g2,g3,ho,hB1,by rw[hv,take_length]⟩
 | d+1,k,fr,wr,out,hk,ho,h,h14,h15,hB1,hB2,hv=>by
  have a1:=T.cn hx i
  have a2:=T.cn hy k
  have hm:at0 x i*at0 y k≤9*9:=Nat.mul_le_mul (by omega) (by omega)
  have hjn:i+k<out.length:=by omega
  have hbo:=hB2 (i+k) (Nat.le_refl _)
  obtain⟨fr1,wr1,g1,g2,g3,g4⟩:=Ef L run kk fr wr p q x y out n i k (i+k) _ hx hy hi (by omega) rfl hjn ho (by omega) (by omega) rfl h h14 h15
  have hset:∀ m,at0 (out.set (i+k) (at0 out (i+k)+at0 x i*at0 y k)) m=if m=i+k then at0 out (i+k)+at0 x i*at0 y k else at0 out m:=by
   intro m
   by_cases e:m=i+k
   ·subst e;rw[if_pos rfl,dc (by simpa using hjn)];simp
   ·rw[if_neg e,gk (fun h=>e h.symm)]
  obtain⟨fr',wr',out',q1,q2⟩:=wX L run kk p q x y n i V0 hx hy hi hn hn9 d (k+1) fr1 wr1 (out.set (i+k) (at0 out (i+k)+at0 x i*at0 y k)) (by omega) (by rw[length_set];exact ho) g2 g3 g4
   (fun m=>by
    rw[hset]
    split
    ·omega
    ·exact hB1 m)
   (fun m hm=>by
    rw[hset,if_neg (by omega)]
    exact hB2 m (by omega))
   (by
    have h1:=T.qH out (i+k) (at0 out (i+k)+at0 x i*at0 y k) hjn
    rw[← dc hjn] at h1
    rw[T.cu]
    have e1:(10:Nat) ^ (i+k)=10 ^ k*10 ^ i:=by rw[Nat.pow_add,Nat.mul_comm]
    rw[e1] at h1
    have e2:at0 x i*(T.val (y.take k)+at0 y k*10 ^ k)*10 ^ i=at0 x i*T.val (y.take k)*10 ^ i+at0 x i*at0 y k*(10 ^ k*10 ^ i):=by
     rw[Nat.mul_add,Nat.add_mul,← Nat.mul_assoc,Nat.mul_assoc (at0 x i*at0 y k)]
    rw[e2]
    rw[Nat.add_mul (at0 out (i+k))] at h1
    omega)
  exact⟨fr',wr',out',by rw[bT g1];exact q1,q2⟩
def Eh:Code:=match aQ jD with | .seq (.block _ c) _=>c | c=>c
def B4:Code:=seq1 Eh
theorem TW:jD = .seq (seq1 jD) (.seq (.block 1 Eh) (ai 2 jD)):=rfl
theorem TZ:Eh = .seq B4 (.block 2 (.loop ug)):=rfl
theorem Oa(p q:Bool)(x y:Ω)(n:Nat)(h:TF fr p q x y n)(h14:nth fr 14=iv x.length) :
  ∃ fr',ae (CC L) run k jD ⟨fr,hp,wr⟩=some (.exit 0,⟨fr',hp,wr⟩)∧TF fr' p q x y n:=by
 obtain⟨h0,h9,h10,h11,h12,h13⟩:=h
 simp only[iv] at h14
 simp[TF,jD,f68,aA,dP,h0,h9,h10,h11,h12,h13,h14,uL]
theorem TX(p q:Bool)(x y:Ω)(n i:Nat)(hi:i<x.length)(h:TF fr p q x y n)(h14:nth fr 14=iv i) :
  ∃ fr' fr'',ae (CC L) run k (seq1 jD) ⟨fr,hp,wr⟩=some (.normal,⟨fr',hp,wr⟩)∧ae (CC L) run k B4 ⟨fr',hp,wr⟩=some (.normal,⟨fr'',hp,wr⟩)∧TF fr'' p q x y n∧nth fr'' 14=iv i∧nth fr'' 15=iv 0:=by
 obtain⟨h0,h9,h10,h11,h12,h13⟩:=h
 simp only[iv] at h14 ⊢
 simp[TF,B4,Eh,jD,f68,aA,aQ,and_assoc,dP,h0,h9,h10,h11,h12,h13,h14,uL,hi]
theorem TV(p q:Bool)(x y:Ω)(n i:Nat)(hi:i<20000000)(h:TF fr p q x y n)(h14:nth fr 14=iv i) :
  ∃ fr',ae (CC L) run k (ai 2 jD) ⟨fr,hp,wr⟩=some (.normal,⟨fr',hp,wr⟩)∧TF fr' p q x y n∧nth fr' 14=iv (i+1):=by
 obtain⟨h0,h9,h10,h11,h12,h13⟩:=h
 have hw:=bD i (by omega)
 simp only[iv] at h14 ⊢
 simp[TF,jD,f68,aA,and_assoc,h0,h9,h10,h11,h12,h13,h14,hw]
theorem wW (L:Lst)(run:aw)(kk:Nat)(p q:Bool)(x y:Ω)(n:Nat)(hx:T.Dok x)(hy:T.Dok y)(hn:n=x.length+y.length+1)(hn9:n<20000000)(hkk:y.length+1≤kk) :
  ∀ (d i:Nat) (fr:Ψ) (wr out:Ω),i+d=x.length→out.length=n→TF fr p q x y n→nth fr 14=iv i→(∀ m,at0 out m≤81*i)→T.val out=T.val (x.take i)*T.val y →
  ∃ (fr':Ψ) (wr' out':Ω),cb (ae (CC L) run kk jD) (d+1) ⟨fr,hpT out,wr⟩=some (.exit 0,⟨fr',hpT out',wr'⟩)∧TF fr' p q x y n∧out'.length=n∧(∀ m,at0 out' m≤81*x.length)∧T.val out'=T.val x*T.val y
 | 0,i,fr,wr,out,hi,ho,h,h14,hB,hv=>by
  have:i=x.length:=by omega
  subst this
  obtain⟨fr',g1,g2⟩:=Oa L run kk fr (hpT out) wr p q x y n h h14
  exact⟨fr',wr,out,bu g1,g2,ho,hB,by rw[hv,take_length]⟩
 | d+1,i,fr,wr,out,hi,ho,h,h14,hB,hv=>by
  obtain⟨f1,f2,g1,g2,g3,g4,g5⟩:=TX L run kk fr (hpT out) wr p q x y n i (by omega) h h14
  obtain⟨f3,wr3,out3,r1,r2,r3,r4,r5,r6⟩:=wX L run kk p q x y n i (T.val out) hx hy (by omega) hn hn9 y.length 0 f2 wr out (by omega) ho g3 g4 g5 (fun m=>by have:=hB m;omega) (fun m _=>hB m) (by simp[T.val])
  obtain⟨f4,s1,s2,s3⟩:=TV L run kk f3 (hpT out3) wr3 p q x y n i (by omega) r2 r3
  have hB1:ae (CC L) run kk Eh ⟨f1,hpT out,wr⟩=some (.normal,⟨f3,hpT out3,wr3⟩):=by
   rw[TZ,ar g2,bE (bK r1 hkk)]
  have hO1:ae (CC L) run kk jD ⟨fr,hpT out,wr⟩=some (.normal,⟨f4,hpT out3,wr3⟩):=by
   rw[TW,ar g1,ar (fF hB1)]
   exact s1
  obtain⟨fr',wr',out',q1,q2⟩:=wW L run kk p q x y n hx hy hn hn9 hkk d (i+1) f4 wr3 out3 (by omega) r4 s2 s3 r5 (by
   rw[r6,hv,T.cu,Nat.add_mul]
   rw[Nat.mul_assoc (at0 x i),Nat.mul_assoc (at0 x i),Nat.mul_comm (T.val y)])
  exact⟨fr',wr',out',by rw[bT hO1];exact q1,q2⟩
def HN:Code:=match aQ ui with | .seq (.block _ c) _=>c | c=>c
theorem aa6:((Region.before (gG (seq1 HN)))[15]?.getD 0).testBit 7=true:=by kernel_rfl
theorem aa5:((Region.before (gG (seq1 HN)))[15]?.getD 0).testBit 11=true:=by kernel_rfl
theorem Oc(p q:Bool)(x y:Ω)(n i:Nat)(hi:i+1=n)(hn9:n<20000000)(h:TF fr p q x y n)(h16:nth fr 16=iv i) :
  ∃ fr',ae (CC L) run k ui ⟨fr,hp,wr⟩=some (.exit 4,⟨fr',hp,wr⟩)∧TF fr' p q x y n:=by
 obtain⟨h0,h9,h10,h11,h12,h13⟩:=h
 have hw:=bD i (by omega)
 subst hi
 simp only[iv] at h16
 simp[TF,ui,fy,f68,aA,iw,h0,h9,h10,h11,h12,h13,h16,uL,hw]
set_option maxHeartbeats 4000000 in
theorem Eg (L:Lst)(run:aw)(kk:Nat)(fr:Ψ)(wr:Ω)(p q:Bool)(x y out:Ω)(n i j s r:Nat)(hj:j=i+1)(hjn:j<out.length)(hn:out.length=n)(hn9:n<20000000)
  (hb:at0 out i≤10000000000) (hb2:at0 out j≤10000000000) (hs:s=at0 out j+at0 out i / 10) (hr:r=at0 out i % 10) (h:TF fr p q x y n) (h16:nth fr 16=iv i) :
  ∃ fr' wr',ae (CC L) run kk ui ⟨fr,hpT out,wr⟩=some (.normal,⟨fr',hpT ((out.set j s).set i r),wr'⟩)∧TF fr' p q x y n∧nth fr' 16=iv (i+1):=by
 obtain⟨h0,h9,h10,h11,h12,h13⟩:=h
 subst hn
 have hin:i<out.length:=by omega
 have hlt:(i:Int)+1<(out.length:Int):=by omega
 have hin2:i<(out.set j s).length:=by rw[length_set];exact hin
 have hd1:=fE out i hin
 have hd2:=fE out j hjn
 have hd3:=fE (out.set j s) i hin2
 rw[gk (by omega)] at hd3
 have hov:=mK (e:=iv) out j s hjn
 have hov2:=mK (e:=iv) (out.set j s) i r hin2
 generalize at0 out i=a at *
 generalize at0 out j=b at *
 obtain⟨t,ht⟩:∃ t,t=a / 10:=⟨_,rfl⟩
 rw[← ht] at hs
 have ht9:t≤10000000000:=by rw[ht];exact Nat.le_trans (Nat.div_le_self _ _) hb
 have hw1:bA .i64 ((a:Int) / 10)=(t:Int):=T.jO .i64 a t ht (hiI (Nat.le_trans ht9 (by decide)))
 have hw3:=T.lQ a r hr
 clear ht hr
 have hwj:bA .i64 ((i:Int)+1)=(j:Int):=by rw[bD i (by omega)];omega
 have hw2:=dm .i64 b t s hs (hiI (by omega))
 have hb1:=aa6
 have hb3:=aa5
 simp[-Nat.testBit_zero,HN,ui,fy,f68,aA,aQ,gG] at hb1 hb3
 have hji:nth fr 16=iv i:=h16
 simp only[iv] at h16 ⊢
 subst hj
 have hjI:((i+1:Nat):Int)=(i:Int)+1:=by omega
 rw[hjI] at hwj
 simp[-Nat.testBit_zero,-map_set,hb1,hb3,TF,ui,fy,f68,aA,bd,bn,jr,partOf,and_assoc,iw,bg,sd,dQ,h0,h9,h10,h11,h12,h13,h16,uL,sI,aI,aU,aL,cg,hin,hjn,hlt,hd1,hd2,hd3,hov,hov2,hwj,hw1,hw2,hw3,qW s,qW r,number,FP.free,cw,FP.apart]
theorem JW {l:Ω}(h:∀ m,m<l.length→at0 l m<10):T.Dok l:=fun x hx=>by
 obtain⟨i,hi,rfl⟩:=getElem_of_mem hx
 have:=h i hi
 rwa [dc hi] at this
theorem P7 {out:Ω}{i a b:Nat}(hj:i+1<out.length)(ha:a=at0 out i)(hb:b=at0 out (i+1)) :
  T.val ((out.set (i+1) (b+a / 10)).set i (a % 10))=T.val out:=by
 have h1:=T.qH out (i+1) (b+a / 10) hj
 have h2:=T.qH (out.set (i+1) (b+a / 10)) i (a % 10) (by rw[length_set];omega)
 rw[← dc hj,← hb] at h1
 rw[← dc (show i<(out.set (i+1) (b+a / 10)).length by rw[length_set];omega),gk (by omega),← ha] at h2
 have h3:a=10*(a / 10)+a % 10:=(Nat.div_add_mod a 10).symm
 rw[Nat.pow_succ] at h1
 generalize a / 10=q at *
 generalize a % 10=r at *
 have h4:a*10 ^ i=10*q*10 ^ i+r*10 ^ i:=by rw[h3,Nat.add_mul]
 have h5:(b+q)*(10 ^ i*10)=b*(10 ^ i*10)+10*q*10 ^ i:=by
  rw[Nat.add_mul,Nat.mul_comm (10 ^ i) 10,← Nat.mul_assoc q,Nat.mul_comm q 10]
 omega
theorem wY (L:Lst)(run:aw)(kk:Nat)(p q:Bool)(x y:Ω)(n W V:Nat)(hn9:n<20000000)(hW:W<20000000)(hV:V<10 ^ (n - 1)) :
  ∀ (d i:Nat) (fr:Ψ) (wr out:Ω),i+d+1=n→out.length=n→TF fr p q x y n→nth fr 16=iv i→(∀ m,m<i→at0 out m<10)→at0 out i≤90*W→(∀ m,i<m→at0 out m≤81*W)→T.val out=V →
  ∃ (fr':Ψ) (wr' out':Ω),cb (ae (CC L) run kk ui) (d+1) ⟨fr,hpT out,wr⟩=some (.exit 4,⟨fr',hpT out',wr'⟩)∧TF fr' p q x y n∧out'.length=n∧T.Dok out'∧T.val out'=V
 | 0,i,fr,wr,out,hi,ho,h,h16,hB,hB1,hB2,hv=>by
  obtain⟨fr',g1,g2⟩:=Oc L run kk fr (hpT out) wr p q x y n i (by omega) hn9 h h16
  refine⟨fr',wr,out,bu g1,g2,ho,JW fun m hm => ?_,hv⟩
  by_cases hmi:m<i
  ·exact hB m hmi
  ·have e:m=i:=by omega
   subst e
   have h1:T.val out=T.val (out.take (m+1)):=by rw[T.cD _ _ (by omega)]
   rw[T.cu,hv] at h1
   have hne:n - 1=m:=by omega
   rw[hne] at hV
   rcases Nat.eq_zero_or_pos (at0 out m) with h0 | h0
   ·omega
   ·have:=Nat.mul_le_mul_right (10 ^ m) h0
    omega
 | d+1,i,fr,wr,out,hi,ho,h,h16,hB,hB1,hB2,hv=>by
  have hj1:=hB2 (i+1) (by omega)
  have hjn:i+1<out.length:=by omega
  obtain⟨fr1,wr1,g1,g2,g3⟩:=Eg L run kk fr wr p q x y out n i (i+1) _ _ rfl hjn ho hn9 (by omega) (by omega) rfl rfl h h16
  have hat:∀ m,at0 ((out.set (i+1) (at0 out (i+1)+at0 out i / 10)).set i (at0 out i % 10)) m=if m=i then at0 out i % 10 else if m=i+1 then at0 out (i+1)+at0 out i / 10 else at0 out m:=by
   intro m
   by_cases e:m=i
   ·subst e
    rw[if_pos rfl,dc (by simp;omega)]
    simp
   ·rw[if_neg e,gk (fun h=>e h.symm)]
    by_cases e2:m=i+1
    ·subst e2
     rw[if_pos rfl,dc (by simp;omega)]
     simp
    ·rw[if_neg e2,gk (fun h=>e2 h.symm)]
  have hq:at0 out i / 10≤9*W:=Nat.div_le_of_le_mul (by omega)
  obtain⟨fr',wr',out',q1,q2⟩:=wY L run kk p q x y n W V hn9 hW hV d (i+1) fr1 wr1 ((out.set (i+1) (at0 out (i+1)+at0 out i / 10)).set i (at0 out i % 10)) (by omega) (by simp[ho]) g2 g3
   (fun m hm=>by
    rw[hat]
    by_cases e:m=i
    ·rw[if_pos e];exact Nat.mod_lt _ (by omega)
    ·rw[if_neg e,if_neg (by omega)];exact hB m (by omega))
   (by
    rw[hat,if_neg (by omega),if_pos rfl]
    omega)
   (fun m hm=>by
    rw[hat,if_neg (by omega),if_neg (by omega)]
    exact hB2 m (by omega))
   (by rw[P7 hjn rfl rfl];exact hv)
  exact⟨fr',wr',out',by rw[bT g1];exact q1,q2⟩
def HM:Code:=seq1 (seq1 (ai 7 fy))
def B3:Code:=seq1 (seq1 (ai 8 fy))
theorem TR:ai 7 fy = .seq (.seq HM (.block 0 (.loop jD))) (ai 8 fy):=rfl
theorem TQ:ai 8 fy = .seq (.seq B3 (.block 4 (.loop ui))) (ai 9 fy):=rfl
set_option maxHeartbeats 1000000 in
theorem afS(s t r:ByteArray)(u v w:Int)(g1:az L run 113 [.sc (.string s)] (.tup [Ab.bN u,.sc (.bool true)]))(g2:az L run 113 [.sc (.string t)] (.tup [Ab.bN v,.sc (.bool true)]))
  (hw:bA .i64 (u*v)=w) (g3:az L run 114 [.sc (.int .i64 w)] (.sc (.string r))) :
  ∃ st,ae (CC L) run k fy ⟨entry 120 [.sc (.string s),.sc (.string t)],[],[]⟩=some (.ret,st)∧aX TT st.fr st.hp f68.results.toList=some [.sc (.string r)]:=by
 obtain⟨e1,e2,e3⟩:=cl 118 (.sc (.string s)) (.sc (.string t))
 generalize entry 120 [.sc (.string s),.sc (.string t)]=fr0 at *
 unfold az at *
 simp only[Ab.bN] at *
 simp[fy,f68,e1,e2,e3,aM,g1,g2,hw,g3,aX]
set_option maxHeartbeats 1000000 in
theorem TU (L:Lst)(run:aw)(k:Nat)(s t:ByteArray)(u v:Int)(f1 f2:Bool)(hf:(f1 && f2)=false)(g1:az L run 113 [.sc (.string s)] (.tup [Ab.bN u,.sc (.bool f1)]))(g2:az L run 113 [.sc (.string t)] (.tup [Ab.bN v,.sc (.bool f2)])) :
  ∃ fr,bh (CC L) run k 4 fy ⟨entry 120 [.sc (.string s),.sc (.string t)],[],[]⟩=some ⟨fr,[],[]⟩∧fr.length=120∧nth fr 0 = .sc (.string s)∧nth fr 1 = .sc (.string t):=by
 obtain⟨e1,e2,e3⟩:=cl 118 (.sc (.string s)) (.sc (.string t))
 generalize entry 120 [.sc (.string s),.sc (.string t)]=fr0 at *
 unfold az at *
 simp only[Ab.bN] at *
 cases f1 <;> cases f2 <;> simp only[Bool.and_true,Bool.and_false,Bool.and_self,Bool.true_eq_false] at hf <;> simp[fy,f68,bh,e1,e2,e3,aM,g1,g2,undef]
set_option maxHeartbeats 1000000 in
theorem aa4(s t:ByteArray)(m n:Bool)(a b:Ω)(g1:az L run 115 [.sc (.string s)] (.tup [.sc (.bool m),bC a]))(g2:az L run 115 [.sc (.string t)] (.tup [.sc (.bool n),bC b]))
  (h120:fr.length=120) (h0:nth fr 0 = .sc (.string s)) (h1:nth fr 1 = .sc (.string t)) (hl:a.length+b.length<19000000) :
  ∃ fr' wr',bh (CC L) run k 3 (ai 4 fy) ⟨fr,[],[]⟩=some ⟨fr',hpT (List.replicate (a.length+b.length+1) 0),wr'⟩∧TF fr' m n a b (a.length+b.length+1):=by
 unfold az at *
 obtain⟨w,hw⟩:∃ w,w=a.length+b.length:=⟨_,rfl⟩
 have hw1:=dm .i64 a.length b.length w hw (hiI (by omega))
 have hw2:=bD w (by omega)
 have hm:w+1≤cS:=Nat.le_trans (show w+1≤19000001 by omega) (by decide)
 rw[show hpT (List.replicate (a.length+b.length+1) 0)=[⟨.live,rep (w+1) [iv 0]⟩] by rw[aja,hw]]
 rw[← hw]
 simp[TF,fy,f68,bh,h120,h0,h1,aM,jr,and_assoc,dP,g1,g2,uL,sI,bI,zI,hw1,hw2,hm,aO,ch]
theorem aa3(p q:Bool)(x y:Ω)(n:Nat)(h:TF fr p q x y n) :
  ∃ fr',ae (CC L) run k HM ⟨fr,hp,wr⟩=some (.normal,⟨fr',hp,wr⟩)∧TF fr' p q x y n∧nth fr' 14=iv 0:=by
 obtain⟨h0,h9,h10,h11,h12,h13⟩:=h
 simp[TF,HM,fy,f68,and_assoc,h0,h9,h10,h11,h12,h13,iv]
theorem TS(p q:Bool)(x y:Ω)(n:Nat)(h:TF fr p q x y n) :
  ∃ fr',ae (CC L) run k B3 ⟨fr,hp,wr⟩=some (.normal,⟨fr',hp,wr⟩)∧TF fr' p q x y n∧nth fr' 16=iv 0:=by
 obtain⟨h0,h9,h10,h11,h12,h13⟩:=h
 simp[TF,B3,fy,f68,and_assoc,h0,h9,h10,h11,h12,h13,iv]
theorem N9 (L:Lst)(run:aw)(k:Nat)(fr:Ψ)(hp hp':Θ)(wr:Ω)(p q:Bool)(x y:Ω)(n:Nat)(r:PV)(fp:FP)(h:TF fr p q x y n)(hc:bP (CC L) run false hp 116 [.sc (.bool (p != q)),.own 0 1 0 n true]=some (r,hp',fp)) :
  ∃ st,ae (CC L) run k (ai 9 fy) ⟨fr,hp,wr⟩=some (.ret,st)∧aX TT st.fr st.hp f68.results.toList=some [r]:=by
 obtain⟨h0,h9,h10,h11,h12,h13⟩:=h
 cases p <;> cases q <;> simp only[bne_self_eq_false,Bool.bne_true,Bool.bne_false,Bool.not_false] at hc <;> simp[fy,f68,aM,dK,uB,h0,h9,h11,h13,hc,aX]
def uh:Ψ→Option Ψ
 | [p,q]=>match fP p,fP q with
  | some x,some y=>some [zs (x*y)]
  | _,_=>none
 | _=>none
theorem SS (x y:Int):gM (bz x != bz y) (x.natAbs*y.natAbs)=x*y:=by
 rw[← Int.natAbs_mul,kP,cL,cL]
 have h:=Int.natAbs_mul x y
 rcases Int.lt_or_le x 0 with hx | hx <;> rcases Int.lt_or_le y 0 with hy | hy
 ·have h1:0≤x*y:=Int.mul_nonneg_of_nonpos_of_nonpos (by omega) (by omega)
  simp[hx,hy]
  omega
 ·have h1:x*y≤0:=Int.mul_nonpos_of_nonpos_of_nonneg (by omega) hy
  have h2 : ¬ y<0:=by omega
  simp[hx,h2]
  omega
 ·have h1:x*y≤0:=Int.mul_nonpos_of_nonneg_of_nonpos hx (by omega)
  have h2 : ¬ x<0:=by omega
  simp[hy,h2]
  omega
 ·have h1:0≤x*y:=Int.mul_nonneg hx hy
  have h2 : ¬ x<0:=by omega
  have h3 : ¬ y<0:=by omega
  simp[h2,h3]
  omega
theorem Aj:Ab.Spec base.P 68 uh:=Ab.Spec.bS (C:=CC LT4) (cR yK) fun args rs h=>by
 unfold uh at h
 split at h
 ·split at h
  ·rename_i x y ex ey
   obtain⟨rfl,hx⟩:=di ex
   obtain⟨rfl,hy⟩:=di ey
   simp only[OiE] at h
   subst h
   have hx9:=Zm.Mz hx
   have hy9:=Zm.Mz hy
   generalize hK:(T.aJ x.natAbs).length+(T.aJ y.natAbs).length+2=K
   have gs1:=pk (runK (CC LT4) K) x hx
   have gs2:=pk (runK (CC LT4) K) y hy
   suffices hgo:∃ st,ae (CC LT4) (runK (CC LT4) K) K fy ⟨entry 120 [zs x,zs y],[],[]⟩=some (.ret,st)∧aX TT st.fr st.hp f68.results.toList=some [zs (x*y)] by
    obtain⟨st,x1,x2⟩:=hgo
    exact⟨K+1,_,_,_,_,_,ba CP rfl x1 x2,rfl,Wk.refl rfl,trivial⟩
   have rest:∀ (u v:Int) (f1 f2:Bool),(f1 && f2)=false→az LT4 (runK (CC LT4) K) 113 [zs x] (.tup [Ab.bN u,.sc (.bool f1)])→az LT4 (runK (CC LT4) K) 113 [zs y] (.tup [Ab.bN v,.sc (.bool f2)]) →
     ∃ st,ae (CC LT4) (runK (CC LT4) K) K fy ⟨entry 120 [zs x,zs y],[],[]⟩=some (.ret,st)∧aX TT st.fr st.hp f68.results.toList=some [zs (x*y)]:=by
    intro u v f1 f2 hf q1 q2
    obtain⟨fr1,a1,a2,a3,a4⟩:=TU LT4 (runK (CC LT4) K) K _ _ u v f1 f2 hf q1 q2
    obtain⟨fr2,wr2,b1,b2⟩:=aa4 LT4 (runK (CC LT4) K) K fr1 _ _ _ _ _ _ (ld _ x hx) (ld _ y hy) a2 a3 a4 (by omega)
    obtain⟨fr3,c1,c2,c3⟩:=aa3 LT4 (runK (CC LT4) K) K fr2 (hpT (List.replicate ((T.aJ x.natAbs).length+(T.aJ y.natAbs).length+1) 0)) wr2 _ _ _ _ _ b2
    have hz:∀ m,at0 (List.replicate ((T.aJ x.natAbs).length+(T.aJ y.natAbs).length+1) 0) m=0:=by
     intro m
     unfold at0
     rw[getElem?_replicate]
     split <;> rfl
    obtain⟨fr4,wr4,out4,d1,d2,d3,d4,d5⟩:=wW LT4 (runK (CC LT4) K) K _ _ _ _ _ (T.bU x.natAbs) (T.bU y.natAbs) rfl (by omega) (by omega) _ 0 fr3 wr2 (List.replicate ((T.aJ x.natAbs).length+(T.aJ y.natAbs).length+1) 0) (Nat.zero_add _) (by simp) c2 c3 (fun m=>by rw[hz];omega) (by rw[T.oO];simp[T.val])
    obtain⟨fr5,e1,e2,e3⟩:=TS LT4 (runK (CC LT4) K) K fr4 (hpT out4) wr4 _ _ _ _ _ d2
    rw[T.bX,T.bX] at d5
    have hlt:x.natAbs*y.natAbs<10 ^ ((T.aJ x.natAbs).length+(T.aJ y.natAbs).length+1 - 1):=by
     rw[Nat.add_sub_cancel,Nat.pow_add]
     exact Nat.mul_lt_mul'' (T.fD _) (T.fD _)
    obtain⟨fr6,wr6,out6,f1,f2,f3,f4,f5⟩:=wY LT4 (runK (CC LT4) K) K _ _ _ _ _ (T.aJ x.natAbs).length (x.natAbs*y.natAbs) (by omega) (by omega) hlt ((T.aJ x.natAbs).length+(T.aJ y.natAbs).length) 0 fr5 wr4 out4 (by omega) d3 e2 e3 (fun m hm=>by omega) (by have:=d4 0;omega) (fun m _=>d4 m) d5
    have hO:kd iv 0 (hpT out6) out6 (.own 0 1 0 ((T.aJ x.natAbs).length+(T.aJ y.natAbs).length+1) true):=⟨Nat.zero_le _,.inr ⟨0,[],true,Nat.le_refl _,by simp,by rw[f3],fun _=>rfl,by rw[append_nil];rfl⟩⟩
    have htx:=BB (bz x != bz y) out6 f4 (by omega)
    rw[f5,SS] at htx
    obtain⟨hp7,fp,g1,-⟩:=pz kg ER (runK (CC LT4) K) false jl (bz x != bz y) hO _ htx
    obtain⟨st,x1,x2⟩:=N9 LT4 (runK (CC LT4) K) K fr6 (hpT out6) hp7 wr6 _ _ _ _ _ _ fp f2 g1
    refine⟨st,?_,x2⟩
    have h1:ae (CC LT4) (runK (CC LT4) K) K fy ⟨entry 120 [zs x,zs y],[],[]⟩=ae (CC LT4) (runK (CC LT4) K) K (ai 4 fy) ⟨fr1,[],[]⟩:=aY 4 a1
    rw[h1,aY 3 b1,show ai 3 (ai 4 fy)=ai 7 fy from rfl,TR,ar ((ar c1).trans (bE (bK d1 (by omega)))),TQ,ar ((ar e1).trans (bE (bK f1 (by omega))))]
    exact x1
   cases h1:(dT x).ble 9 with
   | false =>
    rw[h1] at gs1
    cases h2:(dT y).ble 9 with
    | false=>rw[h2] at gs2;exact rest _ _ false false rfl gs1 gs2
    | true=>rw[h2] at gs2;exact rest _ _ false true rfl gs1 gs2
   | true =>
    rw[h1] at gs1
    cases h2:(dT y).ble 9 with
    | false=>rw[h2] at gs2;exact rest _ _ true false rfl gs1 gs2
    | true =>
     rw[h2] at gs2
     have b1:=zw h1
     have b2:=zw h2
     have hab:(x*y).natAbs≤999999999*999999999:=by
      rw[Int.natAbs_mul]
      exact Nat.mul_le_mul (by omega) (by omega)
     exact afS LT4 (runK (CC LT4) K) K _ _ _ x y (x*y) gs1 gs2 (fm _ (by omega) (by omega)) (Mj _ (x*y) (by omega) (by omega))
  ·cases h
 ·cases h
def jn:Code:=f111.body.getD .skip
def yY:Code:=((f111.body).bind aA).getD .skip
theorem aaZ(l:Ω)(h53:fr.length=53)(h3:nth fr 3 = .sc (.string (tx l)))(h4:nth fr 4=iv l.length) :
  ∃ fr',ae (CC L) run k yY ⟨fr,[],[]⟩=some (.exit 0,⟨fr',[],[]⟩)∧fr'.length=53:=by
 simp only[iv] at h4
 simp[yY,f111,aA,dN,h53,h3,h4,uAI]
set_option maxHeartbeats 1000000 in
theorem afR(l:Ω)(i:Nat)(hl:Bok l)(hi:i<l.length)(hi9:i<20000000)(hd:l9 (at0 l i)=true)(h53:fr.length=53)(h3:nth fr 3 = .sc (.string (tx l)))(h4:nth fr 4=iv i) :
  ∃ fr',ae (CC L) run k yY ⟨fr,[],[]⟩=some (.normal,⟨fr',[],[]⟩)∧fr'.length=53∧nth fr' 3 = .sc (.string (tx l))∧nth fr' 4=iv (i+1):=by
 have hx:=fe uAI hl .i64 i hi
 rw[dI] at hd
 have hw:=bD i (by omega)
 generalize at0 l i=b at *
 have h1 : ¬ ((b:Int)<48):=by omega
 have h2 : ¬ ((57:Int)<b):=by omega
 simp only[iv] at h4 ⊢
 simp[yY,f111,aA,dN,h53,h3,h4,uAI,hi,hx,h1,h2,hw]
set_option maxHeartbeats 1000000 in
theorem aa0(l:Ω)(i:Nat)(hl:Bok l)(hi:i<l.length)(hd:l9 (at0 l i)=false)(h53:fr.length=53)(h3:nth fr 3 = .sc (.string (tx l)))(h4:nth fr 4=iv i) :
  ∃ fr',ae (CC L) run k yY ⟨fr,[],[]⟩=some (.ret,⟨fr',[],[]⟩)∧nth fr' 2 = .sc (.bool false):=by
 have hx:=fe uAI hl .i64 i hi
 generalize at0 l i=b at *
 have hd':(b:Int)<48∨(57:Int)<b:=by
  have : ¬ (48≤b∧b≤57):=fun h=>by rw[dI.2 h] at hd;cases hd
  omega
 simp only[iv] at h4
 by_cases h1:(b:Int)<48
 ·simp[yY,f111,aA,dN,h53,h3,h4,uAI,hi,hx,h1]
 ·have h2:(57:Int)<b:=by omega
  simp[yY,f111,aA,dN,h53,h3,h4,uAI,hi,hx,h1,h2]
theorem D0 (L:Lst)(run:aw)(k:Nat)(l:Ω)(hl:Bok l)(h9:l.length<20000000):∀ (n i:Nat) (fr:Ψ),i+n=l.length→fr.length=53→nth fr 3 = .sc (.string (tx l))→nth fr 4=iv i →
  (eI (l.drop i)=true∧∃ fr',cb (ae (CC L) run k yY) (n+1) ⟨fr,[],[]⟩=some (.exit 0,⟨fr',[],[]⟩)∧fr'.length=53) ∨
  (eI (l.drop i)=false∧∃ fr',cb (ae (CC L) run k yY) (n+1) ⟨fr,[],[]⟩=some (.ret,⟨fr',[],[]⟩)∧nth fr' 2 = .sc (.bool false))
 | 0,i,fr,hi,h53,h3,h4=>by
  have:i=l.length:=by omega
  subst this
  obtain⟨fr',g1,g2⟩:=aaZ L run k fr l h53 h3 h4
  exact .inl ⟨by rw[drop_length];rfl,fr',bu g1,g2⟩
 | n+1,i,fr,hi,h53,h3,h4=>by
  have hil:i<l.length:=by omega
  have hdr:eI (l.drop i)=(l9 (at0 l i) && eI (l.drop (i+1))):=by rw[drop_eq_getElem_cons hil,dc hil];rfl
  cases hd:l9 (at0 l i) with
  | true =>
   obtain⟨fr1,g1,g2,g3,g4⟩:=afR L run k fr l i hl hil (by omega) hd h53 h3 h4
   rw[hdr,hd,Bool.true_and,bT g1]
   exact D0 L run k l hl h9 n (i+1) fr1 (by omega) g2 g3 g4
  | false =>
   obtain⟨fr1,g1,g2⟩:=aa0 L run k fr l i hl hil hd h53 h3 h4
   exact .inr ⟨by rw[hdr,hd];rfl,fr1,du g1,g2⟩
def uc:Code:=seq1 (ai 2 jn)
def wV:Code:=seq1 (ai 3 jn)
def TK:Code:=seq1 (seq1 (ai 4 jn))
theorem vE:ai 2 jn = .seq uc (ai 3 jn):=rfl
theorem BX:ai 3 jn = .seq wV (ai 4 jn):=rfl
theorem Lo:ai 4 jn = .seq (.seq TK (.block 0 (.loop yY))) (ai 5 jn):=rfl
theorem aaY (L:Lst)(run:aw)(k:Nat)(s:ByteArray) :
  ∃ fr,bh (CC L) run k 2 jn ⟨entry 53 [.sc (.string s)],[],[]⟩=some ⟨fr,[],[]⟩∧fr.length=53∧nth fr 3 = .sc (.string s):=by
 obtain⟨e1,e2⟩:=cO 52 (.sc (.string s))
 generalize entry 53 [.sc (.string s)]=fr0 at *
 simp[jn,f111,bh,e1,e2]
theorem R9 (l:Ω)(k:Nat)(hp:Θ)(h:k≤l.length):dw TT hp 94 (.sc (.string (tx l))) (some (.sc (.int .i64 (k:Int)))) none none=some (.sc (.string (tx (l.drop k)))):=by
 simp only[dw,uAI,dW,dN,bnd,fv,bn]
 simp[tx,fk,h]
 rw[take_of_length_le (by simp)]
theorem akg (a:Nat):((a:Int) == 48)=a.beq 48:=by
 cases h:a.beq 48 with
 | true=>rw[Nat.eq_of_beq_eq_true h];rfl
 | false =>
  rw[beq_eq_false_iff_ne]
  intro e
  have:a=48:=by omega
  subst this;cases h
def lr:Ω→Option Ω
 | []=>some []
 | a::l=>bif a.beq 45 then (match l with
  | []=>some []
  | b::l=>bif b.beq 48 then none else some (b::l)) else some (a::l)
set_option maxHeartbeats 2000000 in
theorem afQ(l:Ω)(hl:Bok l)(h53:fr.length=53)(h3:nth fr 3 = .sc (.string (tx l))) :
  (lr l=none∧∃ fr',ae (CC L) run k uc ⟨fr,[],[]⟩=some (.ret,⟨fr',[],[]⟩)∧nth fr' 2 = .sc (.bool false)) ∨
  ∃ l' fr',lr l=some l'∧ae (CC L) run k uc ⟨fr,[],[]⟩=some (.normal,⟨fr',[],[]⟩)∧fr'.length=53∧nth fr' 3 = .sc (.string (tx l')):=by
 cases l with
 | nil =>
  refine .inr ⟨[],?_⟩
  simp[lr,uc,jn,f111,dN,h53,h3,uAI,undef]
 | cons a l =>
  have hx:im TT 94 (.sc (.string (tx (a::l)))) (.sc (.int .i64 0))=some (.sc (.int .u8 (a:Int))):=fe uAI hl .i64 0 (by simp)
  have hp:(0:Int)<(l.length:Int)+1:=by omega
  have hb:=ahr a
  have hs:dw TT [] 94 (.sc (.string (tx (a::l)))) (some (.sc (.int .i64 1))) none none=some (.sc (.string (tx l))):=R9 (a::l) 1 [] (by simp)
  cases h:a.beq 45 with
  | false =>
   rw[h] at hb
   refine .inr ⟨a::l,?_⟩
   simp[lr,h,uc,jn,f111,dN,h53,h3,uAI,hx,hp,hb]
  | true =>
   rw[h] at hb
   cases l with
   | nil =>
    refine .inr ⟨[],?_⟩
    simp[lr,h,uc,jn,f111,dN,h53,h3,uAI,hx,hb,hs,undef]
   | cons b l =>
    have hl2:Bok (b::l):=fun x hx=>hl x (mem_cons_of_mem _ hx)
    have hx2:im TT 94 (.sc (.string (tx (b::l)))) (.sc (.int .i64 0))=some (.sc (.int .u8 (b:Int))):=fe uAI hl2 .i64 0 (by simp)
    have hp2:(0:Int)<(l.length:Int)+1:=by omega
    have hp3:(0:Int)<(l.length:Int)+1+1:=by omega
    have hb2:=akg b
    cases h2:b.beq 48 with
    | true =>
     rw[h2] at hb2
     refine .inl ⟨by simp[lr,h,h2],?_⟩
     simp[uc,jn,f111,dN,h53,h3,uAI,hx,hb,hs,hx2,hp2,hp3,hb2]
    | false =>
     rw[h2] at hb2
     refine .inr ⟨b::l,?_⟩
     simp[lr,h,h2,uc,jn,f111,dN,h53,h3,uAI,hx,hb,hs,hx2,hp2,hp3,hb2]
def vHd:Ω→Bool
 | []=>true
 | [_]=>false
 | a::_::_=>a.beq 48
set_option maxHeartbeats 2000000 in
theorem afP(l:Ω)(hl:Bok l)(h53:fr.length=53)(h3:nth fr 3 = .sc (.string (tx l))) :
  (vHd l=true∧∃ fr',ae (CC L) run k wV ⟨fr,[],[]⟩=some (.ret,⟨fr',[],[]⟩)∧nth fr' 2 = .sc (.bool false)) ∨
  (vHd l=false∧∃ fr',ae (CC L) run k wV ⟨fr,[],[]⟩=some (.normal,⟨fr',[],[]⟩)∧fr'.length=53∧nth fr' 3 = .sc (.string (tx l))):=by
 cases l with
 | nil =>
  refine .inl ⟨rfl,?_⟩
  simp[wV,jn,f111,dN,h53,h3,uAI,undef]
 | cons a l =>
  have hx:im TT 94 (.sc (.string (tx (a::l)))) (.sc (.int .i64 0))=some (.sc (.int .u8 (a:Int))):=fe uAI hl .i64 0 (by simp)
  have hb:=akg a
  cases l with
  | nil =>
   refine .inr ⟨rfl,?_⟩
   cases h:a.beq 48 <;> rw[h] at hb <;> simp[wV,jn,f111,dN,h53,h3,uAI,hx,hb,undef]
  | cons b l =>
   have hne:((l.length:Int)+1+1 == 0)=false:=by rw[beq_eq_false_iff_ne];omega
   have hne2 : ¬ ((l.length:Int)+1+1=0):=by omega
   have hlt:(1:Int)<(l.length:Int)+1+1:=by omega
   cases h:a.beq 48 with
   | true =>
    rw[h] at hb
    refine .inl ⟨h,?_⟩
    simp[wV,jn,f111,dN,h53,h3,uAI,hx,hb,hne,hlt]
   | false =>
    rw[h] at hb
    refine .inr ⟨h,?_⟩
    simp[wV,jn,f111,dN,h53,h3,uAI,hx,hb,hne,undef]
theorem afO(h53:fr.length=53) :
  ∃ fr',ae (CC L) run k TK ⟨fr,[],[]⟩=some (.normal,⟨fr',[],[]⟩)∧fr'.length=53∧nth fr' 3=nth fr 3∧nth fr' 4=iv 0:=by
 simp[TK,jn,f111,h53,iv]
theorem TJ(h53:fr.length=53) :
  ∃ st,ae (CC L) run k (ai 5 jn) ⟨fr,[],[]⟩=some (.ret,st)∧aX TT st.fr st.hp f111.results.toList=some [.sc (.bool true)]:=by
 simp[jn,f111,h53,aX]
def lO (l:Ω):Bool:=match lr l with
 | none=>false
 | some l' => !vHd l' && eI l'
def TL:Ψ→Option Ψ
 | [.sc (.string s)]=>bif (bys s).length.blt 20000000 then some [.sc (.bool (lO (bys s)))] else none
 | _=>none
theorem BZ(h2:nth fr 2 = .sc (.bool false)):aX TT fr [] f111.results.toList=some [.sc (.bool false)]:=by
 simp[f111,aX,h2]
theorem Z1 {l l':Ω}(h:lr l=some l')(hl:Bok l):Bok l'∧l'.length≤l.length:=by
 cases l with
 | nil=>simp only[lr,OiE] at h;subst h;exact⟨hl,Nat.le_refl _⟩
 | cons a l =>
  cases ha:a.beq 45 with
  | false=>simp only[lr,ha,cond_false,OiE] at h;subst h;exact⟨hl,Nat.le_refl _⟩
  | true =>
   cases l with
   | nil=>simp only[lr,ha,cond_true,OiE] at h;subst h;exact⟨Bok.nil,Nat.zero_le _⟩
   | cons b l =>
    cases hb:b.beq 48 with
    | true=>simp[lr,ha,hb] at h
    | false =>
     simp only[lr,ha,hb,cond_true,cond_false,OiE] at h
     subst h
     exact⟨fun x hx=>hl x (mem_cons_of_mem _ hx),by simp⟩
theorem TI:Ab.Spec base.P 111 TL:=Ab.Spec.bS (C:=CC []) (cR trivial) fun args rs h=>by
 unfold TL at h
 split at h
 ·rename_i s
  cases hb:(bys s).length.blt 20000000 with
  | false=>rw[hb] at h;cases h
  | true =>
   rw[hb] at h
   simp only[cond_true,OiE] at h
   subst h
   rw[Nat.blt_eq] at hb
   have hok:=nf s
   obtain⟨f1,a1,a2,a3⟩:=aaY [] (runK (CC []) 20000000) 20000000 s
   rw[← iC s] at a3
   rcases afQ [] (runK (CC []) 20000000) 20000000 f1 (bys s) hok a2 a3 with ⟨hc,f2,b1,b2⟩| ⟨l',f2,hc,b1,b2,b3⟩
   ·have hv:lO (bys s)=false:=by rw[lO,hc]
    have hx:ae (CC []) (runK (CC []) 20000000) 20000000 jn ⟨entry 53 [.sc (.string s)],[],[]⟩=some (.ret,⟨f2,[],[]⟩):=by
     rw[aY 2 a1,vE,bO b1]
    rw[hv]
    exact⟨20000001,_,_,_,_,_,ba ke rfl hx (BZ f2 b2),rfl,Wk.refl rfl,trivial⟩
   ·obtain⟨hok',hlen⟩:=Z1 hc hok
    rcases afP [] (runK (CC []) 20000000) 20000000 f2 l' hok' b2 b3 with ⟨hh,f3,c1,c2⟩| ⟨hh,f3,c1,c2,c3⟩
    ·have hv:lO (bys s)=false:=by rw[lO,hc];simp[hh]
     have hx:ae (CC []) (runK (CC []) 20000000) 20000000 jn ⟨entry 53 [.sc (.string s)],[],[]⟩=some (.ret,⟨f3,[],[]⟩):=by
      rw[aY 2 a1,vE,ar b1,BX,bO c1]
     rw[hv]
     exact⟨20000001,_,_,_,_,_,ba ke rfl hx (BZ f3 c2),rfl,Wk.refl rfl,trivial⟩
    ·obtain⟨f4,d1,d2,d3,d4⟩:=afO [] (runK (CC []) 20000000) 20000000 f3 c2
     rcases D0 [] (runK (CC []) 20000000) 20000000 l' hok' (by omega) l'.length 0 f4 (by omega) d2 (by rw[d3,c3]) d4 with ⟨hd,f5,e1,e2⟩| ⟨hd,f5,e1,e2⟩
     ·rw[drop_zero] at hd
      have hv:lO (bys s)=true:=by rw[lO,hc];simp[hh,hd]
      obtain⟨st,x1,x2⟩:=TJ [] (runK (CC []) 20000000) 20000000 f5 e2
      have hx:ae (CC []) (runK (CC []) 20000000) 20000000 jn ⟨entry 53 [.sc (.string s)],[],[]⟩=some (.ret,st):=by
       rw[aY 2 a1,vE,ar b1,BX,ar c1,Lo,ar ((ar d1).trans (bE (bK e1 (by omega))))]
       exact x1
      rw[hv]
      exact⟨20000001,_,_,_,_,_,ba ke rfl hx x2,rfl,Wk.refl rfl,trivial⟩
     ·rw[drop_zero] at hd
      have hv:lO (bys s)=false:=by rw[lO,hc];simp[hd]
      have hx:ae (CC []) (runK (CC []) 20000000) 20000000 jn ⟨entry 53 [.sc (.string s)],[],[]⟩=some (.ret,⟨f5,[],[]⟩):=by
       rw[aY 2 a1,vE,ar b1,BX,ar c1,Lo]
       exact bO ((ar d1).trans (cJ (bK e1 (by omega))))
      rw[hv]
      exact⟨20000001,_,_,_,_,_,ba ke rfl hx (BZ f5 e2),rfl,Wk.refl rfl,trivial⟩
 ·cases h
end Go.Proofs.YtjdmodeenbdfpaaGreat
end
