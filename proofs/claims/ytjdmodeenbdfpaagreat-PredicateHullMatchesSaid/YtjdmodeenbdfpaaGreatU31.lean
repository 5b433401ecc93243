/- Contracts of numbers kept as digits in text, part 31; each lemma states its conditions. -/
import Derived.Test.YtjdmodeenbdfpaaGreatU30
set_option linter.unusedSimpArgs false
set_option linter.unusedVariables false
noncomputable section
namespace Go.Proofs.YtjdmodeenbdfpaaGreat
open Go Go.Ab List Tryz
attribute [local simp] FzZ aC aF aG aH aM aY aa ab ae af ag ah ai aj an aq ar au aw ba bf bg seq1
variable(L:Lst)(run:av)(k:Nat)(fr:Ψ)(hp:Θ)(wr:Ω)
def LT3:Lst:=[(116,mP)]
theorem ag5:dt base.P LT3:=⟨sM,trivial⟩
theorem Ez:bC LT3 116=fun a=>mP (aK a):=rfl
def fJ:Code:=f114.body.getD .skip
def lA:Code:=match aO (seq1 (ai 1 fJ)) with | .cond _ a _=>a | c=>c
def sT:Code:=(az lA).getD .skip
def sS:Code:=(az (ai 3 fJ)).getD .skip
theorem NW(h42:fr.length=42)(h0:nth fr 0=iv 0) :
  ∃ fr',ae (CC L) run k sS ⟨fr,hp,wr⟩=some (.exit 2,⟨fr',hp,wr⟩)∧fr'.length=42∧nth fr' 6=nth fr 6:=by
 simp only[iv] at h0
 simp[sS,fJ,f114,az,h42,h0]
set_option maxHeartbeats 1000000 in
theorem DY(x:Nat)(out:Ω)(hx:0<x)(hx9:x≤9223372036854775807)(ho9:out.length<20000000)(h42:fr.length=42)(h0:nth fr 0=iv x)(hO:dw iv 0 hp out (nth fr 6)) :
  ∃ fr' hp' wr',ae (CC L) run k sS ⟨fr,hp,wr⟩=some (.normal,⟨fr',hp',wr'⟩)∧fr'.length=42∧nth fr' 0=iv (x / 10)∧dw iv 0 hp' (out++[x % 10]) (nth fr' 6):=by
 obtain⟨q,hq⟩:∃ q,q=x / 10:=⟨_,rfl⟩
 obtain⟨r,hr⟩:∃ r,r=x % 10:=⟨_,rfl⟩
 obtain⟨p',hp',fp,g1,g2,-⟩:=hO.app r (by omega)
 have hq9:q≤9223372036854775807:=by rw[hq];exact Nat.le_trans (Nat.div_le_self _ _) hx9
 have hw1:bB .i64 ((x:Int) / 10)=(q:Int):=T.jC .i64 x q hq hq9
 have hw2:=T.ll x r hr
 have hlX:fP TT 24 1 [(0,.sc (.int .i64 (r:Int)))]=some (1,[iv r]):=kH r
 rw[← hq,← hr]
 simp only[iv] at h0 ⊢
 simp[sS,fJ,f114,az,and_assoc,bj,dP,h42,h0,hx,hw1,hw2,hlX,lu,iA,uL,sI,bI,zI,bZ,g1,g2]
theorem HW (L:Lst)(run:av)(k:Nat):∀ (x:Nat) (fr:Ψ) (hp:Θ) (wr:Ω) (out:Ω),x≤9223372036854775807→out.length+(T.aJ x).length<20000000→fr.length=42→nth fr 0=iv x→dw iv 0 hp out (nth fr 6) →
  ∃ (fr':Ψ) (hp':Θ) (wr':Ω),cg (ae (CC L) run k sS) ((T.aJ x).length+1) ⟨fr,hp,wr⟩=some (.exit 2,⟨fr',hp',wr'⟩)∧fr'.length=42∧dw iv 0 hp' (out++T.aJ x) (nth fr' 6):=by
 intro x
 induction x using Nat.strongRecOn with
 | _ x ih =>
  intro fr hp wr out hx9 ho9 h42 h0 hO
  by_cases h:x=0
  ·subst h
   obtain⟨fr',q1,q2,q3⟩:=NW L run k fr hp wr h42 h0
   exact⟨fr',hp,wr,by rw[T.fq];exact br q1,q2,by rw[q3,T.fq,append_nil];exact hO⟩
  ·rw[T.dW h] at ho9 ⊢
   rw[length_cons] at ho9
   obtain⟨fr1,hp1,wr1,g1,g2,g3,g4⟩:=DY L run k fr hp wr x out (by omega) hx9 (by omega) h42 h0 hO
   obtain⟨fr',hp',wr',q1,q2,q3⟩:=ih (x / 10) (by omega) fr1 hp1 wr1 _ (Nat.le_trans (Nat.div_le_self _ _) hx9) (by simp;omega) g2 g3 g4
   exact⟨fr',hp',wr',by rw[length_cons,bU g1];exact q1,q2,by simpa using q3⟩
theorem NY(h42:fr.length=42)(h0:nth fr 3=iv 0) :
  ∃ fr',ae (CC L) run k sT ⟨fr,hp,wr⟩=some (.exit 0,⟨fr',hp,wr⟩)∧fr'.length=42∧nth fr' 5=nth fr 5:=by
 simp only[iv] at h0
 simp[sT,lA,fJ,f114,aO,az,h42,h0]
set_option maxHeartbeats 1000000 in
theorem DZ(x:Nat)(out:Ω)(hx:0<x)(hx9:x≤9223372036854775807)(ho9:out.length<20000000)(h42:fr.length=42)(h0:nth fr 3=iv x)(hO:dw iv 0 hp out (nth fr 5)) :
  ∃ fr' hp' wr',ae (CC L) run k sT ⟨fr,hp,wr⟩=some (.normal,⟨fr',hp',wr'⟩)∧fr'.length=42∧nth fr' 3=iv (x / 10)∧dw iv 0 hp' (out++[x % 10]) (nth fr' 5):=by
 obtain⟨q,hq⟩:∃ q,q=x / 10:=⟨_,rfl⟩
 obtain⟨r,hr⟩:∃ r,r=x % 10:=⟨_,rfl⟩
 obtain⟨p',hp',fp,g1,g2,-⟩:=hO.app r (by omega)
 have hq9:q≤9223372036854775807:=by rw[hq];exact Nat.le_trans (Nat.div_le_self _ _) hx9
 have hw1:bB .i64 ((x:Int) / 10)=(q:Int):=T.jC .i64 x q hq hq9
 have hw2:=T.ll x r hr
 have hlX:fP TT 24 1 [(0,.sc (.int .i64 (r:Int)))]=some (1,[iv r]):=kH r
 rw[← hq,← hr]
 simp only[iv] at h0 ⊢
 simp[sT,lA,fJ,f114,aO,az,and_assoc,bj,dP,h42,h0,hx,hw1,hw2,hlX,lu,iA,uL,sI,bI,zI,bZ,g1,g2]
theorem HY (L:Lst)(run:av)(k:Nat):∀ (x:Nat) (fr:Ψ) (hp:Θ) (wr:Ω) (out:Ω),x≤9223372036854775807→out.length+(T.aJ x).length<20000000→fr.length=42→nth fr 3=iv x→dw iv 0 hp out (nth fr 5) →
  ∃ (fr':Ψ) (hp':Θ) (wr':Ω),cg (ae (CC L) run k sT) ((T.aJ x).length+1) ⟨fr,hp,wr⟩=some (.exit 0,⟨fr',hp',wr'⟩)∧fr'.length=42∧dw iv 0 hp' (out++T.aJ x) (nth fr' 5):=by
 intro x
 induction x using Nat.strongRecOn with
 | _ x ih =>
  intro fr hp wr out hx9 ho9 h42 h0 hO
  by_cases h:x=0
  ·subst h
   obtain⟨fr',q1,q2,q3⟩:=NY L run k fr hp wr h42 h0
   exact⟨fr',hp,wr,by rw[T.fq];exact br q1,q2,by rw[q3,T.fq,append_nil];exact hO⟩
  ·rw[T.dW h] at ho9 ⊢
   rw[length_cons] at ho9
   obtain⟨fr1,hp1,wr1,g1,g2,g3,g4⟩:=DZ L run k fr hp wr x out (by omega) hx9 (by omega) h42 h0 hO
   obtain⟨fr',hp',wr',q1,q2,q3⟩:=ih (x / 10) (by omega) fr1 hp1 wr1 _ (Nat.le_trans (Nat.div_le_self _ _) hx9) (by simp;omega) g2 g3 g4
   exact⟨fr',hp',wr',by rw[length_cons,bU g1];exact q1,q2,by simpa using q3⟩
def BO:Code:=seq1 (seq1 (ai 1 fJ))
theorem ug:ai 1 fJ = .seq (.seq BO (.cond (.tmp 8) lA .skip)) (ai 2 fJ):=rfl
theorem DX:ai 3 fJ = .seq (.block 2 (.loop sS)) (ai 4 fJ):=rfl
def HZ:Code:=seq1 (seq1 (ai 3 lA))
theorem DW:ai 3 lA = .seq (.seq HZ (.block 0 (.loop sT))) (ai 4 lA):=rfl
theorem TE (L:Lst)(run:av)(k:Nat)(z:Int) :
  ∃ fr,bh (CC L) run k 1 fJ ⟨entry 42 [.sc (.int .i64 z)],[],[]⟩=some ⟨fr,[],[]⟩∧fr.length=42∧nth fr 0 = .sc (.int .i64 z):=by
 obtain⟨e1,e2⟩:=cV 41 (.sc (.int .i64 z))
 generalize entry 42 [.sc (.int .i64 z)]=fr0 at *
 simp[fJ,f114,bh,e1,e2]
theorem aaA(z:Int)(h42:fr.length=42)(h0:nth fr 0 = .sc (.int .i64 z)) :
  ∃ fr',ae (CC L) run k BO ⟨fr,[],[]⟩=some (.normal,⟨fr',[],[]⟩)∧fr'.length=42∧nth fr' 0 = .sc (.int .i64 z)∧nth fr' 8 = .sc (.bool (decide (z<0))):=by
 simp[BO,fJ,f114,h42,h0]
theorem TD(h42:fr.length=42) :
  ∃ fr',bh (CC L) run k 1 (ai 2 fJ) ⟨fr,[],[]⟩=some ⟨fr',[],[]⟩∧fr'.length=42∧nth fr' 0=nth fr 0∧nth fr' 6 = .sc (.slice none 0 0):=by
 simp[fJ,f114,bh,h42]
theorem HV (L:Lst)(run:av)(k:Nat)(fr:Ψ)(hp hp':Θ)(wr:Ω)(p q:PV)(fp:FP)(h42:fr.length=42)(h6:nth fr 6=p)(hc:bS (CC L) run false hp 116 [.sc (.bool false),p]=some (q,hp',fp)) :
  ∃ st,ae (CC L) run k (ai 4 fJ) ⟨fr,hp,wr⟩=some (.ret,st)∧aY TT st.fr st.hp f114.results.toList=some [q]:=by
 simp[fJ,f114,h42,h6,hc]
theorem HX (L:Lst)(run:av)(k:Nat)(fr:Ψ)(hp hp':Θ)(wr:Ω)(p q:PV)(fp:FP)(h42:fr.length=42)(h6:nth fr 5=p)(hc:bS (CC L) run false hp 116 [.sc (.bool true),p]=some (q,hp',fp)) :
  ∃ st,ae (CC L) run k (ai 4 lA) ⟨fr,hp,wr⟩=some (.ret,st)∧aY TT st.fr st.hp f114.results.toList=some [q]:=by
 simp[lA,fJ,aO,f114,h42,h6,hc]
set_option maxHeartbeats 1000000 in
theorem NX(z:Int)(q r:Nat)(hq:z.tdiv 10 = -(q:Int))(hr:z.tmod 10 = -(r:Int))(hq9:q≤9223372036854775807)(hr9:r<10)(h42:fr.length=42)(h0:nth fr 0 = .sc (.int .i64 z)) :
  ∃ fr' hp' wr',bh (CC L) run k 3 lA ⟨fr,[],[]⟩=some ⟨fr',hp',wr'⟩∧fr'.length=42∧nth fr' 3 = .sc (.int .i64 (-(q:Int)))∧dw iv 0 hp' [r] (nth fr' 5):=by
 obtain⟨p',hp',fp,g1,g2,-⟩:=(dw.nil (e:=iv) (b:=0) (hp:=[]) (Nat.le_refl _)).app r (by simp)
 rw[nil_append] at g2
 have hw1:bB .i64 (-(q:Int)) = -(q:Int):=fi _ (by omega) (by omega)
 have hw2:bB .i64 (r:Int)=(r:Int):=cp .i64 r (hiI (by omega))
 have hlX:fP TT 24 1 [(0,.sc (.int .i64 (r:Int)))]=some (1,[iv r]):=kH r
 simp[lA,fJ,f114,aO,bh,unP,and_assoc,bj,dP,h42,h0,hq,hr,hw1,hw2,hlX,lu,iA,uL,sI,bI,zI,bZ,g1,g2]
theorem aaz(q:Nat)(hq9:q≤9223372036854775807)(h42:fr.length=42)(h3:nth fr 3 = .sc (.int .i64 (-(q:Int)))) :
  ∃ fr',ae (CC L) run k HZ ⟨fr,hp,wr⟩=some (.normal,⟨fr',hp,wr⟩)∧fr'.length=42∧nth fr' 3=iv q∧nth fr' 5=nth fr 5:=by
 have hw2:bB .i64 (q:Int)=(q:Int):=cp .i64 q (hiI hq9)
 simp[HZ,lA,fJ,f114,aO,unP,h42,h3,hw2,iv]
def uh:Ψ→Option Ψ
 | [.sc (.int .i64 z)]=>bif decide (-9223372036854775808≤z) && decide (z≤9223372036854775807) then some [zs z] else none
 | _=>none
theorem uC {x:Nat}(h:x≤9223372036854775808):(T.aJ x).length≤19:=T.di (Nat.lt_of_le_of_lt h (by decide))
theorem Ac:Ab.Spec base.P 114 uh:=Ab.Spec.bL (C:=CC LT3) (cP ag5) fun args rs h=>by
 unfold uh at h
 split at h
 ·rename_i z
  cases hb:decide (-9223372036854775808≤z) && decide (z≤9223372036854775807) with
  | false=>rw[hb] at h;cases h
  | true =>
   rw[hb] at h
   simp only[cond_true,OiE] at h
   subst h
   simp only[Bool.and_eq_true,decide_eq_true_eq] at hb
   have htext:∀ (m:Bool) (l:Ω),T.Dok l→l.length<10000000→mP [.sc (.bool m),mE iv l]=some [zs (gD m (T.val l))]:=by
    intro m l h1 h2
    have:=dQ h1 h2
    simp only[bA] at this
    simp only[mP,this,zs,vA]
   obtain⟨f1,p1,p2,p3⟩:=TE LT3 (runK (CC LT3) 21) 21 z
   obtain⟨f2,q1,q2,q3,q4⟩:=aaA LT3 (runK (CC LT3) 21) 21 f1 z p2 p3
   by_cases hz:z<0
   ·have hd:=uC (x:=z.natAbs) (by omega)
    have hstep:=T.dW (show z.natAbs≠0 by omega)
    have hq:z.tdiv 10 = -((z.natAbs / 10:Nat):Int):=by
     have:z = -((z.natAbs:Nat):Int):=by omega
     rw[this,Int.neg_tdiv,Int.natAbs_neg,Int.natAbs_natCast]
     congr 1
    have hr:z.tmod 10 = -((z.natAbs % 10:Nat):Int):=by
     have:z = -((z.natAbs:Nat):Int):=by omega
     rw[this,Int.neg_tmod,Int.natAbs_neg,Int.natAbs_natCast]
     congr 1
    obtain⟨f3,hp3,wr3,r1,r2,r3,r4⟩:=NX LT3 (runK (CC LT3) 21) 21 f2 z _ _ hq hr (by omega) (by omega) q2 q3
    obtain⟨f4,s1,s2,s3,s4⟩:=aaz LT3 (runK (CC LT3) 21) 21 f3 hp3 wr3 _ (by omega) r2 r3
    rw[hstep,length_cons] at hd
    obtain⟨f5,hp5,wr5,t1,t2,t3⟩:=HY LT3 (runK (CC LT3) 21) 21 (z.natAbs / 10) f4 hp3 wr3 [z.natAbs % 10] (by omega) (by simp only[length_cons,length_nil];omega) s2 s3 (by rw[s4];exact r4)
    have e:[z.natAbs % 10]++T.aJ (z.natAbs / 10)=T.aJ z.natAbs:=by rw[hstep];rfl
    rw[e] at t3
    obtain⟨hp6,fp,c1,-⟩:=o9 jU Ez (runK (CC LT3) 21) false iX true t3.s _ (htext true _ (T.bV _) (by rw[hstep,length_cons];omega))
    rw[T.bX] at c1
    have hzz:gD true z.natAbs=z:=by
     have:bw z=true:=by rw[cK];simpa using hz
     rw[← this,ie]
    rw[hzz] at c1
    obtain⟨st,x1,x2⟩:=HX LT3 (runK (CC LT3) 21) 21 f5 hp5 hp6 wr5 _ _ fp t2 rfl c1
    have hcond:decide (z<0)=true:=decide_eq_true hz
    rw[hcond] at q4
    have hx:ae (CC LT3) (runK (CC LT3) 21) 21 fJ ⟨entry 42 [.sc (.int .i64 z)],[],[]⟩=some (.ret,st):=by
     rw[aU 1 p1,ug]
     refine bK ?_
     rw[ao q1,uz (by simpa [aj] using q4),aU 3 r1,DW,ao ((ao s1).trans (bD (bG t1 (by omega))))]
     exact x1
    exact⟨22,_,_,_,_,_,aZ pz rfl hx x2,rfl,Wk.refl rfl,trivial⟩
   ·have hd:=uC (x:=z.natAbs) (by omega)
    have hcond:decide (z<0)=false:=decide_eq_false hz
    rw[hcond] at q4
    obtain⟨f3,r1,r2,r3,r4⟩:=TD LT3 (runK (CC LT3) 21) 21 f2 q2
    have hzi:PV.sc (.int .i64 z)=iv z.natAbs:=by
     unfold iv
     rw[show ((z.natAbs:Nat):Int)=z by omega]
    obtain⟨f5,hp5,wr5,t1,t2,t3⟩:=HW LT3 (runK (CC LT3) 21) 21 z.natAbs f3 [] [] [] (by omega) (by simp only[length_nil];omega) r2 (by rw[r3,q3,hzi]) (by rw[r4];exact dw.nil (Nat.le_refl _))
    rw[nil_append] at t3
    obtain⟨hp6,fp,c1,-⟩:=o9 jU Ez (runK (CC LT3) 21) false iX false t3.s _ (htext false _ (T.bV _) (by omega))
    rw[T.bX] at c1
    have hzz:gD false z.natAbs=z:=by
     have:bw z=false:=by rw[cK];simpa using hz
     rw[← this,ie]
    rw[hzz] at c1
    obtain⟨st,x1,x2⟩:=HV LT3 (runK (CC LT3) 21) 21 f5 hp5 hp6 wr5 _ _ fp t2 rfl c1
    have hx:ae (CC LT3) (runK (CC LT3) 21) 21 fJ ⟨entry 42 [.sc (.int .i64 z)],[],[]⟩=some (.ret,st):=by
     rw[aU 1 p1,ug]
     have hm:ae (CC LT3) (runK (CC LT3) 21) 21 (.seq BO (.cond (.tmp 8) lA .skip)) ⟨f1,[],[]⟩=some (.normal,⟨f2,[],[]⟩):=by
      rw[ao q1,uA (by simpa [aj] using q4),AU]
     rw[ao hm,aU 1 r1,show ai 1 (ai 2 fJ)=ai 3 fJ from rfl,DX,ao (bD (bG t1 (by omega)))]
     exact x1
    exact⟨22,_,_,_,_,_,aZ pz rfl hx x2,rfl,Wk.refl rfl,trivial⟩
 ·cases h
def LT4:Lst:=[(115,uj),(116,mP),(113,uc),(114,uh),(118,kB),(117,wU),(119,nD)]
theorem yC:dt base.P LT4:=⟨Ah,sM,zZ,Ac,ua,HJ,xd,trivial⟩
theorem aa8:bC LT4 115=fun a=>uj (aK a):=rfl
theorem Ey:bC LT4 116=fun a=>mP (aK a):=rfl
theorem Ok:bC LT4 113=fun a=>uc (aK a):=rfl
theorem aa7:bC LT4 114=fun a=>uh (aK a):=rfl
theorem Uu:bC LT4 118=fun a=>kB (aK a):=rfl
theorem aa6:bC LT4 117=fun a=>wU (aK a):=rfl
theorem aa9:bC LT4 119=fun a=>nD (aK a):=rfl
def Zm (z:Int):Prop:=(ztx z).length≤fO
theorem Zm.lt {z:Int}(h:Zm z):(ztx z).length<9000000:=Nat.lt_of_le_of_lt h (by decide)
theorem Zm.ew {z:Int}(h:Zm z):(dtx z.natAbs).length<9000000:=by
 have h1:=h.lt
 rw[gV] at h1
 exact Nat.lt_of_le_of_lt (Nat.le_add_left _ _) h1
theorem Zm.aJ {z:Int}(h:Zm z):(T.aJ z.natAbs).length<9000000:=Nat.lt_of_le_of_lt (AY _) h.ew
theorem Zm.LO {z:Int}(h:Zm z):(T.aJ z.natAbs).length≤3000000:=by
 have h1:(ztx z).length≤3000000:=h
 rw[gV] at h1
 exact Nat.le_trans (AY _) (Nat.le_trans (Nat.le_add_left _ _) h1)
theorem XB (z:Int):bys (tx (ztx z))=ztx z:=jH (kO z)
theorem Wv (z:Int)(h:Zm z):uj [zs z]=some [.sc (.bool (bw z)),bA (T.aJ z.natAbs)]:=by
 obtain⟨m,h1,h2⟩:=nh z
 have h3:(dtx z.natAbs).length.blt 9000000=true:=by rw[Nat.blt_eq];exact h.ew
 simp only[uj,zs,XB,h1,h3,cond_true,oZ,h2]
theorem Bh (m:Bool)(l:Ω)(h1:T.Dok l)(h2:l.length<10000000):mP [.sc (.bool m),bA l]=some [zs (gD m (T.val l))]:=by
 simp only[mP,dQ h1 h2,zs,vA]
theorem RW (z:Int)(h:Zm z):uc [zs z]=some (bif (ew z).ble 9 then [Ab.bJ z,.sc (.bool true)] else [Ab.bJ 0,.sc (.bool false)]):=by
 obtain⟨m,h1,h2⟩:=nh z
 have h3:(ztx z).length.blt 100000000=true:=by rw[Nat.blt_eq];exact Nat.lt_trans h.lt (by decide)
 have h4:(dtx z.natAbs).length=ew z:=rfl
 simp only[uc,zs,XB,h1,h3,cond_true,oZ,h2,ie,h4]
 cases (ew z).ble 9 <;> rfl
theorem FK (m:Bool)(l:Ω):aK [.sc (.bool m),bA l]=[.sc (.bool m),bA l]:=by
 simp only[aK,pW];rfl
theorem od (a b:Ω):aK [bA a,bA b]=[bA a,bA b]:=by
 simp only[aK,pW]
theorem kI(z:Int)(h:Zm z):aA LT4 run 115 [zs z] (.tup [.sc (.bool (bw z)),bA (T.aJ z.natAbs)]):=fun dr hp =>
 bq tH aa8 run dr hp _ [.sc (.bool (bw z)),bA (T.aJ z.natAbs)] rfl rfl (Wv z h)
theorem nV(m:Bool)(l:Ω)(h1:T.Dok l)(h2:l.length<10000000):aA LT4 run 116 [.sc (.bool m),bA l] (zs (gD m (T.val l))):=fun dr hp =>
 bq jU Ey run dr hp _ [zs (gD m (T.val l))] rfl (FK m l) (Bh m l h1 h2)
theorem oU(z:Int)(h:Zm z):aA LT4 run 113 [zs z] (.tup (bif (ew z).ble 9 then [Ab.bJ z,.sc (.bool true)] else [Ab.bJ 0,.sc (.bool false)])):=fun dr hp=>by
 have:=bq wk Ok run dr hp [zs z] _ rfl rfl (RW z h)
 rw[this]
 cases (ew z).ble 9 <;> rfl
theorem Ly(z:Int)(h1 : -9223372036854775808≤z)(h2:z≤9223372036854775807):aA LT4 run 114 [.sc (.int .i64 z)] (zs z):=fun dr hp =>
 bq tJ aa7 run dr hp _ [zs z] rfl rfl (by simp only[uh,decide_eq_true h1,decide_eq_true h2,Bool.and_self,cond_true])
theorem qO (x y:Nat):kA (T.aJ x) (T.aJ y)=dR x y:=by
 unfold kA
 by_cases h1:(T.aJ x).length<(T.aJ y).length
 ·rw[if_pos h1,dR,if_pos]
  exact Nat.lt_of_not_le fun h=>absurd (T.cw h) (by omega)
 ·rw[if_neg h1]
  by_cases h2:(T.aJ y).length<(T.aJ x).length
  ·have h3:y<x:=Nat.lt_of_not_le fun h=>absurd (T.cw h) (by omega)
   rw[if_pos h2,dR,if_neg (by omega),if_neg (by omega)]
  ·rw[if_neg h2,T.bX,T.bX]
theorem xY(x y:Nat)(hx:(T.aJ x).length<10000000)(hy:(T.aJ y).length<10000000):aA LT4 run 118 [bA (T.aJ x),bA (T.aJ y)] (Ab.bJ (dR x y)):=fun dr hp =>
 bq zB Uu run dr hp _ [Ab.bJ (dR x y)] rfl (od _ _) (by simp only[kB,dQ (T.bV x) hx,dQ (T.bV y) hy,qO])
theorem acA(x y:Nat)(hx:(T.aJ x).length<10000000)(hy:(T.aJ y).length<10000000):aA LT4 run 117 [bA (T.aJ x),bA (T.aJ y)] (bA (yL (T.aJ x) (T.aJ y))):=fun dr hp =>
 bq RB aa6 run dr hp _ [bA (yL (T.aJ x) (T.aJ y))] rfl (od _ _) (by simp only[wU,dQ (T.bV x) hx,dQ (T.bV y) hy])
theorem Lz (run:av)(x y:Nat)(hx:(T.aJ x).length<10000000)(hy:(T.aJ y).length<10000000)(h:y≤x):aA LT4 run 119 [bA (T.aJ x),bA (T.aJ y)] (bA (T.aJ (x - y))):=fun dr hp =>
 bq zD aa9 run dr hp _ [bA (T.aJ (x - y))] rfl (od _ _) (by
  have h1:(T.aJ y).length.ble (T.aJ x).length=true:=by rw[Nat.ble_eq];exact T.cw h
  have h2:y.ble x=true:=by rw[Nat.ble_eq];exact h
  simp only[nD,dQ (T.bV x) hx,dQ (T.bV y) hy,T.bX,h1,h2,Bool.and_self,cond_true])
theorem HU(s r:ByteArray)(m:Bool)(l:Ω)(g1:aA L run 115 [.sc (.string s)] (.tup [.sc (.bool m),bA l]))(g2:aA L run 116 [.sc (.bool (!m)),bA l] (.sc (.string r))) :
  ∃ st,ae (CC L) run k (f120.body.getD .skip) ⟨entry 14 [.sc (.string s)],[],[]⟩=some (.ret,st)∧aY TT st.fr st.hp f120.results.toList=some [.sc (.string r)]:=by
 obtain⟨e1,e2⟩:=cV 13 (.sc (.string s))
 generalize entry 14 [.sc (.string s)]=fr0 at *
 unfold aA at *
 cases m <;> simp only[Bool.not_true,Bool.not_false] at g2 <;> simp[f120,e1,e2,unP,g1,g2]
theorem HR(s r:ByteArray)(m:Bool)(l:Ω)(g1:aA L run 115 [.sc (.string s)] (.tup [.sc (.bool m),bA l]))(g2:aA L run 116 [.sc (.bool false),bA l] (.sc (.string r))) :
  ∃ st,ae (CC L) run k (f155.body.getD .skip) ⟨entry 12 [.sc (.string s)],[],[]⟩=some (.ret,st)∧aY TT st.fr st.hp f155.results.toList=some [.sc (.string r)]:=by
 obtain⟨e1,e2⟩:=cV 11 (.sc (.string s))
 generalize entry 12 [.sc (.string s)]=fr0 at *
 unfold aA at *
 simp[f155,e1,e2,g1,g2]
def nC:Ψ→Option Ψ
 | [p]=>match fL p with
  | some z=>some [zs (-z)]
  | none=>none
 | _=>none
def sQ:Ψ→Option Ψ
 | [p]=>match fL p with
  | some z=>some [zs (Int.ofNat z.natAbs)]
  | none=>none
 | _=>none
theorem R1 (z:Int):gD (!bw z) z.natAbs = -z:=by
 cases z with
 | ofNat n=>cases n <;> rfl
 | negSucc n=>rfl
theorem xa:Ab.Spec base.P 120 nC:=Ab.Spec.bL (C:=CC LT4) (cP yC) fun args rs h=>by
 unfold nC at h
 split at h
 ·split at h
  ·rename_i z e
   obtain⟨rfl,hz⟩:=dj e
   simp only[OiE] at h
   subst h
   have g2:=nV (runK (CC LT4) 1) (!bw z) (T.aJ z.natAbs) (T.bV _) (Nat.lt_trans (Zm.aJ hz) (by decide))
   rw[T.bX,R1] at g2
   obtain⟨st,x1,x2⟩:=HU LT4 (runK (CC LT4) 1) 1 _ _ _ _ (kI _ z hz) g2
   exact⟨2,_,_,_,_,_,aZ JP rfl x1 x2,rfl,Wk.refl rfl,trivial⟩
  ·cases h
 ·cases h
theorem HQ:Ab.Spec base.P 155 sQ:=Ab.Spec.bL (C:=CC LT4) (cP yC) fun args rs h=>by
 unfold sQ at h
 split at h
 ·split at h
  ·rename_i z e
   obtain⟨rfl,hz⟩:=dj e
   simp only[OiE] at h
   subst h
   have g2:=nV (runK (CC LT4) 1) false (T.aJ z.natAbs) (T.bV _) (Nat.lt_trans (Zm.aJ hz) (by decide))
   rw[T.bX] at g2
   obtain⟨st,x1,x2⟩:=HR LT4 (runK (CC LT4) 1) 1 _ _ _ _ (kI _ z hz) g2
   exact⟨2,_,_,_,_,_,aZ JO rfl x1 x2,rfl,Wk.refl rfl,trivial⟩
  ·cases h
 ·cases h
set_option maxHeartbeats 1000000 in
theorem Ii(s t:ByteArray)(m n:Bool)(a b:Ω)(r1 r2:Int)(g1:aA L run 115 [.sc (.string s)] (.tup [.sc (.bool m),bA a]))(g2:aA L run 115 [.sc (.string t)] (.tup [.sc (.bool n),bA b]))
  (g3:aA L run 118 [bA a,bA b] (Ab.bJ r1)) (g4:aA L run 118 [bA b,bA a] (Ab.bJ r2)) :
  ∃ st,ae (CC L) run k (f69.body.getD .skip) ⟨entry 30 [.sc (.string s),.sc (.string t)],[],[]⟩=some (.ret,st)∧aY TT st.fr st.hp f69.results.toList=some [Ab.bJ (if m=n then (if m=true then r2 else r1) else (if m=true then -1 else 1))]:=by
 obtain⟨e1,e2,e3⟩:=cb 28 (.sc (.string s)) (.sc (.string t))
 generalize entry 30 [.sc (.string s),.sc (.string t)]=fr0 at *
 unfold aA at *
 simp only[Ab.bJ] at *
 cases m <;> cases n <;> simp[f69,e1,e2,e3,dG,uB,g1,g2,g3,g4]
def mf:Ψ→Option Ψ
 | [p,q]=>match fL p,fL q with
  | some x,some y=>some [Ab.bJ (fX x y)]
  | _,_=>none
 | _=>none
theorem WR (x y:Int):(if bw x=bw y then (if bw x=true then dR y.natAbs x.natAbs else dR x.natAbs y.natAbs) else (if bw x=true then -1 else 1))=fX x y:=by
 rw[cK,cK]
 unfold fX dR
 by_cases hx:x<0 <;> by_cases hy:y<0 <;> simp[hx,hy]
 ·by_cases h1:x<y
  ·rw[if_pos (by omega),if_pos h1]
  ·rw[if_neg (by omega),if_neg h1]
   by_cases h2:x=y
   ·rw[if_pos (by omega),if_pos h2]
   ·rw[if_neg (by omega),if_neg h2]
 ·first | (intros;omega) | (rw[if_pos (by omega)])
 ·first | (intros;omega) | (rw[if_neg (by omega),if_neg (by omega)])
 ·by_cases h1:x<y
  ·rw[if_pos (by omega),if_pos h1]
  ·rw[if_neg (by omega),if_neg h1]
   by_cases h2:x=y
   ·rw[if_pos (by omega),if_pos h2]
   ·rw[if_neg (by omega),if_neg h2]
theorem pK:Ab.Spec base.P 69 mf:=Ab.Spec.bL (C:=CC LT4) (cP yC) fun args rs h=>by
 unfold mf at h
 split at h
 ·split at h
  ·rename_i x y ex ey
   obtain⟨rfl,hx⟩:=dj ex
   obtain⟨rfl,hy⟩:=dj ey
   simp only[OiE] at h
   subst h
   have hx9:=Nat.lt_trans (Zm.aJ hx) (show 9000000<10000000 by decide)
   have hy9:=Nat.lt_trans (Zm.aJ hy) (show 9000000<10000000 by decide)
   obtain⟨st,x1,x2⟩:=Ii LT4 (runK (CC LT4) 1) 1 _ _ _ _ _ _ _ _ (kI _ x hx) (kI _ y hy) (xY _ x.natAbs y.natAbs hx9 hy9) (xY _ y.natAbs x.natAbs hy9 hx9)
   rw[WR] at x2
   exact⟨2,_,_,_,_,_,aZ JR rfl x1 x2,rfl,Wk.refl rfl,trivial⟩
  ·cases h
 ·cases h
set_option maxHeartbeats 1000000 in
theorem TC(s t r:ByteArray)(u v w:Int)(g1:aA L run 113 [.sc (.string s)] (.tup [Ab.bJ u,.sc (.bool true)]))(g2:aA L run 113 [.sc (.string t)] (.tup [Ab.bJ v,.sc (.bool true)]))
  (hw:bB .i64 (u+v)=w) (g3:aA L run 114 [.sc (.int .i64 w)] (.sc (.string r))) :
  ∃ st,ae (CC L) run k (f66.body.getD .skip) ⟨entry 63 [.sc (.string s),.sc (.string t)],[],[]⟩=some (.ret,st)∧aY TT st.fr st.hp f66.results.toList=some [.sc (.string r)]:=by
 obtain⟨e1,e2,e3⟩:=cb 61 (.sc (.string s)) (.sc (.string t))
 generalize entry 63 [.sc (.string s),.sc (.string t)]=fr0 at *
 unfold aA at *
 simp only[Ab.bJ] at *
 simp[f66,e1,e2,e3,g1,g2,hw,g3]
def jI:Code:=f66.body.getD .skip
set_option maxHeartbeats 1000000 in
theorem HS (L:Lst)(run:av)(k:Nat)(s t:ByteArray)(u v:Int)(f1 f2:Bool)(hf:(f1 && f2)=false)(g1:aA L run 113 [.sc (.string s)] (.tup [Ab.bJ u,.sc (.bool f1)]))(g2:aA L run 113 [.sc (.string t)] (.tup [Ab.bJ v,.sc (.bool f2)])) :
  ∃ fr,bh (CC L) run k 4 jI ⟨entry 63 [.sc (.string s),.sc (.string t)],[],[]⟩=some ⟨fr,[],[]⟩∧fr.length=63∧nth fr 0 = .sc (.string s)∧nth fr 1 = .sc (.string t):=by
 obtain⟨e1,e2,e3⟩:=cb 61 (.sc (.string s)) (.sc (.string t))
 generalize entry 63 [.sc (.string s),.sc (.string t)]=fr0 at *
 unfold aA at *
 simp only[Ab.bJ] at *
 cases f1 <;> cases f2 <;> simp only[Bool.and_true,Bool.and_false,Bool.and_self,Bool.true_eq_false] at hf <;> simp[jI,f66,bh,e1,e2,e3,g1,g2,undef]
theorem HT(s t:ByteArray)(m n:Bool)(a b:Ω)(g1:aA L run 115 [.sc (.string s)] (.tup [.sc (.bool m),bA a]))(g2:aA L run 115 [.sc (.string t)] (.tup [.sc (.bool n),bA b]))
  (h63:fr.length=63) (h0:nth fr 0 = .sc (.string s)) (h1:nth fr 1 = .sc (.string t)) :
  ∃ fr',bh (CC L) run k 2 (ai 4 jI) ⟨fr,[],[]⟩=some ⟨fr',[],[]⟩∧fr'.length=63∧nth fr' 9 = .sc (.bool m)∧nth fr' 10=bA a∧nth fr' 11 = .sc (.bool n)∧nth fr' 12=bA b:=by
 unfold aA at *
 simp[jI,f66,bh,h63,h0,h1,g1,g2]
set_option maxHeartbeats 1000000 in
theorem TB(m:Bool)(a b c:Ω)(r:ByteArray)(g1:aA L run 117 [bA a,bA b] (bA c))(g2:aA L run 116 [.sc (.bool m),bA c] (.sc (.string r)))
  (h63:fr.length=63) (h9:nth fr 9 = .sc (.bool m)) (h10:nth fr 10=bA a) (h11:nth fr 11 = .sc (.bool m)) (h12:nth fr 12=bA b) :
  ∃ st,ae (CC L) run k (ai 6 jI) ⟨fr,[],[]⟩=some (.ret,st)∧aY TT st.fr st.hp f66.results.toList=some [.sc (.string r)]:=by
 unfold aA at *
 cases m <;> simp[jI,f66,h63,h9,h10,h11,h12,dG,uB,g1,g2]
set_option maxHeartbeats 1000000 in
theorem NV(m:Bool)(a b c:Ω)(r:ByteArray)(z:Int)(hz:z<0)(g0:aA L run 118 [bA a,bA b] (Ab.bJ z))(g1:aA L run 119 [bA b,bA a] (bA c))(g2:aA L run 116 [.sc (.bool (!m)),bA c] (.sc (.string r)))
  (h63:fr.length=63) (h9:nth fr 9 = .sc (.bool m)) (h10:nth fr 10=bA a) (h11:nth fr 11 = .sc (.bool (!m))) (h12:nth fr 12=bA b) :
  ∃ st,ae (CC L) run k (ai 6 jI) ⟨fr,[],[]⟩=some (.ret,st)∧aY TT st.fr st.hp f66.results.toList=some [.sc (.string r)]:=by
 unfold aA at *
 simp only[Ab.bJ] at *
 cases m <;> simp only[Bool.not_true,Bool.not_false] at g2 h11 <;> simp[jI,f66,h63,h9,h10,h11,h12,dG,uB,hz,g0,g1,g2]
set_option maxHeartbeats 1000000 in
theorem NU(m:Bool)(a b c:Ω)(r:ByteArray)(z:Int)(hz : ¬ z<0)(g0:aA L run 118 [bA a,bA b] (Ab.bJ z))(g1:aA L run 119 [bA a,bA b] (bA c))(g2:aA L run 116 [.sc (.bool m),bA c] (.sc (.string r)))
  (h63:fr.length=63) (h9:nth fr 9 = .sc (.bool m)) (h10:nth fr 10=bA a) (h11:nth fr 11 = .sc (.bool (!m))) (h12:nth fr 12=bA b) :
  ∃ st,ae (CC L) run k (ai 6 jI) ⟨fr,[],[]⟩=some (.ret,st)∧aY TT st.fr st.hp f66.results.toList=some [.sc (.string r)]:=by
 unfold aA at *
 simp only[Ab.bJ] at *
 cases m <;> simp only[Bool.not_true,Bool.not_false] at h11 <;> simp[jI,f66,h63,h9,h10,h11,h12,dG,uB,hz,g0,g1,g2]
def iy:Ψ→Option Ψ
 | [p,q]=>match fL p,fL q with
  | some x,some y=>some [zs (x+y)]
  | _,_=>none
 | _=>none
theorem zf {z:Int}(h:(ew z).ble 9=true) : -1000000000<z∧z<1000000000:=by
 rw[Nat.ble_eq] at h
 have:=(tj (n:=z.natAbs) (k:=9) (by omega)).1 h
 omega
theorem QZ (a b:Ω)(ha:T.Dok a)(hb:T.Dok b):T.val (yL a b)=T.val a+T.val b:=by
 unfold yL
 refine T.fj _ _ ?_
 have h1:=T.eM ha
 have h2:=T.eM hb
 have hm:=lT a b
 have h3:10 ^ a.length≤10 ^ Nat.max a.length b.length:=Nat.pow_le_pow_right (by omega) (by omega)
 have h4:10 ^ b.length≤10 ^ Nat.max a.length b.length:=Nat.pow_le_pow_right (by omega) (by omega)
 split
 ·rw[Nat.pow_succ];omega
 ·rename_i h
  rw[Nat.add_zero];omega
theorem YR (a b:Ω):T.Dok (yL a b):=T.gn _ _
theorem Q0 (a b:Ω):(yL a b).length≤Nat.max a.length b.length+1:=by
 unfold yL
 rw[T.dq]
 split <;> omega
theorem kt (m:Bool)(n:Nat):gD m n=if m=true then -(n:Int) else (n:Int):=by
 cases m with
 | false=>rfl
 | true=>cases n <;> rfl
theorem nB:Ab.Spec base.P 66 iy:=Ab.Spec.bL (C:=CC LT4) (cP yC) fun args rs h=>by
 unfold iy at h
 split at h
 ·split at h
  ·rename_i x y ex ey
   obtain⟨rfl,hx⟩:=dj ex
   obtain⟨rfl,hy⟩:=dj ey
   simp only[OiE] at h
   subst h
   have hx9:=Nat.lt_trans (Zm.aJ hx) (show 9000000<10000000 by decide)
   have hy9:=Nat.lt_trans (Zm.aJ hy) (show 9000000<10000000 by decide)
   have gs1:=oU (runK (CC LT4) 1) x hx
   have gs2:=oU (runK (CC LT4) 1) y hy
   suffices hgo:∃ st,ae (CC LT4) (runK (CC LT4) 1) 1 jI ⟨entry 63 [zs x,zs y],[],[]⟩=some (.ret,st)∧aY TT st.fr st.hp f66.results.toList=some [zs (x+y)] by
    obtain⟨st,x1,x2⟩:=hgo
    exact⟨2,_,_,_,_,_,aZ Gg rfl x1 x2,rfl,Wk.refl rfl,trivial⟩
   have rest:∀ (u v:Int) (f1 f2:Bool),(f1 && f2)=false→aA LT4 (runK (CC LT4) 1) 113 [zs x] (.tup [Ab.bJ u,.sc (.bool f1)])→aA LT4 (runK (CC LT4) 1) 113 [zs y] (.tup [Ab.bJ v,.sc (.bool f2)]) →
     ∃ st,ae (CC LT4) (runK (CC LT4) 1) 1 jI ⟨entry 63 [zs x,zs y],[],[]⟩=some (.ret,st)∧aY TT st.fr st.hp f66.results.toList=some [zs (x+y)]:=by
    intro u v f1 f2 hf q1 q2
    obtain⟨fr1,a1,a2,a3,a4⟩:=HS LT4 (runK (CC LT4) 1) 1 _ _ u v f1 f2 hf q1 q2
    obtain⟨fr2,b1,b2,b3,b4,b5,b6⟩:=HT LT4 (runK (CC LT4) 1) 1 fr1 _ _ _ _ _ _ (kI _ x hx) (kI _ y hy) a2 a3 a4
    have hex:∀ {r},ae (CC LT4) (runK (CC LT4) 1) 1 (ai 6 jI) ⟨fr2,[],[]⟩=r→ae (CC LT4) (runK (CC LT4) 1) 1 jI ⟨entry 63 [zs x,zs y],[],[]⟩=r:=by
     intro r hr
     have e1:ae (CC LT4) (runK (CC LT4) 1) 1 jI ⟨entry 63 [zs x,zs y],[],[]⟩=ae (CC LT4) (runK (CC LT4) 1) 1 (ai 4 jI) ⟨fr1,[],[]⟩:=aU 4 a1
     rw[e1,aU 2 b1]
     exact hr
    by_cases hn:bw x=bw y
    ·have gt:=nV (runK (CC LT4) 1) (bw x) (yL (T.aJ x.natAbs) (T.aJ y.natAbs)) (YR _ _) (by
      have h1:=Q0 (T.aJ x.natAbs) (T.aJ y.natAbs)
      have h2:=lT (T.aJ x.natAbs) (T.aJ y.natAbs)
      have h3:=Zm.aJ hx
      have h4:=Zm.aJ hy
      omega)
     rw[QZ _ _ (T.bV _) (T.bV _),T.bX,T.bX] at gt
     have e:gD (bw x) (x.natAbs+y.natAbs)=x+y:=by
      rw[kt,cK]
      rw[cK,cK] at hn
      by_cases h1:x<0 <;> by_cases h2:y<0 <;> simp[h1,h2] at hn ⊢ <;> omega
     rw[e] at gt
     rw[← hn] at b5
     obtain⟨st,x1,x2⟩:=TB LT4 (runK (CC LT4) 1) 1 fr2 (bw x) _ _ _ _ (acA _ x.natAbs y.natAbs hx9 hy9) gt b2 b3 b4 b5 b6
     exact⟨st,hex x1,x2⟩
    ·have hn':bw y = !bw x:=by revert hn;cases bw x <;> cases bw y <;> simp
     rw[hn'] at b5
     have gz:=xY (runK (CC LT4) 1) x.natAbs y.natAbs hx9 hy9
     by_cases hc:x.natAbs<y.natAbs
     ·have hz:dR x.natAbs y.natAbs<0:=by unfold dR;rw[if_pos hc];omega
      have gt:=nV (runK (CC LT4) 1) (!bw x) (T.aJ (y.natAbs - x.natAbs)) (T.bV _) (by
       have:=T.cw (show y.natAbs - x.natAbs≤y.natAbs by omega)
       omega)
      rw[T.bX] at gt
      have e:gD (!bw x) (y.natAbs - x.natAbs)=x+y:=by
       rw[kt,← hn',cK]
       rw[cK,cK] at hn
       by_cases h1:x<0 <;> by_cases h2:y<0 <;> simp[h1,h2] at hn ⊢ <;> omega
      rw[e] at gt
      obtain⟨st,x1,x2⟩:=NV LT4 (runK (CC LT4) 1) 1 fr2 (bw x) _ _ _ _ _ hz gz (Lz _ y.natAbs x.natAbs hy9 hx9 (by omega)) gt b2 b3 b4 b5 b6
      exact⟨st,hex x1,x2⟩
     ·have hz : ¬ dR x.natAbs y.natAbs<0:=by
       unfold dR
       rw[if_neg hc]
       split <;> omega
      have gt:=nV (runK (CC LT4) 1) (bw x) (T.aJ (x.natAbs - y.natAbs)) (T.bV _) (by
       have:=T.cw (show x.natAbs - y.natAbs≤x.natAbs by omega)
       omega)
      rw[T.bX] at gt
      have e:gD (bw x) (x.natAbs - y.natAbs)=x+y:=by
       rw[kt,cK]
       rw[cK,cK] at hn
       by_cases h1:x<0 <;> by_cases h2:y<0 <;> simp[h1,h2] at hn ⊢ <;> omega
      rw[e] at gt
      obtain⟨st,x1,x2⟩:=NU LT4 (runK (CC LT4) 1) 1 fr2 (bw x) _ _ _ _ _ hz gz (Lz _ x.natAbs y.natAbs hx9 hy9 (by omega)) gt b2 b3 b4 b5 b6
      exact⟨st,hex x1,x2⟩
   cases h1:(ew x).ble 9 with
   | false =>
    rw[h1] at gs1
    cases h2:(ew y).ble 9 with
    | false=>rw[h2] at gs2;exact rest _ _ false false rfl gs1 gs2
    | true=>rw[h2] at gs2;exact rest _ _ false true rfl gs1 gs2
   | true =>
    rw[h1] at gs1
    cases h2:(ew y).ble 9 with
    | false=>rw[h2] at gs2;exact rest _ _ true false rfl gs1 gs2
    | true =>
     rw[h2] at gs2
     have b1:=zf h1
     have b2:=zf h2
     exact TC LT4 (runK (CC LT4) 1) 1 _ _ _ x y (x+y) gs1 gs2 (fi _ (by omega) (by omega)) (Ly _ (x+y) (by omega) (by omega))
  ·cases h
 ·cases h
end Go.Proofs.YtjdmodeenbdfpaaGreat
end
