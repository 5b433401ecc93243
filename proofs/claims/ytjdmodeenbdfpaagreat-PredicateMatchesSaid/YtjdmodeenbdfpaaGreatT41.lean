/- Contracts of the law and of what it calls, and facts about determinants, part 41 of the proof; each lemma states its own conditions. -/
import Derived.Test.YtjdmodeenbdfpaaGreatT40
import Derived.Test.YtjdmodeenbdfpaaGreatT21
import Derived.Test.YtjdmodeenbdfpaaGreatT10
set_option linter.unusedSimpArgs false
set_option linter.unusedVariables false
noncomputable section
namespace Go.Proofs.YtjdmodeenbdfpaaGreat
open Go Go.Ab List Tryz
attribute [local simp] FzZ aA aF aG aH aU aa ab ae af ag ah ai aj an ao aq aw az bO bc bd bj iv spC uCl
variable(L:Lst)(run:ar)(k:Nat)(fr:List PV)(hp:List Blk)(wr:List Nat)
theorem JV (L:Lst)(run:ar)(k:Nat)(X:List (List Rat))(l:List Nat)(q:Nat)(V:List Rat)(hV:X.getD q []=V)(s:Int)(h9:l.length≤1000)(hl:∀ i ∈ l,∃ h:i<X.length,(dy X[i] V).length≤1000∧au L run 59 [qL X[i]] (dp true X[i])∧au L run 60 [dp true X[i],dp true V] (dp true (dy X[i] V))∧au L run 61 [dp true (dy X[i] V),dp true (dy X[i] V)] (rv (some (dot (dy X[i] V) (dy X[i] V))))):∀ (n i:Nat) (fr:List PV) (hp:List Blk) (wr:List Nat) (out:List (List Rat)),i+n=l.length→out=(l.take i).map (lift X q)→y6 hp out (nth fr 11)→SpF fr X l V s i →
  ∃ fr' hp' wr',cu (af (CC L) run k spB) (n+1) ⟨fr,hp,wr⟩=some (.exit 0,⟨fr',hp',wr'⟩)∧SpF fr' X l V s l.length∧y6 hp' (l.map (lift X q)) (nth fr' 11)
 | 0,i,fr,hp,wr,out,hin,ho,hO,h=>by
  have e:i=l.length:=by omega
  subst e
  obtain⟨fr',q1,q2,q3⟩:=ad3 L run k fr hp wr X l V s h
  refine⟨fr',hp,wr,bD q1,q2,?_⟩
  rw[take_length] at ho
  rw[q3,← ho]
  exact hO
 | n+1,i,fr,hp,wr,out,hin,ho,hO,h=>by
  have hi:i<l.length:=by omega
  obtain⟨hX,hw9,g1,g2,g3⟩:=hl l[i] (getElem_mem hi)
  obtain⟨fr1,hp1,wr1,q1,q2,q3⟩:=QS L run k fr hp wr X l V _ _ s i out hi h9 (by rw[ho];simp;omega) hw9 hX g1 g2 g3 hO h
  obtain⟨fr',hp',wr',s1,s2⟩:=JV L run k X l q V hV s h9 hl n (i+1) fr1 hp1 wr1 _ (by omega) (by
   rw[ho,take_succ_eq_append_getElem hi,map_append,map_cons,map_nil]
   congr 1
   unfold lift
   rw[hV,getD_eq_getElem?_getD,getElem?_eq_getElem hX];rfl) q3 q2
  exact⟨fr',hp',wr',by rw[ct q1];exact s1,s2⟩
def JW:Code:=seq1 (seq1 (ah 7 spC))
theorem ad2:ah 7 spC = .seq (.seq JW (.block 0 (.loop spB))) (ah 8 spC):=rfl
theorem ahJ(c:List (List ByteArray))(l:List Int)(z:Int)(s:Int)(e:Nat)(he:e≠0)(g:au L run 15 [cE c,aE l] (.tup [Ab.bz s,iv e])) :
  ∃ st,af (CC L) run k spC ⟨entry 73 [cE c,aE l,.sc (.int .i64 z)],[],[]⟩=some (.ret,st)∧aU TT st.fr st.hp f19.results.toList=some [Ab.bz 0,iv e]:=by
 obtain⟨e0,e1,e2,e3⟩:=jY 70 (cE c) (aE l) (.sc (.int .i64 z))
 generalize entry 73 [cE c,aE l,.sc (.int .i64 z)]=fr0 at *
 have hb:((e:Int) != 0)=true:=by simp;omega
 unfold au at g
 simp only[iv,Ab.bz] at g ⊢
 simp[f19,aL,e0,e1,e2,g,hb]
theorem aji (L:Lst)(run:ar)(k:Nat)(c:List (List ByteArray))(l:List Int)(z:Int)(s:Int)(g:au L run 15 [cE c,aE l] (.tup [Ab.bz s,iv 0])) :
  ∃ fr,aX (CC L) run k 3 spC ⟨entry 73 [cE c,aE l,.sc (.int .i64 z)],[],[]⟩=some ⟨fr,[],[]⟩∧fr.length=73∧nth fr 0=cE c∧nth fr 1=aE l∧nth fr 2 = .sc (.int .i64 z)∧nth fr 8 = .sc (.int .i64 s):=by
 obtain⟨e0,e1,e2,e3⟩:=jY 70 (cE c) (aE l) (.sc (.int .i64 z))
 generalize entry 73 [cE c,aE l,.sc (.int .i64 z)]=fr0 at *
 unfold au at g
 simp only[iv,Ab.bz,Int.cast_ofNat_Int] at g
 simp[f19,aX,aL,e0,e1,e2,e3,g]
theorem ahI(c:List (List ByteArray))(z:Int)(hz:z<0∨(c.length:Int)≤z)(h0:fr.length=73)(h1:nth fr 0=cE c)(h2:nth fr 2 = .sc (.int .i64 z)) :
  ∃ st,af (CC L) run k (ah 3 spC) ⟨fr,[],[]⟩=some (.ret,st)∧aU TT st.fr st.hp f19.results.toList=some [Ab.bz 0,iv 4]:=by
 have hl:=gD c
 by_cases hn:z<0
 ·simp[Ab.bz,f19,h0,h2,hn,undef]
 ·have hc:(c.length:Int)≤z:=by omega
  simp[Ab.bz,f19,h0,h1,h2,hn,hc,hl]
theorem ajh(c:List (List ByteArray))(l:List Int)(z s:Int)(hz : ¬ (z<0∨(c.length:Int)≤z))(h0:fr.length=73)(h1:nth fr 0=cE c)(h1':nth fr 1=aE l)(h2:nth fr 2 = .sc (.int .i64 z))(h8:nth fr 8 = .sc (.int .i64 s)) :
  ∃ fr',aX (CC L) run k 1 (ah 3 spC) ⟨fr,[],[]⟩=some ⟨fr',[],[]⟩∧fr'.length=73∧nth fr' 0=cE c∧nth fr' 1=aE l∧nth fr' 2 = .sc (.int .i64 z)∧nth fr' 8 = .sc (.int .i64 s):=by
 have hl:=gD c
 have hn : ¬ z<0:=fun e=>hz (.inl e)
 have hc : ¬ (c.length:Int)≤z:=fun e=>hz (.inr e)
 simp[aX,f19,h0,h1,h1',h2,h8,hn,hc,hl]
theorem ahH(h0:fr.length=73)(h8:nth fr 8 = .sc (.int .i64 0)) :
  ∃ st,af (CC L) run k (ah 4 spC) ⟨fr,[],[]⟩=some (.ret,st)∧aU TT st.fr st.hp f19.results.toList=some [Ab.bz 0,iv 12]:=by
 simp[Ab.bz,f19,h0,h8]
theorem ajg(X:List (List Rat))(l:List Nat)(q:Nat)(s:Int)(hs:s≠0)(hq:q<X.length)(g:au L run 59 [qL X[q]] (dp true X[q]))(h0:fr.length=73)(h1:nth fr 0=qC X)(h1':nth fr 1=aN l)(h2:nth fr 2 = .sc (.int .i64 (q:Int)))(h8:nth fr 8 = .sc (.int .i64 s)) :
  ∃ fr1 fr',aX (CC L) run k 3 (ah 4 spC) ⟨fr,[],[]⟩=some ⟨fr1,[],[]⟩∧af (CC L) run k JW ⟨fr1,[],[]⟩=some (.normal,⟨fr',[],[]⟩)∧SpF fr' X l X[q] s 0∧nth fr' 11 = .sc (.slice none 0 0):=by
 have hX':q<(X.map fun P=>P.map qb).length:=by simpa using hq
 obtain⟨r',y1,y2⟩:=gi uCl (X.map fun P=>P.map qb) q hX'
 have e4:pE (X.map fun P=>P.map qb)[q]=qL X[q]:=by rw[getElem_map];rfl
 rw[e4] at y2
 rw[show cE (X.map fun P=>P.map qb)=qC X from rfl] at y1
 have hsb:(s == 0)=false:=by rw[beq_eq_false_iff_ne];exact hs
 have hl:dn (aN l)=some l.length:=by simp[aN,aE,fg,dn]
 unfold au at g
 obtain⟨fr1,a1,a2,a3,a4,a5,a6,a7⟩:∃ fr1,aX (CC L) run k 3 (ah 4 spC) ⟨fr,[],[]⟩=some ⟨fr1,[],[]⟩∧fr1.length=73∧nth fr1 0=qC X∧nth fr1 1=aN l∧nth fr1 8 = .sc (.int .i64 s)∧nth fr1 10=dp true X[q]∧nth fr1 11 = .sc (.slice none 0 0):=by
  simp[aX,f19,aL,partOf,h0,h1,h1',h2,h8,hsb,y1,y2,g,aPt,sPt,aV]
 refine⟨fr1,?_⟩
 rw[a1]
 simp[SpF,JW,seq1,f19,a2,a3,a4,a5,a6,a7,and_assoc,hl,jA]
def ve (m:Nat)(s:Int):Int:=if m % 2=1 then -s else s
theorem YI (L:Lst)(run:ar)(k:Nat)(fr:List PV)(hp hp':List Blk)(wr:List Nat)(fp:FP)(X:List (List Rat))(l:List Nat)(V:List Rat)(s t:Int)(u:Option Rat)(hV:V.length<1000)(hs:s = -1∨s=0∨s=1)(ht:t = -1∨t=0∨t=1)(g1:bX (CC L) run false hp 62 [nth fr 11]=some (rv u,hp',fp))(g2:au L run 49 [rv u] (Ab.bz t))(h:SpF fr X l V s l.length) :
  ∃ st,af (CC L) run k (ah 8 spC) ⟨fr,hp,wr⟩=some (.ret,st)∧aU TT st.fr st.hp f19.results.toList=some [Ab.bz (ve V.length s*t),iv 0]:=by
 obtain⟨h0,h1,h8,h10,h39,h40,h41⟩:=h
 have hl:dn (dp true V)=some V.length:=rfl
 have hm:(V.length:Int).tmod 2=((V.length % 2:Nat):Int):=rfl
 have hm2:V.length % 2<2:=Nat.mod_lt _ (by decide)
 unfold ve
 unfold au at g2
 generalize rv u=ru at *
 obtain⟨p11,h11⟩:∃ p,nth fr 11=p:=⟨_,rfl⟩
 rw[h11] at g1
 generalize hmm:V.length % 2=mm at *
 have hss:(-s) = -1∨(-s)=0∨(-s)=1:=by omega
 have hw:∀ a b:Int,(a = -1∨a=0∨a=1)→(b = -1∨b=0∨b=1)→bE .i64 (a*b)=a*b:=by
  intro a b ha hb
  rcases ha with rfl | rfl | rfl <;> rcases hb with rfl | rfl | rfl <;> decide
 have hwn:bE .i64 (-s) = -s:=by rcases hs with rfl | rfl | rfl <;> decide
 simp only[Ab.bz,iv] at g2 ⊢
 by_cases ho:mm=1
 ·subst ho
  have h2:=hw (-s) t hss ht
  simp[f19,aL,unP,h0,h8,h10,h11,hl,hm,uY,g1,g2,hwn,h2]
 ·have hme:mm=0:=by omega
  subst hme
  have h2:=hw s t hs ht
  simp[f19,aL,h0,h8,h10,h11,hl,hm,uY,g1,g2,h2]
def vd (c:List (List ByteArray))(l:List Int)(z:Int):Int × Nat :=
 if (ef c l).2≠0 then (0,(ef c l).2) else if z<0∨(c.length:Int)≤z then (0,4) else if nV c l=0 then (0,12) else
  (ve (hdL c) (nV c l)*gp (vv (mW ((l.map Int.toNat).map (lift (toX c) z.toNat)))),0)
def LV3:Lst:=[(15,iX),(59,pU),(60,xp),(61,KD),(62,sU),(49,iA)]
theorem agR:dw base.P LV3:=⟨qZ,pS,sT,Ak,xu,jj,trivial⟩
def nT:List PV→Option (List PV):=ctr eCL (fun p=>me p.1∧p.2.1.length≤1000) fun p=>[Ab.bz (vd p.1 p.2.1 p.2.2).1,iv (vd p.1 p.2.1 p.2.2).2]
theorem sA (x:Rat):gp x = -1∨gp x=0∨gp x=1:=by
 unfold gp
 rcases Int.lt_trichotomy x.num 0 with h | h | h
 ·exact .inl (Int.sign_eq_neg_one_of_neg h)
 ·exact .inr (.inl (by rw[h];rfl))
 ·exact .inr (.inr (Int.sign_eq_one_of_pos h))
theorem agv {k:Nat}{X Y:List Rat}(hX:RbL k X)(hY:RbL k Y)(hl:X.length=Y.length):Rb (X.length*(2*k+1)+1) (dot X Y):=vK hX hY hl X.length (Nat.le_refl _)
theorem Ln {m k:Nat}{X Y:List Rat}(hX:RbL k X)(hY:RbL k Y)(hl:X.length=Y.length)(hm:X.length=m)(h3:m≤3):Rb (6*k+4) (dot X Y):=by
 refine (agv hX hY hl).mono ?_
 rw[hm]
 have:m*(2*k+1)≤3*(2*k+1):=Nat.mul_le_mul_right _ h3
 omega
theorem rA {m:Nat}{X:List (List Rat)}{q i:Nat}(hE:vj m 61 X)(hm:m≤3)(hq:q<X.length)(hi:i<X.length):(lift X q i).length=m+1∧RbL 742 (lift X q i)∧(dy X[i] X[q]).length=m∧RbL 123 (dy X[i] X[q]):=by
 have e1:=hE _ (getElem_mem hi)
 have e2:=hE _ (getElem_mem hq)
 have hl:=Cz (show X[i].length=X[q].length by omega)
 have hb:RbL 123 (dy X[i] X[q]):=fun z hz=>(JM e1.2 e2.2 z hz).mono (by omega)
 unfold lift
 simp only[getD_eq_getElem?_getD,getElem?_eq_getElem hi,getElem?_eq_getElem hq,Option.getD_some]
 refine⟨by rw[length_append,hl,e1.1];rfl,?_,by rw[hl,e1.1],hb⟩
 intro z hz
 rcases mem_append.1 hz with hz | hz
 ·exact (hb z hz).mono (by omega)
 ·rw[mem_singleton] at hz
  subst hz
  exact (Ln (k:=123) hb hb rfl (hl.trans e1.1) hm).mono (by omega)
theorem BM:Ab.Spec base.P 19 nT:=Ab.Spec.bM (C:=CC LV3) (cP agR) fun args rs h=>by
 obtain⟨⟨c,l,z⟩,⟨hF,h9⟩,rfl,rfl⟩:=cN h
 dsimp only at hF h9
 have g:=PB (L:=LV3) rfl (runK (CC LV3) (l.length+2)) c l hF h9
 show ∃ k rs1 hp1 wr rs2 ids,runK (CC LV3) k 19 [cE c,aE l,.sc (.int .i64 z)] []=_∧_∧WkL rs2 [Ab.bz (vd c l z).1,iv (vd c l z).2]
 unfold vd
 by_cases h1:(ef c l).2≠0
 ·rw[if_pos h1]
  obtain⟨st,x1,x2⟩:=ahJ LV3 (runK (CC LV3) (l.length+2)) (l.length+2) c l z _ _ h1 g
  exact⟨_,_,_,_,_,_,aP kh rfl x1 x2,rfl,Wk.refl rfl,Wk.refl rfl,trivial⟩
 ·rw[if_neg h1]
  have h1':(ef c l).2=0:=Classical.byContradiction h1
  rw[h1'] at g
  obtain⟨fr,a1,a2,a3,a4,a5,a6⟩:=aji LV3 (runK (CC LV3) (l.length+2)) (l.length+2) c l z _ g
  by_cases h2:z<0∨(c.length:Int)≤z
  ·rw[if_pos h2]
   obtain⟨st,x1,x2⟩:=ahI LV3 (runK (CC LV3) (l.length+2)) (l.length+2) fr c z h2 a2 a3 a5
   rw[← aO 3 a1] at x1
   exact⟨_,_,_,_,_,_,aP kh rfl x1 x2,rfl,Wk.refl rfl,Wk.refl rfl,trivial⟩
  ·rw[if_neg h2]
   obtain⟨fr1,b1,b2,b3,b4,b5,b6⟩:=ajh LV3 (runK (CC LV3) (l.length+2)) (l.length+2) fr c l z _ h2 a2 a3 a4 a5 a6
   have hsp:ah 1 (ah 3 spC)=ah 4 spC:=rfl
   by_cases h3:nV c l=0
   ·rw[if_pos h3]
    rw[h3] at b6
    obtain⟨st,x1,x2⟩:=ahH LV3 (runK (CC LV3) (l.length+2)) (l.length+2) fr1 b2 b6
    rw[← hsp,← aO 1 b1,← aO 3 a1] at x1
    exact⟨_,_,_,_,_,_,aP kh rfl x1 x2,rfl,Wk.refl rfl,Wk.refl rfl,trivial⟩
   ·rw[if_neg h3]
    have h0:gw c l ((iE c+1:Nat):Int)=0:=by
     unfold ef at h1'
     by_cases h0:gw c l ((iE c+1:Nat):Int)=0
     ·exact h0
     ·rw[if_neg h0] at h1';exact absurd h1' h0
    obtain⟨c1,c2,c3⟩:=vL h0
    obtain⟨q1,q2,q3,q4,q5⟩:=tn c1 hF
    have hax:=vM c1
    obtain⟨q,rfl⟩:=Int.eq_ofNat_of_zero_le (show 0≤z by omega)
    have hq:q<(toX c).length:=by rw[q5];omega
    have hcne:c≠[]:=by
     intro e
     rw[e] at h2
     simp at h2
    have q3':=q3 hcne
    have hal:=FG fun z hz=>(c3 z hz).1
    rw[q1] at b3
    rw[hal] at b4
    have hin:∀ i ∈ l.map Int.toNat,i<(toX c).length:=fun i hi=>by
     obtain⟨z,hz,rfl⟩:=mem_map.1 hi
     have:=c3 z hz
     rw[q5];omega
    have hEq:=q2 _ (getElem_mem hq)
    obtain⟨fr2,fr3,d1,d2,d3,d4⟩:=ajg LV3 (runK (CC LV3) (l.length+2)) (l.length+2) fr1 (toX c) (l.map Int.toNat) q _ h3 hq (pn rfl _ _ (fun x hx=>(hEq.2 x hx).mono (by omega)) (by omega)) b2 b3 b4 b5 b6
    have hgets:∀ i ∈ l.map Int.toNat,∃ h:i<(toX c).length,(dy (toX c)[i] (toX c)[q]).length≤1000∧au LV3 (runK (CC LV3) (l.length+2)) 59 [qL (toX c)[i]] (dp true (toX c)[i])∧au LV3 (runK (CC LV3) (l.length+2)) 60 [dp true (toX c)[i],dp true (toX c)[q]] (dp true (dy (toX c)[i] (toX c)[q]))∧au LV3 (runK (CC LV3) (l.length+2)) 61 [dp true (dy (toX c)[i] (toX c)[q]),dp true (dy (toX c)[i] (toX c)[q])] (rv (some (dot (dy (toX c)[i] (toX c)[q]) (dy (toX c)[i] (toX c)[q])))):=by
     intro i hi
     have h1:=hin i hi
     have hEi:=q2 _ (getElem_mem h1)
     obtain⟨-,-,v1,v2⟩:=rA q2 q3'.2 hq h1
     exact⟨h1,by omega,pn rfl _ _ (fun x hx=>(hEi.2 x hx).mono (by omega)) (by omega),Ji rfl _ true true _ _ hEi.2 hEq.2 (by omega) (by omega) (by omega) (by omega),ahk rfl _ true true _ _ v2 v2 (by omega) (by omega) rfl (by omega) (by omega)⟩
    have hVq:(toX c).getD q []=(toX c)[q]:=by rw[getD_eq_getElem?_getD,getElem?_eq_getElem hq];rfl
    obtain⟨fr4,hp4,wr4,e1,e2,e3⟩:=JV LV3 (runK (CC LV3) (l.length+2)) (l.length+2) (toX c) (l.map Int.toNat) q (toX c)[q] hVq (nV c l) (by simpa using h9) hgets (l.map Int.toNat).length 0 fr3 [] [] [] (by omega) rfl (.inl ⟨rfl,d4⟩) d3
    have hlen:((l.map Int.toNat).map (lift (toX c) q)).length=hdL c+1:=by rw[length_map,length_map,c2,hax]
    have hrows:∀ R ∈ (l.map Int.toNat).map (lift (toX c) q),R.length=hdL c+1∧RbL 742 R:=by
     intro R hR
     obtain⟨i,hi,rfl⟩:=mem_map.1 hR
     obtain⟨v1,v2,-⟩:=rA q2 q3'.2 hq (hin i hi)
     exact⟨v1,v2⟩
    obtain⟨hp5,fp5,f1⟩:=aho (L:=LV3) rfl (runK (CC LV3) (l.length+2)) false e3 (n:=hdL c+1) (k:=742) (by omega) (by omega) hlen hrows
    have hb:Rb 1000000 (vv (mW ((l.map Int.toNat).map (lift (toX c) q)))):=by
     unfold mW
     refine (BX (k:=742) (by omega) _ _ fun R hR=>(hrows R hR).2).mono ?_
     rw[hlen]
     have:hdL c=1∨hdL c=2∨hdL c=3:=by omega
     rcases this with h | h | h <;> rw[h] <;> decide
    obtain⟨st,x1,x2⟩:=YI LV3 (runK (CC LV3) (l.length+2)) (l.length+2) fr4 hp4 hp5 wr4 fp5 (toX c) (l.map Int.toNat) (toX c)[q] (nV c l) _ _ (by omega) (sA _) (sA _) f1 (LM rfl _ hb (by omega)) e2
    have hloop:af (CC LV3) (runK (CC LV3) (l.length+2)) (l.length+2) (.seq JW (.block 0 (.loop spB))) ⟨fr2,[],[]⟩=some (.normal,⟨fr4,hp4,wr4⟩):=by
     rw[av d2];exact bN (ca e1 (by rw[length_map];omega))
    have hsp2:ah 3 (ah 4 spC)=ah 7 spC:=rfl
    rw[← av hloop,← ad2,← hsp2,← aO 3 d1,← hsp,← aO 1 b1,← aO 3 a1] at x1
    rw[hEq.1] at x2
    exact⟨_,_,_,_,_,_,aP kh rfl x1 x2,rfl,Wk.refl rfl,Wk.refl rfl,trivial⟩
theorem ac7:und TT 27=some .string:=by kernel_rfl
theorem qo:base.F.get 11=some f11:=by kernel_rfl
theorem Rw:base.shared 11=false:=by kernel_rfl
theorem uV:base.F.get 41=some f41:=by kernel_rfl
theorem MH:base.shared 41=false:=by kernel_rfl
def Bl (n:Nat):Prop:=n<4611686018427387904
theorem Bl.i {n m:Nat}(h:Bl n)(hm:m<n):m<9223372036854775807:=Nat.lt_trans hm (Nat.lt_trans h (by decide))
def pD (s:ByteArray):Bool:=decide (60<(bys s).length)
def nk (p:List ByteArray):Bool:=p.any pD || decide (8<p.length)
def rp (c:List (List ByteArray)):Bool:=(decide (8<c.length) && decide (c.length≤64)) || (decide (70<c.length) || c.any nk)
def lpC:Code:=f41.body.getD .skip
def lpB:Code:=(aC lpC).getD .skip
def LpF (fr:List PV)(p:List ByteArray)(i:Nat):Prop:=fr.length=19∧nth fr 0=pE p∧nth fr 3=iv i
theorem aiw (m:Nat):((m:Int) > 60)=(60<m):=by apply propext;omega
theorem gt8 (m:Nat):((m:Int) > 8)=(8<m):=by apply propext;omega
theorem lt8 (m:Nat):((8:Int)<(m:Int))=(8<m):=by apply propext;omega
theorem aiv (m:Nat):((m:Int) > 70)=(70<m):=by apply propext;omega
theorem aio (m:Nat):((70:Int)<(m:Int))=(70<m):=by apply propext;omega
theorem air (m:Nat):((m:Int)≤64)=(m≤64):=by apply propext;omega
theorem afM(p:List ByteArray)(h:LpF fr p p.length) :
  ∃ fr',af (CC L) run k lpB ⟨fr,[],[]⟩=some (.exit 0,⟨fr',[],[]⟩)∧LpF fr' p p.length:=by
 obtain⟨h0,h1,h3⟩:=h
 have hl:=fY p
 simp only[iv] at h3
 simp[LpF,lpB,lpC,f41,aC,h0,h1,h3,hl,uRs]
theorem UJ(p:List ByteArray)(i:Nat)(hi:i<p.length)(h9:Bl p.length)(h:LpF fr p i) :
  ∃ fr',af (CC L) run k lpB ⟨fr,[],[]⟩=some (bif pD p[i] then .ret else .normal,⟨fr',[],[]⟩)∧(pD p[i]=true→nth fr' 2 = .sc (.bool true))∧(pD p[i]=false→LpF fr' p (i+1)):=by
 obtain⟨h0,h1,h3⟩:=h
 have hl:=fY p
 obtain⟨r,x1,x2⟩:=EJ uRs p i hi
 have hw:=bH i (h9.i hi)
 generalize p[i]=s at *
 have hb:pD s=decide (60<(bT s).length):=by unfold pD;rw[kc]
 rw[hb]
 simp only[iv] at h3
 by_cases hs:60<(bT s).length
 ·simp[LpF,lpB,lpC,f41,aC,partOf,h0,h1,h3,hl,uRs,ac7,hi,x1,x2,hs,aiw,aV,uM,iQ]
 ·simp[LpF,lpB,lpC,f41,aC,partOf,h0,h1,h3,hl,uRs,ac7,hi,x1,x2,hs,hw,aiw,aV,uM,iQ]
theorem KR (L:Lst)(run:ar)(k:Nat)(p:List ByteArray)(h9:Bl p.length):∀ (n i:Nat) (fr:List PV),i+n=p.length→LpF fr p i →
  (∃ fr',(p.drop i).any pD=false∧cu (af (CC L) run k lpB) (n+1) ⟨fr,[],[]⟩=some (.exit 0,⟨fr',[],[]⟩)∧LpF fr' p p.length)∨∃ fr',(p.drop i).any pD=true∧cu (af (CC L) run k lpB) (n+1) ⟨fr,[],[]⟩=some (.ret,⟨fr',[],[]⟩)∧nth fr' 2 = .sc (.bool true)
 | 0,i,fr,hin,h=>by
  have e:i=p.length:=by omega
  subst e
  obtain⟨fr',q1,q2⟩:=afM L run k fr p h
  rw[drop_length]
  exact .inl ⟨fr',rfl,bD q1,q2⟩
 | n+1,i,fr,hin,h=>by
  have hi:i<p.length:=by omega
  obtain⟨fr1,q1,q2,q3⟩:=UJ L run k fr p i hi h9 h
  rw[drop_eq_getElem_cons hi,any_cons]
  cases hv:pD p[i] with
  | true =>
   rw[hv] at q1
   exact .inr ⟨fr1,rfl,eM q1,q2 hv⟩
  | false =>
   rw[hv] at q1
   rw[Bool.false_or,ct q1]
   exact KR L run k p h9 n (i+1) fr1 (by omega) (q3 hv)
def abo:Code:=seq1 (seq1 (ah 1 lpC))
theorem UI:ah 1 lpC = .seq (.seq abo (.block 0 (.loop lpB))) (ah 2 lpC):=rfl
theorem afL (L:Lst)(run:ar)(k:Nat)(p:List ByteArray):∃ fr fr',aX (CC L) run k 1 lpC ⟨entry 19 [pE p],[],[]⟩=some ⟨fr,[],[]⟩∧af (CC L) run k abo ⟨fr,[],[]⟩=some (.normal,⟨fr',[],[]⟩)∧LpF fr' p 0:=by
 obtain⟨e1,e2⟩:=cW 18 (pE p)
 generalize entry 19 [pE p]=fr0 at *
 obtain⟨fr,a1,a2,a3⟩:∃ fr,aX (CC L) run k 1 lpC ⟨fr0,[],[]⟩=some ⟨fr,[],[]⟩∧fr.length=19∧nth fr 0=pE p:=by
  simp[lpC,f41,aX,e1,e2]
 refine⟨fr,?_⟩
 rw[a1]
 simp[LpF,abo,seq1,lpC,f41,a2,a3]
theorem abn(p:List ByteArray)(h:LpF fr p p.length):∃ st,af (CC L) run k (ah 2 lpC) ⟨fr,[],[]⟩=some (.ret,st)∧aU TT st.fr st.hp f41.results.toList=some [.sc (.bool (decide (8<p.length)))]:=by
 obtain⟨h0,h1,h3⟩:=h
 have hl:=fY p
 simp[lpC,f41,h0,h1,hl,uRs,gt8]
theorem afK(b:PV)(h:nth fr 2=b):aU TT fr hp f41.results.toList=some [b]:=by
 simp[f41,h]
def Il:List PV→Option (List PV):=ctr (fun p=>[pE p]) (fun p=>Bl p.length) fun p=>[.sc (.bool (nk p))]
theorem Ik:Ab.Spec base.P 41 Il:=Ab.Spec.bM (C:=CC []) (cP trivial) fun args rs h=>by
 obtain⟨p,h9,rfl,rfl⟩:=cN h
 obtain⟨fr,fr1,a1,a2,a3⟩:=afL [] (runK (CC []) (p.length+1)) (p.length+1) p
 have hl:=KR [] (runK (CC []) (p.length+1)) (p.length+1) p h9 p.length 0 fr1 (by omega) a3
 rw[drop_zero] at hl
 show ∃ k rs1 hp1 wr rs2 ids,_∧_∧WkL rs2 [.sc (.bool (nk p))]
 unfold nk
 rcases hl with ⟨fr2,h0,b1,b2⟩| ⟨fr2,h0,b1,b2⟩
 ·obtain⟨st,c1,c2⟩:=abn [] (runK (CC []) (p.length+1)) (p.length+1) fr2 p b2
  have hL:af (CC []) (runK (CC []) (p.length+1)) (p.length+1) (.seq abo (.block 0 (.loop lpB))) ⟨fr,[],[]⟩=some (.normal,⟨fr2,[],[]⟩):=by
   rw[av a2];exact bN b1
  rw[← av hL,← UI,← aO 1 a1] at c1
  rw[h0,Bool.false_or]
  exact⟨_,_,_,_,_,_,aP uV rfl c1 c2,rfl,Wk.refl rfl,trivial⟩
 ·have hL:af (CC []) (runK (CC []) (p.length+1)) (p.length+1) lpC ⟨entry 19 [pE p],[],[]⟩=some (.ret,⟨fr2,[],[]⟩):=by
   rw[aO 1 a1,UI]
   refine cC ?_
   rw[av a2];exact df b1
  rw[h0,Bool.true_or]
  exact⟨_,_,_,_,_,_,aP uV rfl hL (afK _ _ _ b2),rfl,Wk.refl rfl,trivial⟩
theorem ac1 {L:Lst}(hL:bu L 41=fun a=>Il (aJ a))(run:ar)(p:List ByteArray)(h9:Bl p.length):au L run 41 [pE p] (.sc (.bool (nk p))) :=
 fH MH (e:=fun p=>[pE p]) (f:=fun p=>[.sc (.bool (nk p))]) hL (fun x y _ _ h=>by rw[HU (p:=x) (q:=y) (by simpa using h)]) run p h9 (fun _=>rfl) (by simp only[aJ,Fs])
def lgC:Code:=f11.body.getD .skip
def lgB:Code:=(aC lgC).getD .skip
def LgF (fr:List PV)(c:List (List ByteArray))(i:Nat):Prop:=fr.length=28∧nth fr 0=cE c∧nth fr 3=iv i
theorem afU(c:List (List ByteArray))(h:LgF fr c c.length) :
  ∃ fr',af (CC L) run k lgB ⟨fr,[],[]⟩=some (.exit 0,⟨fr',[],[]⟩)∧LgF fr' c c.length:=by
 obtain⟨h0,h1,h3⟩:=h
 have hl:=gD c
 simp only[iv] at h3
 simp[LgF,lgB,lgC,f11,aC,h0,h1,h3,hl]
theorem U4(c:List (List ByteArray))(i:Nat)(v:Bool)(hi:i<c.length)(h9:c.length<1000)(g:au L run 41 [pE c[i]] (.sc (.bool v)))(h:LgF fr c i) :
  ∃ fr',af (CC L) run k lgB ⟨fr,[],[]⟩=some (bif v then .ret else .normal,⟨fr',[],[]⟩)∧(v=true→nth fr' 2 = .sc (.bool true))∧(v=false→LgF fr' c (i+1)):=by
 obtain⟨h0,h1,h3⟩:=h
 have hl:=gD c
 obtain⟨r,x1,x2⟩:=gi uCl c i hi
 have hw:=bH i (by omega)
 unfold au at g
 generalize c[i]=p at *
 simp only[iv] at h3
 cases v <;> simp[LgF,lgB,lgC,f11,aC,aL,partOf,h0,h1,h3,hl,hi,x1,x2,g,hw,aV,aPt,sPt]
theorem KT (L:Lst)(run:ar)(k:Nat)(c:List (List ByteArray))(h9:c.length<1000)(g:∀ p ∈ c,au L run 41 [pE p] (.sc (.bool (nk p)))):∀ (n i:Nat) (fr:List PV),i+n=c.length→LgF fr c i →
  (∃ fr',(c.drop i).any nk=false∧cu (af (CC L) run k lgB) (n+1) ⟨fr,[],[]⟩=some (.exit 0,⟨fr',[],[]⟩)∧LgF fr' c c.length)∨∃ fr',(c.drop i).any nk=true∧cu (af (CC L) run k lgB) (n+1) ⟨fr,[],[]⟩=some (.ret,⟨fr',[],[]⟩)∧nth fr' 2 = .sc (.bool true)
 | 0,i,fr,hin,h=>by
  have e:i=c.length:=by omega
  subst e
  obtain⟨fr',q1,q2⟩:=afU L run k fr c h
  rw[drop_length]
  exact .inl ⟨fr',rfl,bD q1,q2⟩
 | n+1,i,fr,hin,h=>by
  have hi:i<c.length:=by omega
  obtain⟨fr1,q1,q2,q3⟩:=U4 L run k fr c i _ hi h9 (g _ (getElem_mem hi)) h
  rw[drop_eq_getElem_cons hi,any_cons]
  cases hv:nk c[i] with
  | true =>
   rw[hv] at q1 q2
   exact .inr ⟨fr1,rfl,eM q1,q2 rfl⟩
  | false =>
   rw[hv] at q1 q3
   rw[Bool.false_or,ct q1]
   exact KT L run k c h9 g n (i+1) fr1 (by omega) (q3 rfl)
def abF:Code:=seq1 (seq1 (ah 2 lgC))
theorem U3:ah 2 lgC = .seq (.seq abF (.block 0 (.loop lgB))) (ah 3 lgC):=rfl
theorem abE(c:List (List ByteArray))(h:8<c.length∧c.length≤64∨70<c.length):∃ st,af (CC L) run k lgC ⟨entry 28 [cE c],[],[]⟩=some (.ret,st)∧aU TT st.fr st.hp f11.results.toList=some [.sc (.bool true)]:=by
 obtain⟨e1,e2⟩:=cW 27 (cE c)
 generalize entry 28 [cE c]=fr0 at *
 have hl:=gD c
 generalize c.length=m at *
 have a1:=gt8 m
 have a2:=lt8 m
 have a3:=aiv m
 have a4:=aio m
 have a5:=air m
 by_cases b8:8<m
 ·by_cases b64:m≤64
  ·simp[lgC,f11,e1,e2,hl,a1,a5,b8,b64,undef]
  ·have b70:70<m:=by omega
   simp[lgC,f11,e1,e2,hl,a1,a3,a5,b8,b64,b70]
 ·omega
theorem afT (L:Lst)(run:ar)(k:Nat)(c:List (List ByteArray))(h : ¬ (8<c.length∧c.length≤64∨70<c.length)):∃ fr fr',aX (CC L) run k 2 lgC ⟨entry 28 [cE c],[],[]⟩=some ⟨fr,[],[]⟩∧af (CC L) run k abF ⟨fr,[],[]⟩=some (.normal,⟨fr',[],[]⟩)∧LgF fr' c 0:=by
 obtain⟨e1,e2⟩:=cW 27 (cE c)
 generalize entry 28 [cE c]=fr0 at *
 have hl:=gD c
 have a1:=gt8 c.length
 have a2:=lt8 c.length
 have a3:=aiv c.length
 have a4:=aio c.length
 have a5:=air c.length
 have b70 : ¬ 70<c.length:=fun e=>h (.inr e)
 obtain⟨fr,z1,z2,z3⟩:∃ fr,aX (CC L) run k 2 lgC ⟨fr0,[],[]⟩=some ⟨fr,[],[]⟩∧fr.length=28∧nth fr 0=cE c:=by
  by_cases b8:8<c.length
  ·have b64 : ¬ c.length≤64:=fun e=>h (.inl ⟨b8,e⟩)
   simp[lgC,f11,aX,e1,e2,hl,a1,a3,a5,b8,b64,b70]
  ·simp[lgC,f11,aX,e1,e2,hl,a1,a3,b8,b70,undef]
 refine⟨fr,?_⟩
 rw[z1]
 simp[LgF,abF,seq1,lgC,f11,z2,z3]
theorem abD(c:List (List ByteArray))(h:LgF fr c c.length):∃ st,af (CC L) run k (ah 3 lgC) ⟨fr,[],[]⟩=some (.ret,st)∧aU TT st.fr st.hp f11.results.toList=some [.sc (.bool false)]:=by
 obtain⟨h0,h1,h3⟩:=h
 simp[lgC,f11,h0]
theorem afS(b:PV)(h:nth fr 2=b):aU TT fr hp f11.results.toList=some [b]:=by
 simp[f11,h]
def LV4:Lst:=[(41,Il)]
def Im:List PV→Option (List PV):=ctr (fun c=>[cE c]) (fun c=>∀ p ∈ c,Bl p.length) fun c=>[.sc (.bool (rp c))]
theorem OG:Ab.Spec base.P 11 Im:=Ab.Spec.bM (C:=CC LV4) (cP ⟨Ik,trivial⟩) fun args rs h=>by
 obtain⟨c,h9,rfl,rfl⟩:=cN h
 show ∃ k rs1 hp1 wr rs2 ids,_∧_∧WkL rs2 [.sc (.bool (rp c))]
 by_cases hm:8<c.length∧c.length≤64∨70<c.length
 ·have e:rp c=true:=by
   unfold rp
   rcases hm with ⟨h1,h2⟩| h1
   ·rw[decide_eq_true h1,decide_eq_true h2];rfl
   ·rw[decide_eq_true h1];simp
  rw[e]
  obtain⟨st,x1,x2⟩:=abE LV4 (runK (CC LV4) 1) 1 c hm
  exact⟨_,_,_,_,_,_,aP qo rfl x1 x2,rfl,Wk.refl rfl,trivial⟩
 ·have e:rp c=c.any nk:=by
   unfold rp
   have h1:decide (70<c.length)=false:=decide_eq_false fun e=>hm (.inr e)
   have h2:(decide (8<c.length) && decide (c.length≤64))=false:=by
    by_cases h8:8<c.length
    ·rw[decide_eq_false fun e=>hm (.inl ⟨h8,e⟩),Bool.and_false]
    ·rw[decide_eq_false h8,Bool.false_and]
   rw[h1,h2,Bool.false_or,Bool.false_or]
  have hc9:c.length<1000:=by omega
  rw[e]
  obtain⟨fr,fr1,a1,a2,a3⟩:=afT LV4 (runK (CC LV4) (c.length+1)) (c.length+1) c hm
  have hl:=KT LV4 (runK (CC LV4) (c.length+1)) (c.length+1) c hc9 (fun p hp=>ac1 rfl _ p (h9 p hp)) c.length 0 fr1 (by omega) a3
  rw[drop_zero] at hl
  rcases hl with ⟨fr2,h0,b1,b2⟩| ⟨fr2,h0,b1,b2⟩
  ·obtain⟨st,c1,c2⟩:=abD LV4 (runK (CC LV4) (c.length+1)) (c.length+1) fr2 c b2
   have hL:af (CC LV4) (runK (CC LV4) (c.length+1)) (c.length+1) (.seq abF (.block 0 (.loop lgB))) ⟨fr,[],[]⟩=some (.normal,⟨fr2,[],[]⟩):=by
    rw[av a2];exact bN b1
   rw[← av hL,← U3,← aO 2 a1] at c1
   rw[h0]
   exact⟨_,_,_,_,_,_,aP qo rfl c1 c2,rfl,Wk.refl rfl,trivial⟩
  ·have hL:af (CC LV4) (runK (CC LV4) (c.length+1)) (c.length+1) lgC ⟨entry 28 [cE c],[],[]⟩=some (.ret,⟨fr2,[],[]⟩):=by
    rw[aO 2 a1,U3]
    refine cC ?_
    rw[av a2];exact df b1
   rw[h0]
   exact⟨_,_,_,_,_,_,aP qo rfl hL (afS _ _ _ b2),rfl,Wk.refl rfl,trivial⟩
theorem ahl {L:Lst}(hL:bu L 11=fun a=>Im (aJ a))(run:ar)(c:List (List ByteArray))(h9:∀ p ∈ c,Bl p.length):au L run 11 [cE c] (.sc (.bool (rp c))) :=
 fH Rw (e:=fun c=>[cE c]) (f:=fun c=>[.sc (.bool (rp c))]) hL (fun x y _ _ h=>by rw[rX h]) run c h9 (nE · c) (ma c)
theorem UY {c:List (List ByteArray)}(h:rp c=false):me c:=by
 unfold rp at h
 simp only[Bool.or_eq_false_iff,decide_eq_false_iff_not] at h
 obtain⟨h1,h2,h3⟩:=h
 refine⟨by omega,fun p hp => ?_⟩
 rw[any_eq_false] at h3
 have h4:=h3 p hp
 unfold nk at h4
 simp only[Bool.or_eq_true,not_or,any_eq_true,decide_eq_true_eq,not_exists,not_and] at h4
 refine⟨by omega,fun s hs => ?_⟩
 have:=h4.1 s hs
 unfold pD at this
 simp only[decide_eq_true_eq] at this
 omega
theorem RbL.at {k:Nat}{X:List Rat}(h:RbL k X)(hk:0<k)(i:Nat):Rb k (X.getD i 0):=by
 rw[getD_eq_getElem?_getD]
 cases e:X[i]? with
 | none=>exact (Rb.zero 0).mono (by omega)
 | some x=>exact h x (mem_of_getElem? e)
theorem EI (X:List Rat)(i:Nat)(hi:i<X.length):∃ r,bg TT 39 (qL X) (.sc (.int .i64 (i:Int)))=some (.iptr r)∧r.head?=some (.sc (.string (qb X[i]))):=by
 obtain⟨r,h1,h2⟩:=EJ uPt (X.map qb) i (by simpa using hi)
 refine⟨r,h1,?_⟩
 rw[h2,getElem_map]
theorem qb0:qb 0=⟨#[48]⟩:=by decide +kernel
end Go.Proofs.YtjdmodeenbdfpaaGreat
namespace Go.Ab
open Go List
def eqK:IntKind→IntKind→Bool
 | .i8,.i8 | .i16,.i16 | .i32,.i32 | .i64,.i64 | .u8,.u8 | .u16,.u16 | .u32,.u32 | .u64,.u64=>true
 | _,_=>false
theorem VM {a b:IntKind}(h:eqK a b=true):a=b:=by cases a <;> cases b <;> first | rfl | cases h
def ado:Int→Int→Bool
 | .ofNat a,.ofNat b=>a.beq b
 | .negSucc a,.negSucc b=>a.beq b
 | _,_=>false
theorem VO:∀ {a b:Int},ado a b=true→a=b
 | .ofNat a,.ofNat b,h=>by rw[Nat.eq_of_beq_eq_true h]
 | .negSucc a,.negSucc b,h=>by rw[Nat.eq_of_beq_eq_true h]
 | .ofNat _,.negSucc _,h=>by cases h
 | .negSucc _,.ofNat _,h=>by cases h
def eqB:Bool→Bool→Bool
 | true,true=>true
 | false,false=>true
 | _,_=>false
theorem VP:∀ {a b:Bool},eqB a b=true→a=b
 | true,true,_=>rfl
 | false,false,_=>rfl
 | true,false,h=>by cases h
 | false,true,h=>by cases h
theorem AQ:∀ {a b:List UInt8},eqL a b=true→a=b
 | [],[],_=>rfl
 | a::x,b::y,h=>by
  simp only[eqL,Bool.and_eq_true,beq_iff_eq] at h
  rw[AQ h.2,UInt8.toNat_inj.1 h.1]
 | [],_::_,h=>by simp[eqL] at h
 | _::_,[],h=>by simp[eqL] at h
def rF (e:PV→PV→Bool):List PV→List PV→Bool
 | [],[]=>true
 | a::x,b::y=>e a b && rF e x y
 | _,_=>false
theorem rE {e:PV→PV→Bool}(h:∀ a b,e a b=true→a=b):∀ {x y:List PV},rF e x y=true→x=y
 | [],[],_=>rfl
 | a::x,b::y,hh=>by
  simp only[rF,Bool.and_eq_true] at hh
  rw[h a b hh.1,rE h hh.2]
 | [],_::_,hh=>by simp[rF] at hh
 | _::_,[],hh=>by simp[rF] at hh
def eqP:Nat→PV→PV→Bool
 | 0,_,_=>false
 | k+1,a,b=>match a,b with
  | .sc (.int i m),.sc (.int j n)=>eqK i j && ado m n
  | .sc (.bool m),.sc (.bool n)=>eqB m n
  | .sc (.string s),.sc (.string t)=>eqL (bT s) (bT t)
  | .imm m x cs,.imm n y ds=>m.beq n && (eqB x y && rF (eqP k) cs ds)
  | .agg cs,.agg ds=>rF (eqP k) cs ds
  | _,_=>false
theorem Iz:∀ (k:Nat) (a b:PV),eqP k a b=true→a=b
 | 0,a,b,h=>by cases h
 | k+1,a,b,h=>by
  unfold eqP at h
  split at h
  ·simp only[Bool.and_eq_true] at h
   rw[VM h.1,VO h.2]
  ·rw[VP h]
  ·rename_i s t
   have:=AQ h
   rw[← gV s,← gV t,this]
  ·simp only[Bool.and_eq_true] at h
   rw[Nat.eq_of_beq_eq_true h.1,VP h.2.1,rE (Iz k) h.2.2]
  ·rw[rE (Iz k) h]
  ·cases h
def iJ (args:List PV):List PV→Option (List PV):=fun a=>bif rF (eqP 8) (aJ a) args then some [.sc (.bool true)] else none
def orF (f f':List PV→Option (List PV)):List PV→Option (List PV):=fun a=>match f a with
 | some r=>some r
 | none=>f' a
end Go.Ab
end
