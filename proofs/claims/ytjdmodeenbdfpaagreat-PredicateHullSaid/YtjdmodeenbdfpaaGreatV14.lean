/- Contracts of num's integers, part 14; each lemma states its conditions. -/
import Derived.Test.YtjdmodeenbdfpaaGreatV13
set_option linter.unusedSimpArgs false
set_option linter.unusedVariables false
noncomputable section
namespace Go.Proofs.YtjdmodeenbdfpaaGreat
open Go Go.Ab List Tryz
attribute [local simp] FzZ aA aC aF aG aH aZ aa ab ae af ag ah ai aj an and_assoc ao aq au av bc bf bg sW seq1
variable(L:Lst)(run:aw)(k:Nat)(fr:Ψ)(hp:Θ)(wr:Ω)
def gJ:Code:=f154.body.getD .skip
def gV:Code:=((f154.body).bind aA).getD .skip
def pJ:Code:=(aA gV).getD .skip
theorem NY(n:Nat)(h71:fr.length=71)(h45:nth fr 45 = .sc (.int .i64 (n:Int)))(h46:nth fr 46 = .sc (.int .i64 (n:Int))) :
  ∃ fr',ae (CC L) run k pJ ⟨fr,hp,wr⟩=some (.exit 2,⟨fr',hp,wr⟩)∧fr'.length=71∧nth fr' 2=nth fr 2∧nth fr' 4=nth fr 4∧nth fr' 5=nth fr 5∧nth fr' 6=nth fr 6∧nth fr' 7=nth fr 7∧nth fr' 8=nth fr 8:=by
 simp[pJ,gV,f154,h71,h45,h46]
set_option maxHeartbeats 1000000 in
theorem Tx(c:Ω)(i x x':Nat)(hi:i<c.length)(hl:c.length≤9)(hx:x<10 ^ i)(hd:l9 c[i]=true)(hx':x'=10*x+dv c[i])
  (h71:fr.length=71) (h44:nth fr 44=yl c) (h45:nth fr 45 = .sc (.int .i64 (c.length:Int))) (h46:nth fr 46 = .sc (.int .i64 (i:Int))) (h8:nth fr 8 = .sc (.int .u32 (x:Int))) :
  ∃ fr',ae (CC L) run k pJ ⟨fr,hp,wr⟩=some (.normal,⟨fr',hp,wr⟩)∧fr'.length=71∧nth fr' 44=yl c∧nth fr' 45 = .sc (.int .i64 (c.length:Int))∧nth fr' 46 = .sc (.int .i64 ((i+1:Nat):Int))∧nth fr' 8 = .sc (.int .u32 (x':Int))∧nth fr' 2=nth fr 2∧nth fr' 4=nth fr 4∧nth fr' 5=nth fr 5∧nth fr' 6=nth fr 6∧nth fr' 7=nth fr 7:=by
 have hh:=aeU c i hi
 rw[dI] at hd
 generalize c[i]=b at *
 have e1:yl c = .imm c.length false (c.map u8v):=rfl
 rw[e1] at h44 ⊢
 have hx9:x<1000000000:=Nat.lt_of_lt_of_le hx (Nat.le_trans (Nat.pow_le_pow_right (by omega) (show i≤8 by omega)) (by decide))
 have hx8:x<100000000:=Nat.lt_of_lt_of_le hx (Nat.le_trans (Nat.pow_le_pow_right (by omega) (show i≤8 by omega)) (by decide))
 obtain⟨s1,hs1⟩:∃ s1,s1=10*x:=⟨_,rfl⟩
 obtain⟨s2,hs2⟩:∃ s2,s2=dv b:=⟨_,rfl⟩
 rw[← hs1,← hs2] at hx'
 have hs3:b=s2+48:=by rw[hs2];unfold dv;omega
 have hw1:=KR .u32 x s1 hs1 (iX (by omega))
 have hw2:=Bv .u8 b s2 hs3 (show s2≤255 by omega)
 have hw3:bA .u32 (s2:Int)=(s2:Int):=cq .u32 s2 (iX (by omega))
 have hw4:=dm .u32 s1 s2 x' hx' (iX (by omega))
 have hwi:=bD i (by omega)
 have hb1 : ¬ ((b:Int)<48):=by omega
 have hb2 : ¬ ((57:Int)<b):=by omega
 simp[pJ,gV,f154,bd,bn,partOf,h71,h44,h45,h46,h8,uBs,u8,u32,s8,a8,dD,hi,hh,aU,hw1,hw2,hw3,hw4,hwi,hb1,hb2]
set_option maxHeartbeats 1000000 in
theorem NZ(c:Ω)(i:Nat)(hi:i<c.length)(hd:l9 c[i]=false)
  (hb:aL hp 0=some zW2)
  (h71:fr.length=71) (h44:nth fr 44=yl c) (h45:nth fr 45 = .sc (.int .i64 (c.length:Int))) (h46:nth fr 46 = .sc (.int .i64 (i:Int))) (h2:nth fr 2 = .ptr 0 0) :
  ∃ fr' wr',ae (CC L) run k pJ ⟨fr,hp,wr⟩=some (.ret,⟨fr',cg hp 0 zW2,wr'⟩)∧nth fr' 2 = .ptr 0 0∧nth fr' 3 = .sc (.bool false):=by
 have hh:=aeU c i hi
 generalize c[i]=b at *
 have e1:yl c = .imm c.length false (c.map u8v):=rfl
 rw[e1] at h44
 have hd':(b:Int)<48∨(57:Int)<b:=by
  have : ¬ (48≤b∧b≤57):=fun h=>by rw[dI.2 h] at hd;cases hd
  omega
 by_cases hb1:(b:Int)<48
 ·simp[pJ,gV,f154,bd,bn,partOf,bm,bG,fB,h71,h44,h45,h46,h2,uBs,uW,sB,sD,zW,wf0,wf1,s8,a8,hi,hh,aU,hb1,hb,eK,dH,ca]
 ·have hb2:(57:Int)<b:=by omega
  simp[pJ,gV,f154,bd,bn,partOf,bm,bG,fB,h71,h44,h45,h46,h2,uBs,uW,sB,sD,zW,wf0,wf1,s8,a8,hi,hh,aU,hb1,hb2,hb,eK,dH,ca]
theorem wQ (L:Lst)(run:aw)(k:Nat)(c:Ω)(hl:c.length≤9)(hp:Θ)(hb:aL hp 0=some zW2):∀ (n i:Nat) (fr:Ψ) (wr:Ω) (x:Nat),i+n=c.length→eI (c.take i)=true→x=dec 0 (c.take i) →
  fr.length=71→nth fr 44=yl c→nth fr 45 = .sc (.int .i64 (c.length:Int))→nth fr 46 = .sc (.int .i64 (i:Int))→nth fr 8 = .sc (.int .u32 (x:Int))→nth fr 2 = .ptr 0 0 →
  (eI c=true∧∃ fr',cb (ae (CC L) run k pJ) (n+1) ⟨fr,hp,wr⟩=some (.exit 2,⟨fr',hp,wr⟩)∧fr'.length=71∧nth fr' 8 = .sc (.int .u32 (dec 0 c:Int))∧nth fr' 2=nth fr 2∧nth fr' 4=nth fr 4∧nth fr' 5=nth fr 5∧nth fr' 6=nth fr 6∧nth fr' 7=nth fr 7) ∨
  (eI c=false∧∃ fr' wr',cb (ae (CC L) run k pJ) (n+1) ⟨fr,hp,wr⟩=some (.ret,⟨fr',cg hp 0 zW2,wr'⟩)∧nth fr' 2 = .ptr 0 0∧nth fr' 3 = .sc (.bool false))
 | 0,i,fr,wr,x,hi,hd,hx,h71,h44,h45,h46,h8,h2=>by
  have:i=c.length:=by omega
  subst this
  rw[take_length] at hd hx
  obtain⟨fr',g1,g2,g3,g4,g5,g6,g7,g8⟩:=NY L run k fr hp wr c.length h71 h45 h46
  exact .inl ⟨hd,fr',bu g1,g2,by rw[g8,h8,hx],g3,g4,g5,g6,g7⟩
 | n+1,i,fr,wr,x,hi,hd,hx,h71,h44,h45,h46,h8,h2=>by
  have hic:i<c.length:=by omega
  cases hdb:l9 c[i] with
  | true =>
   have hxl:x<10 ^ i:=by
    have:=dec_lt _ hd
    rw[length_take,Nat.min_eq_left (by omega)] at this
    omega
   obtain⟨fr1,g1,g2,g3,g4,g5,g6,g7,g8,g9,g10,g11⟩:=Tx L run k fr hp wr c i x _ hic hl hxl hdb rfl h71 h44 h45 h46 h8
   have ht:c.take (i+1)=c.take i++[c[i]]:=take_succ_eq_append_getElem hic
   have:=wQ L run k c hl hp hb n (i+1) fr1 wr (10*x+dv c[i]) (by omega) (by rw[ht,fZ,hd];simp[eI,hdb]) (by rw[ht,m9,← hx];rfl) g2 g3 g4 g5 g6 (by rw[g7,h2])
   rw[bT g1]
   rcases this with ⟨h9,fr',q1,q2,q3,q4,q5,q6,q7,q8⟩| h9
   ·exact .inl ⟨h9,fr',q1,q2,q3,by rw[q4,g7],by rw[q5,g8],by rw[q6,g9],by rw[q7,g10],by rw[q8,g11]⟩
   ·exact .inr h9
  | false =>
   obtain⟨fr1,wr1,g1,g2,g3⟩:=NZ L run k fr hp wr c i hic hdb hb h71 h44 h45 h46 h2
   refine .inr ⟨?_,fr1,wr1,du g1,g2,g3⟩
   have:c=c.take i++c[i]::c.drop (i+1):=by rw[← drop_eq_getElem_cons hic,take_append_drop]
   rw[this,fZ,hd,eI,hdb];rfl
def nT:Code:=match aQ gV with | .seq (.block _ c) _=>c | c=>c
def HB:Code:=seq1 gV
def HA:Code:=aQ (aQ gV)
theorem tW:gV = .seq HB (.seq (.block 1 nT) HA):=rfl
def Hz:Code:=seq1 (seq1 (ai 1 nT))
theorem tY:ai 1 nT = .seq (.seq Hz (.block 2 (.loop pJ))) (ai 2 nT):=rfl
theorem NX(e:Int)(he:e≤0)(h71:fr.length=71)(h7:nth fr 7 = .sc (.int .i64 e)) :
  ∃ fr',ae (CC L) run k gV ⟨fr,hp,wr⟩=some (.exit 0,⟨fr',hp,wr⟩)∧fr'.length=71∧nth fr' 2=nth fr 2∧nth fr' 5=nth fr 5∧nth fr' 6=nth fr 6:=by
 have h1 : ¬ (0<e):=by omega
 simp[gV,f154,h71,h7,h1]
theorem Tw(e:Nat)(he:0<e)(h71:fr.length=71)(h7:nth fr 7 = .sc (.int .i64 (e:Int))) :
  ∃ fr',ae (CC L) run k HB ⟨fr,hp,wr⟩=some (.normal,⟨fr',hp,wr⟩)∧fr'.length=71∧nth fr' 2=nth fr 2∧nth fr' 4=nth fr 4∧nth fr' 5=nth fr 5∧nth fr' 6=nth fr 6∧nth fr' 7=nth fr 7:=by
 simp[HB,gV,f154,h71,h7,he]
theorem Tu(h71:fr.length=71) :
  ∃ fr',bh (CC L) run k 1 nT ⟨fr,hp,wr⟩=some ⟨fr',hp,wr⟩∧fr'.length=71∧nth fr' 8 = .sc (.int .u32 (0:Nat))∧nth fr' 2=nth fr 2∧nth fr' 4=nth fr 4∧nth fr' 5=nth fr 5∧nth fr' 6=nth fr 6∧nth fr' 7=nth fr 7:=by
 simp[nT,gV,f154,aQ,bh,h71]
set_option maxHeartbeats 1000000 in
theorem Tt(s:ByteArray)(e:Nat)(he:e≤(bQ s).length)(hl:e<9000000000000000000)(h71:fr.length=71)(h4:nth fr 4 = .sc (.string s))(h7:nth fr 7 = .sc (.int .i64 (e:Int))) :
  ∃ fr',ae (CC L) run k Hz ⟨fr,hp,wr⟩=some (.normal,⟨fr',hp,wr⟩)∧fr'.length=71∧nth fr' 44=yl (((bys s).take e).drop (e - 9))∧nth fr' 45 = .sc (.int .i64 ((((bys s).take e).drop (e - 9)).length:Int))∧nth fr' 46 = .sc (.int .i64 (0:Nat))
   ∧ nth fr' 2=nth fr 2∧nth fr' 4=nth fr 4∧nth fr' 5=nth fr 5∧nth fr' 6=nth fr 6∧nth fr' 7=nth fr 7∧nth fr' 8=nth fr 8:=by
 have hw:=RA (e:Int) (by omega) (by omega)
 have hb:((bys s).take e).drop (e - 9)=(((bQ s).take e).drop (e - 9)).map UInt8.toNat:=by
  simp[bys,map_take,map_drop]
 have hs:=Ng s (e - 9) e (by omega) he
 have hcv:=X1 (((bQ s).take e).drop (e - 9))
 rw[hb]
 generalize (((bQ s).take e).drop (e - 9))=c at *
 have hlen:(bQ (mkStr c)).length=(c.map UInt8.toNat).length:=by rw[fk];simp
 have he1:yl (c.map UInt8.toNat) = .imm (c.map UInt8.toNat).length false ((c.map UInt8.toNat).map u8v):=rfl
 rw[hlen] at hcv
 generalize c.map UInt8.toNat=d at *
 have hlu:cX (yl d)=some d.length:=rfl
 have hm:(if (9:Int)<(e:Int) then (e:Int) - 9 else 0)=((e - 9:Nat):Int):=by
  by_cases h:(9:Int)<(e:Int)
  ·rw[if_pos h];omega
  ·rw[if_neg h];omega
 generalize e - 9=lo at *
 simp[Hz,nT,gV,f154,aQ,bL,h71,h4,h7,hw,mR,hm,uS,uBs,u8,dw,hs,dD,hlen,hcv,hlu,-map_drop,-map_take]
theorem N0(d:Ω)(x:Nat)(hl:d.length<1000000)(h71:fr.length=71)(h8:nth fr 8 = .sc (.int .u32 (x:Int)))(hO:dM 1 hp d (nth fr 6)) :
  ∃ fr' hp' wr',ae (CC L) run k (ai 2 nT) ⟨fr,hp,wr⟩=some (.normal,⟨fr',hp',wr'⟩)∧fr'.length=71∧dM 1 hp' (d++[x]) (nth fr' 6)∧aL hp' 0=aL hp 0∧nth fr' 2=nth fr 2∧nth fr' 4=nth fr 4∧nth fr' 5=nth fr 5∧nth fr' 7=nth fr 7:=by
 obtain⟨p',hp',fp,h7,h9,h10⟩:=hO.app x (Nat.lt_trans hl (by decide))
 have h11:=h10 0 (by omega)
 simp[nT,gV,f154,aQ,dq,h71,h8,uD,s32,b32,z32,gU x,oq,nU,jU,ch,h7,h9,h11]
theorem Tv(e:Nat)(hl:e<9000000000000000000)(h71:fr.length=71)(h7:nth fr 7 = .sc (.int .i64 (e:Int))) :
  ∃ fr',ae (CC L) run k HA ⟨fr,hp,wr⟩=some (.normal,⟨fr',hp,wr⟩)∧fr'.length=71∧nth fr' 7 = .sc (.int .i64 ((e:Int) - 9))∧nth fr' 2=nth fr 2∧nth fr' 4=nth fr 4∧nth fr' 5=nth fr 5∧nth fr' 6=nth fr 6:=by
 have hw:=RA (e:Int) (by omega) (by omega)
 simp[HA,gV,f154,aQ,h71,h7,hw]
theorem DV (L:Lst)(run:aw)(k:Nat)(hk:10<k)(fr:Ψ)(hp:Θ)(wr:Ω)(s:ByteArray)(e:Nat)(d:Ω)(he0:0<e)(he:e≤(bys s).length)(hl:e<9000000000000000000)(hdl:d.length<1000000)
  (h71:fr.length=71) (h2:nth fr 2 = .ptr 0 0) (h4:nth fr 4 = .sc (.string s)) (h7:nth fr 7 = .sc (.int .i64 (e:Int))) (hO:dM 1 hp d (nth fr 6)) (hb:aL hp 0=some zW2) :
  (eI (((bys s).take e).drop (e - 9))=true∧∃ fr' hp' wr',ae (CC L) run k gV ⟨fr,hp,wr⟩=some (.normal,⟨fr',hp',wr'⟩)∧fr'.length=71∧nth fr' 2 = .ptr 0 0∧nth fr' 4 = .sc (.string s)∧nth fr' 5=nth fr 5∧nth fr' 7 = .sc (.int .i64 ((e:Int) - 9))∧dM 1 hp' (d++[dec 0 (((bys s).take e).drop (e - 9))]) (nth fr' 6)∧aL hp' 0=some zW2) ∨
  (eI (((bys s).take e).drop (e - 9))=false∧∃ fr' hp' wr',ae (CC L) run k gV ⟨fr,hp,wr⟩=some (.ret,⟨fr',hp',wr'⟩)∧nth fr' 2 = .ptr 0 0∧nth fr' 3 = .sc (.bool false)∧aL hp' 0=some zW2):=by
 have he':e≤(bQ s).length:=by rw[← j7];exact he
 obtain⟨f1,a1,a2,a3,a4,a5,a6,a7⟩:=Tw L run k fr hp wr e he0 h71 h7
 obtain⟨f2,b1,b2,b3,b4,b5,b6,b7,b8⟩:=Tu L run k f1 hp wr a2
 obtain⟨f3,c1,c2,c3,c4,c5,c6,c7,c8,c9,c10,c11⟩:=Tt L run k f2 hp wr s e he' hl b2 (by rw[b5,a4,h4]) (by rw[b8,a7,h7])
 have hcl:(((bys s).take e).drop (e - 9)).length≤9:=by
  rw[length_drop,length_take];omega
 rcases wQ L run k _ hcl hp hb (((bys s).take e).drop (e - 9)).length 0 f3 wr 0 (by omega) rfl rfl c2 c3 c4 c5 (by rw[c11,b3]) (by rw[c6,b4,a3,h2]) with ⟨hd,f4,d1,d2,d3,d4,d5,d6,d7,d8⟩| ⟨hd,f4,wr4,d1,d2,d3⟩
 ·obtain⟨f5,hp5,wr5,e1,e2,e3,e4,e5,e6,e7,e8⟩:=N0 L run k f4 hp wr d _ hdl d2 d3 (by rw[d7,c9,b7,a6];exact hO)
  obtain⟨f6,g1,g2,g3,g4,g5,g6,g7⟩:=Tv L run k f5 hp5 wr5 e hl e2 (by rw[e8,d8,c10,b8,a7,h7])
  refine .inl ⟨hd,f6,hp5,wr5,?_,g2,by rw[g4,e5,d4,c6,b4,a3,h2],by rw[g5,e6,d5,c7,b5,a4,h4],by rw[g6,e7,d6,c8,b6,a5],g3,by rw[g7];exact e3,by rw[e4,hb]⟩
  have hB:ae (CC L) run k nT ⟨f1,hp,wr⟩=some (.normal,⟨f5,hp5,wr5⟩):=by
   rw[aY 1 b1,tY,ar ((ar c1).trans (bE (bK d1 (by omega))))]
   exact e1
  rw[tW,ar a1,ar (fF hB)]
  exact g1
 ·refine .inr ⟨hd,f4,cg hp 0 zW2,wr4,?_,d2,d3,by rw[cI hb,if_pos rfl]⟩
  have hB:ae (CC L) run k nT ⟨f1,hp,wr⟩=some (.ret,⟨f4,cg hp 0 zW2,wr4⟩):=by
   rw[aY 1 b1,tY,bO ((ar c1).trans (cJ (bK d1 (by omega))))]
  rw[tW,ar a1,bO (kC hB)]
theorem wP (L:Lst)(run:aw)(k:Nat)(hk:10<k)(s:ByteArray)(hl:(bys s).length<3000000):∀ (n e:Nat) (fr:Ψ) (hp:Θ) (wr:Ω) (d:Ω),e<n→0<e→e+9*d.length=(bys s).length→Dok d→eI ((bys s).drop e)=true→val d=dec 0 ((bys s).drop e) →
  fr.length=71→nth fr 2 = .ptr 0 0→nth fr 4 = .sc (.string s)→nth fr 7 = .sc (.int .i64 (e:Int))→dM 1 hp d (nth fr 6)→aL hp 0=some zW2 →
  (eI (bys s)=true∧∃ fr' hp' wr' d',cb (ae (CC L) run k gV) (n+1) ⟨fr,hp,wr⟩=some (.exit 0,⟨fr',hp',wr'⟩)∧fr'.length=71∧nth fr' 2 = .ptr 0 0∧nth fr' 5=nth fr 5∧dM 1 hp' d' (nth fr' 6)∧aL hp' 0=some zW2∧Dok d'∧d'.length<1000000∧val d'=dec 0 (bys s)) ∨
  (eI (bys s)=false∧∃ fr' hp' wr',cb (ae (CC L) run k gV) (n+1) ⟨fr,hp,wr⟩=some (.ret,⟨fr',hp',wr'⟩)∧nth fr' 2 = .ptr 0 0∧nth fr' 3 = .sc (.bool false)∧aL hp' 0=some zW2)
 | 0,e,fr,hp,wr,d,hn,_,_,_,_,_,_,_,_,_,_,_=>by omega
 | n+1,e,fr,hp,wr,d,hn,he0,hed,hd,hdg,hv,h71,h2,h4,h7,hO,hb=>by
  have hsp:=yn (bys s) (e - 9) e (by omega) (by omega)
  have hcl:(((bys s).take e).drop (e - 9)).length≤9:=by
   rw[length_drop,length_take];omega
  rcases DV L run k hk fr hp wr s e d he0 (by omega) (by omega) (by omega) h71 h2 h4 h7 hO hb with ⟨hc,f1,hp1,wr1,a1,a2,a3,a4,a5,a6,a7,a8⟩| ⟨hc,f1,hp1,wr1,a1,a2,a3,a4⟩
  ·have hx:dec 0 (((bys s).take e).drop (e - 9))<1000000000:=by
    have h1:=dec_lt _ hc
    have h2:=Nat.pow_le_pow_right (n:=10) (by omega) hcl
    have h3:(10:Nat) ^ 9=1000000000:=by decide
    omega
   have hd':Dok (d++[dec 0 (((bys s).take e).drop (e - 9))]):=hd.append (Dok.nil.cons hx)
   have hdg':eI ((bys s).drop (e - 9))=true:=by rw[hsp,fZ,hc,hdg];rfl
   have hv':val (d++[dec 0 (((bys s).take e).drop (e - 9))])=dec 0 ((bys s).drop (e - 9)):=by
    have hacc:=MB (dec 0 (((bys s).take e).drop (e - 9))) ((bys s).drop e)
    rw[length_drop,show (bys s).length - e=9*d.length by omega,Nat.pow_mul,show (10:Nat) ^ 9=1000000000 by decide] at hacc
    rw[dF,hsp,m9,hacc,hv,Nat.mul_comm,Nat.add_comm]
   rw[bT a1]
   by_cases h9:e≤9
   ·obtain⟨f2,b1,b2,b3,b4,b5⟩:=NX L run k f1 hp1 wr1 ((e:Int) - 9) (by omega) a2 a6
    rw[show e - 9=0 by omega,drop_zero] at hdg'
    have hv2:dec 0 ((bys s).drop (e - 9))=dec 0 (bys s):=by rw[show e - 9=0 by omega,drop_zero]
    rw[hv2] at hv'
    exact .inl ⟨hdg',f2,hp1,wr1,_,bu b1,b2,by rw[b3,a3],by rw[b4,a5],by rw[b5];exact a7,a8,hd',by simp;omega,hv'⟩
   ·have:=wP L run k hk s hl n (e - 9) f1 hp1 wr1 _ (by omega) (by omega) (by simp;omega) hd' hdg' hv' a2 a3 a4 (by rw[a6];congr 3;omega) a7 a8
    rcases this with ⟨q0,f2,hp2,wr2,d2,q1,q2,q3,q4,q5⟩| q
    ·exact .inl ⟨q0,f2,hp2,wr2,d2,q1,q2,q3,by rw[q4,a5],q5⟩
    ·exact .inr q
  ·refine .inr ⟨?_,f1,hp1,wr1,du a1,a2,a3,a4⟩
   have h1:=yn (bys s) 0 (e - 9) (by omega) (by omega)
   rw[drop_zero,drop_zero] at h1
   rw[h1,fZ,hsp,fZ,hc]
   simp
def L8:Lst:=[(152,fA),(170,lh)]
theorem akA:dE base.P L8:=⟨jB,XU,trivial⟩
theorem agm:bx L8 170=fun a=>lh (aK a):=rfl
theorem QE (run:aw)(dr:Bool)(hp:Θ)(s p:ByteArray):bP (CC L8) run dr hp 170 [.sc (.string s),.sc (.string p)]=some (jm (gQ s p),hp,⟨[],[],false,false⟩) :=
 bt NF agm run dr hp _ (gQ s p) rfl rfl rfl
theorem CB (run:aw)(dr:Bool)(hp:Θ)(n:Bool)(l:Ω)(p:PV)(hd:Dok l)(hl:l.length<1000000)(hO:dM 1 hp l p) :
  ∃ hp' ids,bP (CC L8) run dr hp 152 [.sc (.bool n),p]=some (br (sgn n (val l)),hp',⟨ids,ids,false,false⟩)∧aL hp' 0=aL hp 0:=by
 obtain⟨q,ids,h1,h2,h3⟩:=hO.arg n
 have h4:(CC L8).orc 152 [.sc (.bool n),q]=some [br (sgn n (val l))]:=by
  show fA (aK [.sc (.bool n),q])=_
  rw[h2]
  simp only[fA,cW hd hl]
 exact⟨roB hp ids,ids,eJ oU h1 h4 rfl,h3 0 (by omega)⟩
def BT:Code:=ai 5 gJ
theorem NW(n:Bool)(d:Ω)(hd:Dok d)(hl:d.length<1000000)(h71:fr.length=71)(h2:nth fr 2 = .ptr 0 0)(h5:nth fr 5 = .sc (.bool n))(hO:dM 1 hp d (nth fr 6))(hb:aL hp 0=some zW2) :
  ∃ st,ae (CC L8) run k BT ⟨fr,hp,wr⟩=some (.ret,st)∧aX TT st.fr st.hp f154.results.toList=some [br (sgn n (val d)),.sc (.bool true)]:=by
 obtain⟨hp',ids,hc,h3⟩:=CB run false hp n d _ hd hl hO
 rw[hb] at h3
 simp only[whW] at hc ⊢
 generalize aJ (sgn n (val d)).natAbs=r at *
 generalize bz (sgn n (val d))=nn at *
 have hn:aL (cg hp' 0 ⟨.live,[.sc (.bool nn),aP r]⟩) 0=some ⟨.live,[.sc (.bool nn),aP r]⟩:=by rw[cI h3,if_pos rfl]
 simp[BT,gJ,f154,aM,partOf,bm,bZ,bG,h71,h2,h5,hc,h3,aW,ca,aX,aU,hn,bp,bF]
def HC:Code:=seq1 (seq1 (ai 4 gJ))
theorem wO:ai 4 gJ = .seq (.seq HC (.block 0 (.loop gV))) BT:=rfl
def mA:Code:=seq1 (ai 2 gJ)
theorem tV:ai 2 gJ = .seq mA (ai 3 gJ):=rfl
def qn (s:ByteArray):ByteArray:=bif jg [45] (bQ s) then mkStr ((bQ s).drop 1) else s
def yw (s:ByteArray):Bool:=jg [45] (bQ s)
theorem Ts (run:aw)(k:Nat)(s:ByteArray) :
  ∃ fr wr,bh (CC L8) run k 2 gJ ⟨entry 71 [.sc (.string s)],[],[]⟩=some ⟨fr,[zW2],wr⟩∧fr.length=71∧nth fr 2 = .ptr 0 0∧nth fr 4 = .sc (.string (qn s))∧nth fr 5 = .sc (.bool (yw s)):=by
 obtain⟨e1,e2⟩:=cO 70 (.sc (.string s))
 generalize entry 71 [.sc (.string s)]=fr0 at *
 have hc:=fun dr hp=>QE run dr hp s { data:=#[45] }
 rw[show gQ s { data:=#[45] } = bif jg [45] (bQ s) then [.sc (.string (mkStr ((bQ s).drop 1))),.sc (.bool true)] else [.sc (.string s),.sc (.bool false)] from rfl] at hc
 unfold qn yw
 cases h:jg [45] (bQ s) <;> rw[h] at hc <;> simp only[cond_true,cond_false,jm] at hc ⊢ <;> simp[gJ,f154,bh,e1,e2,aM,zW,aO,hc]
def pN (n:Bool):List UInt8→Bool
 | []=>true
 | [a]=>a.toNat.beq 48 && n
 | a::_=>a.toNat.beq 48
set_option maxHeartbeats 1000000 in
theorem aaT(s:ByteArray)(n:Bool)(h71:fr.length=71)(h2:nth fr 2 = .ptr 0 0)(h4:nth fr 4 = .sc (.string s))(h5:nth fr 5 = .sc (.bool n)) :
  (pN n (bQ s)=true∧∃ fr' wr',ae (CC L) run k mA ⟨fr,[zW2],wr⟩=some (.ret,⟨fr',[zW2],wr'⟩)∧nth fr' 2 = .ptr 0 0∧nth fr' 3 = .sc (.bool false)) ∨
  (pN n (bQ s)=false∧∃ fr',ae (CC L) run k mA ⟨fr,[zW2],wr⟩=some (.normal,⟨fr',[zW2],wr⟩)∧fr'.length=71∧nth fr' 2 = .ptr 0 0∧nth fr' 4 = .sc (.string s)∧nth fr' 5 = .sc (.bool n)):=by
 have hes:bQ { data:=#[] } = []:=rfl
 have hidx:∀ a l,bQ s=a::l→im TT 9 (.sc (.string s)) (.sc (.int .i64 0))=some (.sc (.int .u8 (a.toNat:Int))):=by
  intro a l e
  simp[im,uS,j9,e,EU]
 have hz:aL [zW2] 0=some zW2:=rfl
 have hset:cg [zW2] 0 zW2=[zW2]:=rfl
 rcases hS:bQ s with _ | ⟨a,_ | ⟨b,l⟩⟩
 ·refine .inl ⟨rfl,?_⟩
  simp[undef,mA,gJ,f154,bm,bG,fB,h71,h2,h4,fw,hS,hes,eqL,uW,sB,sD,zW,eK,dH,wf0,wf1,ca,aL,cg]
 ·have hi:=hidx a [] hS
  by_cases ha:a.toNat=48
  ·have ha':((a.toNat:Int) == 48)=true:=by rw[ha];rfl
   have hab:a.toNat.beq 48=true:=by rw[ha];rfl
   cases n with
   | true =>
    refine .inl ⟨by simp[pN,ha],?_⟩
    simp[undef,mA,gJ,f154,bL,bm,bG,fB,h71,h2,h4,h5,fw,hS,hes,eqL,hi,ha',uS,uW,sB,sD,zW,eK,dH,wf0,wf1,ca,aL,cg]
   | false =>
    refine .inr ⟨by simp[pN],?_⟩
    simp[mA,gJ,f154,bL,h71,h2,h4,h5,fw,hS,hes,eqL,hi,ha',uS]
  ·have ha':((a.toNat:Int) == 48)=false:=by simp;omega
   have hab:a.toNat.beq 48=false:=by
    cases e:a.toNat.beq 48 with
    | false=>rfl
    | true=>exact absurd (Nat.eq_of_beq_eq_true e) ha
   refine .inr ⟨by simp[pN,hab],?_⟩
   simp[undef,mA,gJ,f154,h71,h2,h4,h5,fw,hS,hes,eqL,hi,ha']
 ·have hi:=hidx a (b::l) hS
  by_cases ha:a.toNat=48
  ·have ha':((a.toNat:Int) == 48)=true:=by rw[ha];rfl
   refine .inl ⟨by simp[pN,ha],?_⟩
   have hlen:(1:Int)<(l.length:Int)+1+1:=by omega
   simp[undef,mA,gJ,f154,bL,bm,bG,fB,h71,h2,h4,fw,hS,hes,eqL,hi,ha',hlen,uS,uW,sB,sD,zW,eK,dH,wf0,wf1,ca,aL,cg]
  ·have ha':((a.toNat:Int) == 48)=false:=by simp;omega
   have hab:a.toNat.beq 48=false:=by
    cases e:a.toNat.beq 48 with
    | false=>rfl
    | true=>exact absurd (Nat.eq_of_beq_eq_true e) ha
   refine .inr ⟨by simp[pN,hab],?_⟩
   simp[undef,mA,gJ,f154,h71,h2,h4,h5,fw,hS,hes,eqL,hi,ha']
theorem Tq(s:ByteArray)(n:Bool)(h71:fr.length=71)(h2:nth fr 2 = .ptr 0 0)(h4:nth fr 4 = .sc (.string s))(h5:nth fr 5 = .sc (.bool n)) :
  ∃ f1 fr',bh (CC L) run k 1 (ai 3 gJ) ⟨fr,hp,wr⟩=some ⟨f1,hp,wr⟩∧ae (CC L) run k HC ⟨f1,hp,wr⟩=some (.normal,⟨fr',hp,wr⟩)∧fr'.length=71∧nth fr' 2 = .ptr 0 0∧nth fr' 4 = .sc (.string s)∧nth fr' 5 = .sc (.bool n)∧nth fr' 6 = .sc (.slice none 0 0)∧nth fr' 7 = .sc (.int .i64 ((bys s).length:Int)):=by
 rw[j7]
 refine⟨eX fr 6 (.sc (.slice none 0 0)),?_⟩
 simp[HC,gJ,f154,bh,bL,h71,h2,h4,h5,uS]
def gN (s:ByteArray):Option Int :=
 bif pN (yw s) (bQ (qn s)) then none else bif eI (bys (qn s)) then some (sgn (yw s) (dec 0 (bys (qn s)))) else none
def z7:Ψ→Option Ψ
 | [.sc (.string s)]=>bif (bys s).length.blt 3000000 then (match gN s with
  | some z=>some [br z,.sc (.bool true)]
  | none=>some [br 0,.sc (.bool false)]) else none
 | _=>none
theorem DU(h2:nth fr 2 = .ptr 0 0)(h3:nth fr 3 = .sc (.bool false))(hb:aL hp 0=some zW2):aX TT fr hp f154.results.toList=some [.agg [.sc (.bool false),.sc (.slice none 0 0)],.sc (.bool false)]:=by
 simp[f154,aX,h2,h3,hb,aU,bp,partOf,aW,bF]
theorem af9(x:Int)(b:Bool):bw (snap hp bq) [br x,.sc (.bool b)]=some ([br x,.sc (.bool b)],[]):=rfl
theorem adZ (s:ByteArray):(bys (qn s)).length≤(bys s).length:=by
 unfold qn
 cases jg [45] (bQ s) with
 | false=>exact Nat.le_refl _
 | true =>
  rw[cond_true,j7,fk,j7,length_drop]
  omega
theorem QN {n:Bool}{s:ByteArray}(h:pN n (bQ s)=false):0<(bys s).length:=by
 rw[j7]
 cases e:bQ s with
 | nil=>rw[e] at h;cases h
 | cons a l=>simp
theorem NV:Ab.Spec base.P 154 z7:=Ab.Spec.bS (C:=CC L8) (cR akA) fun args rs h=>by
 unfold z7 at h
 split at h
 ·rename_i s
  cases hb:(bys s).length.blt 3000000 with
  | false=>rw[hb] at h;cases h
  | true =>
   rw[hb] at h
   rw[Nat.blt_eq] at hb
   simp only[cond_true] at h
   have hcl:=adZ s
   obtain⟨f1,wr1,a1,a2,a3,a4,a5⟩:=Ts (runK (CC L8) 3000001) 3000001 s
   rcases aaT L8 (runK (CC L8) 3000001) 3000001 f1 wr1 (qn s) (yw s) a2 a3 a4 a5 with ⟨hbad,f2,wr2,b1,b2,b3⟩| ⟨hbad,f2,b1,b2,b3,b4,b5⟩
   ·have hr:gN s=none:=by unfold gN;rw[hbad];rfl
    rw[hr] at h
    simp only[OiE] at h
    subst h
    have hx:ae (CC L8) (runK (CC L8) 3000001) 3000001 gJ ⟨entry 71 [.sc (.string s)],[],[]⟩=some (.ret,⟨f2,[zW2],wr2⟩):=by
     rw[aY 2 a1,tV,bO b1]
    exact⟨3000002,_,_,_,[.agg [.sc (.bool false),.sc (.slice none 0 0)],.sc (.bool false)],[],ba tH rfl hx (DU f2 _ b2 b3 rfl),rfl,Wk.agg ⟨Wk.refl rfl,Wk.nil false,trivial⟩,Wk.refl rfl,trivial⟩
   ·obtain⟨f3,f4,c1,c2,c3,c4,c5,c6,c7,c8⟩:=Tq L8 (runK (CC L8) 3000001) 3000001 f2 [zW2] wr1 (qn s) (yw s) b2 b3 b4 b5
    have hpos:=QN hbad
    have hx0:ae (CC L8) (runK (CC L8) 3000001) 3000001 gJ ⟨entry 71 [.sc (.string s)],[],[]⟩=ae (CC L8) (runK (CC L8) 3000001) 3000001 (ai 4 gJ) ⟨f3,[zW2],wr1⟩:=by
     rw[aY 2 a1,tV,ar b1,aY 1 c1];rfl
    rcases wP L8 (runK (CC L8) 3000001) 3000001 (by omega) (qn s) (by omega) ((bys (qn s)).length+1) (bys (qn s)).length f4 [zW2] wr1 [] (by omega) hpos (by simp) Dok.nil (by rw[drop_length];rfl) (by rw[drop_length];rfl) c3 c4 c5 c8 (by rw[c7];exact dM.nil (by simp)) rfl with ⟨hd,f5,hp5,wr5,d5,g1,g2,g3,g4,g5,g6,g7,g8,g9⟩| ⟨hd,f5,hp5,wr5,g1,g2,g3,g4⟩
    ·have hr:gN s=some (sgn (yw s) (dec 0 (bys (qn s)))):=by unfold gN;rw[hbad,hd];rfl
     rw[hr] at h
     simp only[OiE] at h
     subst h
     obtain⟨st,e1,e2⟩:=NW (runK (CC L8) 3000001) 3000001 f5 hp5 wr5 (yw s) d5 g7 g8 g2 g3 (by rw[g4,c6]) g5 g6
     rw[g9] at e2
     have hx:ae (CC L8) (runK (CC L8) 3000001) 3000001 gJ ⟨entry 71 [.sc (.string s)],[],[]⟩=some (.ret,st):=by
      rw[hx0,wO,ar ((ar c2).trans (bE (bK g1 (by omega))))]
      exact e1
     exact⟨3000002,_,_,_,_,_,ba tH rfl hx e2,af9 _ _ _,Wk.refl rfl,Wk.refl rfl,trivial⟩
    ·have hr:gN s=none:=by unfold gN;rw[hbad,hd];rfl
     rw[hr] at h
     simp only[OiE] at h
     subst h
     have hx:ae (CC L8) (runK (CC L8) 3000001) 3000001 gJ ⟨entry 71 [.sc (.string s)],[],[]⟩=some (.ret,⟨f5,hp5,wr5⟩):=by
      rw[hx0,wO,bO ((ar c2).trans (cJ (bK g1 (by omega))))]
     exact⟨3000002,_,_,_,[.agg [.sc (.bool false),.sc (.slice none 0 0)],.sc (.bool false)],[],ba tH rfl hx (DU f5 _ g2 g3 g4),rfl,Wk.agg ⟨Wk.refl rfl,Wk.nil false,trivial⟩,Wk.refl rfl,trivial⟩
 ·cases h
end Go.Proofs.YtjdmodeenbdfpaaGreat
end
