/- Contracts of num's integers, part 16; each lemma states its conditions. -/
import Derived.Test.YtjdmodeenbdfpaaGreatW15
set_option linter.unusedSimpArgs false
set_option linter.unusedVariables false
noncomputable section
namespace Go.Proofs.YtjdmodeenbdfpaaGreat
open Go Go.Ab List Tryz
attribute [local simp] FzZ aA aC aF aG aH aZ aa ab ae af ag ah ai aj an and_assoc ao aq au av bd bf bg sW seq1
def gJ:Code:=f154.body.getD .skip
def gW:Code:=((f154.body).bind aA).getD .skip
def pk:Code:=(aA gW).getD .skip
theorem M8 (L:Lst)(run:aw)(k:Nat)(fr:Ψ)(hp:Θ)(wr:Ω)(n:Nat)(h71:fr.length=71)(h45:nth fr 45 = .sc (.int .i64 (n:Int)))(h46:nth fr 46 = .sc (.int .i64 (n:Int))) :
  ∃ fr',af (CC L) run k pk ⟨fr,hp,wr⟩=some (.exit 2,⟨fr',hp,wr⟩)∧fr'.length=71∧nth fr' 2=nth fr 2∧nth fr' 4=nth fr 4∧nth fr' 5=nth fr 5∧nth fr' 6=nth fr 6∧nth fr' 7=nth fr 7∧nth fr' 8=nth fr 8:=by
 simp[pk,gW,f154,h71,h45,h46]
set_option maxHeartbeats 1000000 in
theorem Sw (L:Lst)(run:aw)(k:Nat)(fr:Ψ)(hp:Θ)(wr:Ω)(c:Ω)(i x x':Nat)(hi:i<c.length)(hl:c.length≤9)(hx:x<10 ^ i)(hd:lZ c[i]=true)(hx':x'=10*x+dv c[i])
  (h71:fr.length=71) (h44:nth fr 44=xW c) (h45:nth fr 45 = .sc (.int .i64 (c.length:Int))) (h46:nth fr 46 = .sc (.int .i64 (i:Int))) (h8:nth fr 8 = .sc (.int .u32 (x:Int))) :
  ∃ fr',af (CC L) run k pk ⟨fr,hp,wr⟩=some (.normal,⟨fr',hp,wr⟩)∧fr'.length=71∧nth fr' 44=xW c∧nth fr' 45 = .sc (.int .i64 (c.length:Int))∧nth fr' 46 = .sc (.int .i64 ((i+1:Nat):Int))∧nth fr' 8 = .sc (.int .u32 (x':Int))∧nth fr' 2=nth fr 2∧nth fr' 4=nth fr 4∧nth fr' 5=nth fr 5∧nth fr' 6=nth fr 6∧nth fr' 7=nth fr 7:=by
 have hh:=ac4 c i hi
 rw[dN] at hd
 generalize c[i]=b at *
 have e1:xW c = .imm c.length false (c.map u8v):=rfl
 rw[e1] at h44 ⊢
 have hx9:x<1000000000:=Nat.lt_of_lt_of_le hx (Nat.le_trans (Nat.pow_le_pow_right (by omega) (show i≤8 by omega)) (by decide))
 have hx8:x<100000000:=Nat.lt_of_lt_of_le hx (Nat.le_trans (Nat.pow_le_pow_right (by omega) (show i≤8 by omega)) (by decide))
 obtain⟨s1,hs1⟩:∃ s1,s1=10*x:=⟨_,rfl⟩
 obtain⟨s2,hs2⟩:∃ s2,s2=dv b:=⟨_,rfl⟩
 rw[← hs1,← hs2] at hx'
 have hs3:b=s2+48:=by rw[hs2];unfold dv;omega
 have hw1:=JL .u32 x s1 hs1 (iM (by omega))
 have hw2:=A8 .u8 b s2 hs3 (show s2≤255 by omega)
 have hw3:bF .u32 (s2:Int)=(s2:Int):=cq .u32 s2 (iM (by omega))
 have hw4:=dA .u32 s1 s2 x' hx' (iM (by omega))
 have hwi:=bA i (by omega)
 have hb1 : ¬ ((b:Int)<48):=by omega
 have hb2 : ¬ ((57:Int)<b):=by omega
 simp[pk,gW,f154,aU,bh,partOf,h71,h44,h45,h46,h8,uBs,u8,u32,s8,a8,dI,hi,hh,aX,hw1,hw2,hw3,hw4,hwi,hb1,hb2]
set_option maxHeartbeats 1000000 in
theorem M9 (L:Lst)(run:aw)(k:Nat)(fr:Ψ)(hp:Θ)(wr:Ω)(c:Ω)(i:Nat)(hi:i<c.length)(hd:lZ c[i]=false)
  (hb:aP hp 0=some zW2)
  (h71:fr.length=71) (h44:nth fr 44=xW c) (h45:nth fr 45 = .sc (.int .i64 (c.length:Int))) (h46:nth fr 46 = .sc (.int .i64 (i:Int))) (h2:nth fr 2 = .ptr 0 0) :
  ∃ fr' wr',af (CC L) run k pk ⟨fr,hp,wr⟩=some (.ret,⟨fr',bZ hp 0 zW2,wr'⟩)∧nth fr' 2 = .ptr 0 0∧nth fr' 3 = .sc (.bool false):=by
 have hh:=ac4 c i hi
 generalize c[i]=b at *
 have e1:xW c = .imm c.length false (c.map u8v):=rfl
 rw[e1] at h44
 have hd':(b:Int)<48∨(57:Int)<b:=by
  have : ¬ (48≤b∧b≤57):=fun h=>by rw[dN.2 h] at hd;cases hd
  omega
 by_cases hb1:(b:Int)<48
 ·simp[pk,gW,f154,aU,bh,partOf,bm,bH,fC,h71,h44,h45,h46,h2,uBs,uW,sB,sD,zW,wf0,wf1,s8,a8,hi,hh,aX,hb1,hb,fb,dq,cm]
 ·have hb2:(57:Int)<b:=by omega
  simp[pk,gW,f154,aU,bh,partOf,bm,bH,fC,h71,h44,h45,h46,h2,uBs,uW,sB,sD,zW,wf0,wf1,s8,a8,hi,hh,aX,hb1,hb2,hb,fb,dq,cm]
theorem wB (L:Lst)(run:aw)(k:Nat)(c:Ω)(hl:c.length≤9)(hp:Θ)(hb:aP hp 0=some zW2):∀ (n i:Nat) (fr:Ψ) (wr:Ω) (x:Nat),i+n=c.length→eO (c.take i)=true→x=dec 0 (c.take i) →
  fr.length=71→nth fr 44=xW c→nth fr 45 = .sc (.int .i64 (c.length:Int))→nth fr 46 = .sc (.int .i64 (i:Int))→nth fr 8 = .sc (.int .u32 (x:Int))→nth fr 2 = .ptr 0 0 →
  (eO c=true∧∃ fr',ch (af (CC L) run k pk) (n+1) ⟨fr,hp,wr⟩=some (.exit 2,⟨fr',hp,wr⟩)∧fr'.length=71∧nth fr' 8 = .sc (.int .u32 (dec 0 c:Int))∧nth fr' 2=nth fr 2∧nth fr' 4=nth fr 4∧nth fr' 5=nth fr 5∧nth fr' 6=nth fr 6∧nth fr' 7=nth fr 7) ∨
  (eO c=false∧∃ fr' wr',ch (af (CC L) run k pk) (n+1) ⟨fr,hp,wr⟩=some (.ret,⟨fr',bZ hp 0 zW2,wr'⟩)∧nth fr' 2 = .ptr 0 0∧nth fr' 3 = .sc (.bool false))
 | 0,i,fr,wr,x,hi,hd,hx,h71,h44,h45,h46,h8,h2=>by
  have:i=c.length:=by omega
  subst this
  rw[take_length] at hd hx
  obtain⟨fr',g1,g2,g3,g4,g5,g6,g7,g8⟩:=M8 L run k fr hp wr c.length h71 h45 h46
  exact .inl ⟨hd,fr',bE g1,g2,by rw[g8,h8,hx],g3,g4,g5,g6,g7⟩
 | n+1,i,fr,wr,x,hi,hd,hx,h71,h44,h45,h46,h8,h2=>by
  have hic:i<c.length:=by omega
  cases hdb:lZ c[i] with
  | true =>
   have hxl:x<10 ^ i:=by
    have:=dec_lt _ hd
    rw[length_take,Nat.min_eq_left (by omega)] at this
    omega
   obtain⟨fr1,g1,g2,g3,g4,g5,g6,g7,g8,g9,g10,g11⟩:=Sw L run k fr hp wr c i x _ hic hl hxl hdb rfl h71 h44 h45 h46 h8
   have ht:c.take (i+1)=c.take i++[c[i]]:=take_succ_eq_append_getElem hic
   have:=wB L run k c hl hp hb n (i+1) fr1 wr (10*x+dv c[i]) (by omega) (by rw[ht,fY,hd];simp[eO,hdb]) (by rw[ht,mN,← hx];rfl) g2 g3 g4 g5 g6 (by rw[g7,h2])
   rw[ca g1]
   rcases this with ⟨h9,fr',q1,q2,q3,q4,q5,q6,q7,q8⟩| h9
   ·exact .inl ⟨h9,fr',q1,q2,q3,by rw[q4,g7],by rw[q5,g8],by rw[q6,g9],by rw[q7,g10],by rw[q8,g11]⟩
   ·exact .inr h9
  | false =>
   obtain⟨fr1,wr1,g1,g2,g3⟩:=M9 L run k fr hp wr c i hic hdb hb h71 h44 h45 h46 h2
   refine .inr ⟨?_,fr1,wr1,ez g1,g2,g3⟩
   have:c=c.take i++c[i]::c.drop (i+1):=by rw[← drop_eq_getElem_cons hic,take_append_drop]
   rw[this,fY,hd,eO,hdb];rfl
def nA:Code:=match bn gW with | .seq (.block _ c) _=>c | c=>c
def Hd:Code:=seq1 gW
def Hc:Code:=bn (bn gW)
theorem tM:gW = .seq Hd (.seq (.block 1 nA) Hc):=rfl
def Hb:Code:=seq1 (seq1 (ag 1 nA))
theorem tP:ag 1 nA = .seq (.seq Hb (.block 2 (.loop pk))) (ag 2 nA):=rfl
theorem M7 (L:Lst)(run:aw)(k:Nat)(fr:Ψ)(hp:Θ)(wr:Ω)(e:Int)(he:e≤0)(h71:fr.length=71)(h7:nth fr 7 = .sc (.int .i64 e)) :
  ∃ fr',af (CC L) run k gW ⟨fr,hp,wr⟩=some (.exit 0,⟨fr',hp,wr⟩)∧fr'.length=71∧nth fr' 2=nth fr 2∧nth fr' 5=nth fr 5∧nth fr' 6=nth fr 6:=by
 have h1 : ¬ (0<e):=by omega
 simp[gW,f154,h71,h7,h1]
theorem Sv (L:Lst)(run:aw)(k:Nat)(fr:Ψ)(hp:Θ)(wr:Ω)(e:Nat)(he:0<e)(h71:fr.length=71)(h7:nth fr 7 = .sc (.int .i64 (e:Int))) :
  ∃ fr',af (CC L) run k Hd ⟨fr,hp,wr⟩=some (.normal,⟨fr',hp,wr⟩)∧fr'.length=71∧nth fr' 2=nth fr 2∧nth fr' 4=nth fr 4∧nth fr' 5=nth fr 5∧nth fr' 6=nth fr 6∧nth fr' 7=nth fr 7:=by
 simp[Hd,gW,f154,h71,h7,he]
theorem Ss (L:Lst)(run:aw)(k:Nat)(fr:Ψ)(hp:Θ)(wr:Ω)(h71:fr.length=71) :
  ∃ fr',ba (CC L) run k 1 nA ⟨fr,hp,wr⟩=some ⟨fr',hp,wr⟩∧fr'.length=71∧nth fr' 8 = .sc (.int .u32 (0:Nat))∧nth fr' 2=nth fr 2∧nth fr' 4=nth fr 4∧nth fr' 5=nth fr 5∧nth fr' 6=nth fr 6∧nth fr' 7=nth fr 7:=by
 simp[nA,gW,f154,bn,ba,h71]
set_option maxHeartbeats 1000000 in
theorem Sr (L:Lst)(run:aw)(k:Nat)(fr:Ψ)(hp:Θ)(wr:Ω)(s:ByteArray)(e:Nat)(he:e≤(bO s).length)(hl:e<9000000000000000000)(h71:fr.length=71)(h4:nth fr 4 = .sc (.string s))(h7:nth fr 7 = .sc (.int .i64 (e:Int))) :
  ∃ fr',af (CC L) run k Hb ⟨fr,hp,wr⟩=some (.normal,⟨fr',hp,wr⟩)∧fr'.length=71∧nth fr' 44=xW (((bys s).take e).drop (e - 9))∧nth fr' 45 = .sc (.int .i64 ((((bys s).take e).drop (e - 9)).length:Int))∧nth fr' 46 = .sc (.int .i64 (0:Nat))
   ∧ nth fr' 2=nth fr 2∧nth fr' 4=nth fr 4∧nth fr' 5=nth fr 5∧nth fr' 6=nth fr 6∧nth fr' 7=nth fr 7∧nth fr' 8=nth fr 8:=by
 have hw:=P8 (e:Int) (by omega) (by omega)
 have hb:((bys s).take e).drop (e - 9)=(((bO s).take e).drop (e - 9)).map UInt8.toNat:=by
  simp[bys,map_take,map_drop]
 have hs:=Mp s (e - 9) e (by omega) he
 have hcv:=WD (((bO s).take e).drop (e - 9))
 rw[hb]
 generalize (((bO s).take e).drop (e - 9))=c at *
 have hlen:(bO (mkStr c)).length=(c.map UInt8.toNat).length:=by rw[fm];simp
 have he1:xW (c.map UInt8.toNat) = .imm (c.map UInt8.toNat).length false ((c.map UInt8.toNat).map u8v):=rfl
 rw[hlen] at hcv
 generalize c.map UInt8.toNat=d at *
 have hlu:dy (xW d)=some d.length:=rfl
 have hm:(if (9:Int)<(e:Int) then (e:Int) - 9 else 0)=((e - 9:Nat):Int):=by
  by_cases h:(9:Int)<(e:Int)
  ·rw[if_pos h];omega
  ·rw[if_neg h];omega
 generalize e - 9=lo at *
 simp[Hb,nA,gW,f154,bn,bL,h71,h4,h7,hw,mE,hm,uS,uBs,u8,dh,hs,dI,hlen,hcv,hlu,-map_drop,-map_take]
theorem Na (L:Lst)(run:aw)(k:Nat)(fr:Ψ)(hp:Θ)(wr:Ω)(d:Ω)(x:Nat)(hl:d.length<1000000)(h71:fr.length=71)(h8:nth fr 8 = .sc (.int .u32 (x:Int)))(hO:dR 1 hp d (nth fr 6)) :
  ∃ fr' hp' wr',af (CC L) run k (ag 2 nA) ⟨fr,hp,wr⟩=some (.normal,⟨fr',hp',wr'⟩)∧fr'.length=71∧dR 1 hp' (d++[x]) (nth fr' 6)∧aP hp' 0=aP hp 0∧nth fr' 2=nth fr 2∧nth fr' 4=nth fr 4∧nth fr' 5=nth fr 5∧nth fr' 7=nth fr 7:=by
 obtain⟨p',hp',fp,h7,h9,h10⟩:=hO.app x (Nat.lt_trans hl (by decide))
 have h11:=h10 0 (by omega)
 simp[nA,gW,f154,bn,soft,eu,du,h71,h8,uD,s32,b32,z32,gV x,nV,nB,jN,bQ,h7,h9,h11]
theorem Su (L:Lst)(run:aw)(k:Nat)(fr:Ψ)(hp:Θ)(wr:Ω)(e:Nat)(hl:e<9000000000000000000)(h71:fr.length=71)(h7:nth fr 7 = .sc (.int .i64 (e:Int))) :
  ∃ fr',af (CC L) run k Hc ⟨fr,hp,wr⟩=some (.normal,⟨fr',hp,wr⟩)∧fr'.length=71∧nth fr' 7 = .sc (.int .i64 ((e:Int) - 9))∧nth fr' 2=nth fr 2∧nth fr' 4=nth fr 4∧nth fr' 5=nth fr 5∧nth fr' 6=nth fr 6:=by
 have hw:=P8 (e:Int) (by omega) (by omega)
 simp[Hc,gW,f154,bn,h71,h7,hw]
theorem DW (L:Lst)(run:aw)(k:Nat)(hk:10<k)(fr:Ψ)(hp:Θ)(wr:Ω)(s:ByteArray)(e:Nat)(d:Ω)(he0:0<e)(he:e≤(bys s).length)(hl:e<9000000000000000000)(hdl:d.length<1000000)
  (h71:fr.length=71) (h2:nth fr 2 = .ptr 0 0) (h4:nth fr 4 = .sc (.string s)) (h7:nth fr 7 = .sc (.int .i64 (e:Int))) (hO:dR 1 hp d (nth fr 6)) (hb:aP hp 0=some zW2) :
  (eO (((bys s).take e).drop (e - 9))=true∧∃ fr' hp' wr',af (CC L) run k gW ⟨fr,hp,wr⟩=some (.normal,⟨fr',hp',wr'⟩)∧fr'.length=71∧nth fr' 2 = .ptr 0 0∧nth fr' 4 = .sc (.string s)∧nth fr' 5=nth fr 5∧nth fr' 7 = .sc (.int .i64 ((e:Int) - 9))∧dR 1 hp' (d++[dec 0 (((bys s).take e).drop (e - 9))]) (nth fr' 6)∧aP hp' 0=some zW2) ∨
  (eO (((bys s).take e).drop (e - 9))=false∧∃ fr' hp' wr',af (CC L) run k gW ⟨fr,hp,wr⟩=some (.ret,⟨fr',hp',wr'⟩)∧nth fr' 2 = .ptr 0 0∧nth fr' 3 = .sc (.bool false)∧aP hp' 0=some zW2):=by
 have he':e≤(bO s).length:=by rw[← jr];exact he
 obtain⟨f1,a1,a2,a3,a4,a5,a6,a7⟩:=Sv L run k fr hp wr e he0 h71 h7
 obtain⟨f2,b1,b2,b3,b4,b5,b6,b7,b8⟩:=Ss L run k f1 hp wr a2
 obtain⟨f3,c1,c2,c3,c4,c5,c6,c7,c8,c9,c10,c11⟩:=Sr L run k f2 hp wr s e he' hl b2 (by rw[b5,a4,h4]) (by rw[b8,a7,h7])
 have hcl:(((bys s).take e).drop (e - 9)).length≤9:=by
  rw[length_drop,length_take];omega
 rcases wB L run k _ hcl hp hb (((bys s).take e).drop (e - 9)).length 0 f3 wr 0 (by omega) rfl rfl c2 c3 c4 c5 (by rw[c11,b3]) (by rw[c6,b4,a3,h2]) with ⟨hd,f4,d1,d2,d3,d4,d5,d6,d7,d8⟩| ⟨hd,f4,wr4,d1,d2,d3⟩
 ·obtain⟨f5,hp5,wr5,e1,e2,e3,e4,e5,e6,e7,e8⟩:=Na L run k f4 hp wr d _ hdl d2 d3 (by rw[d7,c9,b7,a6];exact hO)
  obtain⟨f6,g1,g2,g3,g4,g5,g6,g7⟩:=Su L run k f5 hp5 wr5 e hl e2 (by rw[e8,d8,c10,b8,a7,h7])
  refine .inl ⟨hd,f6,hp5,wr5,?_,g2,by rw[g4,e5,d4,c6,b4,a3,h2],by rw[g5,e6,d5,c7,b5,a4,h4],by rw[g6,e7,d6,c8,b6,a5],g3,by rw[g7];exact e3,by rw[e4,hb]⟩
  have hB:af (CC L) run k nA ⟨f1,hp,wr⟩=some (.normal,⟨f5,hp5,wr5⟩):=by
   rw[aQ 1 b1,tP,ar ((ar c1).trans (bK (bT d1 (by omega))))]
   exact e1
  rw[tM,ar a1,ar (fF hB)]
  exact g1
 ·refine .inr ⟨hd,f4,bZ hp 0 zW2,wr4,?_,d2,d3,by rw[cI hb,if_pos rfl]⟩
  have hB:af (CC L) run k nA ⟨f1,hp,wr⟩=some (.ret,⟨f4,bZ hp 0 zW2,wr4⟩):=by
   rw[aQ 1 b1,tP,cj ((ar c1).trans (da (bT d1 (by omega))))]
  rw[tM,ar a1,cj (kt hB)]
theorem wA (L:Lst)(run:aw)(k:Nat)(hk:10<k)(s:ByteArray)(hl:(bys s).length<3000000):∀ (n e:Nat) (fr:Ψ) (hp:Θ) (wr:Ω) (d:Ω),e<n→0<e→e+9*d.length=(bys s).length→Dok d→eO ((bys s).drop e)=true→val d=dec 0 ((bys s).drop e) →
  fr.length=71→nth fr 2 = .ptr 0 0→nth fr 4 = .sc (.string s)→nth fr 7 = .sc (.int .i64 (e:Int))→dR 1 hp d (nth fr 6)→aP hp 0=some zW2 →
  (eO (bys s)=true∧∃ fr' hp' wr' d',ch (af (CC L) run k gW) (n+1) ⟨fr,hp,wr⟩=some (.exit 0,⟨fr',hp',wr'⟩)∧fr'.length=71∧nth fr' 2 = .ptr 0 0∧nth fr' 5=nth fr 5∧dR 1 hp' d' (nth fr' 6)∧aP hp' 0=some zW2∧Dok d'∧d'.length<1000000∧val d'=dec 0 (bys s)) ∨
  (eO (bys s)=false∧∃ fr' hp' wr',ch (af (CC L) run k gW) (n+1) ⟨fr,hp,wr⟩=some (.ret,⟨fr',hp',wr'⟩)∧nth fr' 2 = .ptr 0 0∧nth fr' 3 = .sc (.bool false)∧aP hp' 0=some zW2)
 | 0,e,fr,hp,wr,d,hn,_,_,_,_,_,_,_,_,_,_,_=>by omega
 | n+1,e,fr,hp,wr,d,hn,he0,hed,hd,hdg,hv,h71,h2,h4,h7,hO,hb=>by
  have hsp:=xY (bys s) (e - 9) e (by omega) (by omega)
  have hcl:(((bys s).take e).drop (e - 9)).length≤9:=by
   rw[length_drop,length_take];omega
  rcases DW L run k hk fr hp wr s e d he0 (by omega) (by omega) (by omega) h71 h2 h4 h7 hO hb with ⟨hc,f1,hp1,wr1,a1,a2,a3,a4,a5,a6,a7,a8⟩| ⟨hc,f1,hp1,wr1,a1,a2,a3,a4⟩
  ·have hx:dec 0 (((bys s).take e).drop (e - 9))<1000000000:=by
    have h1:=dec_lt _ hc
    have h2:=Nat.pow_le_pow_right (n:=10) (by omega) hcl
    have h3:(10:Nat) ^ 9=1000000000:=by decide
    omega
   have hd':Dok (d++[dec 0 (((bys s).take e).drop (e - 9))]):=hd.append (Dok.nil.cons hx)
   have hdg':eO ((bys s).drop (e - 9))=true:=by rw[hsp,fY,hc,hdg];rfl
   have hv':val (d++[dec 0 (((bys s).take e).drop (e - 9))])=dec 0 ((bys s).drop (e - 9)):=by
    have hacc:=Lv (dec 0 (((bys s).take e).drop (e - 9))) ((bys s).drop e)
    rw[length_drop,show (bys s).length - e=9*d.length by omega,Nat.pow_mul,show (10:Nat) ^ 9=1000000000 by decide] at hacc
    rw[dL,hsp,mN,hacc,hv,Nat.mul_comm,Nat.add_comm]
   rw[ca a1]
   by_cases h9:e≤9
   ·obtain⟨f2,b1,b2,b3,b4,b5⟩:=M7 L run k f1 hp1 wr1 ((e:Int) - 9) (by omega) a2 a6
    rw[show e - 9=0 by omega,drop_zero] at hdg'
    have hv2:dec 0 ((bys s).drop (e - 9))=dec 0 (bys s):=by rw[show e - 9=0 by omega,drop_zero]
    rw[hv2] at hv'
    exact .inl ⟨hdg',f2,hp1,wr1,_,bE b1,b2,by rw[b3,a3],by rw[b4,a5],by rw[b5];exact a7,a8,hd',by simp;omega,hv'⟩
   ·have:=wA L run k hk s hl n (e - 9) f1 hp1 wr1 _ (by omega) (by omega) (by simp;omega) hd' hdg' hv' a2 a3 a4 (by rw[a6];congr 3;omega) a7 a8
    rcases this with ⟨q0,f2,hp2,wr2,d2,q1,q2,q3,q4,q5⟩| q
    ·exact .inl ⟨q0,f2,hp2,wr2,d2,q1,q2,q3,by rw[q4,a5],q5⟩
    ·exact .inr q
  ·refine .inr ⟨?_,f1,hp1,wr1,ez a1,a2,a3,a4⟩
   have h1:=xY (bys s) 0 (e - 9) (by omega) (by omega)
   rw[drop_zero,drop_zero] at h1
   rw[h1,fY,hsp,fY,hc]
   simp
def L8:Lst:=[(152,fB),(170,kU)]
theorem ajb:dt base.P L8:=⟨jw,Wx,trivial⟩
theorem aeE:bt L8 170=fun a=>kU (aJ a):=rfl
theorem Pp (run:aw)(dr:Bool)(hp:Θ)(s p:ByteArray):bU (CC L8) run dr hp 170 [.sc (.string s),.sc (.string p)]=some (ja (gQ s p),hp,⟨[],[],false,false⟩) :=
 bu MM aeE run dr hp _ (gQ s p) rfl rfl rfl
theorem Cx (run:aw)(dr:Bool)(hp:Θ)(n:Bool)(l:Ω)(p:PV)(hd:Dok l)(hl:l.length<1000000)(hO:dR 1 hp l p) :
  ∃ hp' ids,bU (CC L8) run dr hp 152 [.sc (.bool n),p]=some (br (sgn n (val l)),hp',⟨ids,ids,false,false⟩)∧aP hp' 0=aP hp 0:=by
 obtain⟨q,ids,h1,h2,h3⟩:=hO.arg n
 have h4:(CC L8).orc 152 [.sc (.bool n),q]=some [br (sgn n (val l))]:=by
  show fB (aJ [.sc (.bool n),q])=_
  rw[h2]
  simp only[fB,cX hd hl]
 exact⟨roB hp ids,ids,et oG h1 h4 rfl,h3 0 (by omega)⟩
def BM:Code:=ag 5 gJ
theorem M6 (run:aw)(k:Nat)(fr:Ψ)(hp:Θ)(wr:Ω)(n:Bool)(d:Ω)(hd:Dok d)(hl:d.length<1000000)(h71:fr.length=71)(h2:nth fr 2 = .ptr 0 0)(h5:nth fr 5 = .sc (.bool n))(hO:dR 1 hp d (nth fr 6))(hb:aP hp 0=some zW2) :
  ∃ st,af (CC L8) run k BM ⟨fr,hp,wr⟩=some (.ret,st)∧bc TT st.fr st.hp f154.results.toList=some [br (sgn n (val d)),.sc (.bool true)]:=by
 obtain⟨hp',ids,hc,h3⟩:=Cx run false hp n d _ hd hl hO
 rw[hb] at h3
 simp only[whW] at hc ⊢
 generalize aK (sgn n (val d)).natAbs=r at *
 generalize bw (sgn n (val d))=nn at *
 have hn:aP (bZ hp' 0 ⟨.live,[.sc (.bool nn),aO r]⟩) 0=some ⟨.live,[.sc (.bool nn),aO r]⟩:=by rw[cI h3,if_pos rfl]
 simp[BM,gJ,f154,aM,partOf,bm,bX,bH,h71,h2,h5,hc,h3,aW,cm,bc,aX,hn,bq,bD]
def He:Code:=seq1 (seq1 (ag 4 gJ))
theorem wz:ag 4 gJ = .seq (.seq He (.block 0 (.loop gW))) BM:=rfl
def mi:Code:=seq1 (ag 2 gJ)
theorem tL:ag 2 gJ = .seq mi (ag 3 gJ):=rfl
def pV (s:ByteArray):ByteArray:=bif iR [45] (bO s) then mkStr ((bO s).drop 1) else s
def ya (s:ByteArray):Bool:=iR [45] (bO s)
theorem Sp (run:aw)(k:Nat)(s:ByteArray) :
  ∃ fr wr,ba (CC L8) run k 2 gJ ⟨entry 71 [.sc (.string s)],[],[]⟩=some ⟨fr,[zW2],wr⟩∧fr.length=71∧nth fr 2 = .ptr 0 0∧nth fr 4 = .sc (.string (pV s))∧nth fr 5 = .sc (.bool (ya s)):=by
 obtain⟨e1,e2⟩:=cL 70 (.sc (.string s))
 generalize entry 71 [.sc (.string s)]=fr0 at *
 have hc:=fun dr hp=>Pp run dr hp s { data:=#[45] }
 rw[show gQ s { data:=#[45] } = bif iR [45] (bO s) then [.sc (.string (mkStr ((bO s).drop 1))),.sc (.bool true)] else [.sc (.string s),.sc (.bool false)] from rfl] at hc
 unfold pV ya
 cases h:iR [45] (bO s) <;> rw[h] at hc <;> simp only[cond_true,cond_false,ja] at hc ⊢ <;> simp[gJ,f154,ba,e1,e2,aM,zW,aL,hc]
def pw (n:Bool):List UInt8→Bool
 | []=>true
 | [a]=>a.toNat.beq 48 && n
 | a::_=>a.toNat.beq 48
set_option maxHeartbeats 1000000 in
theorem Zj (L:Lst)(run:aw)(k:Nat)(fr:Ψ)(wr:Ω)(s:ByteArray)(n:Bool)(h71:fr.length=71)(h2:nth fr 2 = .ptr 0 0)(h4:nth fr 4 = .sc (.string s))(h5:nth fr 5 = .sc (.bool n)) :
  (pw n (bO s)=true∧∃ fr' wr',af (CC L) run k mi ⟨fr,[zW2],wr⟩=some (.ret,⟨fr',[zW2],wr'⟩)∧nth fr' 2 = .ptr 0 0∧nth fr' 3 = .sc (.bool false)) ∨
  (pw n (bO s)=false∧∃ fr',af (CC L) run k mi ⟨fr,[zW2],wr⟩=some (.normal,⟨fr',[zW2],wr⟩)∧fr'.length=71∧nth fr' 2 = .ptr 0 0∧nth fr' 4 = .sc (.string s)∧nth fr' 5 = .sc (.bool n)):=by
 have hes:bO { data:=#[] } = []:=rfl
 have hidx:∀ a l,bO s=a::l→ig TT 9 (.sc (.string s)) (.sc (.int .i64 0))=some (.sc (.int .u8 (a.toNat:Int))):=by
  intro a l e
  simp[ig,uS,jX,e,EO]
 have hz:aP [zW2] 0=some zW2:=rfl
 have hset:bZ [zW2] 0 zW2=[zW2]:=rfl
 rcases hS:bO s with _ | ⟨a,_ | ⟨b,l⟩⟩
 ·refine .inl ⟨rfl,?_⟩
  simp[undef,mi,gJ,f154,bm,bH,fC,h71,h2,h4,fc,hS,hes,eqL,uW,sB,sD,zW,fb,dq,wf0,wf1,cm,aP,bZ]
 ·have hi:=hidx a [] hS
  by_cases ha:a.toNat=48
  ·have ha':((a.toNat:Int) == 48)=true:=by rw[ha];rfl
   have hab:a.toNat.beq 48=true:=by rw[ha];rfl
   cases n with
   | true =>
    refine .inl ⟨by simp[pw,ha],?_⟩
    simp[undef,mi,gJ,f154,bL,bm,bH,fC,h71,h2,h4,h5,fc,hS,hes,eqL,hi,ha',uS,uW,sB,sD,zW,fb,dq,wf0,wf1,cm,aP,bZ]
   | false =>
    refine .inr ⟨by simp[pw],?_⟩
    simp[mi,gJ,f154,bL,h71,h2,h4,h5,fc,hS,hes,eqL,hi,ha',uS]
  ·have ha':((a.toNat:Int) == 48)=false:=by simp;omega
   have hab:a.toNat.beq 48=false:=by
    cases e:a.toNat.beq 48 with
    | false=>rfl
    | true=>exact absurd (Nat.eq_of_beq_eq_true e) ha
   refine .inr ⟨by simp[pw,hab],?_⟩
   simp[undef,mi,gJ,f154,h71,h2,h4,h5,fc,hS,hes,eqL,hi,ha']
 ·have hi:=hidx a (b::l) hS
  by_cases ha:a.toNat=48
  ·have ha':((a.toNat:Int) == 48)=true:=by rw[ha];rfl
   refine .inl ⟨by simp[pw,ha],?_⟩
   have hlen:(1:Int)<(l.length:Int)+1+1:=by omega
   simp[undef,mi,gJ,f154,bL,bm,bH,fC,h71,h2,h4,fc,hS,hes,eqL,hi,ha',hlen,uS,uW,sB,sD,zW,fb,dq,wf0,wf1,cm,aP,bZ]
  ·have ha':((a.toNat:Int) == 48)=false:=by simp;omega
   have hab:a.toNat.beq 48=false:=by
    cases e:a.toNat.beq 48 with
    | false=>rfl
    | true=>exact absurd (Nat.eq_of_beq_eq_true e) ha
   refine .inr ⟨by simp[pw,hab],?_⟩
   simp[undef,mi,gJ,f154,h71,h2,h4,h5,fc,hS,hes,eqL,hi,ha']
theorem So (L:Lst)(run:aw)(k:Nat)(fr:Ψ)(hp:Θ)(wr:Ω)(s:ByteArray)(n:Bool)(h71:fr.length=71)(h2:nth fr 2 = .ptr 0 0)(h4:nth fr 4 = .sc (.string s))(h5:nth fr 5 = .sc (.bool n)) :
  ∃ f1 fr',ba (CC L) run k 1 (ag 3 gJ) ⟨fr,hp,wr⟩=some ⟨f1,hp,wr⟩∧af (CC L) run k He ⟨f1,hp,wr⟩=some (.normal,⟨fr',hp,wr⟩)∧fr'.length=71∧nth fr' 2 = .ptr 0 0∧nth fr' 4 = .sc (.string s)∧nth fr' 5 = .sc (.bool n)∧nth fr' 6 = .sc (.slice none 0 0)∧nth fr' 7 = .sc (.int .i64 ((bys s).length:Int)):=by
 rw[jr]
 refine⟨eY fr 6 (.sc (.slice none 0 0)),?_⟩
 simp[He,gJ,f154,ba,bL,h71,h2,h4,h5,uS]
def gM (s:ByteArray):Option Int :=
 bif pw (ya s) (bO (pV s)) then none else bif eO (bys (pV s)) then some (sgn (ya s) (dec 0 (bys (pV s)))) else none
def zE:Ψ→Option Ψ
 | [.sc (.string s)]=>bif (bys s).length.blt 3000000 then (match gM s with
  | some z=>some [br z,.sc (.bool true)]
  | none=>some [br 0,.sc (.bool false)]) else none
 | _=>none
theorem DV (fr:Ψ)(hp:Θ)(h2:nth fr 2 = .ptr 0 0)(h3:nth fr 3 = .sc (.bool false))(hb:aP hp 0=some zW2):bc TT fr hp f154.results.toList=some [.agg [.sc (.bool false),.sc (.slice none 0 0)],.sc (.bool false)]:=by
 simp[f154,bc,h2,h3,hb,aX,bq,partOf,aW,bD]
theorem aeu (hp:Θ)(x:Int)(b:Bool):bj (snap hp bp) [br x,.sc (.bool b)]=some ([br x,.sc (.bool b)],[]):=rfl
theorem ab8 (s:ByteArray):(bys (pV s)).length≤(bys s).length:=by
 unfold pV
 cases iR [45] (bO s) with
 | false=>exact Nat.le_refl _
 | true =>
  rw[cond_true,jr,fm,jr,length_drop]
  omega
theorem Px {n:Bool}{s:ByteArray}(h:pw n (bO s)=false):0<(bys s).length:=by
 rw[jr]
 cases e:bO s with
 | nil=>rw[e] at h;cases h
 | cons a l=>simp
theorem M5:Ab.Spec base.P 154 zE:=Ab.Spec.bN (C:=CC L8) (cP ajb) fun args rs h=>by
 unfold zE at h
 split at h
 ·rename_i s
  cases hb:(bys s).length.blt 3000000 with
  | false=>rw[hb] at h;cases h
  | true =>
   rw[hb] at h
   rw[Nat.blt_eq] at hb
   simp only[cond_true] at h
   have hcl:=ab8 s
   obtain⟨f1,wr1,a1,a2,a3,a4,a5⟩:=Sp (runK (CC L8) 3000001) 3000001 s
   rcases Zj L8 (runK (CC L8) 3000001) 3000001 f1 wr1 (pV s) (ya s) a2 a3 a4 a5 with ⟨hbad,f2,wr2,b1,b2,b3⟩| ⟨hbad,f2,b1,b2,b3,b4,b5⟩
   ·have hr:gM s=none:=by unfold gM;rw[hbad];rfl
    rw[hr] at h
    simp only[OiE] at h
    subst h
    have hx:af (CC L8) (runK (CC L8) 3000001) 3000001 gJ ⟨entry 71 [.sc (.string s)],[],[]⟩=some (.ret,⟨f2,[zW2],wr2⟩):=by
     rw[aQ 2 a1,tL,cj b1]
    exact⟨3000002,_,_,_,[.agg [.sc (.bool false),.sc (.slice none 0 0)],.sc (.bool false)],[],aV tw rfl hx (DV f2 _ b2 b3 rfl),rfl,Wk.agg ⟨Wk.refl rfl,Wk.nil false,trivial⟩,Wk.refl rfl,trivial⟩
   ·obtain⟨f3,f4,c1,c2,c3,c4,c5,c6,c7,c8⟩:=So L8 (runK (CC L8) 3000001) 3000001 f2 [zW2] wr1 (pV s) (ya s) b2 b3 b4 b5
    have hpos:=Px hbad
    have hx0:af (CC L8) (runK (CC L8) 3000001) 3000001 gJ ⟨entry 71 [.sc (.string s)],[],[]⟩=af (CC L8) (runK (CC L8) 3000001) 3000001 (ag 4 gJ) ⟨f3,[zW2],wr1⟩:=by
     rw[aQ 2 a1,tL,ar b1,aQ 1 c1];rfl
    rcases wA L8 (runK (CC L8) 3000001) 3000001 (by omega) (pV s) (by omega) ((bys (pV s)).length+1) (bys (pV s)).length f4 [zW2] wr1 [] (by omega) hpos (by simp) Dok.nil (by rw[drop_length];rfl) (by rw[drop_length];rfl) c3 c4 c5 c8 (by rw[c7];exact dR.nil (by simp)) rfl with ⟨hd,f5,hp5,wr5,d5,g1,g2,g3,g4,g5,g6,g7,g8,g9⟩| ⟨hd,f5,hp5,wr5,g1,g2,g3,g4⟩
    ·have hr:gM s=some (sgn (ya s) (dec 0 (bys (pV s)))):=by unfold gM;rw[hbad,hd];rfl
     rw[hr] at h
     simp only[OiE] at h
     subst h
     obtain⟨st,e1,e2⟩:=M6 (runK (CC L8) 3000001) 3000001 f5 hp5 wr5 (ya s) d5 g7 g8 g2 g3 (by rw[g4,c6]) g5 g6
     rw[g9] at e2
     have hx:af (CC L8) (runK (CC L8) 3000001) 3000001 gJ ⟨entry 71 [.sc (.string s)],[],[]⟩=some (.ret,st):=by
      rw[hx0,wz,ar ((ar c2).trans (bK (bT g1 (by omega))))]
      exact e1
     exact⟨3000002,_,_,_,_,_,aV tw rfl hx e2,aeu _ _ _,Wk.refl rfl,Wk.refl rfl,trivial⟩
    ·have hr:gM s=none:=by unfold gM;rw[hbad,hd];rfl
     rw[hr] at h
     simp only[OiE] at h
     subst h
     have hx:af (CC L8) (runK (CC L8) 3000001) 3000001 gJ ⟨entry 71 [.sc (.string s)],[],[]⟩=some (.ret,⟨f5,hp5,wr5⟩):=by
      rw[hx0,wz,cj ((ar c2).trans (da (bT g1 (by omega))))]
     exact⟨3000002,_,_,_,[.agg [.sc (.bool false),.sc (.slice none 0 0)],.sc (.bool false)],[],aV tw rfl hx (DV f5 _ g2 g3 g4),rfl,Wk.agg ⟨Wk.refl rfl,Wk.nil false,trivial⟩,Wk.refl rfl,trivial⟩
 ·cases h
end Go.Proofs.YtjdmodeenbdfpaaGreat
end
