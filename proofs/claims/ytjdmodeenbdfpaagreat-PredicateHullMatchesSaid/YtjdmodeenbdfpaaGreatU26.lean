/- Contracts of num's integers, part 26; each lemma states its conditions. -/
import Derived.Test.YtjdmodeenbdfpaaGreatU25
import Derived.Test.YtjdmodeenbdfpaaGreatU12
set_option linter.unusedSimpArgs false
set_option linter.unusedVariables false
noncomputable section
namespace Go.Proofs.YtjdmodeenbdfpaaGreat
open Go Go.Ab List Tryz
attribute [local simp] FzZ aC aF aG aH aa ab ae af ag ah ai aj an and_assoc aq ar au aw az ba bf bg bj sW seq1
variable(L:Lst)(run:av)(k:Nat)(fr:Ψ)(hp:Θ)(wr:Ω)
def gB:Code:=f154.body.getD .skip
def gP:Code:=((f154.body).bind az).getD .skip
def pk:Code:=(az gP).getD .skip
theorem Nq(n:Nat)(h71:fr.length=71)(h45:nth fr 45 = .sc (.int .i64 (n:Int)))(h46:nth fr 46 = .sc (.int .i64 (n:Int))) :
  ∃ fr',ae (CC L) run k pk ⟨fr,hp,wr⟩=some (.exit 2,⟨fr',hp,wr⟩)∧fr'.length=71∧nth fr' 2=nth fr 2∧nth fr' 4=nth fr 4∧nth fr' 5=nth fr 5∧nth fr' 6=nth fr 6∧nth fr' 7=nth fr 7∧nth fr' 8=nth fr 8:=by
 simp[pk,gP,f154,h71,h45,h46]
set_option maxHeartbeats 1000000 in
theorem SH(c:Ω)(i x x':Nat)(hi:i<c.length)(hl:c.length≤9)(hx:x<10 ^ i)(hd:lL c[i]=true)(hx':x'=10*x+dv c[i])
  (h71:fr.length=71) (h44:nth fr 44=yb c) (h45:nth fr 45 = .sc (.int .i64 (c.length:Int))) (h46:nth fr 46 = .sc (.int .i64 (i:Int))) (h8:nth fr 8 = .sc (.int .u32 (x:Int))) :
  ∃ fr',ae (CC L) run k pk ⟨fr,hp,wr⟩=some (.normal,⟨fr',hp,wr⟩)∧fr'.length=71∧nth fr' 44=yb c∧nth fr' 45 = .sc (.int .i64 (c.length:Int))∧nth fr' 46 = .sc (.int .i64 ((i+1:Nat):Int))∧nth fr' 8 = .sc (.int .u32 (x':Int))∧nth fr' 2=nth fr 2∧nth fr' 4=nth fr 4∧nth fr' 5=nth fr 5∧nth fr' 6=nth fr 6∧nth fr' 7=nth fr 7:=by
 have hh:=adV c i hi
 rw[dE] at hd
 generalize c[i]=b at *
 have e1:yb c = .imm c.length false (c.map u8v):=rfl
 rw[e1] at h44 ⊢
 have hx9:x<1000000000:=Nat.lt_of_lt_of_le hx (Nat.le_trans (Nat.pow_le_pow_right (by omega) (show i≤8 by omega)) (by decide))
 have hx8:x<100000000:=Nat.lt_of_lt_of_le hx (Nat.le_trans (Nat.pow_le_pow_right (by omega) (show i≤8 by omega)) (by decide))
 obtain⟨s1,hs1⟩:∃ s1,s1=10*x:=⟨_,rfl⟩
 obtain⟨s2,hs2⟩:∃ s2,s2=dv b:=⟨_,rfl⟩
 rw[← hs1,← hs2] at hx'
 have hs3:b=s2+48:=by rw[hs2];unfold dv;omega
 have hw1:=J9 .u32 x s1 hs1 (iC (by omega))
 have hw2:=Bd .u8 b s2 hs3 (show s2≤255 by omega)
 have hw3:bB .u32 (s2:Int)=(s2:Int):=cp .u32 s2 (iC (by omega))
 have hw4:=dx .u32 s1 s2 x' hx' (iC (by omega))
 have hwi:=bE i (by omega)
 have hb1 : ¬ ((b:Int)<48):=by omega
 have hb2 : ¬ ((57:Int)<b):=by omega
 simp[pk,gP,f154,bc,bm,partOf,h71,h44,h45,h46,h8,uBs,u8,u32,s8,a8,dF,hi,hh,aV,hw1,hw2,hw3,hw4,hwi,hb1,hb2]
set_option maxHeartbeats 1000000 in
theorem Nr(c:Ω)(i:Nat)(hi:i<c.length)(hd:lL c[i]=false)
  (hb:aX hp 0=some zW2)
  (h71:fr.length=71) (h44:nth fr 44=yb c) (h45:nth fr 45 = .sc (.int .i64 (c.length:Int))) (h46:nth fr 46 = .sc (.int .i64 (i:Int))) (h2:nth fr 2 = .ptr 0 0) :
  ∃ fr' wr',ae (CC L) run k pk ⟨fr,hp,wr⟩=some (.ret,⟨fr',cF hp 0 zW2,wr'⟩)∧nth fr' 2 = .ptr 0 0∧nth fr' 3 = .sc (.bool false):=by
 have hh:=adV c i hi
 generalize c[i]=b at *
 have e1:yb c = .imm c.length false (c.map u8v):=rfl
 rw[e1] at h44
 have hd':(b:Int)<48∨(57:Int)<b:=by
  have : ¬ (48≤b∧b≤57):=fun h=>by rw[dE.2 h] at hd;cases hd
  omega
 by_cases hb1:(b:Int)<48
 ·simp[pk,gP,f154,bc,bm,partOf,bp,bH,fy,h71,h44,h45,h46,h2,uBs,uW,sB,sD,zW,wf0,wf1,s8,a8,hi,hh,aV,hb1,hb,fb,dJ,b9]
 ·have hb2:(57:Int)<b:=by omega
  simp[pk,gP,f154,bc,bm,partOf,bp,bH,fy,h71,h44,h45,h46,h2,uBs,uW,sB,sD,zW,wf0,wf1,s8,a8,hi,hh,aV,hb1,hb2,hb,fb,dJ,b9]
theorem wH (L:Lst)(run:av)(k:Nat)(c:Ω)(hl:c.length≤9)(hp:Θ)(hb:aX hp 0=some zW2):∀ (n i:Nat) (fr:Ψ) (wr:Ω) (x:Nat),i+n=c.length→eH (c.take i)=true→x=dec 0 (c.take i) →
  fr.length=71→nth fr 44=yb c→nth fr 45 = .sc (.int .i64 (c.length:Int))→nth fr 46 = .sc (.int .i64 (i:Int))→nth fr 8 = .sc (.int .u32 (x:Int))→nth fr 2 = .ptr 0 0 →
  (eH c=true∧∃ fr',cg (ae (CC L) run k pk) (n+1) ⟨fr,hp,wr⟩=some (.exit 2,⟨fr',hp,wr⟩)∧fr'.length=71∧nth fr' 8 = .sc (.int .u32 (dec 0 c:Int))∧nth fr' 2=nth fr 2∧nth fr' 4=nth fr 4∧nth fr' 5=nth fr 5∧nth fr' 6=nth fr 6∧nth fr' 7=nth fr 7) ∨
  (eH c=false∧∃ fr' wr',cg (ae (CC L) run k pk) (n+1) ⟨fr,hp,wr⟩=some (.ret,⟨fr',cF hp 0 zW2,wr'⟩)∧nth fr' 2 = .ptr 0 0∧nth fr' 3 = .sc (.bool false))
 | 0,i,fr,wr,x,hi,hd,hx,h71,h44,h45,h46,h8,h2=>by
  have:i=c.length:=by omega
  subst this
  rw[take_length] at hd hx
  obtain⟨fr',g1,g2,g3,g4,g5,g6,g7,g8⟩:=Nq L run k fr hp wr c.length h71 h45 h46
  exact .inl ⟨hd,fr',br g1,g2,by rw[g8,h8,hx],g3,g4,g5,g6,g7⟩
 | n+1,i,fr,wr,x,hi,hd,hx,h71,h44,h45,h46,h8,h2=>by
  have hic:i<c.length:=by omega
  cases hdb:lL c[i] with
  | true =>
   have hxl:x<10 ^ i:=by
    have:=dec_lt _ hd
    rw[length_take,Nat.min_eq_left (by omega)] at this
    omega
   obtain⟨fr1,g1,g2,g3,g4,g5,g6,g7,g8,g9,g10,g11⟩:=SH L run k fr hp wr c i x _ hic hl hxl hdb rfl h71 h44 h45 h46 h8
   have ht:c.take (i+1)=c.take i++[c[i]]:=take_succ_eq_append_getElem hic
   have:=wH L run k c hl hp hb n (i+1) fr1 wr (10*x+dv c[i]) (by omega) (by rw[ht,fV,hd];simp[eH,hdb]) (by rw[ht,mI,← hx];rfl) g2 g3 g4 g5 g6 (by rw[g7,h2])
   rw[bU g1]
   rcases this with ⟨h9,fr',q1,q2,q3,q4,q5,q6,q7,q8⟩| h9
   ·exact .inl ⟨h9,fr',q1,q2,q3,by rw[q4,g7],by rw[q5,g8],by rw[q6,g9],by rw[q7,g10],by rw[q8,g11]⟩
   ·exact .inr h9
  | false =>
   obtain⟨fr1,wr1,g1,g2,g3⟩:=Nr L run k fr hp wr c i hic hdb hb h71 h44 h45 h46 h2
   refine .inr ⟨?_,fr1,wr1,dD g1,g2,g3⟩
   have:c=c.take i++c[i]::c.drop (i+1):=by rw[← drop_eq_getElem_cons hic,take_append_drop]
   rw[this,fV,hd,eH,hdb];rfl
def nt:Code:=match aO gP with | .seq (.block _ c) _=>c | c=>c
def Hv:Code:=seq1 gP
def Hu:Code:=aO (aO gP)
theorem tN:gP = .seq Hv (.seq (.block 1 nt) Hu):=rfl
def Ht:Code:=seq1 (seq1 (ai 1 nt))
theorem tQ:ai 1 nt = .seq (.seq Ht (.block 2 (.loop pk))) (ai 2 nt):=rfl
theorem Np(e:Int)(he:e≤0)(h71:fr.length=71)(h7:nth fr 7 = .sc (.int .i64 e)) :
  ∃ fr',ae (CC L) run k gP ⟨fr,hp,wr⟩=some (.exit 0,⟨fr',hp,wr⟩)∧fr'.length=71∧nth fr' 2=nth fr 2∧nth fr' 5=nth fr 5∧nth fr' 6=nth fr 6:=by
 have h1 : ¬ (0<e):=by omega
 simp[gP,f154,h71,h7,h1]
theorem SG(e:Nat)(he:0<e)(h71:fr.length=71)(h7:nth fr 7 = .sc (.int .i64 (e:Int))) :
  ∃ fr',ae (CC L) run k Hv ⟨fr,hp,wr⟩=some (.normal,⟨fr',hp,wr⟩)∧fr'.length=71∧nth fr' 2=nth fr 2∧nth fr' 4=nth fr 4∧nth fr' 5=nth fr 5∧nth fr' 6=nth fr 6∧nth fr' 7=nth fr 7:=by
 simp[Hv,gP,f154,h71,h7,he]
theorem SD(h71:fr.length=71) :
  ∃ fr',bh (CC L) run k 1 nt ⟨fr,hp,wr⟩=some ⟨fr',hp,wr⟩∧fr'.length=71∧nth fr' 8 = .sc (.int .u32 (0:Nat))∧nth fr' 2=nth fr 2∧nth fr' 4=nth fr 4∧nth fr' 5=nth fr 5∧nth fr' 6=nth fr 6∧nth fr' 7=nth fr 7:=by
 simp[nt,gP,f154,aO,bh,h71]
set_option maxHeartbeats 1000000 in
theorem SC(s:ByteArray)(e:Nat)(he:e≤(bO s).length)(hl:e<9000000000000000000)(h71:fr.length=71)(h4:nth fr 4 = .sc (.string s))(h7:nth fr 7 = .sc (.int .i64 (e:Int))) :
  ∃ fr',ae (CC L) run k Ht ⟨fr,hp,wr⟩=some (.normal,⟨fr',hp,wr⟩)∧fr'.length=71∧nth fr' 44=yb (((bys s).take e).drop (e - 9))∧nth fr' 45 = .sc (.int .i64 ((((bys s).take e).drop (e - 9)).length:Int))∧nth fr' 46 = .sc (.int .i64 (0:Nat))
   ∧ nth fr' 2=nth fr 2∧nth fr' 4=nth fr 4∧nth fr' 5=nth fr 5∧nth fr' 6=nth fr 6∧nth fr' 7=nth fr 7∧nth fr' 8=nth fr 8:=by
 have hw:=QC (e:Int) (by omega) (by omega)
 have hb:((bys s).take e).drop (e - 9)=(((bO s).take e).drop (e - 9)).map UInt8.toNat:=by
  simp[bys,map_take,map_drop]
 have hs:=MC s (e - 9) e (by omega) he
 have hcv:=WL (((bO s).take e).drop (e - 9))
 rw[hb]
 generalize (((bO s).take e).drop (e - 9))=c at *
 have hlen:(bO (mkStr c)).length=(c.map UInt8.toNat).length:=by rw[fh];simp
 have he1:yb (c.map UInt8.toNat) = .imm (c.map UInt8.toNat).length false ((c.map UInt8.toNat).map u8v):=rfl
 rw[hlen] at hcv
 generalize c.map UInt8.toNat=d at *
 have hlu:dc (yb d)=some d.length:=rfl
 have hm:(if (9:Int)<(e:Int) then (e:Int) - 9 else 0)=((e - 9:Nat):Int):=by
  by_cases h:(9:Int)<(e:Int)
  ·rw[if_pos h];omega
  ·rw[if_neg h];omega
 generalize e - 9=lo at *
 simp[Ht,nt,gP,f154,aO,bM,h71,h4,h7,hw,mv,hm,uS,uBs,u8,dH,hs,dF,hlen,hcv,hlu,-map_drop,-map_take]
theorem Ns(d:Ω)(x:Nat)(hl:d.length<1000000)(h71:fr.length=71)(h8:nth fr 8 = .sc (.int .u32 (x:Int)))(hO:dL 1 hp d (nth fr 6)) :
  ∃ fr' hp' wr',ae (CC L) run k (ai 2 nt) ⟨fr,hp,wr⟩=some (.normal,⟨fr',hp',wr'⟩)∧fr'.length=71∧dL 1 hp' (d++[x]) (nth fr' 6)∧aX hp' 0=aX hp 0∧nth fr' 2=nth fr 2∧nth fr' 4=nth fr 4∧nth fr' 5=nth fr 5∧nth fr' 7=nth fr 7:=by
 obtain⟨p',hp',fp,h7,h9,h10⟩:=hO.app x (Nat.lt_trans hl (by decide))
 have h11:=h10 0 (by omega)
 simp[nt,gP,f154,aO,du,h71,h8,uD,s32,b32,z32,gM x,nS,nA,jF,bZ,h7,h9,h11]
theorem SE(e:Nat)(hl:e<9000000000000000000)(h71:fr.length=71)(h7:nth fr 7 = .sc (.int .i64 (e:Int))) :
  ∃ fr',ae (CC L) run k Hu ⟨fr,hp,wr⟩=some (.normal,⟨fr',hp,wr⟩)∧fr'.length=71∧nth fr' 7 = .sc (.int .i64 ((e:Int) - 9))∧nth fr' 2=nth fr 2∧nth fr' 4=nth fr 4∧nth fr' 5=nth fr 5∧nth fr' 6=nth fr 6:=by
 have hw:=QC (e:Int) (by omega) (by omega)
 simp[Hu,gP,f154,aO,h71,h7,hw]
theorem DD (L:Lst)(run:av)(k:Nat)(hk:10<k)(fr:Ψ)(hp:Θ)(wr:Ω)(s:ByteArray)(e:Nat)(d:Ω)(he0:0<e)(he:e≤(bys s).length)(hl:e<9000000000000000000)(hdl:d.length<1000000)
  (h71:fr.length=71) (h2:nth fr 2 = .ptr 0 0) (h4:nth fr 4 = .sc (.string s)) (h7:nth fr 7 = .sc (.int .i64 (e:Int))) (hO:dL 1 hp d (nth fr 6)) (hb:aX hp 0=some zW2) :
  (eH (((bys s).take e).drop (e - 9))=true∧∃ fr' hp' wr',ae (CC L) run k gP ⟨fr,hp,wr⟩=some (.normal,⟨fr',hp',wr'⟩)∧fr'.length=71∧nth fr' 2 = .ptr 0 0∧nth fr' 4 = .sc (.string s)∧nth fr' 5=nth fr 5∧nth fr' 7 = .sc (.int .i64 ((e:Int) - 9))∧dL 1 hp' (d++[dec 0 (((bys s).take e).drop (e - 9))]) (nth fr' 6)∧aX hp' 0=some zW2) ∨
  (eH (((bys s).take e).drop (e - 9))=false∧∃ fr' hp' wr',ae (CC L) run k gP ⟨fr,hp,wr⟩=some (.ret,⟨fr',hp',wr'⟩)∧nth fr' 2 = .ptr 0 0∧nth fr' 3 = .sc (.bool false)∧aX hp' 0=some zW2):=by
 have he':e≤(bO s).length:=by rw[← jO];exact he
 obtain⟨f1,a1,a2,a3,a4,a5,a6,a7⟩:=SG L run k fr hp wr e he0 h71 h7
 obtain⟨f2,b1,b2,b3,b4,b5,b6,b7,b8⟩:=SD L run k f1 hp wr a2
 obtain⟨f3,c1,c2,c3,c4,c5,c6,c7,c8,c9,c10,c11⟩:=SC L run k f2 hp wr s e he' hl b2 (by rw[b5,a4,h4]) (by rw[b8,a7,h7])
 have hcl:(((bys s).take e).drop (e - 9)).length≤9:=by
  rw[length_drop,length_take];omega
 rcases wH L run k _ hcl hp hb (((bys s).take e).drop (e - 9)).length 0 f3 wr 0 (by omega) rfl rfl c2 c3 c4 c5 (by rw[c11,b3]) (by rw[c6,b4,a3,h2]) with ⟨hd,f4,d1,d2,d3,d4,d5,d6,d7,d8⟩| ⟨hd,f4,wr4,d1,d2,d3⟩
 ·obtain⟨f5,hp5,wr5,e1,e2,e3,e4,e5,e6,e7,e8⟩:=Ns L run k f4 hp wr d _ hdl d2 d3 (by rw[d7,c9,b7,a6];exact hO)
  obtain⟨f6,g1,g2,g3,g4,g5,g6,g7⟩:=SE L run k f5 hp5 wr5 e hl e2 (by rw[e8,d8,c10,b8,a7,h7])
  refine .inl ⟨hd,f6,hp5,wr5,?_,g2,by rw[g4,e5,d4,c6,b4,a3,h2],by rw[g5,e6,d5,c7,b5,a4,h4],by rw[g6,e7,d6,c8,b6,a5],g3,by rw[g7];exact e3,by rw[e4,hb]⟩
  have hB:ae (CC L) run k nt ⟨f1,hp,wr⟩=some (.normal,⟨f5,hp5,wr5⟩):=by
   rw[aU 1 b1,tQ,ao ((ao c1).trans (bD (bG d1 (by omega))))]
   exact e1
  rw[tN,ao a1,ao (fC hB)]
  exact g1
 ·refine .inr ⟨hd,f4,cF hp 0 zW2,wr4,?_,d2,d3,by rw[cN hb,if_pos rfl]⟩
  have hB:ae (CC L) run k nt ⟨f1,hp,wr⟩=some (.ret,⟨f4,cF hp 0 zW2,wr4⟩):=by
   rw[aU 1 b1,tQ,bK ((ao c1).trans (cL (bG d1 (by omega))))]
  rw[tN,ao a1,bK (fo hB)]
theorem wG (L:Lst)(run:av)(k:Nat)(hk:10<k)(s:ByteArray)(hl:(bys s).length<3000000):∀ (n e:Nat) (fr:Ψ) (hp:Θ) (wr:Ω) (d:Ω),e<n→0<e→e+9*d.length=(bys s).length→Dok d→eH ((bys s).drop e)=true→val d=dec 0 ((bys s).drop e) →
  fr.length=71→nth fr 2 = .ptr 0 0→nth fr 4 = .sc (.string s)→nth fr 7 = .sc (.int .i64 (e:Int))→dL 1 hp d (nth fr 6)→aX hp 0=some zW2 →
  (eH (bys s)=true∧∃ fr' hp' wr' d',cg (ae (CC L) run k gP) (n+1) ⟨fr,hp,wr⟩=some (.exit 0,⟨fr',hp',wr'⟩)∧fr'.length=71∧nth fr' 2 = .ptr 0 0∧nth fr' 5=nth fr 5∧dL 1 hp' d' (nth fr' 6)∧aX hp' 0=some zW2∧Dok d'∧d'.length<1000000∧val d'=dec 0 (bys s)) ∨
  (eH (bys s)=false∧∃ fr' hp' wr',cg (ae (CC L) run k gP) (n+1) ⟨fr,hp,wr⟩=some (.ret,⟨fr',hp',wr'⟩)∧nth fr' 2 = .ptr 0 0∧nth fr' 3 = .sc (.bool false)∧aX hp' 0=some zW2)
 | 0,e,fr,hp,wr,d,hn,_,_,_,_,_,_,_,_,_,_,_=>by omega
 | n+1,e,fr,hp,wr,d,hn,he0,hed,hd,hdg,hv,h71,h2,h4,h7,hO,hb=>by
  have hsp:=yd (bys s) (e - 9) e (by omega) (by omega)
  have hcl:(((bys s).take e).drop (e - 9)).length≤9:=by
   rw[length_drop,length_take];omega
  rcases DD L run k hk fr hp wr s e d he0 (by omega) (by omega) (by omega) h71 h2 h4 h7 hO hb with ⟨hc,f1,hp1,wr1,a1,a2,a3,a4,a5,a6,a7,a8⟩| ⟨hc,f1,hp1,wr1,a1,a2,a3,a4⟩
  ·have hx:dec 0 (((bys s).take e).drop (e - 9))<1000000000:=by
    have h1:=dec_lt _ hc
    have h2:=Nat.pow_le_pow_right (n:=10) (by omega) hcl
    have h3:(10:Nat) ^ 9=1000000000:=by decide
    omega
   have hd':Dok (d++[dec 0 (((bys s).take e).drop (e - 9))]):=hd.append (Dok.nil.cons hx)
   have hdg':eH ((bys s).drop (e - 9))=true:=by rw[hsp,fV,hc,hdg];rfl
   have hv':val (d++[dec 0 (((bys s).take e).drop (e - 9))])=dec 0 ((bys s).drop (e - 9)):=by
    have hacc:=LP (dec 0 (((bys s).take e).drop (e - 9))) ((bys s).drop e)
    rw[length_drop,show (bys s).length - e=9*d.length by omega,Nat.pow_mul,show (10:Nat) ^ 9=1000000000 by decide] at hacc
    rw[dI,hsp,mI,hacc,hv,Nat.mul_comm,Nat.add_comm]
   rw[bU a1]
   by_cases h9:e≤9
   ·obtain⟨f2,b1,b2,b3,b4,b5⟩:=Np L run k f1 hp1 wr1 ((e:Int) - 9) (by omega) a2 a6
    rw[show e - 9=0 by omega,drop_zero] at hdg'
    have hv2:dec 0 ((bys s).drop (e - 9))=dec 0 (bys s):=by rw[show e - 9=0 by omega,drop_zero]
    rw[hv2] at hv'
    exact .inl ⟨hdg',f2,hp1,wr1,_,br b1,b2,by rw[b3,a3],by rw[b4,a5],by rw[b5];exact a7,a8,hd',by simp;omega,hv'⟩
   ·have:=wG L run k hk s hl n (e - 9) f1 hp1 wr1 _ (by omega) (by omega) (by simp;omega) hd' hdg' hv' a2 a3 a4 (by rw[a6];congr 3;omega) a7 a8
    rcases this with ⟨q0,f2,hp2,wr2,d2,q1,q2,q3,q4,q5⟩| q
    ·exact .inl ⟨q0,f2,hp2,wr2,d2,q1,q2,q3,by rw[q4,a5],q5⟩
    ·exact .inr q
  ·refine .inr ⟨?_,f1,hp1,wr1,dD a1,a2,a3,a4⟩
   have h1:=yd (bys s) 0 (e - 9) (by omega) (by omega)
   rw[drop_zero,drop_zero] at h1
   rw[h1,fV,hsp,fV,hc]
   simp
def L8:Lst:=[(152,fx),(170,kK)]
theorem ajy:dt base.P L8:=⟨jr,WD,trivial⟩
theorem afv:bC L8 170=fun a=>kK (aK a):=rfl
theorem Pv (run:av)(dr:Bool)(hp:Θ)(s p:ByteArray):bS (CC L8) run dr hp 170 [.sc (.string s),.sc (.string p)]=some (iL (gG s p),hp,⟨[],[],false,false⟩) :=
 bq M6 afv run dr hp _ (gG s p) rfl rfl rfl
theorem Cm (run:av)(dr:Bool)(hp:Θ)(n:Bool)(l:Ω)(p:PV)(hd:Dok l)(hl:l.length<1000000)(hO:dL 1 hp l p) :
  ∃ hp' ids,bS (CC L8) run dr hp 152 [.sc (.bool n),p]=some (bt (sgn n (val l)),hp',⟨ids,ids,false,false⟩)∧aX hp' 0=aX hp 0:=by
 obtain⟨q,ids,h1,h2,h3⟩:=hO.arg n
 have h4:(CC L8).orc 152 [.sc (.bool n),q]=some [bt (sgn n (val l))]:=by
  show fx (aK [.sc (.bool n),q])=_
  rw[h2]
  simp only[fx,cZ hd hl]
 exact⟨roB hp ids,ids,eI oD h1 h4 rfl,h3 0 (by omega)⟩
def BE:Code:=ai 5 gB
theorem No(n:Bool)(d:Ω)(hd:Dok d)(hl:d.length<1000000)(h71:fr.length=71)(h2:nth fr 2 = .ptr 0 0)(h5:nth fr 5 = .sc (.bool n))(hO:dL 1 hp d (nth fr 6))(hb:aX hp 0=some zW2) :
  ∃ st,ae (CC L8) run k BE ⟨fr,hp,wr⟩=some (.ret,st)∧aY TT st.fr st.hp f154.results.toList=some [bt (sgn n (val d)),.sc (.bool true)]:=by
 obtain⟨hp',ids,hc,h3⟩:=Cm run false hp n d _ hd hl hO
 rw[hb] at h3
 simp only[whW] at hc ⊢
 generalize aJ (sgn n (val d)).natAbs=r at *
 generalize bw (sgn n (val d))=nn at *
 have hn:aX (cF hp' 0 ⟨.live,[.sc (.bool nn),aL r]⟩) 0=some ⟨.live,[.sc (.bool nn),aL r]⟩:=by rw[cN h3,if_pos rfl]
 simp[BE,gB,f154,aM,partOf,bp,cf,bH,h71,h2,h5,hc,h3,aW,b9,aY,aV,hn,bz,bF]
def Hw:Code:=seq1 (seq1 (ai 4 gB))
theorem wF:ai 4 gB = .seq (.seq Hw (.block 0 (.loop gP))) BE:=rfl
def l7:Code:=seq1 (ai 2 gB)
theorem tM:ai 2 gB = .seq l7 (ai 3 gB):=rfl
def pS (s:ByteArray):ByteArray:=bif iQ [45] (bO s) then mkStr ((bO s).drop 1) else s
def yk (s:ByteArray):Bool:=iQ [45] (bO s)
theorem Sz (run:av)(k:Nat)(s:ByteArray) :
  ∃ fr wr,bh (CC L8) run k 2 gB ⟨entry 71 [.sc (.string s)],[],[]⟩=some ⟨fr,[zW2],wr⟩∧fr.length=71∧nth fr 2 = .ptr 0 0∧nth fr 4 = .sc (.string (pS s))∧nth fr 5 = .sc (.bool (yk s)):=by
 obtain⟨e1,e2⟩:=cV 70 (.sc (.string s))
 generalize entry 71 [.sc (.string s)]=fr0 at *
 have hc:=fun dr hp=>Pv run dr hp s { data:=#[45] }
 rw[show gG s { data:=#[45] } = bif iQ [45] (bO s) then [.sc (.string (mkStr ((bO s).drop 1))),.sc (.bool true)] else [.sc (.string s),.sc (.bool false)] from rfl] at hc
 unfold pS yk
 cases h:iQ [45] (bO s) <;> rw[h] at hc <;> simp only[cond_true,cond_false,iL] at hc ⊢ <;> simp[gB,f154,bh,e1,e2,aM,zW,bd,hc]
def px (n:Bool):List UInt8→Bool
 | []=>true
 | [a]=>a.toNat.beq 48 && n
 | a::_=>a.toNat.beq 48
set_option maxHeartbeats 1000000 in
theorem Z5(s:ByteArray)(n:Bool)(h71:fr.length=71)(h2:nth fr 2 = .ptr 0 0)(h4:nth fr 4 = .sc (.string s))(h5:nth fr 5 = .sc (.bool n)) :
  (px n (bO s)=true∧∃ fr' wr',ae (CC L) run k l7 ⟨fr,[zW2],wr⟩=some (.ret,⟨fr',[zW2],wr'⟩)∧nth fr' 2 = .ptr 0 0∧nth fr' 3 = .sc (.bool false)) ∨
  (px n (bO s)=false∧∃ fr',ae (CC L) run k l7 ⟨fr,[zW2],wr⟩=some (.normal,⟨fr',[zW2],wr⟩)∧fr'.length=71∧nth fr' 2 = .ptr 0 0∧nth fr' 4 = .sc (.string s)∧nth fr' 5 = .sc (.bool n)):=by
 have hes:bO { data:=#[] } = []:=rfl
 have hidx:∀ a l,bO s=a::l→ic TT 9 (.sc (.string s)) (.sc (.int .i64 0))=some (.sc (.int .u8 (a.toNat:Int))):=by
  intro a l e
  simp[ic,uS,jQ,e,EB]
 have hz:aX [zW2] 0=some zW2:=rfl
 have hset:cF [zW2] 0 zW2=[zW2]:=rfl
 rcases hS:bO s with _ | ⟨a,_ | ⟨b,l⟩⟩
 ·refine .inl ⟨rfl,?_⟩
  simp[undef,l7,gB,f154,bp,bH,fy,h71,h2,h4,eo,hS,hes,eqL,uW,sB,sD,zW,fb,dJ,wf0,wf1,b9,aX,cF]
 ·have hi:=hidx a [] hS
  by_cases ha:a.toNat=48
  ·have ha':((a.toNat:Int) == 48)=true:=by rw[ha];rfl
   have hab:a.toNat.beq 48=true:=by rw[ha];rfl
   cases n with
   | true =>
    refine .inl ⟨by simp[px,ha],?_⟩
    simp[undef,l7,gB,f154,bM,bp,bH,fy,h71,h2,h4,h5,eo,hS,hes,eqL,hi,ha',uS,uW,sB,sD,zW,fb,dJ,wf0,wf1,b9,aX,cF]
   | false =>
    refine .inr ⟨by simp[px],?_⟩
    simp[l7,gB,f154,bM,h71,h2,h4,h5,eo,hS,hes,eqL,hi,ha',uS]
  ·have ha':((a.toNat:Int) == 48)=false:=by simp;omega
   have hab:a.toNat.beq 48=false:=by
    cases e:a.toNat.beq 48 with
    | false=>rfl
    | true=>exact absurd (Nat.eq_of_beq_eq_true e) ha
   refine .inr ⟨by simp[px,hab],?_⟩
   simp[undef,l7,gB,f154,h71,h2,h4,h5,eo,hS,hes,eqL,hi,ha']
 ·have hi:=hidx a (b::l) hS
  by_cases ha:a.toNat=48
  ·have ha':((a.toNat:Int) == 48)=true:=by rw[ha];rfl
   refine .inl ⟨by simp[px,ha],?_⟩
   have hlen:(1:Int)<(l.length:Int)+1+1:=by omega
   simp[undef,l7,gB,f154,bM,bp,bH,fy,h71,h2,h4,eo,hS,hes,eqL,hi,ha',hlen,uS,uW,sB,sD,zW,fb,dJ,wf0,wf1,b9,aX,cF]
  ·have ha':((a.toNat:Int) == 48)=false:=by simp;omega
   have hab:a.toNat.beq 48=false:=by
    cases e:a.toNat.beq 48 with
    | false=>rfl
    | true=>exact absurd (Nat.eq_of_beq_eq_true e) ha
   refine .inr ⟨by simp[px,hab],?_⟩
   simp[undef,l7,gB,f154,h71,h2,h4,h5,eo,hS,hes,eqL,hi,ha']
theorem Sy(s:ByteArray)(n:Bool)(h71:fr.length=71)(h2:nth fr 2 = .ptr 0 0)(h4:nth fr 4 = .sc (.string s))(h5:nth fr 5 = .sc (.bool n)) :
  ∃ f1 fr',bh (CC L) run k 1 (ai 3 gB) ⟨fr,hp,wr⟩=some ⟨f1,hp,wr⟩∧ae (CC L) run k Hw ⟨f1,hp,wr⟩=some (.normal,⟨fr',hp,wr⟩)∧fr'.length=71∧nth fr' 2 = .ptr 0 0∧nth fr' 4 = .sc (.string s)∧nth fr' 5 = .sc (.bool n)∧nth fr' 6 = .sc (.slice none 0 0)∧nth fr' 7 = .sc (.int .i64 ((bys s).length:Int)):=by
 rw[jO]
 refine⟨eS fr 6 (.sc (.slice none 0 0)),?_⟩
 simp[Hw,gB,f154,bh,bM,h71,h2,h4,h5,uS]
def gE (s:ByteArray):Option Int :=
 bif px (yk s) (bO (pS s)) then none else bif eH (bys (pS s)) then some (sgn (yk s) (dec 0 (bys (pS s)))) else none
def zJ:Ψ→Option Ψ
 | [.sc (.string s)]=>bif (bys s).length.blt 3000000 then (match gE s with
  | some z=>some [bt z,.sc (.bool true)]
  | none=>some [bt 0,.sc (.bool false)]) else none
 | _=>none
theorem DC(h2:nth fr 2 = .ptr 0 0)(h3:nth fr 3 = .sc (.bool false))(hb:aX hp 0=some zW2):aY TT fr hp f154.results.toList=some [.agg [.sc (.bool false),.sc (.slice none 0 0)],.sc (.bool false)]:=by
 simp[f154,aY,h2,h3,hb,aV,bz,partOf,aW,bF]
theorem afj(x:Int)(b:Bool):bu (snap hp bn) [bt x,.sc (.bool b)]=some ([bt x,.sc (.bool b)],[]):=rfl
theorem acX (s:ByteArray):(bys (pS s)).length≤(bys s).length:=by
 unfold pS
 cases iQ [45] (bO s) with
 | false=>exact Nat.le_refl _
 | true =>
  rw[cond_true,jO,fh,jO,length_drop]
  omega
theorem PD {n:Bool}{s:ByteArray}(h:px n (bO s)=false):0<(bys s).length:=by
 rw[jO]
 cases e:bO s with
 | nil=>rw[e] at h;cases h
 | cons a l=>simp
theorem Nn:Ab.Spec base.P 154 zJ:=Ab.Spec.bL (C:=CC L8) (cP ajy) fun args rs h=>by
 unfold zJ at h
 split at h
 ·rename_i s
  cases hb:(bys s).length.blt 3000000 with
  | false=>rw[hb] at h;cases h
  | true =>
   rw[hb] at h
   rw[Nat.blt_eq] at hb
   simp only[cond_true] at h
   have hcl:=acX s
   obtain⟨f1,wr1,a1,a2,a3,a4,a5⟩:=Sz (runK (CC L8) 3000001) 3000001 s
   rcases Z5 L8 (runK (CC L8) 3000001) 3000001 f1 wr1 (pS s) (yk s) a2 a3 a4 a5 with ⟨hbad,f2,wr2,b1,b2,b3⟩| ⟨hbad,f2,b1,b2,b3,b4,b5⟩
   ·have hr:gE s=none:=by unfold gE;rw[hbad];rfl
    rw[hr] at h
    simp only[OiE] at h
    subst h
    have hx:ae (CC L8) (runK (CC L8) 3000001) 3000001 gB ⟨entry 71 [.sc (.string s)],[],[]⟩=some (.ret,⟨f2,[zW2],wr2⟩):=by
     rw[aU 2 a1,tM,bK b1]
    exact⟨3000002,_,_,_,[.agg [.sc (.bool false),.sc (.slice none 0 0)],.sc (.bool false)],[],aZ tz rfl hx (DC f2 _ b2 b3 rfl),rfl,Wk.agg ⟨Wk.refl rfl,Wk.nil false,trivial⟩,Wk.refl rfl,trivial⟩
   ·obtain⟨f3,f4,c1,c2,c3,c4,c5,c6,c7,c8⟩:=Sy L8 (runK (CC L8) 3000001) 3000001 f2 [zW2] wr1 (pS s) (yk s) b2 b3 b4 b5
    have hpos:=PD hbad
    have hx0:ae (CC L8) (runK (CC L8) 3000001) 3000001 gB ⟨entry 71 [.sc (.string s)],[],[]⟩=ae (CC L8) (runK (CC L8) 3000001) 3000001 (ai 4 gB) ⟨f3,[zW2],wr1⟩:=by
     rw[aU 2 a1,tM,ao b1,aU 1 c1];rfl
    rcases wG L8 (runK (CC L8) 3000001) 3000001 (by omega) (pS s) (by omega) ((bys (pS s)).length+1) (bys (pS s)).length f4 [zW2] wr1 [] (by omega) hpos (by simp) Dok.nil (by rw[drop_length];rfl) (by rw[drop_length];rfl) c3 c4 c5 c8 (by rw[c7];exact dL.nil (by simp)) rfl with ⟨hd,f5,hp5,wr5,d5,g1,g2,g3,g4,g5,g6,g7,g8,g9⟩| ⟨hd,f5,hp5,wr5,g1,g2,g3,g4⟩
    ·have hr:gE s=some (sgn (yk s) (dec 0 (bys (pS s)))):=by unfold gE;rw[hbad,hd];rfl
     rw[hr] at h
     simp only[OiE] at h
     subst h
     obtain⟨st,e1,e2⟩:=No (runK (CC L8) 3000001) 3000001 f5 hp5 wr5 (yk s) d5 g7 g8 g2 g3 (by rw[g4,c6]) g5 g6
     rw[g9] at e2
     have hx:ae (CC L8) (runK (CC L8) 3000001) 3000001 gB ⟨entry 71 [.sc (.string s)],[],[]⟩=some (.ret,st):=by
      rw[hx0,wF,ao ((ao c2).trans (bD (bG g1 (by omega))))]
      exact e1
     exact⟨3000002,_,_,_,_,_,aZ tz rfl hx e2,afj _ _ _,Wk.refl rfl,Wk.refl rfl,trivial⟩
    ·have hr:gE s=none:=by unfold gE;rw[hbad,hd];rfl
     rw[hr] at h
     simp only[OiE] at h
     subst h
     have hx:ae (CC L8) (runK (CC L8) 3000001) 3000001 gB ⟨entry 71 [.sc (.string s)],[],[]⟩=some (.ret,⟨f5,hp5,wr5⟩):=by
      rw[hx0,wF,bK ((ao c2).trans (cL (bG g1 (by omega))))]
     exact⟨3000002,_,_,_,[.agg [.sc (.bool false),.sc (.slice none 0 0)],.sc (.bool false)],[],aZ tz rfl hx (DC f5 _ g2 g3 g4),rfl,Wk.agg ⟨Wk.refl rfl,Wk.nil false,trivial⟩,Wk.refl rfl,trivial⟩
 ·cases h
end Go.Proofs.YtjdmodeenbdfpaaGreat
end
