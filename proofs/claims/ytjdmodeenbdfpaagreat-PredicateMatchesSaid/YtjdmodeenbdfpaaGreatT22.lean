/- Contracts of num's integers, part 22 of the proof; each lemma states its own conditions. -/
import Derived.Test.YtjdmodeenbdfpaaGreatT21
set_option linter.unusedSimpArgs false
set_option linter.unusedVariables false
noncomputable section
namespace Go.Proofs.YtjdmodeenbdfpaaGreat
open Go Go.Ab List Tryz
attribute [local simp] FzZ aA aC aF aG aH aa ab ae af ag ah ai aj an and_assoc ao aq aw az bc bd bh bj sW seq1
variable(L:Lst)(run:ar)(k:Nat)(fr:List PV)(hp:List Blk)(wr:List Nat)
def gZ:Code:=f154.body.getD .skip
def im:Code:=((f154.body).bind aC).getD .skip
def py:Code:=(aC im).getD .skip
theorem Nf(n:Nat)(h71:fr.length=71)(h45:nth fr 45 = .sc (.int .i64 (n:Int)))(h46:nth fr 46 = .sc (.int .i64 (n:Int))) :
  ∃ fr',af (CC L) run k py ⟨fr,hp,wr⟩=some (.exit 2,⟨fr',hp,wr⟩)∧fr'.length=71∧nth fr' 2=nth fr 2∧nth fr' 4=nth fr 4∧nth fr' 5=nth fr 5∧nth fr' 6=nth fr 6∧nth fr' 7=nth fr 7∧nth fr' 8=nth fr 8:=by
 simp[py,im,f154,h71,h45,h46]
set_option maxHeartbeats 1000000 in
theorem Sg(c:List Nat)(i x x':Nat)(hi:i<c.length)(hl:c.length≤9)(hx:x<10 ^ i)(hd:l7 c[i]=true)(hx':x'=10*x+dv c[i])
  (h71:fr.length=71) (h44:nth fr 44=yb c) (h45:nth fr 45 = .sc (.int .i64 (c.length:Int))) (h46:nth fr 46 = .sc (.int .i64 (i:Int))) (h8:nth fr 8 = .sc (.int .u32 (x:Int))) :
  ∃ fr',af (CC L) run k py ⟨fr,hp,wr⟩=some (.normal,⟨fr',hp,wr⟩)∧fr'.length=71∧nth fr' 44=yb c∧nth fr' 45 = .sc (.int .i64 (c.length:Int))∧nth fr' 46 = .sc (.int .i64 ((i+1:Nat):Int))∧nth fr' 8 = .sc (.int .u32 (x':Int))∧nth fr' 2=nth fr 2∧nth fr' 4=nth fr 4∧nth fr' 5=nth fr 5∧nth fr' 6=nth fr 6∧nth fr' 7=nth fr 7:=by
 have hh:=adm c i hi
 rw[dN] at hd
 generalize c[i]=b at *
 have e1:yb c = .imm c.length false (c.map u8v):=rfl
 rw[e1] at h44 ⊢
 have hx9:x<1000000000:=Nat.lt_of_lt_of_le hx (Nat.le_trans (Nat.pow_le_pow_right (by omega) (show i≤8 by omega)) (by decide))
 have hx8:x<100000000:=Nat.lt_of_lt_of_le hx (Nat.le_trans (Nat.pow_le_pow_right (by omega) (show i≤8 by omega)) (by decide))
 obtain⟨s1,hs1⟩:∃ s1,s1=10*x:=⟨_,rfl⟩
 obtain⟨s2,hs2⟩:∃ s2,s2=dv b:=⟨_,rfl⟩
 rw[← hs1,← hs2] at hx'
 have hs3:b=s2+48:=by rw[hs2];unfold dv;omega
 have hw1:=JJ .u32 x s1 hs1 (iZ (by omega))
 have hw2:=Ba .u8 b s2 hs3 (show s2≤255 by omega)
 have hw3:bE .u32 (s2:Int)=(s2:Int):=cG .u32 s2 (iZ (by omega))
 have hw4:=dD .u32 s1 s2 x' hx' (iZ (by omega))
 have hwi:=bH i (by omega)
 have hb1 : ¬ ((b:Int)<48):=by omega
 have hb2 : ¬ ((57:Int)<b):=by omega
 simp[py,im,f154,bg,bm,partOf,h71,h44,h45,h46,h8,uBs,u8,u32,s8,a8,dS,hi,hh,aV,hw1,hw2,hw3,hw4,hwi,hb1,hb2]
set_option maxHeartbeats 1000000 in
theorem Ng(c:List Nat)(i:Nat)(hi:i<c.length)(hd:l7 c[i]=false)
  (hb:aY hp 0=some zW2)
  (h71:fr.length=71) (h44:nth fr 44=yb c) (h45:nth fr 45 = .sc (.int .i64 (c.length:Int))) (h46:nth fr 46 = .sc (.int .i64 (i:Int))) (h2:nth fr 2 = .ptr 0 0) :
  ∃ fr' wr',af (CC L) run k py ⟨fr,hp,wr⟩=some (.ret,⟨fr',bZ hp 0 zW2,wr'⟩)∧nth fr' 2 = .ptr 0 0∧nth fr' 3 = .sc (.bool false):=by
 have hh:=adm c i hi
 generalize c[i]=b at *
 have e1:yb c = .imm c.length false (c.map u8v):=rfl
 rw[e1] at h44
 have hd':(b:Int)<48∨(57:Int)<b:=by
  have : ¬ (48≤b∧b≤57):=fun h=>by rw[dN.2 h] at hd;cases hd
  omega
 by_cases hb1:(b:Int)<48
 ·simp[py,im,f154,bg,bm,partOf,bp,bG,fK,h71,h44,h45,h46,h2,uBs,uW,sB,sD,zW,wf0,wf1,s8,a8,hi,hh,aV,hb1,hb,fj,dA,cq]
 ·have hb2:(57:Int)<b:=by omega
  simp[py,im,f154,bg,bm,partOf,bp,bG,fK,h71,h44,h45,h46,h2,uBs,uW,sB,sD,zW,wf0,wf1,s8,a8,hi,hh,aV,hb1,hb2,hb,fj,dA,cq]
theorem wR (L:Lst)(run:ar)(k:Nat)(c:List Nat)(hl:c.length≤9)(hp:List Blk)(hb:aY hp 0=some zW2):∀ (n i:Nat) (fr:List PV) (wr:List Nat) (x:Nat),i+n=c.length→fc (c.take i)=true→x=dec 0 (c.take i) →
  fr.length=71→nth fr 44=yb c→nth fr 45 = .sc (.int .i64 (c.length:Int))→nth fr 46 = .sc (.int .i64 (i:Int))→nth fr 8 = .sc (.int .u32 (x:Int))→nth fr 2 = .ptr 0 0 →
  (fc c=true∧∃ fr',cu (af (CC L) run k py) (n+1) ⟨fr,hp,wr⟩=some (.exit 2,⟨fr',hp,wr⟩)∧fr'.length=71∧nth fr' 8 = .sc (.int .u32 (dec 0 c:Int))∧nth fr' 2=nth fr 2∧nth fr' 4=nth fr 4∧nth fr' 5=nth fr 5∧nth fr' 6=nth fr 6∧nth fr' 7=nth fr 7) ∨
  (fc c=false∧∃ fr' wr',cu (af (CC L) run k py) (n+1) ⟨fr,hp,wr⟩=some (.ret,⟨fr',bZ hp 0 zW2,wr'⟩)∧nth fr' 2 = .ptr 0 0∧nth fr' 3 = .sc (.bool false))
 | 0,i,fr,wr,x,hi,hd,hx,h71,h44,h45,h46,h8,h2=>by
  have:i=c.length:=by omega
  subst this
  rw[take_length] at hd hx
  obtain⟨fr',g1,g2,g3,g4,g5,g6,g7,g8⟩:=Nf L run k fr hp wr c.length h71 h45 h46
  exact .inl ⟨hd,fr',bD g1,g2,by rw[g8,h8,hx],g3,g4,g5,g6,g7⟩
 | n+1,i,fr,wr,x,hi,hd,hx,h71,h44,h45,h46,h8,h2=>by
  have hic:i<c.length:=by omega
  cases hdb:l7 c[i] with
  | true =>
   have hxl:x<10 ^ i:=by
    have:=dec_lt _ hd
    rw[length_take,Nat.min_eq_left (by omega)] at this
    omega
   obtain⟨fr1,g1,g2,g3,g4,g5,g6,g7,g8,g9,g10,g11⟩:=Sg L run k fr hp wr c i x _ hic hl hxl hdb rfl h71 h44 h45 h46 h8
   have ht:c.take (i+1)=c.take i++[c[i]]:=take_succ_eq_append_getElem hic
   have:=wR L run k c hl hp hb n (i+1) fr1 wr (10*x+dv c[i]) (by omega) (by rw[ht,gF,hd];simp[fc,hdb]) (by rw[ht,mX,← hx];rfl) g2 g3 g4 g5 g6 (by rw[g7,h2])
   rw[ct g1]
   rcases this with ⟨h9,fr',q1,q2,q3,q4,q5,q6,q7,q8⟩| h9
   ·exact .inl ⟨h9,fr',q1,q2,q3,by rw[q4,g7],by rw[q5,g8],by rw[q6,g9],by rw[q7,g10],by rw[q8,g11]⟩
   ·exact .inr h9
  | false =>
   obtain⟨fr1,wr1,g1,g2,g3⟩:=Ng L run k fr hp wr c i hic hdb hb h71 h44 h45 h46 h2
   refine .inr ⟨?_,fr1,wr1,eM g1,g2,g3⟩
   have:c=c.take i++c[i]::c.drop (i+1):=by rw[← drop_eq_getElem_cons hic,take_append_drop]
   rw[this,gF,hd,fc,hdb];rfl
def nL:Code:=match cw im with | .seq (.block _ c) _=>c | c=>c
def G9:Code:=seq1 im
def G8:Code:=cw (cw im)
theorem tQ:im = .seq G9 (.seq (.block 1 nL) G8):=rfl
def G7:Code:=seq1 (seq1 (ah 1 nL))
theorem tS:ah 1 nL = .seq (.seq G7 (.block 2 (.loop py))) (ah 2 nL):=rfl
theorem Nd(e:Int)(he:e≤0)(h71:fr.length=71)(h7:nth fr 7 = .sc (.int .i64 e)) :
  ∃ fr',af (CC L) run k im ⟨fr,hp,wr⟩=some (.exit 0,⟨fr',hp,wr⟩)∧fr'.length=71∧nth fr' 2=nth fr 2∧nth fr' 5=nth fr 5∧nth fr' 6=nth fr 6:=by
 have h1 : ¬ (0<e):=by omega
 simp[im,f154,h71,h7,h1]
theorem Sf(e:Nat)(he:0<e)(h71:fr.length=71)(h7:nth fr 7 = .sc (.int .i64 (e:Int))) :
  ∃ fr',af (CC L) run k G9 ⟨fr,hp,wr⟩=some (.normal,⟨fr',hp,wr⟩)∧fr'.length=71∧nth fr' 2=nth fr 2∧nth fr' 4=nth fr 4∧nth fr' 5=nth fr 5∧nth fr' 6=nth fr 6∧nth fr' 7=nth fr 7:=by
 simp[G9,im,f154,h71,h7,he]
theorem Sd(h71:fr.length=71) :
  ∃ fr',aX (CC L) run k 1 nL ⟨fr,hp,wr⟩=some ⟨fr',hp,wr⟩∧fr'.length=71∧nth fr' 8 = .sc (.int .u32 (0:Nat))∧nth fr' 2=nth fr 2∧nth fr' 4=nth fr 4∧nth fr' 5=nth fr 5∧nth fr' 6=nth fr 6∧nth fr' 7=nth fr 7:=by
 simp[nL,im,f154,cw,aX,h71]
set_option maxHeartbeats 1000000 in
theorem Sc(s:ByteArray)(e:Nat)(he:e≤(bT s).length)(hl:e<9000000000000000000)(h71:fr.length=71)(h4:nth fr 4 = .sc (.string s))(h7:nth fr 7 = .sc (.int .i64 (e:Int))) :
  ∃ fr',af (CC L) run k G7 ⟨fr,hp,wr⟩=some (.normal,⟨fr',hp,wr⟩)∧fr'.length=71∧nth fr' 44=yb (((bys s).take e).drop (e - 9))∧nth fr' 45 = .sc (.int .i64 ((((bys s).take e).drop (e - 9)).length:Int))∧nth fr' 46 = .sc (.int .i64 (0:Nat))
   ∧ nth fr' 2=nth fr 2∧nth fr' 4=nth fr 4∧nth fr' 5=nth fr 5∧nth fr' 6=nth fr 6∧nth fr' 7=nth fr 7∧nth fr' 8=nth fr 8:=by
 have hw:=P0 (e:Int) (by omega) (by omega)
 have hb:((bys s).take e).drop (e - 9)=(((bT s).take e).drop (e - 9)).map UInt8.toNat:=by
  simp[bys,map_take,map_drop]
 have hs:=Mm s (e - 9) e (by omega) he
 have hcv:=WE (((bT s).take e).drop (e - 9))
 rw[hb]
 generalize (((bT s).take e).drop (e - 9))=c at *
 have hlen:(bT (mkStr c)).length=(c.map UInt8.toNat).length:=by rw[fy];simp
 have he1:yb (c.map UInt8.toNat) = .imm (c.map UInt8.toNat).length false ((c.map UInt8.toNat).map u8v):=rfl
 rw[hlen] at hcv
 generalize c.map UInt8.toNat=d at *
 have hlu:dn (yb d)=some d.length:=rfl
 have hm:(if (9:Int)<(e:Int) then (e:Int) - 9 else 0)=((e - 9:Nat):Int):=by
  by_cases h:(9:Int)<(e:Int)
  ·rw[if_pos h];omega
  ·rw[if_neg h];omega
 generalize e - 9=lo at *
 simp[G7,nL,im,f154,cw,bO,h71,h4,h7,hw,mN,hm,uS,uBs,u8,dq,hs,dS,hlen,hcv,hlu,-map_drop,-map_take]
theorem Nh(d:List Nat)(x:Nat)(hl:d.length<1000000)(h71:fr.length=71)(h8:nth fr 8 = .sc (.int .u32 (x:Int)))(hO:dU 1 hp d (nth fr 6)) :
  ∃ fr' hp' wr',af (CC L) run k (ah 2 nL) ⟨fr,hp,wr⟩=some (.normal,⟨fr',hp',wr'⟩)∧fr'.length=71∧dU 1 hp' (d++[x]) (nth fr' 6)∧aY hp' 0=aY hp 0∧nth fr' 2=nth fr 2∧nth fr' 4=nth fr 4∧nth fr' 5=nth fr 5∧nth fr' 7=nth fr 7:=by
 obtain⟨p',hp',fp,h7,h9,h10⟩:=hO.app x (Nat.lt_trans hl (by decide))
 have h11:=h10 0 (by omega)
 simp[nL,im,f154,cw,dE,h71,h8,uD,s32,b32,z32,il x,oh,nM,jV,cg,h7,h9,h11]
theorem Se(e:Nat)(hl:e<9000000000000000000)(h71:fr.length=71)(h7:nth fr 7 = .sc (.int .i64 (e:Int))) :
  ∃ fr',af (CC L) run k G8 ⟨fr,hp,wr⟩=some (.normal,⟨fr',hp,wr⟩)∧fr'.length=71∧nth fr' 7 = .sc (.int .i64 ((e:Int) - 9))∧nth fr' 2=nth fr 2∧nth fr' 4=nth fr 4∧nth fr' 5=nth fr 5∧nth fr' 6=nth fr 6:=by
 have hw:=P0 (e:Int) (by omega) (by omega)
 simp[G8,im,f154,cw,h71,h7,hw]
theorem Dt (L:Lst)(run:ar)(k:Nat)(hk:10<k)(fr:List PV)(hp:List Blk)(wr:List Nat)(s:ByteArray)(e:Nat)(d:List Nat)(he0:0<e)(he:e≤(bys s).length)(hl:e<9000000000000000000)(hdl:d.length<1000000)
  (h71:fr.length=71) (h2:nth fr 2 = .ptr 0 0) (h4:nth fr 4 = .sc (.string s)) (h7:nth fr 7 = .sc (.int .i64 (e:Int))) (hO:dU 1 hp d (nth fr 6)) (hb:aY hp 0=some zW2) :
  (fc (((bys s).take e).drop (e - 9))=true∧∃ fr' hp' wr',af (CC L) run k im ⟨fr,hp,wr⟩=some (.normal,⟨fr',hp',wr'⟩)∧fr'.length=71∧nth fr' 2 = .ptr 0 0∧nth fr' 4 = .sc (.string s)∧nth fr' 5=nth fr 5∧nth fr' 7 = .sc (.int .i64 ((e:Int) - 9))∧dU 1 hp' (d++[dec 0 (((bys s).take e).drop (e - 9))]) (nth fr' 6)∧aY hp' 0=some zW2) ∨
  (fc (((bys s).take e).drop (e - 9))=false∧∃ fr' hp' wr',af (CC L) run k im ⟨fr,hp,wr⟩=some (.ret,⟨fr',hp',wr'⟩)∧nth fr' 2 = .ptr 0 0∧nth fr' 3 = .sc (.bool false)∧aY hp' 0=some zW2):=by
 have he':e≤(bT s).length:=by rw[← kc];exact he
 obtain⟨f1,a1,a2,a3,a4,a5,a6,a7⟩:=Sf L run k fr hp wr e he0 h71 h7
 obtain⟨f2,b1,b2,b3,b4,b5,b6,b7,b8⟩:=Sd L run k f1 hp wr a2
 obtain⟨f3,c1,c2,c3,c4,c5,c6,c7,c8,c9,c10,c11⟩:=Sc L run k f2 hp wr s e he' hl b2 (by rw[b5,a4,h4]) (by rw[b8,a7,h7])
 have hcl:(((bys s).take e).drop (e - 9)).length≤9:=by
  rw[length_drop,length_take];omega
 rcases wR L run k _ hcl hp hb (((bys s).take e).drop (e - 9)).length 0 f3 wr 0 (by omega) rfl rfl c2 c3 c4 c5 (by rw[c11,b3]) (by rw[c6,b4,a3,h2]) with ⟨hd,f4,d1,d2,d3,d4,d5,d6,d7,d8⟩| ⟨hd,f4,wr4,d1,d2,d3⟩
 ·obtain⟨f5,hp5,wr5,e1,e2,e3,e4,e5,e6,e7,e8⟩:=Nh L run k f4 hp wr d _ hdl d2 d3 (by rw[d7,c9,b7,a6];exact hO)
  obtain⟨f6,g1,g2,g3,g4,g5,g6,g7⟩:=Se L run k f5 hp5 wr5 e hl e2 (by rw[e8,d8,c10,b8,a7,h7])
  refine .inl ⟨hd,f6,hp5,wr5,?_,g2,by rw[g4,e5,d4,c6,b4,a3,h2],by rw[g5,e6,d5,c7,b5,a4,h4],by rw[g6,e7,d6,c8,b6,a5],g3,by rw[g7];exact e3,by rw[e4,hb]⟩
  have hB:af (CC L) run k nL ⟨f1,hp,wr⟩=some (.normal,⟨f5,hp5,wr5⟩):=by
   rw[aO 1 b1,tS,av ((av c1).trans (bN (ca d1 (by omega))))]
   exact e1
  rw[tQ,av a1,av (dH hB)]
  exact g1
 ·refine .inr ⟨hd,f4,bZ hp 0 zW2,wr4,?_,d2,d3,by rw[cT hb,if_pos rfl]⟩
  have hB:af (CC L) run k nL ⟨f1,hp,wr⟩=some (.ret,⟨f4,bZ hp 0 zW2,wr4⟩):=by
   rw[aO 1 b1,tS,cC ((av c1).trans (df (ca d1 (by omega))))]
  rw[tQ,av a1,cC (kE hB)]
theorem wQ (L:Lst)(run:ar)(k:Nat)(hk:10<k)(s:ByteArray)(hl:(bys s).length<3000000):∀ (n e:Nat) (fr:List PV) (hp:List Blk) (wr:List Nat) (d:List Nat),e<n→0<e→e+9*d.length=(bys s).length→Dok d→fc ((bys s).drop e)=true→val d=dec 0 ((bys s).drop e) →
  fr.length=71→nth fr 2 = .ptr 0 0→nth fr 4 = .sc (.string s)→nth fr 7 = .sc (.int .i64 (e:Int))→dU 1 hp d (nth fr 6)→aY hp 0=some zW2 →
  (fc (bys s)=true∧∃ fr' hp' wr' d',cu (af (CC L) run k im) (n+1) ⟨fr,hp,wr⟩=some (.exit 0,⟨fr',hp',wr'⟩)∧fr'.length=71∧nth fr' 2 = .ptr 0 0∧nth fr' 5=nth fr 5∧dU 1 hp' d' (nth fr' 6)∧aY hp' 0=some zW2∧Dok d'∧d'.length<1000000∧val d'=dec 0 (bys s)) ∨
  (fc (bys s)=false∧∃ fr' hp' wr',cu (af (CC L) run k im) (n+1) ⟨fr,hp,wr⟩=some (.ret,⟨fr',hp',wr'⟩)∧nth fr' 2 = .ptr 0 0∧nth fr' 3 = .sc (.bool false)∧aY hp' 0=some zW2)
 | 0,e,fr,hp,wr,d,hn,_,_,_,_,_,_,_,_,_,_,_=>by omega
 | n+1,e,fr,hp,wr,d,hn,he0,hed,hd,hdg,hv,h71,h2,h4,h7,hO,hb=>by
  have hsp:=yd (bys s) (e - 9) e (by omega) (by omega)
  have hcl:(((bys s).take e).drop (e - 9)).length≤9:=by
   rw[length_drop,length_take];omega
  rcases Dt L run k hk fr hp wr s e d he0 (by omega) (by omega) (by omega) h71 h2 h4 h7 hO hb with ⟨hc,f1,hp1,wr1,a1,a2,a3,a4,a5,a6,a7,a8⟩| ⟨hc,f1,hp1,wr1,a1,a2,a3,a4⟩
  ·have hx:dec 0 (((bys s).take e).drop (e - 9))<1000000000:=by
    have h1:=dec_lt _ hc
    have h2:=Nat.pow_le_pow_right (n:=10) (by omega) hcl
    have h3:(10:Nat) ^ 9=1000000000:=by decide
    omega
   have hd':Dok (d++[dec 0 (((bys s).take e).drop (e - 9))]):=hd.append (Dok.nil.cons hx)
   have hdg':fc ((bys s).drop (e - 9))=true:=by rw[hsp,gF,hc,hdg];rfl
   have hv':val (d++[dec 0 (((bys s).take e).drop (e - 9))])=dec 0 ((bys s).drop (e - 9)):=by
    have hacc:=Ls (dec 0 (((bys s).take e).drop (e - 9))) ((bys s).drop e)
    rw[length_drop,show (bys s).length - e=9*d.length by omega,Nat.pow_mul,show (10:Nat) ^ 9=1000000000 by decide] at hacc
    rw[dP,hsp,mX,hacc,hv,Nat.mul_comm,Nat.add_comm]
   rw[ct a1]
   by_cases h9:e≤9
   ·obtain⟨f2,b1,b2,b3,b4,b5⟩:=Nd L run k f1 hp1 wr1 ((e:Int) - 9) (by omega) a2 a6
    rw[show e - 9=0 by omega,drop_zero] at hdg'
    have hv2:dec 0 ((bys s).drop (e - 9))=dec 0 (bys s):=by rw[show e - 9=0 by omega,drop_zero]
    rw[hv2] at hv'
    exact .inl ⟨hdg',f2,hp1,wr1,_,bD b1,b2,by rw[b3,a3],by rw[b4,a5],by rw[b5];exact a7,a8,hd',by simp;omega,hv'⟩
   ·have:=wQ L run k hk s hl n (e - 9) f1 hp1 wr1 _ (by omega) (by omega) (by simp;omega) hd' hdg' hv' a2 a3 a4 (by rw[a6];congr 3;omega) a7 a8
    rcases this with ⟨q0,f2,hp2,wr2,d2,q1,q2,q3,q4,q5⟩| q
    ·exact .inl ⟨q0,f2,hp2,wr2,d2,q1,q2,q3,by rw[q4,a5],q5⟩
    ·exact .inr q
  ·refine .inr ⟨?_,f1,hp1,wr1,eM a1,a2,a3,a4⟩
   have h1:=yd (bys s) 0 (e - 9) (by omega) (by omega)
   rw[drop_zero,drop_zero] at h1
   rw[h1,gF,hsp,gF,hc]
   simp
def L8:Lst:=[(152,fJ),(170,lk)]
theorem ai0:dw base.P L8:=⟨jD,Wy,trivial⟩
theorem aeT:bu L8 170=fun a=>lk (aJ a):=rfl
theorem Pk (run:ar)(dr:Bool)(hp:List Blk)(s p:ByteArray):bX (CC L8) run dr hp 170 [.sc (.string s),.sc (.string p)]=some (jk (ic s p),hp,⟨[],[],false,false⟩) :=
 bw ML aeT run dr hp _ (ic s p) rfl rfl rfl
theorem B9 (run:ar)(dr:Bool)(hp:List Blk)(n:Bool)(l:List Nat)(p:PV)(hd:Dok l)(hl:l.length<1000000)(hO:dU 1 hp l p) :
  ∃ hp' ids,bX (CC L8) run dr hp 152 [.sc (.bool n),p]=some (bt (sgn n (val l)),hp',⟨ids,ids,false,false⟩)∧aY hp' 0=aY hp 0:=by
 obtain⟨q,ids,h1,h2,h3⟩:=hO.arg n
 have h4:(CC L8).orc 152 [.sc (.bool n),q]=some [bt (sgn n (val l))]:=by
  show fJ (aJ [.sc (.bool n),q])=_
  rw[h2]
  simp only[fJ,dc hd hl]
 exact⟨roB hp ids,ids,eJ oO h1 h4 rfl,h3 0 (by omega)⟩
def Bz:Code:=ah 5 gZ
theorem Nc(n:Bool)(d:List Nat)(hd:Dok d)(hl:d.length<1000000)(h71:fr.length=71)(h2:nth fr 2 = .ptr 0 0)(h5:nth fr 5 = .sc (.bool n))(hO:dU 1 hp d (nth fr 6))(hb:aY hp 0=some zW2) :
  ∃ st,af (CC L8) run k Bz ⟨fr,hp,wr⟩=some (.ret,st)∧aU TT st.fr st.hp f154.results.toList=some [bt (sgn n (val d)),.sc (.bool true)]:=by
 obtain⟨hp',ids,hc,h3⟩:=B9 run false hp n d _ hd hl hO
 rw[hb] at h3
 simp only[whW] at hc ⊢
 generalize aK (sgn n (val d)).natAbs=r at *
 generalize bA (sgn n (val d))=nn at *
 have hn:aY (bZ hp' 0 ⟨.live,[.sc (.bool nn),aQ r]⟩) 0=some ⟨.live,[.sc (.bool nn),aQ r]⟩:=by rw[cT h3,if_pos rfl]
 simp[Bz,gZ,f154,aL,partOf,bp,ch,bG,h71,h2,h5,hc,h3,aW,cq,aU,aV,hn,br,bF]
def Ha:Code:=seq1 (seq1 (ah 4 gZ))
theorem wP:ah 4 gZ = .seq (.seq Ha (.block 0 (.loop im))) Bz:=rfl
def mz:Code:=seq1 (ah 2 gZ)
theorem tP:ah 2 gZ = .seq mz (ah 3 gZ):=rfl
def qf (s:ByteArray):ByteArray:=bif jd [45] (bT s) then mkStr ((bT s).drop 1) else s
def yl (s:ByteArray):Bool:=jd [45] (bT s)
theorem Sb (run:ar)(k:Nat)(s:ByteArray) :
  ∃ fr wr,aX (CC L8) run k 2 gZ ⟨entry 71 [.sc (.string s)],[],[]⟩=some ⟨fr,[zW2],wr⟩∧fr.length=71∧nth fr 2 = .ptr 0 0∧nth fr 4 = .sc (.string (qf s))∧nth fr 5 = .sc (.bool (yl s)):=by
 obtain⟨e1,e2⟩:=cW 70 (.sc (.string s))
 generalize entry 71 [.sc (.string s)]=fr0 at *
 have hc:=fun dr hp=>Pk run dr hp s { data:=#[45] }
 rw[show ic s { data:=#[45] } = bif jd [45] (bT s) then [.sc (.string (mkStr ((bT s).drop 1))),.sc (.bool true)] else [.sc (.string s),.sc (.bool false)] from rfl] at hc
 unfold qf yl
 cases h:jd [45] (bT s) <;> rw[h] at hc <;> simp only[cond_true,cond_false,jk] at hc ⊢ <;> simp[gZ,f154,aX,e1,e2,aL,zW,aM,hc]
def pH (n:Bool):List UInt8→Bool
 | []=>true
 | [a]=>a.toNat.beq 48 && n
 | a::_=>a.toNat.beq 48
set_option maxHeartbeats 1000000 in
theorem Zt(s:ByteArray)(n:Bool)(h71:fr.length=71)(h2:nth fr 2 = .ptr 0 0)(h4:nth fr 4 = .sc (.string s))(h5:nth fr 5 = .sc (.bool n)) :
  (pH n (bT s)=true∧∃ fr' wr',af (CC L) run k mz ⟨fr,[zW2],wr⟩=some (.ret,⟨fr',[zW2],wr'⟩)∧nth fr' 2 = .ptr 0 0∧nth fr' 3 = .sc (.bool false)) ∨
  (pH n (bT s)=false∧∃ fr',af (CC L) run k mz ⟨fr,[zW2],wr⟩=some (.normal,⟨fr',[zW2],wr⟩)∧fr'.length=71∧nth fr' 2 = .ptr 0 0∧nth fr' 4 = .sc (.string s)∧nth fr' 5 = .sc (.bool n)):=by
 have hes:bT { data:=#[] } = []:=rfl
 have hidx:∀ a l,bT s=a::l→iC TT 9 (.sc (.string s)) (.sc (.int .i64 0))=some (.sc (.int .u8 (a.toNat:Int))):=by
  intro a l e
  simp[iC,uS,ke,e,Eo]
 have hz:aY [zW2] 0=some zW2:=rfl
 have hset:bZ [zW2] 0 zW2=[zW2]:=rfl
 rcases hS:bT s with _ | ⟨a,_ | ⟨b,l⟩⟩
 ·refine .inl ⟨rfl,?_⟩
  simp[undef,mz,gZ,f154,bp,bG,fK,h71,h2,h4,eD,hS,hes,eqL,uW,sB,sD,zW,fj,dA,wf0,wf1,cq,aY,bZ]
 ·have hi:=hidx a [] hS
  by_cases ha:a.toNat=48
  ·have ha':((a.toNat:Int) == 48)=true:=by rw[ha];rfl
   have hab:a.toNat.beq 48=true:=by rw[ha];rfl
   cases n with
   | true =>
    refine .inl ⟨by simp[pH,ha],?_⟩
    simp[undef,mz,gZ,f154,bO,bp,bG,fK,h71,h2,h4,h5,eD,hS,hes,eqL,hi,ha',uS,uW,sB,sD,zW,fj,dA,wf0,wf1,cq,aY,bZ]
   | false =>
    refine .inr ⟨by simp[pH],?_⟩
    simp[mz,gZ,f154,bO,h71,h2,h4,h5,eD,hS,hes,eqL,hi,ha',uS]
  ·have ha':((a.toNat:Int) == 48)=false:=by simp;omega
   have hab:a.toNat.beq 48=false:=by
    cases e:a.toNat.beq 48 with
    | false=>rfl
    | true=>exact absurd (Nat.eq_of_beq_eq_true e) ha
   refine .inr ⟨by simp[pH,hab],?_⟩
   simp[undef,mz,gZ,f154,h71,h2,h4,h5,eD,hS,hes,eqL,hi,ha']
 ·have hi:=hidx a (b::l) hS
  by_cases ha:a.toNat=48
  ·have ha':((a.toNat:Int) == 48)=true:=by rw[ha];rfl
   refine .inl ⟨by simp[pH,ha],?_⟩
   have hlen:(1:Int)<(l.length:Int)+1+1:=by omega
   simp[undef,mz,gZ,f154,bO,bp,bG,fK,h71,h2,h4,eD,hS,hes,eqL,hi,ha',hlen,uS,uW,sB,sD,zW,fj,dA,wf0,wf1,cq,aY,bZ]
  ·have ha':((a.toNat:Int) == 48)=false:=by simp;omega
   have hab:a.toNat.beq 48=false:=by
    cases e:a.toNat.beq 48 with
    | false=>rfl
    | true=>exact absurd (Nat.eq_of_beq_eq_true e) ha
   refine .inr ⟨by simp[pH,hab],?_⟩
   simp[undef,mz,gZ,f154,h71,h2,h4,h5,eD,hS,hes,eqL,hi,ha']
theorem Sa(s:ByteArray)(n:Bool)(h71:fr.length=71)(h2:nth fr 2 = .ptr 0 0)(h4:nth fr 4 = .sc (.string s))(h5:nth fr 5 = .sc (.bool n)) :
  ∃ f1 fr',aX (CC L) run k 1 (ah 3 gZ) ⟨fr,hp,wr⟩=some ⟨f1,hp,wr⟩∧af (CC L) run k Ha ⟨f1,hp,wr⟩=some (.normal,⟨fr',hp,wr⟩)∧fr'.length=71∧nth fr' 2 = .ptr 0 0∧nth fr' 4 = .sc (.string s)∧nth fr' 5 = .sc (.bool n)∧nth fr' 6 = .sc (.slice none 0 0)∧nth fr' 7 = .sc (.int .i64 ((bys s).length:Int)):=by
 rw[kc]
 refine⟨dR fr 6 (.sc (.slice none 0 0)),?_⟩
 simp[Ha,gZ,f154,aX,bO,h71,h2,h4,h5,uS]
def ib (s:ByteArray):Option Int :=
 bif pH (yl s) (bT (qf s)) then none else bif fc (bys (qf s)) then some (sgn (yl s) (dec 0 (bys (qf s)))) else none
def zL:List PV→Option (List PV)
 | [.sc (.string s)]=>bif (bys s).length.blt 3000000 then (match ib s with
  | some z=>some [bt z,.sc (.bool true)]
  | none=>some [bt 0,.sc (.bool false)]) else none
 | _=>none
theorem Ds(h2:nth fr 2 = .ptr 0 0)(h3:nth fr 3 = .sc (.bool false))(hb:aY hp 0=some zW2):aU TT fr hp f154.results.toList=some [.agg [.sc (.bool false),.sc (.slice none 0 0)],.sc (.bool false)]:=by
 simp[f154,aU,h2,h3,hb,aV,br,partOf,aW,bF]
theorem aeK(x:Int)(b:Bool):bq (snap hp bn) [bt x,.sc (.bool b)]=some ([bt x,.sc (.bool b)],[]):=rfl
theorem acB (s:ByteArray):(bys (qf s)).length≤(bys s).length:=by
 unfold qf
 cases jd [45] (bT s) with
 | false=>exact Nat.le_refl _
 | true =>
  rw[cond_true,kc,fy,kc,length_drop]
  omega
theorem Pt {n:Bool}{s:ByteArray}(h:pH n (bT s)=false):0<(bys s).length:=by
 rw[kc]
 cases e:bT s with
 | nil=>rw[e] at h;cases h
 | cons a l=>simp
theorem Na:Ab.Spec base.P 154 zL:=Ab.Spec.bM (C:=CC L8) (cP ai0) fun args rs h=>by
 unfold zL at h
 split at h
 ·rename_i s
  cases hb:(bys s).length.blt 3000000 with
  | false=>rw[hb] at h;cases h
  | true =>
   rw[hb] at h
   rw[Nat.blt_eq] at hb
   simp only[cond_true] at h
   have hcl:=acB s
   obtain⟨f1,wr1,a1,a2,a3,a4,a5⟩:=Sb (runK (CC L8) 3000001) 3000001 s
   rcases Zt L8 (runK (CC L8) 3000001) 3000001 f1 wr1 (qf s) (yl s) a2 a3 a4 a5 with ⟨hbad,f2,wr2,b1,b2,b3⟩| ⟨hbad,f2,b1,b2,b3,b4,b5⟩
   ·have hr:ib s=none:=by unfold ib;rw[hbad];rfl
    rw[hr] at h
    simp only[OiE] at h
    subst h
    have hx:af (CC L8) (runK (CC L8) 3000001) 3000001 gZ ⟨entry 71 [.sc (.string s)],[],[]⟩=some (.ret,⟨f2,[zW2],wr2⟩):=by
     rw[aO 2 a1,tP,cC b1]
    exact⟨3000002,_,_,_,[.agg [.sc (.bool false),.sc (.slice none 0 0)],.sc (.bool false)],[],aP tC rfl hx (Ds f2 _ b2 b3 rfl),rfl,Wk.agg ⟨Wk.refl rfl,Wk.nil false,trivial⟩,Wk.refl rfl,trivial⟩
   ·obtain⟨f3,f4,c1,c2,c3,c4,c5,c6,c7,c8⟩:=Sa L8 (runK (CC L8) 3000001) 3000001 f2 [zW2] wr1 (qf s) (yl s) b2 b3 b4 b5
    have hpos:=Pt hbad
    have hx0:af (CC L8) (runK (CC L8) 3000001) 3000001 gZ ⟨entry 71 [.sc (.string s)],[],[]⟩=af (CC L8) (runK (CC L8) 3000001) 3000001 (ah 4 gZ) ⟨f3,[zW2],wr1⟩:=by
     rw[aO 2 a1,tP,av b1,aO 1 c1];rfl
    rcases wQ L8 (runK (CC L8) 3000001) 3000001 (by omega) (qf s) (by omega) ((bys (qf s)).length+1) (bys (qf s)).length f4 [zW2] wr1 [] (by omega) hpos (by simp) Dok.nil (by rw[drop_length];rfl) (by rw[drop_length];rfl) c3 c4 c5 c8 (by rw[c7];exact dU.nil (by simp)) rfl with ⟨hd,f5,hp5,wr5,d5,g1,g2,g3,g4,g5,g6,g7,g8,g9⟩| ⟨hd,f5,hp5,wr5,g1,g2,g3,g4⟩
    ·have hr:ib s=some (sgn (yl s) (dec 0 (bys (qf s)))):=by unfold ib;rw[hbad,hd];rfl
     rw[hr] at h
     simp only[OiE] at h
     subst h
     obtain⟨st,e1,e2⟩:=Nc (runK (CC L8) 3000001) 3000001 f5 hp5 wr5 (yl s) d5 g7 g8 g2 g3 (by rw[g4,c6]) g5 g6
     rw[g9] at e2
     have hx:af (CC L8) (runK (CC L8) 3000001) 3000001 gZ ⟨entry 71 [.sc (.string s)],[],[]⟩=some (.ret,st):=by
      rw[hx0,wP,av ((av c2).trans (bN (ca g1 (by omega))))]
      exact e1
     exact⟨3000002,_,_,_,_,_,aP tC rfl hx e2,aeK _ _ _,Wk.refl rfl,Wk.refl rfl,trivial⟩
    ·have hr:ib s=none:=by unfold ib;rw[hbad,hd];rfl
     rw[hr] at h
     simp only[OiE] at h
     subst h
     have hx:af (CC L8) (runK (CC L8) 3000001) 3000001 gZ ⟨entry 71 [.sc (.string s)],[],[]⟩=some (.ret,⟨f5,hp5,wr5⟩):=by
      rw[hx0,wP,cC ((av c2).trans (df (ca g1 (by omega))))]
     exact⟨3000002,_,_,_,[.agg [.sc (.bool false),.sc (.slice none 0 0)],.sc (.bool false)],[],aP tC rfl hx (Ds f5 _ g2 g3 g4),rfl,Wk.agg ⟨Wk.refl rfl,Wk.nil false,trivial⟩,Wk.refl rfl,trivial⟩
 ·cases h
end Go.Proofs.YtjdmodeenbdfpaaGreat
end
