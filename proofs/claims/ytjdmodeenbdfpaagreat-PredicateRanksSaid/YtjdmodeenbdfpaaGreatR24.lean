/- Contracts of num's integers, part 24 of the proof; each lemma states its own conditions. -/
import Derived.Test.YtjdmodeenbdfpaaGreatR23
set_option linter.unusedSimpArgs false
set_option linter.unusedVariables false
namespace Go.Proofs.YtjdmodeenbdfpaaGreat
open Go Go.Ab
noncomputable def gE:Code:=Tryz.f154.body.getD .skip
noncomputable def gP:Code:=((Tryz.f154.body).bind az).getD .skip
noncomputable def oA:Code:=(az gP).getD .skip
theorem KS (L:Lst)(run:ar)(k:Nat)(fr:List PV)(hp:List Blk)(wr:List Nat)(n:Nat)(h71:fr.length=71)(h45:nth fr 45 = .sc (.int .i64 (n:Int)))(h46:nth fr 46 = .sc (.int .i64 (n:Int))) :
  ∃ fr',af (CC L) run k oA ⟨fr,hp,wr⟩=some (.exit 2,⟨fr',hp,wr⟩)∧fr'.length=71∧nth fr' 2=nth fr 2∧nth fr' 4=nth fr 4∧nth fr' 5=nth fr 5∧nth fr' 6=nth fr 6∧nth fr' 7=nth fr 7∧nth fr' 8=nth fr 8:=by
 simp[oA,gP,Tryz.f154,az,af,aJ,ao,aq,aH,ag,ai,aj,an,aF,aC,FP.none,bd,au,bj,aa,ae,ab,h71,h45,h46]
set_option maxHeartbeats 1000000 in
theorem Pt (L:Lst)(run:ar)(k:Nat)(fr:List PV)(hp:List Blk)(wr:List Nat)(c:List Nat)(i x x':Nat)(hi:i<c.length)(hl:c.length≤9)(hx:x<10 ^ i)(hd:ll c[i]=true)(hx':x'=10*x+dv c[i])
  (h71:fr.length=71) (h44:nth fr 44=wC c) (h45:nth fr 45 = .sc (.int .i64 (c.length:Int))) (h46:nth fr 46 = .sc (.int .i64 (i:Int))) (h8:nth fr 8 = .sc (.int .u32 (x:Int))) :
  ∃ fr',af (CC L) run k oA ⟨fr,hp,wr⟩=some (.normal,⟨fr',hp,wr⟩)∧fr'.length=71∧nth fr' 44=wC c∧nth fr' 45 = .sc (.int .i64 (c.length:Int))∧nth fr' 46 = .sc (.int .i64 ((i+1:Nat):Int))∧nth fr' 8 = .sc (.int .u32 (x':Int))∧nth fr' 2=nth fr 2∧nth fr' 4=nth fr 4∧nth fr' 5=nth fr 5∧nth fr' 6=nth fr 6∧nth fr' 7=nth fr 7:=by
 have hh:=aaA c i hi
 rw[dH] at hd
 generalize c[i]=b at *
 have e1:wC c = .imm c.length false (c.map u8v):=rfl
 rw[e1] at h44 ⊢
 have hx9:x<1000000000:=Nat.lt_of_lt_of_le hx (Nat.le_trans (Nat.pow_le_pow_right (by omega) (show i≤8 by omega)) (by decide))
 have hx8:x<100000000:=Nat.lt_of_lt_of_le hx (Nat.le_trans (Nat.pow_le_pow_right (by omega) (show i≤8 by omega)) (by decide))
 obtain⟨s1,hs1⟩:∃ s1,s1=10*x:=⟨_,rfl⟩
 obtain⟨s2,hs2⟩:∃ s2,s2=dv b:=⟨_,rfl⟩
 rw[← hs1,← hs2] at hx'
 have hs3:b=s2+48:=by rw[hs2];unfold dv;omega
 have hw1:=HZ .u32 x s1 hs1 (iB (by omega))
 have hw2:=zC .u8 b s2 hs3 (show s2≤255 by omega)
 have hw3:bA .u32 (s2:Int)=(s2:Int):=cu .u32 s2 (iB (by omega))
 have hw4:=dp .u32 s1 s2 x' hx' (iB (by omega))
 have hwi:=bE i (by omega)
 have hb1 : ¬ ((b:Int)<48):=by omega
 have hb2 : ¬ ((57:Int)<b):=by omega
 simp[oA,gP,Tryz.f154,az,af,aJ,ao,aq,aH,ag,ai,aj,an,aF,aC,FP.none,bd,au,bj,aw,bc,bm,partOf,aa,ae,ab,bh,h71,h44,h45,h46,h8,uBs,u8,u32,s8,a8,dF,hi,hh,aU,hw1,hw2,hw3,hw4,hwi,hb1,hb2]
set_option maxHeartbeats 1000000 in
theorem KT (L:Lst)(run:ar)(k:Nat)(fr:List PV)(hp:List Blk)(wr:List Nat)(c:List Nat)(i:Nat)(hi:i<c.length)(hd:ll c[i]=false)
  (hb:aV hp 0=some zW2)
  (h71:fr.length=71) (h44:nth fr 44=wC c) (h45:nth fr 45 = .sc (.int .i64 (c.length:Int))) (h46:nth fr 46 = .sc (.int .i64 (i:Int))) (h2:nth fr 2 = .ptr 0 0) :
  ∃ fr' wr',af (CC L) run k oA ⟨fr,hp,wr⟩=some (.ret,⟨fr',bO hp 0 zW2,wr'⟩)∧nth fr' 2 = .ptr 0 0∧nth fr' 3 = .sc (.bool false):=by
 have hh:=aaA c i hi
 generalize c[i]=b at *
 have e1:wC c = .imm c.length false (c.map u8v):=rfl
 rw[e1] at h44
 have hd':(b:Int)<48∨(57:Int)<b:=by
  have : ¬ (48≤b∧b≤57):=fun h=>by rw[dH.2 h] at hd;cases hd
  omega
 by_cases hb1:(b:Int)<48
 ·simp[oA,gP,Tryz.f154,az,af,aJ,ao,aq,aH,ag,ai,aj,an,aF,aC,FP.none,bd,au,bj,aw,bc,bm,partOf,aa,ae,ab,bh,and_assoc,bn,bC,fw,bg,h71,h44,h45,h46,h2,uBs,uW,sB,sD,sW,zW,wf0,wf1,s8,a8,hi,hh,aU,hb1,hb,eN,dR,cj]
 ·have hb2:(57:Int)<b:=by omega
  simp[oA,gP,Tryz.f154,az,af,aJ,ao,aq,aH,ag,ai,aj,an,aF,aC,FP.none,bd,au,bj,aw,bc,bm,partOf,aa,ae,ab,bh,and_assoc,bn,bC,fw,bg,h71,h44,h45,h46,h2,uBs,uW,sB,sD,sW,zW,wf0,wf1,s8,a8,hi,hh,aU,hb1,hb2,hb,eN,dR,cj]
theorem uU (L:Lst)(run:ar)(k:Nat)(c:List Nat)(hl:c.length≤9)(hp:List Blk)(hb:aV hp 0=some zW2):∀ (n i:Nat) (fr:List PV) (wr:List Nat) (x:Nat),i+n=c.length→eH (c.take i)=true→x=dec 0 (c.take i) →
  fr.length=71→nth fr 44=wC c→nth fr 45 = .sc (.int .i64 (c.length:Int))→nth fr 46 = .sc (.int .i64 (i:Int))→nth fr 8 = .sc (.int .u32 (x:Int))→nth fr 2 = .ptr 0 0 →
  (eH c=true∧∃ fr',cl (af (CC L) run k oA) (n+1) ⟨fr,hp,wr⟩=some (.exit 2,⟨fr',hp,wr⟩)∧fr'.length=71∧nth fr' 8 = .sc (.int .u32 (dec 0 c:Int))∧nth fr' 2=nth fr 2∧nth fr' 4=nth fr 4∧nth fr' 5=nth fr 5∧nth fr' 6=nth fr 6∧nth fr' 7=nth fr 7) ∨
  (eH c=false∧∃ fr' wr',cl (af (CC L) run k oA) (n+1) ⟨fr,hp,wr⟩=some (.ret,⟨fr',bO hp 0 zW2,wr'⟩)∧nth fr' 2 = .ptr 0 0∧nth fr' 3 = .sc (.bool false))
 | 0,i,fr,wr,x,hi,hd,hx,h71,h44,h45,h46,h8,h2=>by
  have:i=c.length:=by omega
  subst this
  rw[List.take_length] at hd hx
  obtain⟨fr',g1,g2,g3,g4,g5,g6,g7,g8⟩:=KS L run k fr hp wr c.length h71 h45 h46
  exact .inl ⟨hd,fr',bD g1,g2,by rw[g8,h8,hx],g3,g4,g5,g6,g7⟩
 | n+1,i,fr,wr,x,hi,hd,hx,h71,h44,h45,h46,h8,h2=>by
  have hic:i<c.length:=by omega
  cases hdb:ll c[i] with
  | true =>
   have hxl:x<10 ^ i:=by
    have:=dec_lt _ hd
    rw[List.length_take,Nat.min_eq_left (by omega)] at this
    omega
   obtain⟨fr1,g1,g2,g3,g4,g5,g6,g7,g8,g9,g10,g11⟩:=Pt L run k fr hp wr c i x _ hic hl hxl hdb rfl h71 h44 h45 h46 h8
   have ht:c.take (i+1)=c.take i++[c[i]]:=List.take_succ_eq_append_getElem hic
   have:=uU L run k c hl hp hb n (i+1) fr1 wr (10*x+dv c[i]) (by omega) (by rw[ht,fS,hd];simp[eH,hdb]) (by rw[ht,mg,← hx];rfl) g2 g3 g4 g5 g6 (by rw[g7,h2])
   rw[ch g1]
   rcases this with ⟨h9,fr',q1,q2,q3,q4,q5,q6,q7,q8⟩| h9
   ·exact .inl ⟨h9,fr',q1,q2,q3,by rw[q4,g7],by rw[q5,g8],by rw[q6,g9],by rw[q7,g10],by rw[q8,g11]⟩
   ·exact .inr h9
  | false =>
   obtain⟨fr1,wr1,g1,g2,g3⟩:=KT L run k fr hp wr c i hic hdb hb h71 h44 h45 h46 h2
   refine .inr ⟨?_,fr1,wr1,eF g1,g2,g3⟩
   have:c=c.take i++c[i]::c.drop (i+1):=by rw[← List.drop_eq_getElem_cons hic,List.take_append_drop]
   rw[this,fS,hd,eH,hdb];rfl
noncomputable def mO:Code:=match cA gP with | .seq (.block _ c) _=>c | c=>c
noncomputable def Fi:Code:=seq1 gP
noncomputable def Fh:Code:=cA (cA gP)
theorem so:gP = .seq Fi (.seq (.block 1 mO) Fh):=rfl
noncomputable def Fg:Code:=seq1 (seq1 (ah 1 mO))
theorem sv:ah 1 mO = .seq (.seq Fg (.block 2 (.loop oA))) (ah 2 mO):=rfl
theorem KR (L:Lst)(run:ar)(k:Nat)(fr:List PV)(hp:List Blk)(wr:List Nat)(e:Int)(he:e≤0)(h71:fr.length=71)(h7:nth fr 7 = .sc (.int .i64 e)) :
  ∃ fr',af (CC L) run k gP ⟨fr,hp,wr⟩=some (.exit 0,⟨fr',hp,wr⟩)∧fr'.length=71∧nth fr' 2=nth fr 2∧nth fr' 5=nth fr 5∧nth fr' 6=nth fr 6:=by
 have h1 : ¬ (0<e):=by omega
 simp[gP,Tryz.f154,az,af,aJ,ao,aq,aH,ag,ai,aj,an,aF,aC,FP.none,bd,au,bj,aw,aa,ae,ab,h71,h7,h1]
theorem Ps (L:Lst)(run:ar)(k:Nat)(fr:List PV)(hp:List Blk)(wr:List Nat)(e:Nat)(he:0<e)(h71:fr.length=71)(h7:nth fr 7 = .sc (.int .i64 (e:Int))) :
  ∃ fr',af (CC L) run k Fi ⟨fr,hp,wr⟩=some (.normal,⟨fr',hp,wr⟩)∧fr'.length=71∧nth fr' 2=nth fr 2∧nth fr' 4=nth fr 4∧nth fr' 5=nth fr 5∧nth fr' 6=nth fr 6∧nth fr' 7=nth fr 7:=by
 simp[Fi,gP,Tryz.f154,az,seq1,af,aJ,ao,aq,aH,ag,ai,aj,an,aF,aC,FP.none,bd,au,bj,aw,aa,ae,ab,h71,h7,he]
theorem Pq (L:Lst)(run:ar)(k:Nat)(fr:List PV)(hp:List Blk)(wr:List Nat)(h71:fr.length=71) :
  ∃ fr',aY (CC L) run k 1 mO ⟨fr,hp,wr⟩=some ⟨fr',hp,wr⟩∧fr'.length=71∧nth fr' 8 = .sc (.int .u32 (0:Nat))∧nth fr' 2=nth fr 2∧nth fr' 4=nth fr 4∧nth fr' 5=nth fr 5∧nth fr' 6=nth fr 6∧nth fr' 7=nth fr 7:=by
 simp[mO,gP,Tryz.f154,az,cA,aY,af,aJ,ao,aq,aH,ag,ai,aj,an,aF,aC,FP.none,aw,aa,ae,ab,h71]
set_option maxHeartbeats 1000000 in
theorem Pp (L:Lst)(run:ar)(k:Nat)(fr:List PV)(hp:List Blk)(wr:List Nat)(s:ByteArray)(e:Nat)(he:e≤(bK s).length)(hl:e<9000000000000000000)(h71:fr.length=71)(h4:nth fr 4 = .sc (.string s))(h7:nth fr 7 = .sc (.int .i64 (e:Int))) :
  ∃ fr',af (CC L) run k Fg ⟨fr,hp,wr⟩=some (.normal,⟨fr',hp,wr⟩)∧fr'.length=71∧nth fr' 44=wC (((bys s).take e).drop (e - 9))∧nth fr' 45 = .sc (.int .i64 ((((bys s).take e).drop (e - 9)).length:Int))∧nth fr' 46 = .sc (.int .i64 (0:Nat))
   ∧ nth fr' 2=nth fr 2∧nth fr' 4=nth fr 4∧nth fr' 5=nth fr 5∧nth fr' 6=nth fr 6∧nth fr' 7=nth fr 7∧nth fr' 8=nth fr 8:=by
 have hw:=NV (e:Int) (by omega) (by omega)
 have hb:((bys s).take e).drop (e - 9)=(((bK s).take e).drop (e - 9)).map UInt8.toNat:=by
  simp[bys,List.map_take,List.map_drop]
 have hs:=JP s (e - 9) e (by omega) he
 have hcv:=TZ (((bK s).take e).drop (e - 9))
 rw[hb]
 generalize (((bK s).take e).drop (e - 9))=c at *
 have hlen:(bK (mkStr c)).length=(c.map UInt8.toNat).length:=by rw[ff];simp
 have he1:wC (c.map UInt8.toNat) = .imm (c.map UInt8.toNat).length false ((c.map UInt8.toNat).map u8v):=rfl
 rw[hlen] at hcv
 generalize c.map UInt8.toNat=d at *
 have hlu:ef (wC d)=some d.length:=rfl
 have hm:(if (9:Int)<(e:Int) then (e:Int) - 9 else 0)=((e - 9:Nat):Int):=by
  by_cases h:(9:Int)<(e:Int)
  ·rw[if_pos h];omega
  ·rw[if_neg h];omega
 generalize e - 9=lo at *
 simp[Fg,mO,gP,Tryz.f154,az,seq1,cA,ah,af,aJ,ao,aq,aH,ag,ai,aj,an,aF,aC,FP.none,bd,au,bj,aw,bM,aa,ae,ab,bh,h71,h4,h7,hw,lZ,hm,uS,uBs,u8,dt,hs,dF,hlen,hcv,hlu,-List.map_drop,-List.map_take]
theorem KU (L:Lst)(run:ar)(k:Nat)(fr:List PV)(hp:List Blk)(wr:List Nat)(d:List Nat)(x:Nat)(hl:d.length<1000000)(h71:fr.length=71)(h8:nth fr 8 = .sc (.int .u32 (x:Int)))(hO:dI 1 hp d (nth fr 6)) :
  ∃ fr' hp' wr',af (CC L) run k (ah 2 mO) ⟨fr,hp,wr⟩=some (.normal,⟨fr',hp',wr'⟩)∧fr'.length=71∧dI 1 hp' (d++[x]) (nth fr' 6)∧aV hp' 0=aV hp 0∧nth fr' 2=nth fr 2∧nth fr' 4=nth fr 4∧nth fr' 5=nth fr 5∧nth fr' 7=nth fr 7:=by
 obtain⟨p',hp',fp,h7,h9,h10⟩:=hO.app x (Nat.lt_trans hl (by decide))
 have h11:=h10 0 (by omega)
 simp[mO,gP,Tryz.f154,az,cA,ah,af,aJ,ao,aq,aH,ag,ai,aj,an,aF,aC,FP.none,aw,aa,ae,ab,bh,and_assoc,bg,du,h71,h8,uD,s32,b32,z32,gN x,nf,mP,jt,cn,h7,h9,h11]
theorem Pr (L:Lst)(run:ar)(k:Nat)(fr:List PV)(hp:List Blk)(wr:List Nat)(e:Nat)(hl:e<9000000000000000000)(h71:fr.length=71)(h7:nth fr 7 = .sc (.int .i64 (e:Int))) :
  ∃ fr',af (CC L) run k Fh ⟨fr,hp,wr⟩=some (.normal,⟨fr',hp,wr⟩)∧fr'.length=71∧nth fr' 7 = .sc (.int .i64 ((e:Int) - 9))∧nth fr' 2=nth fr 2∧nth fr' 4=nth fr 4∧nth fr' 5=nth fr 5∧nth fr' 6=nth fr 6:=by
 have hw:=NV (e:Int) (by omega) (by omega)
 simp[Fh,gP,Tryz.f154,az,cA,af,aJ,ao,aq,aH,ag,ai,aj,an,aF,aC,FP.none,bd,au,bj,aw,aa,ae,ab,h71,h7,hw]
theorem BX (L:Lst)(run:ar)(k:Nat)(hk:10<k)(fr:List PV)(hp:List Blk)(wr:List Nat)(s:ByteArray)(e:Nat)(d:List Nat)(he0:0<e)(he:e≤(bys s).length)(hl:e<9000000000000000000)(hdl:d.length<1000000)
  (h71:fr.length=71) (h2:nth fr 2 = .ptr 0 0) (h4:nth fr 4 = .sc (.string s)) (h7:nth fr 7 = .sc (.int .i64 (e:Int))) (hO:dI 1 hp d (nth fr 6)) (hb:aV hp 0=some zW2) :
  (eH (((bys s).take e).drop (e - 9))=true∧∃ fr' hp' wr',af (CC L) run k gP ⟨fr,hp,wr⟩=some (.normal,⟨fr',hp',wr'⟩)∧fr'.length=71∧nth fr' 2 = .ptr 0 0∧nth fr' 4 = .sc (.string s)∧nth fr' 5=nth fr 5∧nth fr' 7 = .sc (.int .i64 ((e:Int) - 9))∧dI 1 hp' (d++[dec 0 (((bys s).take e).drop (e - 9))]) (nth fr' 6)∧aV hp' 0=some zW2) ∨
  (eH (((bys s).take e).drop (e - 9))=false∧∃ fr' hp' wr',af (CC L) run k gP ⟨fr,hp,wr⟩=some (.ret,⟨fr',hp',wr'⟩)∧nth fr' 2 = .ptr 0 0∧nth fr' 3 = .sc (.bool false)∧aV hp' 0=some zW2):=by
 have he':e≤(bK s).length:=by rw[← jz];exact he
 obtain⟨f1,a1,a2,a3,a4,a5,a6,a7⟩:=Ps L run k fr hp wr e he0 h71 h7
 obtain⟨f2,b1,b2,b3,b4,b5,b6,b7,b8⟩:=Pq L run k f1 hp wr a2
 obtain⟨f3,c1,c2,c3,c4,c5,c6,c7,c8,c9,c10,c11⟩:=Pp L run k f2 hp wr s e he' hl b2 (by rw[b5,a4,h4]) (by rw[b8,a7,h7])
 have hcl:(((bys s).take e).drop (e - 9)).length≤9:=by
  rw[List.length_drop,List.length_take];omega
 rcases uU L run k _ hcl hp hb (((bys s).take e).drop (e - 9)).length 0 f3 wr 0 (by omega) rfl rfl c2 c3 c4 c5 (by rw[c11,b3]) (by rw[c6,b4,a3,h2]) with ⟨hd,f4,d1,d2,d3,d4,d5,d6,d7,d8⟩| ⟨hd,f4,wr4,d1,d2,d3⟩
 ·obtain⟨f5,hp5,wr5,e1,e2,e3,e4,e5,e6,e7,e8⟩:=KU L run k f4 hp wr d _ hdl d2 d3 (by rw[d7,c9,b7,a6];exact hO)
  obtain⟨f6,g1,g2,g3,g4,g5,g6,g7⟩:=Pr L run k f5 hp5 wr5 e hl e2 (by rw[e8,d8,c10,b8,a7,h7])
  refine .inl ⟨hd,f6,hp5,wr5,?_,g2,by rw[g4,e5,d4,c6,b4,a3,h2],by rw[g5,e6,d5,c7,b5,a4,h4],by rw[g6,e7,d6,c8,b6,a5],g3,by rw[g7];exact e3,by rw[e4,hb]⟩
  have hB:af (CC L) run k mO ⟨f1,hp,wr⟩=some (.normal,⟨f5,hp5,wr5⟩):=by
   rw[aP 1 b1,sv,av ((av c1).trans (bH (ca d1 (by omega))))]
   exact e1
  rw[so,av a1,av (dW hB)]
  exact g1
 ·refine .inr ⟨hd,f4,bO hp 0 zW2,wr4,?_,d2,d3,by rw[cQ hb,if_pos rfl]⟩
  have hB:af (CC L) run k mO ⟨f1,hp,wr⟩=some (.ret,⟨f4,bO hp 0 zW2,wr4⟩):=by
   rw[aP 1 b1,sv,cB ((av c1).trans (da (ca d1 (by omega))))]
  rw[so,av a1,cB (jQ hB)]
theorem uT (L:Lst)(run:ar)(k:Nat)(hk:10<k)(s:ByteArray)(hl:(bys s).length<3000000):∀ (n e:Nat) (fr:List PV) (hp:List Blk) (wr:List Nat) (d:List Nat),e<n→0<e→e+9*d.length=(bys s).length→Dok d→eH ((bys s).drop e)=true→val d=dec 0 ((bys s).drop e) →
  fr.length=71→nth fr 2 = .ptr 0 0→nth fr 4 = .sc (.string s)→nth fr 7 = .sc (.int .i64 (e:Int))→dI 1 hp d (nth fr 6)→aV hp 0=some zW2 →
  (eH (bys s)=true∧∃ fr' hp' wr' d',cl (af (CC L) run k gP) (n+1) ⟨fr,hp,wr⟩=some (.exit 0,⟨fr',hp',wr'⟩)∧fr'.length=71∧nth fr' 2 = .ptr 0 0∧nth fr' 5=nth fr 5∧dI 1 hp' d' (nth fr' 6)∧aV hp' 0=some zW2∧Dok d'∧d'.length<1000000∧val d'=dec 0 (bys s)) ∨
  (eH (bys s)=false∧∃ fr' hp' wr',cl (af (CC L) run k gP) (n+1) ⟨fr,hp,wr⟩=some (.ret,⟨fr',hp',wr'⟩)∧nth fr' 2 = .ptr 0 0∧nth fr' 3 = .sc (.bool false)∧aV hp' 0=some zW2)
 | 0,e,fr,hp,wr,d,hn,_,_,_,_,_,_,_,_,_,_,_=>by omega
 | n+1,e,fr,hp,wr,d,hn,he0,hed,hd,hdg,hv,h71,h2,h4,h7,hO,hb=>by
  have hsp:=wE (bys s) (e - 9) e (by omega) (by omega)
  have hcl:(((bys s).take e).drop (e - 9)).length≤9:=by
   rw[List.length_drop,List.length_take];omega
  rcases BX L run k hk fr hp wr s e d he0 (by omega) (by omega) (by omega) h71 h2 h4 h7 hO hb with ⟨hc,f1,hp1,wr1,a1,a2,a3,a4,a5,a6,a7,a8⟩| ⟨hc,f1,hp1,wr1,a1,a2,a3,a4⟩
  ·have hx:dec 0 (((bys s).take e).drop (e - 9))<1000000000:=by
    have h1:=dec_lt _ hc
    have h2:=Nat.pow_le_pow_right (n:=10) (by omega) hcl
    have h3:(10:Nat) ^ 9=1000000000:=by decide
    omega
   have hd':Dok (d++[dec 0 (((bys s).take e).drop (e - 9))]):=hd.append (Dok.nil.cons hx)
   have hdg':eH ((bys s).drop (e - 9))=true:=by rw[hsp,fS,hc,hdg];rfl
   have hv':val (d++[dec 0 (((bys s).take e).drop (e - 9))])=dec 0 ((bys s).drop (e - 9)):=by
    have hacc:=Jj (dec 0 (((bys s).take e).drop (e - 9))) ((bys s).drop e)
    rw[List.length_drop,show (bys s).length - e=9*d.length by omega,Nat.pow_mul,show (10:Nat) ^ 9=1000000000 by decide] at hacc
    rw[dG,hsp,mg,hacc,hv,Nat.mul_comm,Nat.add_comm]
   rw[ch a1]
   by_cases h9:e≤9
   ·obtain⟨f2,b1,b2,b3,b4,b5⟩:=KR L run k f1 hp1 wr1 ((e:Int) - 9) (by omega) a2 a6
    rw[show e - 9=0 by omega,List.drop_zero] at hdg'
    have hv2:dec 0 ((bys s).drop (e - 9))=dec 0 (bys s):=by rw[show e - 9=0 by omega,List.drop_zero]
    rw[hv2] at hv'
    exact .inl ⟨hdg',f2,hp1,wr1,_,bD b1,b2,by rw[b3,a3],by rw[b4,a5],by rw[b5];exact a7,a8,hd',by simp;omega,hv'⟩
   ·have:=uT L run k hk s hl n (e - 9) f1 hp1 wr1 _ (by omega) (by omega) (by simp;omega) hd' hdg' hv' a2 a3 a4 (by rw[a6];congr 3;omega) a7 a8
    rcases this with ⟨q0,f2,hp2,wr2,d2,q1,q2,q3,q4,q5⟩| q
    ·exact .inl ⟨q0,f2,hp2,wr2,d2,q1,q2,q3,by rw[q4,a5],q5⟩
    ·exact .inr q
  ·refine .inr ⟨?_,f1,hp1,wr1,eF a1,a2,a3,a4⟩
   have h1:=wE (bys s) 0 (e - 9) (by omega) (by omega)
   rw[List.drop_zero,List.drop_zero] at h1
   rw[h1,fS,hsp,fS,hc]
   simp
noncomputable def L8:Lst:=[(152,fv),(170,ko)]
theorem afw:dL base.P L8:=⟨je,TU,trivial⟩
theorem abS:bw L8 170=fun a=>ko (aK a):=rfl
theorem Ni (run:ar)(dr:Bool)(hp:List Blk)(s p:ByteArray):cg (CC L8) run dr hp 170 [.sc (.string s),.sc (.string p)]=some (iO (gI s p),hp,⟨[],[],false,false⟩) :=
 bu J9 abS run dr hp _ (gI s p) rfl rfl rfl
theorem AL (run:ar)(dr:Bool)(hp:List Blk)(n:Bool)(l:List Nat)(p:PV)(hd:Dok l)(hl:l.length<1000000)(hO:dI 1 hp l p) :
  ∃ hp' ids,cg (CC L8) run dr hp 152 [.sc (.bool n),p]=some (bq (sgn n (val l)),hp',⟨ids,ids,false,false⟩)∧aV hp' 0=aV hp 0:=by
 obtain⟨q,ids,h1,h2,h3⟩:=hO.arg n
 have h4:(CC L8).orc 152 [.sc (.bool n),q]=some [bq (sgn n (val l))]:=by
  show fv (aK [.sc (.bool n),q])=_
  rw[h2]
  simp only[fv,cX hd hl]
 exact⟨roB hp ids,ids,eI nQ h1 h4 rfl,h3 0 (by omega)⟩
noncomputable def z7:Code:=ah 5 gE
theorem KQ (run:ar)(k:Nat)(fr:List PV)(hp:List Blk)(wr:List Nat)(n:Bool)(d:List Nat)(hd:Dok d)(hl:d.length<1000000)(h71:fr.length=71)(h2:nth fr 2 = .ptr 0 0)(h5:nth fr 5 = .sc (.bool n))(hO:dI 1 hp d (nth fr 6))(hb:aV hp 0=some zW2) :
  ∃ st,af (CC L8) run k z7 ⟨fr,hp,wr⟩=some (.ret,st)∧aZ TT st.fr st.hp Tryz.f154.results.toList=some [bq (sgn n (val d)),.sc (.bool true)]:=by
 obtain⟨hp',ids,hc,h3⟩:=AL run false hp n d _ hd hl hO
 rw[hb] at h3
 simp only[whW] at hc ⊢
 generalize aG (sgn n (val d)).natAbs=r at *
 generalize bx (sgn n (val d))=nn at *
 have hn:aV (bO hp' 0 ⟨.live,[.sc (.bool nn),aM r]⟩) 0=some ⟨.live,[.sc (.bool nn),aM r]⟩:=by rw[cQ h3,if_pos rfl]
 simp[z7,gE,Tryz.f154,ah,af,aJ,ao,aq,aH,ag,ai,aQ,aj,an,aF,aC,FP.none,aw,partOf,aa,ae,ab,bh,bn,bX,bC,bg,h71,h2,h5,hc,h3,sW,aW,cj,aZ,aU,hn,br,bG]
noncomputable def Fj:Code:=seq1 (seq1 (ah 4 gE))
theorem uQ:ah 4 gE = .seq (.seq Fj (.block 0 (.loop gP))) z7:=rfl
noncomputable def lN:Code:=seq1 (ah 2 gE)
theorem sk:ah 2 gE = .seq lN (ah 3 gE):=rfl
def oX (s:ByteArray):ByteArray:=bif iJ [45] (bK s) then mkStr ((bK s).drop 1) else s
def wM (s:ByteArray):Bool:=iJ [45] (bK s)
theorem Po (run:ar)(k:Nat)(s:ByteArray) :
  ∃ fr wr,aY (CC L8) run k 2 gE ⟨entry 71 [.sc (.string s)],[],[]⟩=some ⟨fr,[zW2],wr⟩∧fr.length=71∧nth fr 2 = .ptr 0 0∧nth fr 4 = .sc (.string (oX s))∧nth fr 5 = .sc (.bool (wM s)):=by
 obtain⟨e1,e2⟩:=cW 70 (.sc (.string s))
 generalize entry 71 [.sc (.string s)]=fr0 at *
 have hc:=fun dr hp=>Ni run dr hp s { data:=#[45] }
 rw[show gI s { data:=#[45] } = bif iJ [45] (bK s) then [.sc (.string (mkStr ((bK s).drop 1))),.sc (.bool true)] else [.sc (.string s),.sc (.bool false)] from rfl] at hc
 unfold oX wM
 cases h:iJ [45] (bK s) <;> rw[h] at hc <;> simp only[cond_true,cond_false,iO] at hc ⊢ <;> simp[gE,Tryz.f154,aY,e1,e2,af,aJ,ao,aq,aH,ag,ai,aQ,aj,an,aF,aC,FP.none,aw,aa,ae,ab,bh,and_assoc,zW,aO,hc]
def oG (n:Bool):List UInt8→Bool
 | []=>true
 | [a]=>a.toNat.beq 48 && n
 | a::_=>a.toNat.beq 48
set_option maxHeartbeats 1000000 in
theorem Wv (L:Lst)(run:ar)(k:Nat)(fr:List PV)(wr:List Nat)(s:ByteArray)(n:Bool)(h71:fr.length=71)(h2:nth fr 2 = .ptr 0 0)(h4:nth fr 4 = .sc (.string s))(h5:nth fr 5 = .sc (.bool n)) :
  (oG n (bK s)=true∧∃ fr' wr',af (CC L) run k lN ⟨fr,[zW2],wr⟩=some (.ret,⟨fr',[zW2],wr'⟩)∧nth fr' 2 = .ptr 0 0∧nth fr' 3 = .sc (.bool false)) ∨
  (oG n (bK s)=false∧∃ fr',af (CC L) run k lN ⟨fr,[zW2],wr⟩=some (.normal,⟨fr',[zW2],wr⟩)∧fr'.length=71∧nth fr' 2 = .ptr 0 0∧nth fr' 4 = .sc (.string s)∧nth fr' 5 = .sc (.bool n)):=by
 have hes:bK { data:=#[] } = []:=rfl
 have hidx:∀ a l,bK s=a::l→hZ TT 9 (.sc (.string s)) (.sc (.int .i64 0))=some (.sc (.int .u8 (a.toNat:Int))):=by
  intro a l e
  simp[hZ,uS,jA,e,CH]
 have hz:aV [zW2] 0=some zW2:=rfl
 have hset:bO [zW2] 0 zW2=[zW2]:=rfl
 rcases hS:bK s with _ | ⟨a,_ | ⟨b,l⟩⟩
 ·refine .inl ⟨rfl,?_⟩
  simp[undef,lN,gE,Tryz.f154,ah,seq1,af,aJ,ao,aq,aH,ag,ai,aj,an,aF,aC,FP.none,bd,aw,aa,ae,ab,bh,and_assoc,bn,bC,fw,bg,h71,h2,h4,fl,hS,hes,eqL,uW,sB,sD,sW,zW,eN,dR,wf0,wf1,cj,aV,bO]
 ·have hi:=hidx a [] hS
  by_cases ha:a.toNat=48
  ·have ha':((a.toNat:Int) == 48)=true:=by rw[ha];rfl
   have hab:a.toNat.beq 48=true:=by rw[ha];rfl
   cases n with
   | true =>
    refine .inl ⟨by simp[oG,ha],?_⟩
    simp[undef,lN,gE,Tryz.f154,ah,seq1,af,aJ,ao,aq,aH,ag,ai,aj,an,aF,aC,FP.none,bd,au,bj,aw,bM,aa,ae,ab,bh,and_assoc,bn,bC,fw,bg,h71,h2,h4,h5,fl,hS,hes,eqL,hi,ha',uS,uW,sB,sD,sW,zW,eN,dR,wf0,wf1,cj,aV,bO]
   | false =>
    refine .inr ⟨by simp[oG],?_⟩
    simp[lN,gE,Tryz.f154,ah,seq1,af,aJ,ao,aq,aH,ag,ai,aj,an,aF,aC,FP.none,bd,au,bj,aw,bM,aa,ae,ab,bh,h71,h2,h4,h5,fl,hS,hes,eqL,hi,ha',uS]
  ·have ha':((a.toNat:Int) == 48)=false:=by simp;omega
   have hab:a.toNat.beq 48=false:=by
    cases e:a.toNat.beq 48 with
    | false=>rfl
    | true=>exact absurd (Nat.eq_of_beq_eq_true e) ha
   refine .inr ⟨by simp[oG,hab],?_⟩
   simp[undef,lN,gE,Tryz.f154,ah,seq1,af,aJ,ao,aq,aH,ag,ai,aj,an,aF,aC,FP.none,bd,au,bj,aw,aa,ae,ab,bh,h71,h2,h4,h5,fl,hS,hes,eqL,hi,ha']
 ·have hi:=hidx a (b::l) hS
  by_cases ha:a.toNat=48
  ·have ha':((a.toNat:Int) == 48)=true:=by rw[ha];rfl
   refine .inl ⟨by simp[oG,ha],?_⟩
   have hlen:(1:Int)<(l.length:Int)+1+1:=by omega
   simp[undef,lN,gE,Tryz.f154,ah,seq1,af,aJ,ao,aq,aH,ag,ai,aj,an,aF,aC,FP.none,bd,au,bj,aw,bM,aa,ae,ab,bh,and_assoc,bn,bC,fw,bg,h71,h2,h4,fl,hS,hes,eqL,hi,ha',hlen,uS,uW,sB,sD,sW,zW,eN,dR,wf0,wf1,cj,aV,bO]
  ·have ha':((a.toNat:Int) == 48)=false:=by simp;omega
   have hab:a.toNat.beq 48=false:=by
    cases e:a.toNat.beq 48 with
    | false=>rfl
    | true=>exact absurd (Nat.eq_of_beq_eq_true e) ha
   refine .inr ⟨by simp[oG,hab],?_⟩
   simp[undef,lN,gE,Tryz.f154,ah,seq1,af,aJ,ao,aq,aH,ag,ai,aj,an,aF,aC,FP.none,bd,au,bj,aw,aa,ae,ab,bh,h71,h2,h4,h5,fl,hS,hes,eqL,hi,ha']
theorem Pm (L:Lst)(run:ar)(k:Nat)(fr:List PV)(hp:List Blk)(wr:List Nat)(s:ByteArray)(n:Bool)(h71:fr.length=71)(h2:nth fr 2 = .ptr 0 0)(h4:nth fr 4 = .sc (.string s))(h5:nth fr 5 = .sc (.bool n)) :
  ∃ f1 fr',aY (CC L) run k 1 (ah 3 gE) ⟨fr,hp,wr⟩=some ⟨f1,hp,wr⟩∧af (CC L) run k Fj ⟨f1,hp,wr⟩=some (.normal,⟨fr',hp,wr⟩)∧fr'.length=71∧nth fr' 2 = .ptr 0 0∧nth fr' 4 = .sc (.string s)∧nth fr' 5 = .sc (.bool n)∧nth fr' 6 = .sc (.slice none 0 0)∧nth fr' 7 = .sc (.int .i64 ((bys s).length:Int)):=by
 rw[jz]
 refine⟨fm fr 6 (.sc (.slice none 0 0)),?_⟩
 simp[Fj,gE,Tryz.f154,ah,seq1,aY,af,aJ,ao,aq,aH,ag,ai,aj,an,aF,aC,FP.none,aw,bM,aa,ae,ab,bh,h71,h2,h4,h5,uS]
def gH (s:ByteArray):Option Int :=
 bif oG (wM s) (bK (oX s)) then none else bif eH (bys (oX s)) then some (sgn (wM s) (dec 0 (bys (oX s)))) else none
def x9:List PV→Option (List PV)
 | [.sc (.string s)]=>bif (bys s).length.blt 3000000 then (match gH s with
  | some z=>some [bq z,.sc (.bool true)]
  | none=>some [bq 0,.sc (.bool false)]) else none
 | _=>none
theorem BW (fr:List PV)(hp:List Blk)(h2:nth fr 2 = .ptr 0 0)(h3:nth fr 3 = .sc (.bool false))(hb:aV hp 0=some zW2):aZ TT fr hp Tryz.f154.results.toList=some [.agg [.sc (.bool false),.sc (.slice none 0 0)],.sc (.bool false)]:=by
 simp[Tryz.f154,aZ,h2,h3,hb,aU,br,partOf,aW,sW,bG]
theorem abI (hp:List Blk)(x:Int)(b:Bool):bt (snap hp bp) [bq x,.sc (.bool b)]=some ([bq x,.sc (.bool b)],[]):=rfl
theorem ZP (s:ByteArray):(bys (oX s)).length≤(bys s).length:=by
 unfold oX
 cases iJ [45] (bK s) with
 | false=>exact Nat.le_refl _
 | true =>
  rw[cond_true,jz,ff,jz,List.length_drop]
  omega
theorem Nr {n:Bool}{s:ByteArray}(h:oG n (bK s)=false):0<(bys s).length:=by
 rw[jz]
 cases e:bK s with
 | nil=>rw[e] at h;cases h
 | cons a l=>simp
theorem KP:Ab.Spec base.P 154 x9:=Ab.Spec.bQ (C:=CC L8) (cV afw) fun args rs h=>by
 unfold x9 at h
 split at h
 ·rename_i s
  cases hb:(bys s).length.blt 3000000 with
  | false=>rw[hb] at h;cases h
  | true =>
   rw[hb] at h
   rw[Nat.blt_eq] at hb
   simp only[cond_true] at h
   have hcl:=ZP s
   obtain⟨f1,wr1,a1,a2,a3,a4,a5⟩:=Po (runK (CC L8) 3000001) 3000001 s
   rcases Wv L8 (runK (CC L8) 3000001) 3000001 f1 wr1 (oX s) (wM s) a2 a3 a4 a5 with ⟨hbad,f2,wr2,b1,b2,b3⟩| ⟨hbad,f2,b1,b2,b3,b4,b5⟩
   ·have hr:gH s=none:=by unfold gH;rw[hbad];rfl
    rw[hr] at h
    simp only[Option.some.injEq] at h
    subst h
    have hx:af (CC L8) (runK (CC L8) 3000001) 3000001 gE ⟨entry 71 [.sc (.string s)],[],[]⟩=some (.ret,⟨f2,[zW2],wr2⟩):=by
     rw[aP 2 a1,sk,cB b1]
    exact⟨3000002,_,_,_,[.agg [.sc (.bool false),.sc (.slice none 0 0)],.sc (.bool false)],[],aX rW rfl hx (BW f2 _ b2 b3 rfl),rfl,Wk.agg ⟨Wk.refl rfl,Wk.nil false,trivial⟩,Wk.refl rfl,trivial⟩
   ·obtain⟨f3,f4,c1,c2,c3,c4,c5,c6,c7,c8⟩:=Pm L8 (runK (CC L8) 3000001) 3000001 f2 [zW2] wr1 (oX s) (wM s) b2 b3 b4 b5
    have hpos:=Nr hbad
    have hx0:af (CC L8) (runK (CC L8) 3000001) 3000001 gE ⟨entry 71 [.sc (.string s)],[],[]⟩=af (CC L8) (runK (CC L8) 3000001) 3000001 (ah 4 gE) ⟨f3,[zW2],wr1⟩:=by
     rw[aP 2 a1,sk,av b1,aP 1 c1];rfl
    rcases uT L8 (runK (CC L8) 3000001) 3000001 (by omega) (oX s) (by omega) ((bys (oX s)).length+1) (bys (oX s)).length f4 [zW2] wr1 [] (by omega) hpos (by simp) Dok.nil (by rw[List.drop_length];rfl) (by rw[List.drop_length];rfl) c3 c4 c5 c8 (by rw[c7];exact dI.nil (by simp)) rfl with ⟨hd,f5,hp5,wr5,d5,g1,g2,g3,g4,g5,g6,g7,g8,g9⟩| ⟨hd,f5,hp5,wr5,g1,g2,g3,g4⟩
    ·have hr:gH s=some (sgn (wM s) (dec 0 (bys (oX s)))):=by unfold gH;rw[hbad,hd];rfl
     rw[hr] at h
     simp only[Option.some.injEq] at h
     subst h
     obtain⟨st,e1,e2⟩:=KQ (runK (CC L8) 3000001) 3000001 f5 hp5 wr5 (wM s) d5 g7 g8 g2 g3 (by rw[g4,c6]) g5 g6
     rw[g9] at e2
     have hx:af (CC L8) (runK (CC L8) 3000001) 3000001 gE ⟨entry 71 [.sc (.string s)],[],[]⟩=some (.ret,st):=by
      rw[hx0,uQ,av ((av c2).trans (bH (ca g1 (by omega))))]
      exact e1
     exact⟨3000002,_,_,_,_,_,aX rW rfl hx e2,abI _ _ _,Wk.refl rfl,Wk.refl rfl,trivial⟩
    ·have hr:gH s=none:=by unfold gH;rw[hbad,hd];rfl
     rw[hr] at h
     simp only[Option.some.injEq] at h
     subst h
     have hx:af (CC L8) (runK (CC L8) 3000001) 3000001 gE ⟨entry 71 [.sc (.string s)],[],[]⟩=some (.ret,⟨f5,hp5,wr5⟩):=by
      rw[hx0,uQ,cB ((av c2).trans (da (ca g1 (by omega))))]
     exact⟨3000002,_,_,_,[.agg [.sc (.bool false),.sc (.slice none 0 0)],.sc (.bool false)],[],aX rW rfl hx (BW f5 _ g2 g3 g4),rfl,Wk.agg ⟨Wk.refl rfl,Wk.nil false,trivial⟩,Wk.refl rfl,trivial⟩
 ·cases h
end Go.Proofs.YtjdmodeenbdfpaaGreat
