/- Contracts of num's integers, part 26 of the proof; each lemma states its own conditions. -/
import Derived.Test.YtjdmodeenbdfpaaGreatQ25
set_option linter.unusedSimpArgs false
set_option linter.unusedVariables false
namespace Go.Proofs.YtjdmodeenbdfpaaGreat
open Go Go.Ab
noncomputable def gD:Code:=Tryz.f154.body.getD .skip
noncomputable def gP:Code:=((Tryz.f154.body).bind aF).getD .skip
noncomputable def oc:Code:=(aF gP).getD .skip
theorem Lz (L:Lst)(run:aq)(k:Nat)(fr:List PV)(hp:List Blk)(wr:List Nat)(n:Nat)(h71:fr.length=71)(h45:nth fr 45 = .sc (.int .i64 (n:Int)))(h46:nth fr 46 = .sc (.int .i64 (n:Int))) :
  ∃ fr',af (CC L) run k oc ⟨fr,hp,wr⟩=some (.exit 2,⟨fr',hp,wr⟩)∧fr'.length=71∧nth fr' 2=nth fr 2∧nth fr' 4=nth fr 4∧nth fr' 5=nth fr 5∧nth fr' 6=nth fr 6∧nth fr' 7=nth fr 7∧nth fr' 8=nth fr 8:=by
 simp[oc,gP,Tryz.f154,aF,af,aH,an,ao,aG,ag,ai,aj,ak,aC,az,FP.none,aY,au,bf,aa,ae,ab,h71,h45,h46]
set_option maxHeartbeats 1000000 in
theorem P5 (L:Lst)(run:aq)(k:Nat)(fr:List PV)(hp:List Blk)(wr:List Nat)(c:List Nat)(i x x':Nat)(hi:i<c.length)(hl:c.length≤9)(hx:x<10 ^ i)(hd:kZ c[i]=true)(hx':x'=10*x+dv c[i])
  (h71:fr.length=71) (h44:nth fr 44=wS c) (h45:nth fr 45 = .sc (.int .i64 (c.length:Int))) (h46:nth fr 46 = .sc (.int .i64 (i:Int))) (h8:nth fr 8 = .sc (.int .u32 (x:Int))) :
  ∃ fr',af (CC L) run k oc ⟨fr,hp,wr⟩=some (.normal,⟨fr',hp,wr⟩)∧fr'.length=71∧nth fr' 44=wS c∧nth fr' 45 = .sc (.int .i64 (c.length:Int))∧nth fr' 46 = .sc (.int .i64 ((i+1:Nat):Int))∧nth fr' 8 = .sc (.int .u32 (x':Int))∧nth fr' 2=nth fr 2∧nth fr' 4=nth fr 4∧nth fr' 5=nth fr 5∧nth fr' 6=nth fr 6∧nth fr' 7=nth fr 7:=by
 have hh:=aaH c i hi
 rw[dx] at hd
 generalize c[i]=b at *
 have e1:wS c = .imm c.length false (c.map u8v):=rfl
 rw[e1] at h44 ⊢
 have hx9:x<1000000000:=Nat.lt_of_lt_of_le hx (Nat.le_trans (Nat.pow_le_pow_right (by omega) (show i≤8 by omega)) (by decide))
 have hx8:x<100000000:=Nat.lt_of_lt_of_le hx (Nat.le_trans (Nat.pow_le_pow_right (by omega) (show i≤8 by omega)) (by decide))
 obtain⟨s1,hs1⟩:∃ s1,s1=10*x:=⟨_,rfl⟩
 obtain⟨s2,hs2⟩:∃ s2,s2=dv b:=⟨_,rfl⟩
 rw[← hs1,← hs2] at hx'
 have hs3:b=s2+48:=by rw[hs2];unfold dv;omega
 have hw1:=IG .u32 x s1 hs1 (im (by omega))
 have hw2:=Ak .u8 b s2 hs3 (show s2≤255 by omega)
 have hw3:bA .u32 (s2:Int)=(s2:Int):=ch .u32 s2 (im (by omega))
 have hw4:=dq .u32 s1 s2 x' hx' (im (by omega))
 have hwi:=bJ i (by omega)
 have hb1 : ¬ ((b:Int)<48):=by omega
 have hb2 : ¬ ((57:Int)<b):=by omega
 simp[oc,gP,Tryz.f154,aF,af,aH,an,ao,aG,ag,ai,aj,ak,aC,az,FP.none,aY,au,bf,av,bg,bk,partOf,aa,ae,ab,bh,h71,h44,h45,h46,h8,uBs,u8,u32,s8,a8,dy,hi,hh,aU,hw1,hw2,hw3,hw4,hwi,hb1,hb2]
set_option maxHeartbeats 1000000 in
theorem LA (L:Lst)(run:aq)(k:Nat)(fr:List PV)(hp:List Blk)(wr:List Nat)(c:List Nat)(i:Nat)(hi:i<c.length)(hd:kZ c[i]=false)
  (hb:aZ hp 0=some zW2)
  (h71:fr.length=71) (h44:nth fr 44=wS c) (h45:nth fr 45 = .sc (.int .i64 (c.length:Int))) (h46:nth fr 46 = .sc (.int .i64 (i:Int))) (h2:nth fr 2 = .ptr 0 0) :
  ∃ fr' wr',af (CC L) run k oc ⟨fr,hp,wr⟩=some (.ret,⟨fr',cf hp 0 zW2,wr'⟩)∧nth fr' 2 = .ptr 0 0∧nth fr' 3 = .sc (.bool false):=by
 have hh:=aaH c i hi
 generalize c[i]=b at *
 have e1:wS c = .imm c.length false (c.map u8v):=rfl
 rw[e1] at h44
 have hd':(b:Int)<48∨(57:Int)<b:=by
  have : ¬ (48≤b∧b≤57):=fun h=>by rw[dx.2 h] at hd;cases hd
  omega
 by_cases hb1:(b:Int)<48
 ·simp[oc,gP,Tryz.f154,aF,af,aH,an,ao,aG,ag,ai,aj,ak,aC,az,FP.none,aY,au,bf,av,bg,bk,partOf,aa,ae,ab,bh,and_assoc,bm,bD,fw,bc,h71,h44,h45,h46,h2,uBs,uW,sB,sD,sW,zW,wf0,wf1,s8,a8,hi,hh,aU,hb1,hb,eJ,dn,bX]
 ·have hb2:(57:Int)<b:=by omega
  simp[oc,gP,Tryz.f154,aF,af,aH,an,ao,aG,ag,ai,aj,ak,aC,az,FP.none,aY,au,bf,av,bg,bk,partOf,aa,ae,ab,bh,and_assoc,bm,bD,fw,bc,h71,h44,h45,h46,h2,uBs,uW,sB,sD,sW,zW,wf0,wf1,s8,a8,hi,hh,aU,hb1,hb2,hb,eJ,dn,bX]
theorem vf (L:Lst)(run:aq)(k:Nat)(c:List Nat)(hl:c.length≤9)(hp:List Blk)(hb:aZ hp 0=some zW2):∀ (n i:Nat) (fr:List PV) (wr:List Nat) (x:Nat),i+n=c.length→eI (c.take i)=true→x=dec 0 (c.take i) →
  fr.length=71→nth fr 44=wS c→nth fr 45 = .sc (.int .i64 (c.length:Int))→nth fr 46 = .sc (.int .i64 (i:Int))→nth fr 8 = .sc (.int .u32 (x:Int))→nth fr 2 = .ptr 0 0 →
  (eI c=true∧∃ fr',ca (af (CC L) run k oc) (n+1) ⟨fr,hp,wr⟩=some (.exit 2,⟨fr',hp,wr⟩)∧fr'.length=71∧nth fr' 8 = .sc (.int .u32 (dec 0 c:Int))∧nth fr' 2=nth fr 2∧nth fr' 4=nth fr 4∧nth fr' 5=nth fr 5∧nth fr' 6=nth fr 6∧nth fr' 7=nth fr 7) ∨
  (eI c=false∧∃ fr' wr',ca (af (CC L) run k oc) (n+1) ⟨fr,hp,wr⟩=some (.ret,⟨fr',cf hp 0 zW2,wr'⟩)∧nth fr' 2 = .ptr 0 0∧nth fr' 3 = .sc (.bool false))
 | 0,i,fr,wr,x,hi,hd,hx,h71,h44,h45,h46,h8,h2=>by
  have:i=c.length:=by omega
  subst this
  rw[List.take_length] at hd hx
  obtain⟨fr',g1,g2,g3,g4,g5,g6,g7,g8⟩:=Lz L run k fr hp wr c.length h71 h45 h46
  exact .inl ⟨hd,fr',bz g1,g2,by rw[g8,h8,hx],g3,g4,g5,g6,g7⟩
 | n+1,i,fr,wr,x,hi,hd,hx,h71,h44,h45,h46,h8,h2=>by
  have hic:i<c.length:=by omega
  cases hdb:kZ c[i] with
  | true =>
   have hxl:x<10 ^ i:=by
    have:=dec_lt _ hd
    rw[List.length_take,Nat.min_eq_left (by omega)] at this
    omega
   obtain⟨fr1,g1,g2,g3,g4,g5,g6,g7,g8,g9,g10,g11⟩:=P5 L run k fr hp wr c i x _ hic hl hxl hdb rfl h71 h44 h45 h46 h8
   have ht:c.take (i+1)=c.take i++[c[i]]:=List.take_succ_eq_append_getElem hic
   have:=vf L run k c hl hp hb n (i+1) fr1 wr (10*x+dv c[i]) (by omega) (by rw[ht,fX,hd];simp[eI,hdb]) (by rw[ht,lS,← hx];rfl) g2 g3 g4 g5 g6 (by rw[g7,h2])
   rw[bU g1]
   rcases this with ⟨h9,fr',q1,q2,q3,q4,q5,q6,q7,q8⟩| h9
   ·exact .inl ⟨h9,fr',q1,q2,q3,by rw[q4,g7],by rw[q5,g8],by rw[q6,g9],by rw[q7,g10],by rw[q8,g11]⟩
   ·exact .inr h9
  | false =>
   obtain⟨fr1,wr1,g1,g2,g3⟩:=LA L run k fr hp wr c i hic hdb hb h71 h44 h45 h46 h2
   refine .inr ⟨?_,fr1,wr1,eH g1,g2,g3⟩
   have:c=c.take i++c[i]::c.drop (i+1):=by rw[← List.drop_eq_getElem_cons hic,List.take_append_drop]
   rw[this,fX,hd,eI,hdb];rfl
noncomputable def mu:Code:=match cB gP with | .seq (.block _ c) _=>c | c=>c
noncomputable def Gc:Code:=seq1 gP
noncomputable def Gb:Code:=cB (cB gP)
theorem sh:gP = .seq Gc (.seq (.block 1 mu) Gb):=rfl
noncomputable def Ga:Code:=seq1 (seq1 (ah 1 mu))
theorem sj:ah 1 mu = .seq (.seq Ga (.block 2 (.loop oc))) (ah 2 mu):=rfl
theorem Ly (L:Lst)(run:aq)(k:Nat)(fr:List PV)(hp:List Blk)(wr:List Nat)(e:Int)(he:e≤0)(h71:fr.length=71)(h7:nth fr 7 = .sc (.int .i64 e)) :
  ∃ fr',af (CC L) run k gP ⟨fr,hp,wr⟩=some (.exit 0,⟨fr',hp,wr⟩)∧fr'.length=71∧nth fr' 2=nth fr 2∧nth fr' 5=nth fr 5∧nth fr' 6=nth fr 6:=by
 have h1 : ¬ (0<e):=by omega
 simp[gP,Tryz.f154,aF,af,aH,an,ao,aG,ag,ai,aj,ak,aC,az,FP.none,aY,au,bf,av,aa,ae,ab,h71,h7,h1]
theorem P4 (L:Lst)(run:aq)(k:Nat)(fr:List PV)(hp:List Blk)(wr:List Nat)(e:Nat)(he:0<e)(h71:fr.length=71)(h7:nth fr 7 = .sc (.int .i64 (e:Int))) :
  ∃ fr',af (CC L) run k Gc ⟨fr,hp,wr⟩=some (.normal,⟨fr',hp,wr⟩)∧fr'.length=71∧nth fr' 2=nth fr 2∧nth fr' 4=nth fr 4∧nth fr' 5=nth fr 5∧nth fr' 6=nth fr 6∧nth fr' 7=nth fr 7:=by
 simp[Gc,gP,Tryz.f154,aF,seq1,af,aH,an,ao,aG,ag,ai,aj,ak,aC,az,FP.none,aY,au,bf,av,aa,ae,ab,h71,h7,he]
theorem P2 (L:Lst)(run:aq)(k:Nat)(fr:List PV)(hp:List Blk)(wr:List Nat)(h71:fr.length=71) :
  ∃ fr',aX (CC L) run k 1 mu ⟨fr,hp,wr⟩=some ⟨fr',hp,wr⟩∧fr'.length=71∧nth fr' 8 = .sc (.int .u32 (0:Nat))∧nth fr' 2=nth fr 2∧nth fr' 4=nth fr 4∧nth fr' 5=nth fr 5∧nth fr' 6=nth fr 6∧nth fr' 7=nth fr 7:=by
 simp[mu,gP,Tryz.f154,aF,cB,aX,af,aH,an,ao,aG,ag,ai,aj,ak,aC,az,FP.none,av,aa,ae,ab,h71]
set_option maxHeartbeats 1000000 in
theorem P1 (L:Lst)(run:aq)(k:Nat)(fr:List PV)(hp:List Blk)(wr:List Nat)(s:ByteArray)(e:Nat)(he:e≤(bH s).length)(hl:e<9000000000000000000)(h71:fr.length=71)(h4:nth fr 4 = .sc (.string s))(h7:nth fr 7 = .sc (.int .i64 (e:Int))) :
  ∃ fr',af (CC L) run k Ga ⟨fr,hp,wr⟩=some (.normal,⟨fr',hp,wr⟩)∧fr'.length=71∧nth fr' 44=wS (((bys s).take e).drop (e - 9))∧nth fr' 45 = .sc (.int .i64 ((((bys s).take e).drop (e - 9)).length:Int))∧nth fr' 46 = .sc (.int .i64 (0:Nat))
   ∧ nth fr' 2=nth fr 2∧nth fr' 4=nth fr 4∧nth fr' 5=nth fr 5∧nth fr' 6=nth fr 6∧nth fr' 7=nth fr 7∧nth fr' 8=nth fr 8:=by
 have hw:=Ow (e:Int) (by omega) (by omega)
 have hb:((bys s).take e).drop (e - 9)=(((bH s).take e).drop (e - 9)).map UInt8.toNat:=by
  simp[bys,List.map_take,List.map_drop]
 have hs:=KS s (e - 9) e (by omega) he
 have hcv:=Ur (((bH s).take e).drop (e - 9))
 rw[hb]
 generalize (((bH s).take e).drop (e - 9))=c at *
 have hlen:(bH (mkStr c)).length=(c.map UInt8.toNat).length:=by rw[fg];simp
 have he1:wS (c.map UInt8.toNat) = .imm (c.map UInt8.toNat).length false ((c.map UInt8.toNat).map u8v):=rfl
 rw[hlen] at hcv
 generalize c.map UInt8.toNat=d at *
 have hlu:dQ (wS d)=some d.length:=rfl
 have hm:(if (9:Int)<(e:Int) then (e:Int) - 9 else 0)=((e - 9:Nat):Int):=by
  by_cases h:(9:Int)<(e:Int)
  ·rw[if_pos h];omega
  ·rw[if_neg h];omega
 generalize e - 9=lo at *
 simp[Ga,mu,gP,Tryz.f154,aF,seq1,cB,ah,af,aH,an,ao,aG,ag,ai,aj,ak,aC,az,FP.none,aY,au,bf,av,bK,aa,ae,ab,bh,h71,h4,h7,hw,kq,hm,uS,uBs,u8,dC,hs,dy,hlen,hcv,hlu,-List.map_drop,-List.map_take]
theorem LB (L:Lst)(run:aq)(k:Nat)(fr:List PV)(hp:List Blk)(wr:List Nat)(d:List Nat)(x:Nat)(hl:d.length<1000000)(h71:fr.length=71)(h8:nth fr 8 = .sc (.int .u32 (x:Int)))(hO:dE 1 hp d (nth fr 6)) :
  ∃ fr' hp' wr',af (CC L) run k (ah 2 mu) ⟨fr,hp,wr⟩=some (.normal,⟨fr',hp',wr'⟩)∧fr'.length=71∧dE 1 hp' (d++[x]) (nth fr' 6)∧aZ hp' 0=aZ hp 0∧nth fr' 2=nth fr 2∧nth fr' 4=nth fr 4∧nth fr' 5=nth fr 5∧nth fr' 7=nth fr 7:=by
 obtain⟨p',hp',fp,h7,h9,h10⟩:=hO.app x (Nat.lt_trans hl (by decide))
 have h11:=h10 0 (by omega)
 simp[mu,gP,Tryz.f154,aF,cB,ah,af,aH,an,ao,aG,ag,ai,aj,ak,aC,az,FP.none,av,aa,ae,ab,bh,and_assoc,bc,dj,h71,h8,uD,s32,b32,z32,gM x,mM,mv,jk,bZ,h7,h9,h11]
theorem P3 (L:Lst)(run:aq)(k:Nat)(fr:List PV)(hp:List Blk)(wr:List Nat)(e:Nat)(hl:e<9000000000000000000)(h71:fr.length=71)(h7:nth fr 7 = .sc (.int .i64 (e:Int))) :
  ∃ fr',af (CC L) run k Gb ⟨fr,hp,wr⟩=some (.normal,⟨fr',hp,wr⟩)∧fr'.length=71∧nth fr' 7 = .sc (.int .i64 ((e:Int) - 9))∧nth fr' 2=nth fr 2∧nth fr' 4=nth fr 4∧nth fr' 5=nth fr 5∧nth fr' 6=nth fr 6:=by
 have hw:=Ow (e:Int) (by omega) (by omega)
 simp[Gb,gP,Tryz.f154,aF,cB,af,aH,an,ao,aG,ag,ai,aj,ak,aC,az,FP.none,aY,au,bf,av,aa,ae,ab,h71,h7,hw]
theorem CG (L:Lst)(run:aq)(k:Nat)(hk:10<k)(fr:List PV)(hp:List Blk)(wr:List Nat)(s:ByteArray)(e:Nat)(d:List Nat)(he0:0<e)(he:e≤(bys s).length)(hl:e<9000000000000000000)(hdl:d.length<1000000)
  (h71:fr.length=71) (h2:nth fr 2 = .ptr 0 0) (h4:nth fr 4 = .sc (.string s)) (h7:nth fr 7 = .sc (.int .i64 (e:Int))) (hO:dE 1 hp d (nth fr 6)) (hb:aZ hp 0=some zW2) :
  (eI (((bys s).take e).drop (e - 9))=true∧∃ fr' hp' wr',af (CC L) run k gP ⟨fr,hp,wr⟩=some (.normal,⟨fr',hp',wr'⟩)∧fr'.length=71∧nth fr' 2 = .ptr 0 0∧nth fr' 4 = .sc (.string s)∧nth fr' 5=nth fr 5∧nth fr' 7 = .sc (.int .i64 ((e:Int) - 9))∧dE 1 hp' (d++[dec 0 (((bys s).take e).drop (e - 9))]) (nth fr' 6)∧aZ hp' 0=some zW2) ∨
  (eI (((bys s).take e).drop (e - 9))=false∧∃ fr' hp' wr',af (CC L) run k gP ⟨fr,hp,wr⟩=some (.ret,⟨fr',hp',wr'⟩)∧nth fr' 2 = .ptr 0 0∧nth fr' 3 = .sc (.bool false)∧aZ hp' 0=some zW2):=by
 have he':e≤(bH s).length:=by rw[← jw];exact he
 obtain⟨f1,a1,a2,a3,a4,a5,a6,a7⟩:=P4 L run k fr hp wr e he0 h71 h7
 obtain⟨f2,b1,b2,b3,b4,b5,b6,b7,b8⟩:=P2 L run k f1 hp wr a2
 obtain⟨f3,c1,c2,c3,c4,c5,c6,c7,c8,c9,c10,c11⟩:=P1 L run k f2 hp wr s e he' hl b2 (by rw[b5,a4,h4]) (by rw[b8,a7,h7])
 have hcl:(((bys s).take e).drop (e - 9)).length≤9:=by
  rw[List.length_drop,List.length_take];omega
 rcases vf L run k _ hcl hp hb (((bys s).take e).drop (e - 9)).length 0 f3 wr 0 (by omega) rfl rfl c2 c3 c4 c5 (by rw[c11,b3]) (by rw[c6,b4,a3,h2]) with ⟨hd,f4,d1,d2,d3,d4,d5,d6,d7,d8⟩| ⟨hd,f4,wr4,d1,d2,d3⟩
 ·obtain⟨f5,hp5,wr5,e1,e2,e3,e4,e5,e6,e7,e8⟩:=LB L run k f4 hp wr d _ hdl d2 d3 (by rw[d7,c9,b7,a6];exact hO)
  obtain⟨f6,g1,g2,g3,g4,g5,g6,g7⟩:=P3 L run k f5 hp5 wr5 e hl e2 (by rw[e8,d8,c10,b8,a7,h7])
  refine .inl ⟨hd,f6,hp5,wr5,?_,g2,by rw[g4,e5,d4,c6,b4,a3,h2],by rw[g5,e6,d5,c7,b5,a4,h4],by rw[g6,e7,d6,c8,b6,a5],g3,by rw[g7];exact e3,by rw[e4,hb]⟩
  have hB:af (CC L) run k mu ⟨f1,hp,wr⟩=some (.normal,⟨f5,hp5,wr5⟩):=by
   rw[aM 1 b1,sj,aw ((aw c1).trans (bF (bT d1 (by omega))))]
   exact e1
  rw[sh,aw a1,aw (fA hB)]
  exact g1
 ·refine .inr ⟨hd,f4,cf hp 0 zW2,wr4,?_,d2,d3,by rw[cJ hb,if_pos rfl]⟩
  have hB:af (CC L) run k mu ⟨f1,hp,wr⟩=some (.ret,⟨f4,cf hp 0 zW2,wr4⟩):=by
   rw[aM 1 b1,sj,cm ((aw c1).trans (cW (bT d1 (by omega))))]
  rw[sh,aw a1,cm (jM hB)]
theorem ve (L:Lst)(run:aq)(k:Nat)(hk:10<k)(s:ByteArray)(hl:(bys s).length<3000000):∀ (n e:Nat) (fr:List PV) (hp:List Blk) (wr:List Nat) (d:List Nat),e<n→0<e→e+9*d.length=(bys s).length→Dok d→eI ((bys s).drop e)=true→val d=dec 0 ((bys s).drop e) →
  fr.length=71→nth fr 2 = .ptr 0 0→nth fr 4 = .sc (.string s)→nth fr 7 = .sc (.int .i64 (e:Int))→dE 1 hp d (nth fr 6)→aZ hp 0=some zW2 →
  (eI (bys s)=true∧∃ fr' hp' wr' d',ca (af (CC L) run k gP) (n+1) ⟨fr,hp,wr⟩=some (.exit 0,⟨fr',hp',wr'⟩)∧fr'.length=71∧nth fr' 2 = .ptr 0 0∧nth fr' 5=nth fr 5∧dE 1 hp' d' (nth fr' 6)∧aZ hp' 0=some zW2∧Dok d'∧d'.length<1000000∧val d'=dec 0 (bys s)) ∨
  (eI (bys s)=false∧∃ fr' hp' wr',ca (af (CC L) run k gP) (n+1) ⟨fr,hp,wr⟩=some (.ret,⟨fr',hp',wr'⟩)∧nth fr' 2 = .ptr 0 0∧nth fr' 3 = .sc (.bool false)∧aZ hp' 0=some zW2)
 | 0,e,fr,hp,wr,d,hn,_,_,_,_,_,_,_,_,_,_,_=>by omega
 | n+1,e,fr,hp,wr,d,hn,he0,hed,hd,hdg,hv,h71,h2,h4,h7,hO,hb=>by
  have hsp:=wU (bys s) (e - 9) e (by omega) (by omega)
  have hcl:(((bys s).take e).drop (e - 9)).length≤9:=by
   rw[List.length_drop,List.length_take];omega
  rcases CG L run k hk fr hp wr s e d he0 (by omega) (by omega) (by omega) h71 h2 h4 h7 hO hb with ⟨hc,f1,hp1,wr1,a1,a2,a3,a4,a5,a6,a7,a8⟩| ⟨hc,f1,hp1,wr1,a1,a2,a3,a4⟩
  ·have hx:dec 0 (((bys s).take e).drop (e - 9))<1000000000:=by
    have h1:=dec_lt _ hc
    have h2:=Nat.pow_le_pow_right (n:=10) (by omega) hcl
    have h3:(10:Nat) ^ 9=1000000000:=by decide
    omega
   have hd':Dok (d++[dec 0 (((bys s).take e).drop (e - 9))]):=hd.append (Dok.nil.cons hx)
   have hdg':eI ((bys s).drop (e - 9))=true:=by rw[hsp,fX,hc,hdg];rfl
   have hv':val (d++[dec 0 (((bys s).take e).drop (e - 9))])=dec 0 ((bys s).drop (e - 9)):=by
    have hacc:=J0 (dec 0 (((bys s).take e).drop (e - 9))) ((bys s).drop e)
    rw[List.length_drop,show (bys s).length - e=9*d.length by omega,Nat.pow_mul,show (10:Nat) ^ 9=1000000000 by decide] at hacc
    rw[dz,hsp,lS,hacc,hv,Nat.mul_comm,Nat.add_comm]
   rw[bU a1]
   by_cases h9:e≤9
   ·obtain⟨f2,b1,b2,b3,b4,b5⟩:=Ly L run k f1 hp1 wr1 ((e:Int) - 9) (by omega) a2 a6
    rw[show e - 9=0 by omega,List.drop_zero] at hdg'
    have hv2:dec 0 ((bys s).drop (e - 9))=dec 0 (bys s):=by rw[show e - 9=0 by omega,List.drop_zero]
    rw[hv2] at hv'
    exact .inl ⟨hdg',f2,hp1,wr1,_,bz b1,b2,by rw[b3,a3],by rw[b4,a5],by rw[b5];exact a7,a8,hd',by simp;omega,hv'⟩
   ·have:=ve L run k hk s hl n (e - 9) f1 hp1 wr1 _ (by omega) (by omega) (by simp;omega) hd' hdg' hv' a2 a3 a4 (by rw[a6];congr 3;omega) a7 a8
    rcases this with ⟨q0,f2,hp2,wr2,d2,q1,q2,q3,q4,q5⟩| q
    ·exact .inl ⟨q0,f2,hp2,wr2,d2,q1,q2,q3,by rw[q4,a5],q5⟩
    ·exact .inr q
  ·refine .inr ⟨?_,f1,hp1,wr1,eH a1,a2,a3,a4⟩
   have h1:=wU (bys s) 0 (e - 9) (by omega) (by omega)
   rw[List.drop_zero,List.drop_zero] at h1
   rw[h1,fX,hsp,fX,hc]
   simp
noncomputable def L8:Lst:=[(152,fP),(170,iQ)]
theorem afL:dM base.P L8:=⟨jX,Eo,trivial⟩
theorem acn:bu L8 170=fun a=>iQ (aJ a):=rfl
theorem NR (run:aq)(dr:Bool)(hp:List Blk)(s p:ByteArray):cb (CC L8) run dr hp 170 [.sc (.string s),.sc (.string p)]=some (gN (gJ s p),hp,⟨[],[],false,false⟩) :=
 bp Lh acn run dr hp _ (gJ s p) rfl rfl rfl
theorem Bo (run:aq)(dr:Bool)(hp:List Blk)(n:Bool)(l:List Nat)(p:PV)(hd:Dok l)(hl:l.length<1000000)(hO:dE 1 hp l p) :
  ∃ hp' ids,cb (CC L8) run dr hp 152 [.sc (.bool n),p]=some (bn (sgn n (val l)),hp',⟨ids,ids,false,false⟩)∧aZ hp' 0=aZ hp 0:=by
 obtain⟨q,ids,h1,h2,h3⟩:=hO.arg n
 have h4:(CC L8).orc 152 [.sc (.bool n),q]=some [bn (sgn n (val l))]:=by
  show fP (aJ [.sc (.bool n),q])=_
  rw[h2]
  simp only[fP,cS hd hl]
 exact⟨roB hp ids,ids,ee nB h1 h4 rfl,h3 0 (by omega)⟩
noncomputable def AK:Code:=ah 5 gD
theorem Lx (run:aq)(k:Nat)(fr:List PV)(hp:List Blk)(wr:List Nat)(n:Bool)(d:List Nat)(hd:Dok d)(hl:d.length<1000000)(h71:fr.length=71)(h2:nth fr 2 = .ptr 0 0)(h5:nth fr 5 = .sc (.bool n))(hO:dE 1 hp d (nth fr 6))(hb:aZ hp 0=some zW2) :
  ∃ st,af (CC L8) run k AK ⟨fr,hp,wr⟩=some (.ret,st)∧aV TT st.fr st.hp Tryz.f154.results.toList=some [bn (sgn n (val d)),.sc (.bool true)]:=by
 obtain⟨hp',ids,hc,h3⟩:=Bo run false hp n d _ hd hl hO
 rw[hb] at h3
 simp only[whW] at hc ⊢
 generalize aA (sgn n (val d)).natAbs=r at *
 generalize bt (sgn n (val d))=nn at *
 have hn:aZ (cf hp' 0 ⟨.live,[.sc (.bool nn),aL r]⟩) 0=some ⟨.live,[.sc (.bool nn),aL r]⟩:=by rw[cJ h3,if_pos rfl]
 simp[AK,gD,Tryz.f154,ah,af,aH,an,ao,aG,ag,ai,aO,aj,ak,aC,az,FP.none,av,partOf,aa,ae,ab,bh,bm,bS,bD,bc,h71,h2,h5,hc,h3,sW,aW,bX,aV,aU,hn,br,bE]
noncomputable def Gd:Code:=seq1 (seq1 (ah 4 gD))
theorem vd:ah 4 gD = .seq (.seq Gd (.block 0 (.loop gP))) AK:=rfl
noncomputable def lx:Code:=seq1 (ah 2 gD)
theorem sf:ah 2 gD = .seq lx (ah 3 gD):=rfl
def oP (s:ByteArray):ByteArray:=bif ir [45] (bH s) then mkStr ((bH s).drop 1) else s
def xd (s:ByteArray):Bool:=ir [45] (bH s)
theorem P0 (run:aq)(k:Nat)(s:ByteArray) :
  ∃ fr wr,aX (CC L8) run k 2 gD ⟨entry 71 [.sc (.string s)],[],[]⟩=some ⟨fr,[zW2],wr⟩∧fr.length=71∧nth fr 2 = .ptr 0 0∧nth fr 4 = .sc (.string (oP s))∧nth fr 5 = .sc (.bool (xd s)):=by
 obtain⟨e1,e2⟩:=cQ 70 (.sc (.string s))
 generalize entry 71 [.sc (.string s)]=fr0 at *
 have hc:=fun dr hp=>NR run dr hp s { data:=#[45] }
 rw[show gJ s { data:=#[45] } = bif ir [45] (bH s) then [.sc (.string (mkStr ((bH s).drop 1))),.sc (.bool true)] else [.sc (.string s),.sc (.bool false)] from rfl] at hc
 unfold oP xd
 cases h:ir [45] (bH s) <;> rw[h] at hc <;> simp only[cond_true,cond_false,gN] at hc ⊢ <;> simp[gD,Tryz.f154,aX,e1,e2,af,aH,an,ao,aG,ag,ai,aO,aj,ak,aC,az,FP.none,av,aa,ae,ab,bh,and_assoc,zW,aP,hc]
def om (n:Bool):List UInt8→Bool
 | []=>true
 | [a]=>a.toNat.beq 48 && n
 | a::_=>a.toNat.beq 48
set_option maxHeartbeats 1000000 in
theorem WW (L:Lst)(run:aq)(k:Nat)(fr:List PV)(wr:List Nat)(s:ByteArray)(n:Bool)(h71:fr.length=71)(h2:nth fr 2 = .ptr 0 0)(h4:nth fr 4 = .sc (.string s))(h5:nth fr 5 = .sc (.bool n)) :
  (om n (bH s)=true∧∃ fr' wr',af (CC L) run k lx ⟨fr,[zW2],wr⟩=some (.ret,⟨fr',[zW2],wr'⟩)∧nth fr' 2 = .ptr 0 0∧nth fr' 3 = .sc (.bool false)) ∨
  (om n (bH s)=false∧∃ fr',af (CC L) run k lx ⟨fr,[zW2],wr⟩=some (.normal,⟨fr',[zW2],wr⟩)∧fr'.length=71∧nth fr' 2 = .ptr 0 0∧nth fr' 4 = .sc (.string s)∧nth fr' 5 = .sc (.bool n)):=by
 have hes:bH { data:=#[] } = []:=rfl
 have hidx:∀ a l,bH s=a::l→gI TT 9 (.sc (.string s)) (.sc (.int .i64 0))=some (.sc (.int .u8 (a.toNat:Int))):=by
  intro a l e
  simp[gI,uS,jx,e,Dr]
 have hz:aZ [zW2] 0=some zW2:=rfl
 have hset:cf [zW2] 0 zW2=[zW2]:=rfl
 rcases hS:bH s with _ | ⟨a,_ | ⟨b,l⟩⟩
 ·refine .inl ⟨rfl,?_⟩
  simp[undef,lx,gD,Tryz.f154,ah,seq1,af,aH,an,ao,aG,ag,ai,aj,ak,aC,az,FP.none,aY,av,aa,ae,ab,bh,and_assoc,bm,bD,fw,bc,h71,h2,h4,ef,hS,hes,eqL,uW,sB,sD,sW,zW,eJ,dn,wf0,wf1,bX,aZ,cf]
 ·have hi:=hidx a [] hS
  by_cases ha:a.toNat=48
  ·have ha':((a.toNat:Int) == 48)=true:=by rw[ha];rfl
   have hab:a.toNat.beq 48=true:=by rw[ha];rfl
   cases n with
   | true =>
    refine .inl ⟨by simp[om,ha],?_⟩
    simp[undef,lx,gD,Tryz.f154,ah,seq1,af,aH,an,ao,aG,ag,ai,aj,ak,aC,az,FP.none,aY,au,bf,av,bK,aa,ae,ab,bh,and_assoc,bm,bD,fw,bc,h71,h2,h4,h5,ef,hS,hes,eqL,hi,ha',uS,uW,sB,sD,sW,zW,eJ,dn,wf0,wf1,bX,aZ,cf]
   | false =>
    refine .inr ⟨by simp[om],?_⟩
    simp[lx,gD,Tryz.f154,ah,seq1,af,aH,an,ao,aG,ag,ai,aj,ak,aC,az,FP.none,aY,au,bf,av,bK,aa,ae,ab,bh,h71,h2,h4,h5,ef,hS,hes,eqL,hi,ha',uS]
  ·have ha':((a.toNat:Int) == 48)=false:=by simp;omega
   have hab:a.toNat.beq 48=false:=by
    cases e:a.toNat.beq 48 with
    | false=>rfl
    | true=>exact absurd (Nat.eq_of_beq_eq_true e) ha
   refine .inr ⟨by simp[om,hab],?_⟩
   simp[undef,lx,gD,Tryz.f154,ah,seq1,af,aH,an,ao,aG,ag,ai,aj,ak,aC,az,FP.none,aY,au,bf,av,aa,ae,ab,bh,h71,h2,h4,h5,ef,hS,hes,eqL,hi,ha']
 ·have hi:=hidx a (b::l) hS
  by_cases ha:a.toNat=48
  ·have ha':((a.toNat:Int) == 48)=true:=by rw[ha];rfl
   refine .inl ⟨by simp[om,ha],?_⟩
   have hlen:(1:Int)<(l.length:Int)+1+1:=by omega
   simp[undef,lx,gD,Tryz.f154,ah,seq1,af,aH,an,ao,aG,ag,ai,aj,ak,aC,az,FP.none,aY,au,bf,av,bK,aa,ae,ab,bh,and_assoc,bm,bD,fw,bc,h71,h2,h4,ef,hS,hes,eqL,hi,ha',hlen,uS,uW,sB,sD,sW,zW,eJ,dn,wf0,wf1,bX,aZ,cf]
  ·have ha':((a.toNat:Int) == 48)=false:=by simp;omega
   have hab:a.toNat.beq 48=false:=by
    cases e:a.toNat.beq 48 with
    | false=>rfl
    | true=>exact absurd (Nat.eq_of_beq_eq_true e) ha
   refine .inr ⟨by simp[om,hab],?_⟩
   simp[undef,lx,gD,Tryz.f154,ah,seq1,af,aH,an,ao,aG,ag,ai,aj,ak,aC,az,FP.none,aY,au,bf,av,aa,ae,ab,bh,h71,h2,h4,h5,ef,hS,hes,eqL,hi,ha']
theorem PZ (L:Lst)(run:aq)(k:Nat)(fr:List PV)(hp:List Blk)(wr:List Nat)(s:ByteArray)(n:Bool)(h71:fr.length=71)(h2:nth fr 2 = .ptr 0 0)(h4:nth fr 4 = .sc (.string s))(h5:nth fr 5 = .sc (.bool n)) :
  ∃ f1 fr',aX (CC L) run k 1 (ah 3 gD) ⟨fr,hp,wr⟩=some ⟨f1,hp,wr⟩∧af (CC L) run k Gd ⟨f1,hp,wr⟩=some (.normal,⟨fr',hp,wr⟩)∧fr'.length=71∧nth fr' 2 = .ptr 0 0∧nth fr' 4 = .sc (.string s)∧nth fr' 5 = .sc (.bool n)∧nth fr' 6 = .sc (.slice none 0 0)∧nth fr' 7 = .sc (.int .i64 ((bys s).length:Int)):=by
 rw[jw]
 refine⟨js fr 6 (.sc (.slice none 0 0)),?_⟩
 simp[Gd,gD,Tryz.f154,ah,seq1,aX,af,aH,an,ao,aG,ag,ai,aj,ak,aC,az,FP.none,av,bK,aa,ae,ab,bh,h71,h2,h4,h5,uS]
def gH (s:ByteArray):Option Int :=
 bif om (xd s) (bH (oP s)) then none else bif eI (bys (oP s)) then some (sgn (xd s) (dec 0 (bys (oP s)))) else none
def vg:List PV→Option (List PV)
 | [.sc (.string s)]=>bif (bys s).length.blt 3000000 then (match gH s with
  | some z=>some [bn z,.sc (.bool true)]
  | none=>some [bn 0,.sc (.bool false)]) else none
 | _=>none
theorem CD (fr:List PV)(hp:List Blk)(h2:nth fr 2 = .ptr 0 0)(h3:nth fr 3 = .sc (.bool false))(hb:aZ hp 0=some zW2):aV TT fr hp Tryz.f154.results.toList=some [.agg [.sc (.bool false),.sc (.slice none 0 0)],.sc (.bool false)]:=by
 simp[Tryz.f154,aV,h2,h3,hb,aU,br,partOf,aW,sW,bE]
theorem acd (hp:List Blk)(x:Int)(b:Bool):bq (snap hp bj) [bn x,.sc (.bool b)]=some ([bn x,.sc (.bool b)],[]):=rfl
theorem ZK (s:ByteArray):(bys (oP s)).length≤(bys s).length:=by
 unfold oP
 cases ir [45] (bH s) with
 | false=>exact Nat.le_refl _
 | true =>
  rw[cond_true,jw,fg,jw,List.length_drop]
  omega
theorem NZ {n:Bool}{s:ByteArray}(h:om n (bH s)=false):0<(bys s).length:=by
 rw[jw]
 cases e:bH s with
 | nil=>rw[e] at h;cases h
 | cons a l=>simp
theorem yA:Ab.Spec base.P 154 vg:=Ab.Spec.bN (C:=CC L8) (cU afL) fun args rs h=>by
 unfold vg at h
 split at h
 ·rename_i s
  cases hb:(bys s).length.blt 3000000 with
  | false=>rw[hb] at h;cases h
  | true =>
   rw[hb] at h
   rw[Nat.blt_eq] at hb
   simp only[cond_true] at h
   have hcl:=ZK s
   obtain⟨f1,wr1,a1,a2,a3,a4,a5⟩:=P0 (runK (CC L8) 3000001) 3000001 s
   rcases WW L8 (runK (CC L8) 3000001) 3000001 f1 wr1 (oP s) (xd s) a2 a3 a4 a5 with ⟨hbad,f2,wr2,b1,b2,b3⟩| ⟨hbad,f2,b1,b2,b3,b4,b5⟩
   ·have hr:gH s=none:=by unfold gH;rw[hbad];rfl
    rw[hr] at h
    simp only[Option.some.injEq] at h
    subst h
    have hx:af (CC L8) (runK (CC L8) 3000001) 3000001 gD ⟨entry 71 [.sc (.string s)],[],[]⟩=some (.ret,⟨f2,[zW2],wr2⟩):=by
     rw[aM 2 a1,sf,cm b1]
    exact⟨3000002,_,_,_,[.agg [.sc (.bool false),.sc (.slice none 0 0)],.sc (.bool false)],[],aQ rS rfl hx (CD f2 _ b2 b3 rfl),rfl,Wk.agg ⟨Wk.refl rfl,Wk.nil false,trivial⟩,Wk.refl rfl,trivial⟩
   ·obtain⟨f3,f4,c1,c2,c3,c4,c5,c6,c7,c8⟩:=PZ L8 (runK (CC L8) 3000001) 3000001 f2 [zW2] wr1 (oP s) (xd s) b2 b3 b4 b5
    have hpos:=NZ hbad
    have hx0:af (CC L8) (runK (CC L8) 3000001) 3000001 gD ⟨entry 71 [.sc (.string s)],[],[]⟩=af (CC L8) (runK (CC L8) 3000001) 3000001 (ah 4 gD) ⟨f3,[zW2],wr1⟩:=by
     rw[aM 2 a1,sf,aw b1,aM 1 c1];rfl
    rcases ve L8 (runK (CC L8) 3000001) 3000001 (by omega) (oP s) (by omega) ((bys (oP s)).length+1) (bys (oP s)).length f4 [zW2] wr1 [] (by omega) hpos (by simp) Dok.nil (by rw[List.drop_length];rfl) (by rw[List.drop_length];rfl) c3 c4 c5 c8 (by rw[c7];exact dE.nil (by simp)) rfl with ⟨hd,f5,hp5,wr5,d5,g1,g2,g3,g4,g5,g6,g7,g8,g9⟩| ⟨hd,f5,hp5,wr5,g1,g2,g3,g4⟩
    ·have hr:gH s=some (sgn (xd s) (dec 0 (bys (oP s)))):=by unfold gH;rw[hbad,hd];rfl
     rw[hr] at h
     simp only[Option.some.injEq] at h
     subst h
     obtain⟨st,e1,e2⟩:=Lx (runK (CC L8) 3000001) 3000001 f5 hp5 wr5 (xd s) d5 g7 g8 g2 g3 (by rw[g4,c6]) g5 g6
     rw[g9] at e2
     have hx:af (CC L8) (runK (CC L8) 3000001) 3000001 gD ⟨entry 71 [.sc (.string s)],[],[]⟩=some (.ret,st):=by
      rw[hx0,vd,aw ((aw c2).trans (bF (bT g1 (by omega))))]
      exact e1
     exact⟨3000002,_,_,_,_,_,aQ rS rfl hx e2,acd _ _ _,Wk.refl rfl,Wk.refl rfl,trivial⟩
    ·have hr:gH s=none:=by unfold gH;rw[hbad,hd];rfl
     rw[hr] at h
     simp only[Option.some.injEq] at h
     subst h
     have hx:af (CC L8) (runK (CC L8) 3000001) 3000001 gD ⟨entry 71 [.sc (.string s)],[],[]⟩=some (.ret,⟨f5,hp5,wr5⟩):=by
      rw[hx0,vd,cm ((aw c2).trans (cW (bT g1 (by omega))))]
     exact⟨3000002,_,_,_,[.agg [.sc (.bool false),.sc (.slice none 0 0)],.sc (.bool false)],[],aQ rS rfl hx (CD f5 _ g2 g3 g4),rfl,Wk.agg ⟨Wk.refl rfl,Wk.nil false,trivial⟩,Wk.refl rfl,trivial⟩
 ·cases h
end Go.Proofs.YtjdmodeenbdfpaaGreat
