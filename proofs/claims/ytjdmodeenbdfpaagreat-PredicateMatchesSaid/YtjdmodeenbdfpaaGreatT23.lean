/- Contracts of num's integers, part 23 of the proof; each lemma states its own conditions. -/
import Derived.Shelf.Strings.Search1
import Derived.Shelf.Strings.Repeat
import Derived.Test.YtjdmodeenbdfpaaGreatProg
import Derived.Test.YtjdmodeenbdfpaaGreatT22
set_option linter.unusedSimpArgs false
set_option linter.unusedVariables false
set_option linter.unusedSimpArgs false
set_option linter.unusedVariables false
noncomputable section
namespace Go.Proofs
open Go.Shelf Go.RowKit Go.Lib
def Tryz.EH:Go.Shelf.Ren:=⟨fun | 217=>191 | 266=>196 | n=>n,fun | 9=>9 | 5=>5 | 3=>3 | n=>n,fun | n=>n⟩
theorem Tryz.abI:Go.Proofs.Lays.n217 Tryz.prog Tryz.EH:={
 mixed:=by kernel_rfl
 f217:=Tryz.func191.trans (congrArg some (by kernel_rfl))
 f266:=Tryz.func196.trans (congrArg some (by kernel_rfl))
 t3:=Tryz.underlying3
 a3:=Tryz.isAgg3
 z3:=Tryz.sizeOf3
 v3:=Tryz.zeroValue3
 t5:=Tryz.underlying5
 a5:=Tryz.isAgg5
 z5:=Tryz.sizeOf5
 v5:=Tryz.zeroValue5
 t9:=Tryz.underlying9
 a9:=Tryz.isAgg9
 z9:=Tryz.sizeOf9
 v9:=Tryz.zeroValue9 }
theorem Tryz.stringslite_IndexByte (s:ByteArray)(c:Int)(w:World) :
  Calls Tryz.prog 191 #[.string s,.int .u8 c] w fun e w'=>e = .returned (.int .i64 (Lib.indexByte s.data.toList c.toNat.toUInt8))∧w'=w:=Any.stringslite_IndexByte Tryz.abI s c w
end Go.Proofs
namespace Go.Proofs.YtjdmodeenbdfpaaGreat
open Go Go.Ab Go.RowKit
theorem Gl {P:Program}{g:FuncId}{f:List PV→Option (List PV)}(he:∀ (args:Array Value)(w:World),(callFunc g args).run P w = .ok (.enter g args) w)
  (h:∀ args rs,f args=some rs→bU rs=true∧∀ (w:World) (M:Nat→Prop) (vs:List Value),Vs w M [] NoL args vs →
   ∃ post:Ending→World→Prop,Calls P g vs.toArray w post∧∀ e w',post e w'→∃ us,e = .returned (Bu us)∧Vs w' M [] NoL rs us∧Old w w'):Ab.Spec P g f:=by
 intro args rs hf hi
 obtain⟨h1,h2⟩:=h args rs hf
 refine⟨h1,fun w M vs hM hvs => ?_⟩
 obtain⟨post,h3,h4⟩:=h2 w M vs hvs
 unfold js
 rw[he]
 refine h3.mono fun e w' hh => ?_
 obtain⟨us,h5,h6⟩:=h4 e w' hh
 exact⟨_,h5,us,rfl,h6⟩
theorem Old.refl (w:World):Old w w:=⟨rfl,rfl,rfl,Nat.le_refl _,fun _ _=>rfl⟩
theorem vs2 {w:World}{M:Nat→Prop}{a b:Value}{vs:List Value}(h:Vs w M [] NoL [.sc a,.sc b] vs):vs=[a,b]:=by
 obtain⟨h1,h2⟩:=h
 match vs,h1 with
 | [u,v],_ =>
  have e1:=h2 0 _ u rfl rfl
  have e2:=h2 1 _ v rfl rfl
  cases e1;cases e2;rfl
theorem ahC (w:World)(M:Nat→Prop)(a:Value):Vs w M [] NoL [.sc a] [a]:=⟨rfl,fun k p v h1 h2=>by
 cases k with
 | zero=>simp at h1 h2;subst h1;subst h2;exact .sc _
 | succ k=>simp at h1⟩
def ibF:List PV→Option (List PV)
 | [.sc (.string s),.sc (.int .u8 c)]=>some [.sc (.int .i64 (Lib.indexByte (bT s) c.toNat.toUInt8))]
 | _=>none
theorem abR:Ab.Spec base.P 191 ibF:=Gl (P:=Tryz.prog) Tryz.call191 fun args rs h=>by
 unfold ibF at h
 split at h
 ·rename_i s c
  simp only[OiE] at h
  subst h
  refine⟨rfl,fun w M vs hvs => ?_⟩
  rw[vs2 hvs]
  refine⟨_,Tryz.stringslite_IndexByte s c w,?_⟩
  rintro e w' ⟨rfl,rfl⟩
  exact⟨[_],rfl,ahC _ M _,Old.refl _⟩
 ·cases h
def rf0:Field:={ name := "n",type:=70,offset:=0,embedded:=false,tag := "",pkgPath := "torus/num",byteOffset:=0 }
def rf1:Field:={ name := "d",type:=70,offset:=2,embedded:=false,tag := "",pkgPath := "torus/num",byteOffset:=32 }
theorem uR:und TT 72=some (.struct #[rf0,rf1]):=by kernel_rfl
theorem sR:dt TT 72=some 4:=by kernel_rfl
theorem aR:fZ TT 72=some true:=by kernel_rfl
theorem zR:eK TT 72=some [.sc (.bool false),.sc (.slice none 0 0),.sc (.bool false),.sc (.slice none 0 0)]:=by kernel_rfl
theorem XY:base.F.get 95=some Tryz.f95:=by kernel_rfl
theorem PR:base.F.get 104=some Tryz.f104:=by kernel_rfl
theorem PQ:base.F.get 87=some Tryz.f87:=by kernel_rfl
theorem PK:base.F.get 55=some Tryz.f55:=by kernel_rfl
theorem PN:base.F.get 56=some Tryz.f56:=by kernel_rfl
theorem PM:base.F.get 106=some Tryz.f106:=by kernel_rfl
theorem Rz:base.shared 95=false:=by kernel_rfl
theorem J5:base.shared 104=false:=by kernel_rfl
theorem J4:base.shared 87=false:=by kernel_rfl
theorem J3:base.shared 106=false:=by kernel_rfl
def cl (n d:Int):PV:=.agg [.sc (.bool (bA n)),aQ (aK n.natAbs),.sc (.bool (bA d)),aQ (aK d.natAbs)]
def hZ:PV→Option (Int × Int)
 | .agg [a,b,c,d]=>match fU (.agg [a,b]),fU (.agg [c,d]) with
  | some n,some m=>some (n,m)
  | _,_=>none
 | _=>none
theorem eI {p:PV}{n d:Int}(h:hZ p=some (n,d)):p=cl n d∧Sm n∧Sm d:=by
 unfold hZ at h
 split at h
 ·split at h
  ·rename_i n' m' e1 e2
   simp only[OiE,PiE] at h
   obtain⟨rfl,rfl⟩:=h
   obtain⟨h1,h2⟩:=eB e1
   obtain⟨h3,h4⟩:=eB e2
   refine⟨?_,h2,h4⟩
   simp only[whW,PV.agg.injEq,List.cons.injEq,and_true] at h1 h3
   obtain⟨rfl,rfl⟩:=h1
   obtain⟨rfl,rfl⟩:=h3
   rfl
  ·cases h
 ·cases h
theorem iu {n d:Int}(h1:Sm n)(h2:Sm d):hZ (cl n d)=some (n,d):=by
 have e1:=cM h1
 have e2:=cM h2
 rw[whW] at e1 e2
 simp only[hZ,cl,e1,e2]
theorem B7 (n d:Int):canon (cl n d)=cl n d:=by simp only[cl,canon,aJ,fP]
theorem uz (hp:List Blk)(n d:Int):bq (snap hp bn) [cl n d]=some ([cl n d],[]):=rfl
def L9:Lst:=[(101,jE),(97,ofF),(149,s9),(150,xX),(151,V9)]
theorem ady:dw base.P L9:=⟨ki,mI,nY,rC,V5,trivial⟩
theorem aax:bu L9 101=fun a=>jE (aJ a):=rfl
theorem ah9:bu L9 97=fun a=>ofF (aJ a):=rfl
theorem aeQ:bu L9 149=fun a=>s9 (aJ a):=rfl
theorem aeR:bu L9 150=fun a=>xX (aJ a):=rfl
theorem aeS:bu L9 151=fun a=>V9 (aJ a):=rfl
theorem qi (run:ar)(dr:Bool)(hp:List Blk)(x:Int)(hx:Sm x):bX (CC L9) run dr hp 101 [bt x]=some (Ab.bz x.sign,hp,⟨[],[],false,false⟩) :=
 bw vt aax run dr hp _ [Ab.bz x.sign] (m4 hp x) (kb x) (by simp only[jE,cM hx])
theorem W4 (run:ar)(dr:Bool)(hp:List Blk):bX (CC L9) run dr hp 97 [.sc (.int .i64 1)]=some (bt 1,hp,⟨[],[],false,false⟩) :=
 bw zF ah9 run dr hp _ [bt 1] rfl rfl rfl
theorem A2 (run:ar)(dr:Bool)(hp:List Blk)(x:Int)(hx:Sm x):bX (CC L9) run dr hp 149 [bt x]=some (bt (-x),hp,⟨[],[],false,false⟩) :=
 bw GP aeQ run dr hp _ [bt (-x)] (m4 hp x) (kb x) (by simp only[s9,cM hx])
theorem Ph (run:ar)(dr:Bool)(hp:List Blk)(x y:Int)(hx:Sm x)(hy:Sm y) :
  bX (CC L9) run dr hp 150 [bt x,bt y]=some (bt (Int.ofNat (Nat.gcd x.natAbs y.natAbs)),hp,⟨[],[],false,false⟩) :=
 bw Ry aeR run dr hp _ [bt (Int.ofNat (Nat.gcd x.natAbs y.natAbs))] (gk hp x y) (fq x y) (by simp only[xX,cM hx,cM hy])
theorem pj (run:ar)(dr:Bool)(hp:List Blk)(x y:Int)(hx:Sm x)(hy:Sm y)(h0:y.natAbs≠0) :
  bX (CC L9) run dr hp 151 [bt x,bt y]=some (.tup [bt (mV x y),bt (B0 x y)],hp,⟨[],[],false,false⟩) :=
 bw MK aeS run dr hp _ [bt (mV x y),bt (B0 x y)] (gk hp x y) (fq x y) (by
  simp only[V9,cM hx,cM hy,kN h0,Bool.not_false,cond_true])
theorem Wu (run:ar)(k:Nat)(n d:Int)(hd:Sm d) :
  ∃ st,af (CC L9) run k (Tryz.f95.body.getD .skip) ⟨entry 10 [cl n d],[],[]⟩=some (.ret,st)∧aU TT st.fr st.hp Tryz.f95.results.toList=some [bt (if d=0 then 1 else d)]:=by
 have hc1:=fun dr hp=>qi run dr hp d hd
 have hc2:=fun dr hp=>W4 run dr hp
 obtain⟨e1,e2⟩:=cW 9 (cl n d)
 generalize entry 10 [cl n d]=fr0 at *
 unfold cl at e2
 by_cases h0:d=0
 ·rw[if_pos h0]
  have hs:d.sign=0:=by rw[h0];rfl
  rw[hs] at hc1
  simp only[whW,Ab.bz] at hc1 hc2 ⊢
  generalize aK n.natAbs=rn at *
  generalize aK d.natAbs=rd at *
  generalize bA n=nn at *
  generalize bA d=nd at *
  simp[Tryz.f95,e1,e2,af,aH,ao,aq,aG,ag,ai,aL,an,aj,aF,aA,FzZ,bc,aw,bj,az,bQ,partOf,aa,ae,ab,bd,bp,ch,bG,bh,hc1,hc2,uR,sW,aW,zW,rf0,rf1,aM,aV,aY,bZ,cq,bF,br,aU]
 ·rw[if_neg h0]
  have hs:(d.sign == 0)=false:=by
   rw[beq_eq_false_iff_ne]
   intro h;exact h0 (Int.sign_eq_zero_iff_zero.1 h)
  have hs' : ¬ d=0:=h0
  generalize d.sign=sg at *
  simp only[whW,Ab.bz] at hc1 ⊢
  generalize aK n.natAbs=rn at *
  generalize aK d.natAbs=rd at *
  generalize bA n=nn at *
  generalize bA d=nd at *
  simp[Tryz.f95,e1,e2,af,aH,ao,aq,aG,ag,ai,aL,an,aj,aF,aA,FzZ,bc,aw,bj,az,bQ,partOf,aa,ae,ab,bd,bp,ch,bG,bh,hc1,hs,uR,sW,aW,zW,rf0,rf1,aM,aV,aY,bZ,cq,bF,br,aU]
def dL (d:Int):Int:=if d=0 then 1 else d
def yX:List PV→Option (List PV)
 | [p]=>match hZ p with
  | some (_,d)=>some [bt (dL d)]
  | none=>none
 | _=>none
theorem rM:Ab.Spec base.P 95 yX:=Ab.Spec.bM (C:=CC L9) (cP ady) fun args rs h=>by
 unfold yX at h
 split at h
 ·split at h
  ·rename_i n d e
   obtain⟨rfl,-,hd⟩:=eI e
   simp only[OiE] at h
   subst h
   obtain⟨st,e1,e2⟩:=Wu (runK (CC L9) 1) 1 n d hd
   exact⟨2,_,_,_,_,_,aP XY rfl e1 e2,jH _ _,Wk.refl rfl,trivial⟩
  ·cases h
 ·cases h
def gC:Code:=Tryz.f104.body.getD .skip
def nU:Code:=seq1 (ah 1 gC)
theorem Z8:((Region.before (lv (cw nU)))[4]?.getD 0).testBit 0=true:=by kernel_rfl
theorem Z7:((Region.before (lv (cw nU)))[5]?.getD 0).testBit 2=true:=by kernel_rfl
abbrev zR4:Blk:=⟨.live,[.sc (.bool false),.sc (.slice none 0 0),.sc (.bool false),.sc (.slice none 0 0)]⟩
abbrev bW (x:Int):Blk:=⟨.live,[.sc (.bool (bA x)),aQ (aK x.natAbs)]⟩
theorem xC:ah 1 gC = .seq nU (ah 2 gC):=rfl
theorem TB (run:ar)(k:Nat)(x y:Int) :
  ∃ fr wr,aX (CC L9) run k 1 gC ⟨entry 42 [bt x,bt y],[],[]⟩=some ⟨fr,[bW x,bW y,zR4],wr⟩∧fr.length=42∧nth fr 2 = .ptr 0 0∧nth fr 3 = .ptr 1 0∧nth fr 4 = .ptr 2 0:=by
 obtain⟨e1,e2,e3⟩:=cn 40 (bt x) (bt y)
 generalize entry 42 [bt x,bt y]=fr0 at *
 rw[whW] at e2 e3
 simp[gC,Tryz.f104,aX,e1,e2,e3,af,aH,ao,aq,aG,ag,ai,an,aj,aF,aA,aa,ae,ab,bd,and_assoc,bp,zR,aM]
theorem TA (run:ar)(k:Nat)(fr:List PV)(wr:List Nat)(x y:Int)(hy:Sm y)(h0 : ¬ (y<0))(h42:fr.length=42)(h2:nth fr 2 = .ptr 0 0)(h3:nth fr 3 = .ptr 1 0)(h4:nth fr 4 = .ptr 2 0) :
  ∃ fr' wr',af (CC L9) run k nU ⟨fr,[bW x,bW y,zR4],wr⟩=some (.normal,⟨fr',[bW x,bW y,zR4],wr'⟩)∧fr'.length=42∧nth fr' 2 = .ptr 0 0∧nth fr' 3 = .ptr 1 0∧nth fr' 4 = .ptr 2 0:=by
 have hc1:=fun dr hp=>qi run dr hp y hy
 have hs : ¬ (y.sign<0):=by
  intro h
  have:=Int.sign_neg_iff.1 h
  omega
 generalize y.sign=sg at *
 simp only[whW,Ab.bz] at hc1 ⊢
 simp[nU,gC,Tryz.f104,seq1,ah,af,aH,ao,aq,aG,ag,ai,aL,an,aj,aF,aA,FzZ,bc,aw,bj,az,partOf,aa,ae,ab,bd,and_assoc,hc1,hs,h42,h2,h3,h4,sW,aW,aV,aY,bF,br]
theorem Tz (run:ar)(k:Nat)(fr:List PV)(wr:List Nat)(x y:Int)(hx:Sm x)(hy:Sm y)(h0:y<0)(h42:fr.length=42)(h2:nth fr 2 = .ptr 0 0)(h3:nth fr 3 = .ptr 1 0)(h4:nth fr 4 = .ptr 2 0) :
  ∃ fr' wr',af (CC L9) run k nU ⟨fr,[bW x,bW y,zR4],wr⟩=some (.normal,⟨fr',[bW (-x),bW (-y),zR4],wr'⟩)∧fr'.length=42∧nth fr' 2 = .ptr 0 0∧nth fr' 3 = .ptr 1 0∧nth fr' 4 = .ptr 2 0:=by
 have hc1:=fun dr hp=>qi run dr hp y hy
 have hc2:=fun dr hp=>A2 run dr hp x hx
 have hc3:=fun dr hp=>A2 run dr hp y hy
 have hs:y.sign<0:=Int.sign_neg_iff.2 h0
 generalize y.sign=sg at *
 have hb1:=Z8
 have hb2:=Z7
 simp only[nU,gC,Tryz.f104,seq1,cw,ah,lv,Option.getD_some] at hb1 hb2
 simp only[bW,whW,Ab.bz] at hc1 hc2 hc3 ⊢
 generalize aK (-x).natAbs=r1 at *
 generalize bA (-x)=n1 at *
 generalize aK (-y).natAbs=r2 at *
 generalize bA (-y)=n2 at *
 simp[-Nat.testBit_zero,hb1,hb2,nU,gC,Tryz.f104,seq1,ah,af,aH,ao,aq,aG,ag,ai,aL,an,aj,aF,aA,FzZ,bc,aw,bj,az,partOf,aa,ae,ab,bd,and_assoc,bp,ch,bG,bh,hc1,hc2,hc3,hs,h42,h2,h3,h4,sW,aW,aV,aY,bZ,cq,bF,br,number,FP.free,cH,FP.apart]
def HV:Code:=seq1 (ah 2 gC)
def mH:Code:=seq1 (ah 3 gC)
theorem ux:ah 2 gC = .seq HV (ah 3 gC):=rfl
theorem uw:ah 3 gC = .seq mH (ah 4 gC):=rfl
theorem Z6 (run:ar)(k:Nat)(fr:List PV)(wr:List Nat)(x y:Int)(hx:Sm x)(hy:Sm y)(h42:fr.length=42)(h2:nth fr 2 = .ptr 0 0)(h3:nth fr 3 = .ptr 1 0)(h4:nth fr 4 = .ptr 2 0) :
  ∃ fr' wr',af (CC L9) run k HV ⟨fr,[bW x,bW y,zR4],wr⟩=some (.normal,⟨fr',[bW x,bW y,zR4,bW (Int.ofNat (Nat.gcd x.natAbs y.natAbs))],wr'⟩)∧fr'.length=42∧nth fr' 2 = .ptr 0 0∧nth fr' 3 = .ptr 1 0∧nth fr' 4 = .ptr 2 0∧nth fr' 5 = .ptr 3 0:=by
 have hc1:=fun dr hp=>Ph run dr hp x y hx hy
 generalize Int.ofNat (Nat.gcd x.natAbs y.natAbs)=g at *
 simp only[bW,whW] at hc1 ⊢
 generalize aK g.natAbs=rg at *
 generalize bA g=ng at *
 simp[HV,gC,Tryz.f104,seq1,ah,af,aH,ao,aq,aG,ag,ai,aL,an,aj,aF,aA,partOf,aa,ae,ab,bd,and_assoc,bp,ch,bG,bh,hc1,h42,h2,h3,h4,sW,aW,zW,aM,aV,aY,bZ,cq,bF,br]
theorem Ty (run:ar)(k:Nat)(fr:List PV)(wr:List Nat)(b0 b1 b2:Blk)(h42:fr.length=42)(h2:nth fr 2 = .ptr 0 0)(h3:nth fr 3 = .ptr 1 0)(h4:nth fr 4 = .ptr 2 0)(h5:nth fr 5 = .ptr 3 0) :
  ∃ fr' wr',af (CC L9) run k mH ⟨fr,[b0,b1,b2,bW 1],wr⟩=some (.normal,⟨fr',[b0,b1,b2,bW 1],wr'⟩)∧fr'.length=42∧nth fr' 2 = .ptr 0 0∧nth fr' 3 = .ptr 1 0∧nth fr' 4 = .ptr 2 0:=by
 have e:aQ (aK (1:Int).natAbs) = .imm 1 false [dg 1]:=rfl
 have hd:dg 1 = .sc (.int .u32 1):=rfl
 simp only[bW,e,hd]
 simp[mH,gC,Tryz.f104,seq1,ah,af,aH,ao,aq,aG,ag,ai,an,aj,aF,aA,FzZ,bc,aw,bj,az,bO,bg,bQ,ke,partOf,aa,ae,ab,bd,and_assoc,cX,h42,h2,h3,h4,h5,uW,uD,sD,s32,aD,a32,wf0,wf1,aV,aY,br]
set_option maxHeartbeats 1000000 in
theorem Tx (run:ar)(k:Nat)(fr:List PV)(wr:List Nat)(b2:Blk)(x y:Int)(g:Nat)(hx:Sm x)(hy:Sm y)(hg:1<g)(hg2:g<1000000000)(h42:fr.length=42)(h2:nth fr 2 = .ptr 0 0)(h3:nth fr 3 = .ptr 1 0)(h4:nth fr 4 = .ptr 2 0)(h5:nth fr 5 = .ptr 3 0) :
  ∃ fr' wr',af (CC L9) run k mH ⟨fr,[bW x,bW y,b2,bW (Int.ofNat g)],wr⟩=some (.normal,⟨fr',[bW (mV x (Int.ofNat g)),bW (mV y (Int.ofNat g)),b2,bW (Int.ofNat g)],wr'⟩)∧fr'.length=42∧nth fr' 2 = .ptr 0 0∧nth fr' 3 = .ptr 1 0∧nth fr' 4 = .ptr 2 0:=by
 have hSg:Sm (Int.ofNat g):=by
  unfold Sm
  rw[show (Int.ofNat g).natAbs=g from rfl,ou (by omega) hg2];simp
 have hc1:=fun dr hp=>pj run dr hp x (Int.ofNat g) hx hSg (show g≠0 by omega)
 have hc2:=fun dr hp=>pj run dr hp y (Int.ofNat g) hy hSg (show g≠0 by omega)
 generalize mV x (Int.ofNat g)=qx at *
 generalize mV y (Int.ofNat g)=qy at *
 generalize B0 x (Int.ofNat g)=mx at *
 generalize B0 y (Int.ofNat g)=my at *
 have e:bt (Int.ofNat g) = .agg [.sc (.bool false),.imm 1 false [dg g]]:=by
  show wh false (aK g)=_
  rw[ou (by omega) hg2];rfl
 have eb:bW (Int.ofNat g)=⟨.live,[.sc (.bool false),.imm 1 false [dg g]]⟩:=by
  show (⟨.live,[.sc (.bool false),aQ (aK g)]⟩:Blk)=_
  rw[ou (by omega) hg2];rfl
 have hd:dg g = .sc (.int .u32 (g:Int)):=rfl
 rw[e,hd] at hc1 hc2
 rw[eb,hd]
 simp only[bW,whW] at hc1 hc2 ⊢
 generalize aK qx.natAbs=rx at *
 generalize bA qx=nx at *
 generalize aK qy.natAbs=ry at *
 generalize bA qy=ny at *
 have hg3:(1:Int)<(g:Int):=by omega
 simp[mH,gC,Tryz.f104,seq1,ah,af,aH,ao,aq,aG,ag,ai,aL,an,aj,aF,aA,FzZ,bc,aw,bj,az,bO,bg,bQ,ke,partOf,aa,ae,ab,bd,and_assoc,cX,bp,ch,bG,bh,hc1,hc2,hg3,h42,h2,h3,h4,h5,uW,uD,sW,sD,s32,aW,aD,a32,wf0,wf1,aV,aY,bZ,cq,bF,br]
set_option maxHeartbeats 1000000 in
theorem Tw (run:ar)(k:Nat)(fr:List PV)(wr:List Nat)(b2:Blk)(x y:Int)(g:Nat)(hx:Sm x)(hy:Sm y)(hSg:Sm (Int.ofNat g))(hg:1000000000≤g)(h42:fr.length=42)(h2:nth fr 2 = .ptr 0 0)(h3:nth fr 3 = .ptr 1 0)(h4:nth fr 4 = .ptr 2 0)(h5:nth fr 5 = .ptr 3 0) :
  ∃ fr' wr',af (CC L9) run k mH ⟨fr,[bW x,bW y,b2,bW (Int.ofNat g)],wr⟩=some (.normal,⟨fr',[bW (mV x (Int.ofNat g)),bW (mV y (Int.ofNat g)),b2,bW (Int.ofNat g)],wr'⟩)∧fr'.length=42∧nth fr' 2 = .ptr 0 0∧nth fr' 3 = .ptr 1 0∧nth fr' 4 = .ptr 2 0:=by
 have hc1:=fun dr hp=>pj run dr hp x (Int.ofNat g) hx hSg (show g≠0 by omega)
 have hc2:=fun dr hp=>pj run dr hp y (Int.ofNat g) hy hSg (show g≠0 by omega)
 generalize mV x (Int.ofNat g)=qx at *
 generalize mV y (Int.ofNat g)=qy at *
 generalize B0 x (Int.ofNat g)=mx at *
 generalize B0 y (Int.ofNat g)=my at *
 have hl:=rJ hg
 have e:bt (Int.ofNat g) = .agg [.sc (.bool false),aQ (aK g)]:=rfl
 have eb:bW (Int.ofNat g)=⟨.live,[.sc (.bool false),aQ (aK g)]⟩:=rfl
 rw[e] at hc1 hc2
 rw[eb]
 simp only[bW,whW] at hc1 hc2 ⊢
 generalize aK qx.natAbs=rx at *
 generalize bA qx=nx at *
 generalize aK qy.natAbs=ry at *
 generalize bA qy=ny at *
 generalize aK g=dl at *
 have hl1:(1:Int)<(dl.length:Int):=by omega
 simp[mH,gC,Tryz.f104,seq1,ah,af,aH,ao,aq,aG,ag,ai,aL,an,aj,aF,aA,FzZ,bc,aw,bj,az,bO,bQ,partOf,aa,ae,ab,bd,and_assoc,cB,bp,ch,bG,bh,hc1,hc2,hl1,h42,h2,h3,h4,h5,uW,uD,sW,sD,aW,aD,wf0,wf1,aV,aY,bZ,cq,bF,br]
theorem Ap (run:ar)(k:Nat)(fr:List PV)(wr:List Nat)(b3:Blk)(x y:Int)(h42:fr.length=42)(h2:nth fr 2 = .ptr 0 0)(h3:nth fr 3 = .ptr 1 0)(h4:nth fr 4 = .ptr 2 0) :
  ∃ st,af (CC L9) run k (ah 4 gC) ⟨fr,[bW x,bW y,zR4,b3],wr⟩=some (.ret,st)∧aU TT st.fr st.hp Tryz.f104.results.toList=some [cl x y]:=by
 simp only[bW,cl]
 generalize aK x.natAbs=rx at *
 generalize bA x=nx at *
 generalize aK y.natAbs=ry at *
 generalize bA y=ny at *
 simp[gC,Tryz.f104,ah,af,aH,ao,aq,aG,ag,ai,an,aj,aF,aA,FzZ,az,partOf,aa,ae,ab,bd,bp,ch,bG,bh,h42,h2,h3,h4,uR,sR,sW,aR,aW,zR,rf0,rf1,fj,dA,ky,aV,aY,bZ,cq,bF,br,aU]
def kZ (x y:Int):Int:=sgn (bA (bif bA y then -x else x)) (x.natAbs / Nat.gcd x.natAbs y.natAbs)
def k9 (x y:Int):Int:=Int.ofNat (y.natAbs / Nat.gcd x.natAbs y.natAbs)
theorem yf (x:Int)(g:Nat)(h:x.natAbs % g=0):mV x (Int.ofNat g)=sgn (bA x) (x.natAbs / g):=by
 have h1:yg x (Int.ofNat g)=false:=by
  unfold yg
  rw[show (Int.ofNat g).natAbs=g from rfl,h]
  rfl
 rw[mV,h1,cond_false]
 show sgn (bA x != false) (x.natAbs / g)=_
 simp
def pz:List PV→Option (List PV)
 | [p,q]=>match fU p,fU q with
  | some x,some y=>bif !(y.natAbs.beq 0) then some [cl (kZ x y) (k9 x y)] else none
  | _,_=>none
 | _=>none
theorem An (run:ar)(k:Nat)(fr:List PV)(wr:List Nat)(x y:Int)(hx:Sm x)(hy:Sm y)(hy0:0<y)
  (h42:fr.length=42) (h2:nth fr 2 = .ptr 0 0) (h3:nth fr 3 = .ptr 1 0) (h4:nth fr 4 = .ptr 2 0) :
  ∃ st,af (CC L9) run k (ah 2 gC) ⟨fr,[bW x,bW y,zR4],wr⟩=some (.ret,st)∧aU TT st.fr st.hp Tryz.f104.results.toList=some [cl (sgn (bA x) (x.natAbs / Nat.gcd x.natAbs y.natAbs)) (Int.ofNat (y.natAbs / Nat.gcd x.natAbs y.natAbs))]:=by
 obtain⟨f1,wr1,a1,a2,a3,a4,a5,a6⟩:=Z6 run k fr wr x y hx hy h42 h2 h3 h4
 have hgp:0<Nat.gcd x.natAbs y.natAbs:=Nat.gcd_pos_of_pos_right _ (by omega)
 have hny:bA y=false:=by rw[cR];simp;omega
 have hyn:Int.ofNat y.natAbs=y:=by simp;omega
 by_cases h1:Nat.gcd x.natAbs y.natAbs=1
 ·rw[h1] at a1 ⊢
  obtain⟨f2,wr2,b1,b2,b3,b4,b5⟩:=Ty run k f1 wr1 (bW x) (bW y) zR4 a2 a3 a4 a5 a6
  obtain⟨st,e1,e2⟩:=Ap run k f2 wr2 (bW 1) x y b2 b3 b4 b5
  refine⟨st,?_,?_⟩
  ·rw[ux,av a1,uw]
   show af (CC L9) run k (.seq mH (ah 4 gC)) ⟨f1,[bW x,bW y,zR4,bW 1],wr1⟩=_
   rw[av b1]
   exact e1
  ·rw[e2,Nat.div_one,Nat.div_one,aea,hyn]
 ·obtain⟨f2,wr2,b1,b2,b3,b4,b5⟩:∃ fr' wr',af (CC L9) run k mH ⟨f1,[bW x,bW y,zR4,bW (Int.ofNat (Nat.gcd x.natAbs y.natAbs))],wr1⟩=some (.normal,⟨fr',[bW (mV x (Int.ofNat (Nat.gcd x.natAbs y.natAbs))),bW (mV y (Int.ofNat (Nat.gcd x.natAbs y.natAbs))),zR4,bW (Int.ofNat (Nat.gcd x.natAbs y.natAbs))],wr'⟩)∧fr'.length=42∧nth fr' 2 = .ptr 0 0∧nth fr' 3 = .ptr 1 0∧nth fr' 4 = .ptr 2 0:=by
   by_cases hg2:Nat.gcd x.natAbs y.natAbs<1000000000
   ·exact Tx run k f1 wr1 zR4 x y (Nat.gcd x.natAbs y.natAbs) hx hy (by omega) hg2 a2 a3 a4 a5 a6
   ·exact Tw run k f1 wr1 zR4 x y (Nat.gcd x.natAbs y.natAbs) hx hy (hy.of_le (Nat.gcd_le_right _ (by omega))) (by omega) a2 a3 a4 a5 a6
  obtain⟨st,e1,e2⟩:=Ap run k f2 wr2 (bW (Int.ofNat (Nat.gcd x.natAbs y.natAbs))) (mV x (Int.ofNat (Nat.gcd x.natAbs y.natAbs))) (mV y (Int.ofNat (Nat.gcd x.natAbs y.natAbs))) b2 b3 b4 b5
  refine⟨st,?_,?_⟩
  ·rw[ux,av a1,uw,av b1]
   exact e1
  ·rw[e2,yf x _ (Nat.mod_eq_zero_of_dvd (Nat.gcd_dvd_left _ _)),yf y _ (Nat.mod_eq_zero_of_dvd (Nat.gcd_dvd_right _ _)),hny]
   rfl
theorem N6 (run:ar)(k:Nat)(x y:Int)(hx:Sm x)(hy:Sm y)(hy0:y.natAbs≠0) :
  ∃ st,af (CC L9) run k gC ⟨entry 42 [bt x,bt y],[],[]⟩=some (.ret,st)∧aU TT st.fr st.hp Tryz.f104.results.toList=some [cl (kZ x y) (k9 x y)]:=by
 obtain⟨f1,wr1,a1,a2,a3,a4,a5⟩:=TB run k x y
 by_cases h0:y<0
 ·have hny:bA y=true:=by rw[cR];simpa using h0
  obtain⟨f2,wr2,b1,b2,b3,b4,b5⟩:=Tz run k f1 wr1 x y hx hy h0 a2 a3 a4 a5
  obtain⟨st,e1,e2⟩:=An run k f2 wr2 (-x) (-y) hx.neg hy.neg (by omega) b2 b3 b4 b5
  refine⟨st,?_,?_⟩
  ·rw[aO 1 a1,xC,av b1];exact e1
  ·rw[e2,Int.natAbs_neg,Int.natAbs_neg,kZ,k9,hny];rfl
 ·have hny:bA y=false:=by rw[cR];simpa using h0
  obtain⟨f2,wr2,b1,b2,b3,b4,b5⟩:=TA run k f1 wr1 x y hy h0 a2 a3 a4 a5
  obtain⟨st,e1,e2⟩:=An run k f2 wr2 x y hx hy (by omega) b2 b3 b4 b5
  refine⟨st,?_,?_⟩
  ·rw[aO 1 a1,xC,av b1];exact e1
  ·rw[e2,kZ,k9,hny];rfl
theorem oZ:Ab.Spec base.P 104 pz:=Ab.Spec.bM (C:=CC L9) (cP ady) fun args rs h=>by
 unfold pz at h
 split at h
 ·split at h
  ·rename_i x y ex ey
   obtain⟨rfl,hx⟩:=eB ex
   obtain⟨rfl,hy⟩:=eB ey
   by_cases hy0:y.natAbs=0
   ·rw[hy0] at h;simp at h
   ·rw[kN hy0] at h
    simp only[Bool.not_false,cond_true,OiE] at h
    subst h
    obtain⟨st,e1,e2⟩:=N6 (runK (CC L9) 1) 1 x y hx hy hy0
    exact⟨2,_,_,_,_,_,aP PR rfl e1 e2,uz _ _ _,Wk.refl rfl,trivial⟩
  ·cases h
 ·cases h
theorem PO:base.F.get 129=some Tryz.f129:=by kernel_rfl
theorem Jz:base.F.get 49=some Tryz.f49:=by kernel_rfl
def au (L:Lst)(run:ar)(g:Nat)(args:List PV)(r:PV):Prop:=∀ dr hp,bX (CC L) run dr hp g args=some (r,hp,⟨[],[],false,false⟩)
theorem fz (n d:Int):cl n d = .agg [.sc (.bool (bA n)),aQ (aK n.natAbs),.sc (.bool (bA d)),aQ (aK d.natAbs)]:=rfl
set_option maxHeartbeats 1000000 in
theorem Nj (L:Lst)(run:ar)(k:Nat)(a b c d e1 e2 p q s t n m:Int)(g1:au L run 95 [cl c d] (bt e2))(g2:au L run 95 [cl a b] (bt e1))
  (g3:au L run 105 [bt a,bt e2] (bt p)) (g4:au L run 105 [bt c,bt e1] (bt q)) (g5:au L run 139 [bt p,bt q] (bt s)) (g6:au L run 105 [bt e1,bt e2] (bt t)) (g7:au L run 104 [bt s,bt t] (cl n m)) :
  ∃ st,af (CC L) run k (Tryz.f87.body.getD .skip) ⟨entry 22 [cl a b,cl c d],[],[]⟩=some (.ret,st)∧aU TT st.fr st.hp Tryz.f87.results.toList=some [cl n m]:=by
 obtain⟨h1,h2,h3⟩:=cn 20 (cl a b) (cl c d)
 generalize entry 22 [cl a b,cl c d]=fr0 at *
 unfold au at *
 simp only[whW,fz] at *
 simp[Tryz.f87,h1,h2,h3,af,aH,ao,aq,aG,ag,ai,aL,an,aj,aF,aA,FzZ,bQ,partOf,aa,ae,ab,bd,bp,ch,bG,bh,g1,g2,g3,g4,g5,g6,g7,uR,sR,sW,aR,aW,zR,rf0,rf1,aM,aV,aY,bZ,cq,bF,br,aU,number,FP.free,cH,FP.apart]
set_option maxHeartbeats 1000000 in
theorem M5 (L:Lst)(run:ar)(k:Nat)(a b c d e1 e2 p t n m:Int)(g1:au L run 95 [cl c d] (bt e2))(g2:au L run 95 [cl a b] (bt e1))
  (g3:au L run 105 [bt a,bt c] (bt p)) (g6:au L run 105 [bt e1,bt e2] (bt t)) (g7:au L run 104 [bt p,bt t] (cl n m)) :
  ∃ st,af (CC L) run k (Tryz.f56.body.getD .skip) ⟨entry 16 [cl a b,cl c d],[],[]⟩=some (.ret,st)∧aU TT st.fr st.hp Tryz.f56.results.toList=some [cl n m]:=by
 obtain⟨h1,h2,h3⟩:=cn 14 (cl a b) (cl c d)
 generalize entry 16 [cl a b,cl c d]=fr0 at *
 unfold au at *
 simp only[whW,fz] at *
 simp[Tryz.f56,h1,h2,h3,af,aH,ao,aq,aG,ag,ai,aL,an,aj,aF,aA,FzZ,bQ,partOf,aa,ae,ab,bd,bp,ch,bG,bh,g1,g2,g3,g6,g7,uR,sR,sW,aR,aW,zR,rf0,rf1,aM,aV,aY,bZ,cq,bF,br,aU,number,FP.free,cH,FP.apart]
set_option maxHeartbeats 1000000 in
theorem Ni (L:Lst)(run:ar)(k:Nat)(a b c d e1 e2 p q r:Int)(g1:au L run 95 [cl c d] (bt e2))(g2:au L run 95 [cl a b] (bt e1))
  (g3:au L run 105 [bt a,bt e2] (bt p)) (g4:au L run 105 [bt c,bt e1] (bt q)) (g5:au L run 96 [bt p,bt q] (Ab.bz r)) :
  ∃ st,af (CC L) run k (Tryz.f129.body.getD .skip) ⟨entry 16 [cl a b,cl c d],[],[]⟩=some (.ret,st)∧aU TT st.fr st.hp Tryz.f129.results.toList=some [Ab.bz r]:=by
 obtain⟨h1,h2,h3⟩:=cn 14 (cl a b) (cl c d)
 generalize entry 16 [cl a b,cl c d]=fr0 at *
 unfold au at *
 simp only[whW,fz,Ab.bz] at *
 simp[Tryz.f129,h1,h2,h3,af,aH,ao,aq,aG,ag,ai,aL,an,aj,aF,aA,FzZ,az,bQ,partOf,aa,ae,ab,bd,bp,g1,g2,g3,g4,g5,uR,sR,sW,aR,aW,rf0,rf1,aM,aV,aY,bF,br,aU,number,FP.free,cH,FP.apart]
theorem M4 (L:Lst)(run:ar)(k:Nat)(a b c:Int)(g1:au L run 149 [bt a] (bt c)) :
  ∃ st,af (CC L) run k (Tryz.f106.body.getD .skip) ⟨entry 9 [cl a b],[],[]⟩=some (.ret,st)∧aU TT st.fr st.hp Tryz.f106.results.toList=some [cl c b]:=by
 obtain⟨h1,h2⟩:=cW 8 (cl a b)
 generalize entry 9 [cl a b]=fr0 at *
 unfold au at *
 simp only[whW,fz] at *
 simp[Tryz.f106,h1,h2,af,aH,ao,aq,aG,ag,ai,aL,an,aj,aF,aA,FzZ,az,bQ,partOf,aa,ae,ab,bd,bp,ch,bG,bh,g1,uR,sR,sW,aR,aW,zR,rf0,rf1,fj,dA,ky,aM,aV,aY,bZ,cq,bF,br,aU,number,FP.free,cH,FP.apart]
theorem GX (L:Lst)(run:ar)(k:Nat)(a b c:Int)(g1:au L run 101 [bt a] (Ab.bz c)) :
  ∃ st,af (CC L) run k (Tryz.f49.body.getD .skip) ⟨entry 6 [cl a b],[],[]⟩=some (.ret,st)∧aU TT st.fr st.hp Tryz.f49.results.toList=some [Ab.bz c]:=by
 obtain⟨h1,h2⟩:=cW 5 (cl a b)
 generalize entry 6 [cl a b]=fr0 at *
 unfold au at *
 simp only[whW,fz,Ab.bz] at *
 simp[Tryz.f49,h1,h2,af,aH,ao,aq,aG,ag,ai,aL,an,aj,aF,aA,FzZ,az,bQ,partOf,aa,ae,ab,bd,bp,g1,uR,sW,aW,rf0,rf1,aM,aV,aY,bF,br,aU]
theorem MU (L:Lst)(run:ar)(k:Nat)(a b c d e f n m:Int)(g1:au L run 106 [cl c d] (cl e f))(g2:au L run 87 [cl a b,cl e f] (cl n m)) :
  ∃ st,af (CC L) run k (Tryz.f55.body.getD .skip) ⟨entry 9 [cl a b,cl c d],[],[]⟩=some (.ret,st)∧aU TT st.fr st.hp Tryz.f55.results.toList=some [cl n m]:=by
 obtain⟨h1,h2,h3⟩:=cn 7 (cl a b) (cl c d)
 generalize entry 9 [cl a b,cl c d]=fr0 at *
 unfold au at *
 simp only[fz] at *
 simp[Tryz.f55,h1,h2,h3,af,aH,ao,aq,aG,ag,ai,aL,an,aj,aF,aA,partOf,aa,ae,ab,bd,bp,ch,bG,bh,g1,g2,sR,aR,zR,aM,aV,aY,bZ,cq,bF,br,aU,number,FP.free,cH,FP.apart]
def L10:Lst:=[(95,yX),(105,yS),(139,tw),(104,pz),(149,s9),(101,jE),(96,rP)]
theorem yB:dw base.P L10:=⟨rM,rj,oC,oZ,nY,ki,oy,trivial⟩
theorem aaM:bu L10 95=fun a=>yX (aJ a):=rfl
theorem aaL:bu L10 105=fun a=>yS (aJ a):=rfl
theorem aaO:bu L10 139=fun a=>tw (aJ a):=rfl
theorem Ua:bu L10 104=fun a=>pz (aJ a):=rfl
theorem aaK:bu L10 149=fun a=>s9 (aJ a):=rfl
theorem T9:bu L10 101=fun a=>jE (aJ a):=rfl
theorem aaN:bu L10 96=fun a=>rP (aJ a):=rfl
theorem yq (n d:Int):aJ [cl n d]=[cl n d]:=by simp only[aJ,B7]
theorem pb (run:ar)(n d:Int)(hn:Sm n)(hd:Sm d):au L10 run 95 [cl n d] (bt (dL d)):=fun dr hp =>
 bw Rz aaM run dr hp _ [bt (dL d)] (uz hp n d) (yq n d) (by simp only[yX,iu hn hd])
theorem mR (run:ar)(x y:Int)(hx:Sm x)(hy:Sm y):au L10 run 105 [bt x,bt y] (bt (x*y)):=fun dr hp =>
 bw Rv aaL run dr hp _ [bt (x*y)] (gk hp x y) (fq x y) (by simp only[yS,cM hx,cM hy])
theorem ab7 (run:ar)(x y:Int)(hx:Sm x)(hy:Sm y):au L10 run 139 [bt x,bt y] (bt (x+y)):=fun dr hp =>
 bw GS aaO run dr hp _ [bt (x+y)] (gk hp x y) (fq x y) (by simp only[tw,cM hx,cM hy])
theorem ab6 (run:ar)(x y:Int)(hx:Sm x)(hy:Sm y):au L10 run 96 [bt x,bt y] (Ab.bz (fO x y)):=fun dr hp =>
 bw GR aaN run dr hp _ [Ab.bz (fO x y)] (gk hp x y) (fq x y) (by simp only[rP,cM hx,cM hy])
theorem ab5 (run:ar)(x:Int)(hx:Sm x):au L10 run 149 [bt x] (bt (-x)):=fun dr hp =>
 bw GP aaK run dr hp _ [bt (-x)] (m4 hp x) (kb x) (by simp only[s9,cM hx])
theorem VB (run:ar)(x:Int)(hx:Sm x):au L10 run 101 [bt x] (Ab.bz x.sign):=fun dr hp =>
 bw vt T9 run dr hp _ [Ab.bz x.sign] (m4 hp x) (kb x) (by simp only[jE,cM hx])
def ra (_ y:Int):Bool := !(y.natAbs.beq 0)
theorem EX (run:ar)(x y:Int)(hx:Sm x)(hy:Sm y)(h:ra x y=true):au L10 run 104 [bt x,bt y] (cl (kZ x y) (k9 x y)):=fun dr hp =>
 bw J5 Ua run dr hp _ [cl (kZ x y) (k9 x y)] (gk hp x y) (fq x y) (by
  unfold ra at h
  simp only[pz,cM hx,cM hy,h,cond_true])
def smB (x:Int):Bool:=x.natAbs.log2.blt 11000000
theorem jg {x:Int}(h:smB x=true):Sm x:=abw (by simpa [smB,Nat.blt_eq] using h)
theorem Cf:Sm 1:=by unfold Sm;decide
theorem oD {d:Int}(h:Sm d):Sm (dL d):=by
 unfold dL
 by_cases h0:d=0
 ·rw[if_pos h0];exact Cf
 ·rw[if_neg h0];exact h
def jb:List PV→Option (List PV)
 | [p,q]=>match hZ p,hZ q with
  | some (a,b),some (c,d)=>bif smB (a*dL d) && (smB (c*dL b) && (smB (a*dL d+c*dL b) && (smB (dL b*dL d) && ra (a*dL d+c*dL b) (dL b*dL d)))) then
    some [cl (kZ (a*dL d+c*dL b) (dL b*dL d)) (k9 (a*dL d+c*dL b) (dL b*dL d))] else none
  | _,_=>none
 | _=>none
theorem oV:Ab.Spec base.P 87 jb:=Ab.Spec.bM (C:=CC L10) (cP yB) fun args rs h=>by
 unfold jb at h
 split at h
 ·split at h
  ·rename_i a b c d ex ey
   obtain⟨rfl,ha,hb⟩:=eI ex
   obtain⟨rfl,hc,hd⟩:=eI ey
   cases hg:smB (a*dL d) && (smB (c*dL b) && (smB (a*dL d+c*dL b) && (smB (dL b*dL d) && ra (a*dL d+c*dL b) (dL b*dL d)))) with
   | false=>rw[hg] at h;cases h
   | true =>
    rw[hg] at h
    simp only[cond_true,OiE] at h
    subst h
    simp only[Bool.and_eq_true] at hg
    obtain⟨h1,h2,h3,h4,h5⟩:=hg
    obtain⟨st,e1,e2⟩:=Nj L10 (runK (CC L10) 1) 1 a b c d _ _ _ _ _ _ _ _ (pb _ c d hc hd) (pb _ a b ha hb) (mR _ _ _ ha (oD hd)) (mR _ _ _ hc (oD hb)) (ab7 _ _ _ (jg h1) (jg h2)) (mR _ _ _ (oD hb) (oD hd)) (EX _ _ _ (jg h3) (jg h4) h5)
    exact⟨2,_,_,_,_,_,aP PQ rfl e1 e2,uz _ _ _,Wk.refl rfl,trivial⟩
  ·cases h
 ·cases h
def kS:List PV→Option (List PV)
 | [p,q]=>match hZ p,hZ q with
  | some (a,b),some (c,d)=>bif smB (a*c) && (smB (dL b*dL d) && ra (a*c) (dL b*dL d)) then
    some [cl (kZ (a*c) (dL b*dL d)) (k9 (a*c) (dL b*dL d))] else none
  | _,_=>none
 | _=>none
theorem oU:Ab.Spec base.P 56 kS:=Ab.Spec.bM (C:=CC L10) (cP yB) fun args rs h=>by
 unfold kS at h
 split at h
 ·split at h
  ·rename_i a b c d ex ey
   obtain⟨rfl,ha,hb⟩:=eI ex
   obtain⟨rfl,hc,hd⟩:=eI ey
   cases hg:smB (a*c) && (smB (dL b*dL d) && ra (a*c) (dL b*dL d)) with
   | false=>rw[hg] at h;cases h
   | true =>
    rw[hg] at h
    simp only[cond_true,OiE] at h
    subst h
    simp only[Bool.and_eq_true] at hg
    obtain⟨h1,h4,h5⟩:=hg
    obtain⟨st,e1,e2⟩:=M5 L10 (runK (CC L10) 1) 1 a b c d _ _ _ _ _ _ (pb _ c d hc hd) (pb _ a b ha hb) (mR _ _ _ ha hc) (mR _ _ _ (oD hb) (oD hd)) (EX _ _ _ (jg h1) (jg h4) h5)
    exact⟨2,_,_,_,_,_,aP PN rfl e1 e2,uz _ _ _,Wk.refl rfl,trivial⟩
  ·cases h
 ·cases h
def Ky:List PV→Option (List PV)
 | [p,q]=>match hZ p,hZ q with
  | some (a,b),some (c,d)=>bif smB (a*dL d) && smB (c*dL b) then some [Ab.bz (fO (a*dL d) (c*dL b))] else none
  | _,_=>none
 | _=>none
theorem zM:Ab.Spec base.P 129 Ky:=Ab.Spec.bM (C:=CC L10) (cP yB) fun args rs h=>by
 unfold Ky at h
 split at h
 ·split at h
  ·rename_i a b c d ex ey
   obtain⟨rfl,ha,hb⟩:=eI ex
   obtain⟨rfl,hc,hd⟩:=eI ey
   cases hg:smB (a*dL d) && smB (c*dL b) with
   | false=>rw[hg] at h;cases h
   | true =>
    rw[hg] at h
    simp only[cond_true,OiE] at h
    subst h
    simp only[Bool.and_eq_true] at hg
    obtain⟨h1,h2⟩:=hg
    obtain⟨st,e1,e2⟩:=Ni L10 (runK (CC L10) 1) 1 a b c d _ _ _ _ _ (pb _ c d hc hd) (pb _ a b ha hb) (mR _ _ _ ha (oD hd)) (mR _ _ _ hc (oD hb)) (ab6 _ _ _ (jg h1) (jg h2))
    exact⟨2,_,_,_,_,_,aP PO rfl e1 e2,eY _ _,Wk.refl rfl,trivial⟩
  ·cases h
 ·cases h
def kr:List PV→Option (List PV)
 | [p]=>match hZ p with
  | some (a,b)=>some [cl (-a) b]
  | none=>none
 | _=>none
theorem oT:Ab.Spec base.P 106 kr:=Ab.Spec.bM (C:=CC L10) (cP yB) fun args rs h=>by
 unfold kr at h
 split at h
 ·split at h
  ·rename_i a b ex
   obtain⟨rfl,ha,hb⟩:=eI ex
   simp only[OiE] at h
   subst h
   obtain⟨st,e1,e2⟩:=M4 L10 (runK (CC L10) 1) 1 a b _ (ab5 _ a ha)
   exact⟨2,_,_,_,_,_,aP PM rfl e1 e2,uz _ _ _,Wk.refl rfl,trivial⟩
  ·cases h
 ·cases h
def iA:List PV→Option (List PV)
 | [p]=>match hZ p with
  | some (a,_)=>some [Ab.bz a.sign]
  | none=>none
 | _=>none
theorem jj:Ab.Spec base.P 49 iA:=Ab.Spec.bM (C:=CC L10) (cP yB) fun args rs h=>by
 unfold iA at h
 split at h
 ·split at h
  ·rename_i a b ex
   obtain⟨rfl,ha,hb⟩:=eI ex
   simp only[OiE] at h
   subst h
   obtain⟨st,e1,e2⟩:=GX L10 (runK (CC L10) 1) 1 a b _ (VB _ a ha)
   exact⟨2,_,_,_,_,_,aP Jz rfl e1 e2,eY _ _,Wk.refl rfl,trivial⟩
  ·cases h
 ·cases h
def L11:Lst:=[(87,jb),(106,kr)]
theorem ag9:dw base.P L11:=⟨oV,oT,trivial⟩
theorem aaJ:bu L11 87=fun a=>jb (aJ a):=rfl
theorem aaI:bu L11 106=fun a=>kr (aJ a):=rfl
theorem acV (hp:List Blk)(a b c d:Int):bq (snap hp bn) [cl a b,cl c d]=some ([cl a b,cl c d],[]):=rfl
theorem WY (a b c d:Int):aJ [cl a b,cl c d]=[cl a b,cl c d]:=by simp only[aJ,B7]
theorem ab3 (run:ar)(n d:Int)(hn:Sm n)(hd:Sm d):au L11 run 106 [cl n d] (cl (-n) d):=fun dr hp =>
 bw J3 aaI run dr hp _ [cl (-n) d] (uz hp n d) (yq n d) (by simp only[kr,iu hn hd])
theorem ab4 (run:ar)(a b c d n m:Int)(h:jb [cl a b,cl c d]=some [cl n m]):au L11 run 87 [cl a b,cl c d] (cl n m):=fun dr hp =>
 bw J4 aaJ run dr hp _ [cl n m] (acV hp a b c d) (WY a b c d) h
def nJ:List PV→Option (List PV)
 | [p,q]=>match hZ q with
  | some (c,d)=>jb [p,cl (-c) d]
  | _=>none
 | _=>none
theorem Nk {p q:PV}{rs:List PV}(h:jb [p,q]=some rs):∃ a b n m,p=cl a b∧rs=[cl n m]:=by
 simp only[jb] at h
 split at h
 ·rename_i a b c d ex ey
  obtain⟨rfl,-,-⟩:=eI ex
  cases hg:smB (a*dL d) && (smB (c*dL b) && (smB (a*dL d+c*dL b) && (smB (dL b*dL d) && ra (a*dL d+c*dL b) (dL b*dL d)))) with
  | false=>rw[hg] at h;cases h
  | true =>
   rw[hg] at h
   simp only[cond_true,OiE] at h
   exact⟨a,b,_,_,rfl,h.symm⟩
 ·cases h
theorem oS:Ab.Spec base.P 55 nJ:=Ab.Spec.bM (C:=CC L11) (cP ag9) fun args rs h=>by
 unfold nJ at h
 split at h
 ·split at h
  ·rename_i p q c d ey
   obtain⟨rfl,hc,hd⟩:=eI ey
   obtain⟨a,b,n,m,rfl,rfl⟩:=Nk h
   obtain⟨st,e1,e2⟩:=MU L11 (runK (CC L11) 1) 1 a b c d _ _ n m (ab3 _ c d hc hd) (ab4 _ a b (-c) d n m h)
   exact⟨2,_,_,_,_,_,aP PK rfl e1 e2,uz _ _ _,Wk.refl rfl,trivial⟩
  ·cases h
 ·cases h
end Go.Proofs.YtjdmodeenbdfpaaGreat
end
