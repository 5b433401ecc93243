/- Contracts of num's integers, part 25 of the proof; each lemma states its own conditions. -/
import Derived.Shelf.Strings.Search1
import Derived.Shelf.Strings.Repeat
import Derived.Test.YtjdmodeenbdfpaaGreatProg
import Derived.Test.YtjdmodeenbdfpaaGreatR24
set_option linter.unusedSimpArgs false
set_option linter.unusedVariables false
set_option linter.unusedSimpArgs false
set_option linter.unusedVariables false
namespace Go.Proofs
open Go.Shelf Go.RowKit Go.Lib
def Tryz.C0:Go.Shelf.Ren:=⟨fun | 217=>191 | 266=>196 | n=>n,fun | 9=>9 | 5=>5 | 3=>3 | n=>n,fun | n=>n⟩
theorem Tryz.Y2:Go.Proofs.Lays.n217 Tryz.prog Tryz.C0:={
 mixed:=by kernel_rfl
 f217:=Tryz.func191.trans (congrArg some (by kernel_rfl))
 f266:=Tryz.func196.trans (congrArg some (by kernel_rfl))
 t3:=Tryz.underlying3
 a3:=Tryz.isAgg3
 z3:=Tryz.sizeOf3
 v3:=Tryz.zeroValue3
 t5:=Tryz.underlying5
 a5:=Tryz.isAgg5
 z5:=Tryz.sizeOf5
 v5:=Tryz.zeroValue5
 t9:=Tryz.underlying9
 a9:=Tryz.isAgg9
 z9:=Tryz.sizeOf9
 v9:=Tryz.zeroValue9 }
theorem Tryz.stringslite_IndexByte (s:ByteArray)(c:Int)(w:World) :
  Calls Tryz.prog 191 #[.string s,.int .u8 c] w fun e w'=>e = .returned (.int .i64 (Lib.indexByte s.data.toList c.toNat.toUInt8))∧w'=w:=Any.stringslite_IndexByte Tryz.Y2 s c w
end Go.Proofs
namespace Go.Proofs.YtjdmodeenbdfpaaGreat
open Go Go.Ab Go.RowKit
theorem EB {P:Program}{g:FuncId}{f:List PV→Option (List PV)}(he:∀ (args:Array Value)(w:World),(callFunc g args).run P w = .ok (.enter g args) w)
  (h:∀ args rs,f args=some rs→cq rs=true∧∀ (w:World) (M:Nat→Prop) (vs:List Value),Vs w M [] NoL args vs →
   ∃ post:Ending→World→Prop,Calls P g vs.toArray w post∧∀ e w',post e w'→∃ us,e = .returned (zX us)∧Vs w' M [] NoL rs us∧Old w w'):Ab.Spec P g f:=by
 intro args rs hf hi
 obtain⟨h1,h2⟩:=h args rs hf
 refine⟨h1,fun w M vs hM hvs => ?_⟩
 obtain⟨post,h3,h4⟩:=h2 w M vs hvs
 unfold iX
 rw[he]
 refine h3.mono fun e w' hh => ?_
 obtain⟨us,h5,h6⟩:=h4 e w' hh
 exact⟨_,h5,us,rfl,h6⟩
theorem Old.refl (w:World):Old w w:=⟨rfl,rfl,rfl,Nat.le_refl _,fun _ _=>rfl⟩
theorem vs2 {w:World}{M:Nat→Prop}{a b:Value}{vs:List Value}(h:Vs w M [] NoL [.sc a,.sc b] vs):vs=[a,b]:=by
 obtain⟨h1,h2⟩:=h
 match vs,h1 with
 | [u,v],_ =>
  have e1:=h2 0 _ u rfl rfl
  have e2:=h2 1 _ v rfl rfl
  cases e1;cases e2;rfl
theorem aex (w:World)(M:Nat→Prop)(a:Value):Vs w M [] NoL [.sc a] [a]:=⟨rfl,fun k p v h1 h2=>by
 cases k with
 | zero=>simp at h1 h2;subst h1;subst h2;exact .sc _
 | succ k=>simp at h1⟩
def ibF:List PV→Option (List PV)
 | [.sc (.string s),.sc (.int .u8 c)]=>some [.sc (.int .i64 (Lib.indexByte (bK s) c.toNat.toUInt8))]
 | _=>none
theorem Y8:Ab.Spec base.P 191 ibF:=EB (P:=Tryz.prog) Tryz.call191 fun args rs h=>by
 unfold ibF at h
 split at h
 ·rename_i s c
  simp only[Option.some.injEq] at h
  subst h
  refine⟨rfl,fun w M vs hvs => ?_⟩
  rw[vs2 hvs]
  refine⟨_,Tryz.stringslite_IndexByte s c w,?_⟩
  rintro e w' ⟨rfl,rfl⟩
  exact⟨[_],rfl,aex _ M _,Old.refl _⟩
 ·cases h
def rf0:Field:={ name := "n",type:=70,offset:=0,embedded:=false,tag := "",pkgPath := "torus/num",byteOffset:=0 }
def rf1:Field:={ name := "d",type:=70,offset:=2,embedded:=false,tag := "",pkgPath := "torus/num",byteOffset:=32 }
theorem uR:und TT 72=some (.struct #[rf0,rf1]):=by kernel_rfl
theorem sR:dc TT 72=some 4:=by kernel_rfl
theorem aR:fR TT 72=some true:=by kernel_rfl
theorem zR:eK TT 72=some [.sc (.bool false),.sc (.slice none 0 0),.sc (.bool false),.sc (.slice none 0 0)]:=by kernel_rfl
theorem U5:base.F.get 95=some Tryz.f95:=by kernel_rfl
theorem NM:base.F.get 104=some Tryz.f104:=by kernel_rfl
theorem NL:base.F.get 87=some Tryz.f87:=by kernel_rfl
theorem NG:base.F.get 55=some Tryz.f55:=by kernel_rfl
theorem NJ:base.F.get 56=some Tryz.f56:=by kernel_rfl
theorem NI:base.F.get 106=some Tryz.f106:=by kernel_rfl
theorem OL:base.shared 95=false:=by kernel_rfl
theorem Ip:base.shared 104=false:=by kernel_rfl
theorem Io:base.shared 87=false:=by kernel_rfl
theorem Im:base.shared 106=false:=by kernel_rfl
def cb (n d:Int):PV:=.agg [.sc (.bool (bx n)),aM (aG n.natAbs),.sc (.bool (bx d)),aM (aG d.natAbs)]
def gF:PV→Option (Int × Int)
 | .agg [a,b,c,d]=>match fD (.agg [a,b]),fD (.agg [c,d]) with
  | some n,some m=>some (n,m)
  | _,_=>none
 | _=>none
theorem et {p:PV}{n d:Int}(h:gF p=some (n,d)):p=cb n d∧Sm n∧Sm d:=by
 unfold gF at h
 split at h
 ·split at h
  ·rename_i n' m' e1 e2
   simp only[Option.some.injEq,Prod.mk.injEq] at h
   obtain⟨rfl,rfl⟩:=h
   obtain⟨h1,h2⟩:=dV e1
   obtain⟨h3,h4⟩:=dV e2
   refine⟨?_,h2,h4⟩
   simp only[whW,PV.agg.injEq,List.cons.injEq,and_true] at h1 h3
   obtain⟨rfl,rfl⟩:=h1
   obtain⟨rfl,rfl⟩:=h3
   rfl
  ·cases h
 ·cases h
theorem gV {n d:Int}(h1:Sm n)(h2:Sm d):gF (cb n d)=some (n,d):=by
 have e1:=cJ h1
 have e2:=cJ h2
 rw[whW] at e1 e2
 simp only[gF,cb,e1,e2]
theorem AK (n d:Int):canon (cb n d)=cb n d:=by simp only[cb,canon,aK,fA]
theorem sY (hp:List Blk)(n d:Int):bt (snap hp bp) [cb n d]=some ([cb n d],[]):=rfl
noncomputable def L9:Lst:=[(101,jf),(97,ofF),(149,rC),(150,wo),(151,TB)]
theorem aaG:dL base.P L9:=⟨jD,lV,mX,pW,Tx,trivial⟩
theorem XW:bw L9 101=fun a=>jf (aK a):=rfl
theorem aeN:bw L9 97=fun a=>ofF (aK a):=rfl
theorem abP:bw L9 149=fun a=>rC (aK a):=rfl
theorem abQ:bw L9 150=fun a=>wo (aK a):=rfl
theorem abR:bw L9 151=fun a=>TB (aK a):=rfl
theorem o0 (run:ar)(dr:Bool)(hp:List Blk)(x:Int)(hx:Sm x):cg (CC L9) run dr hp 101 [bq x]=some (Ab.bJ x.sign,hp,⟨[],[],false,false⟩) :=
 bu tH XW run dr hp _ [Ab.bJ x.sign] (ml hp x) (jy x) (by simp only[jf,cJ hx])
theorem Uv (run:ar)(dr:Bool)(hp:List Blk):cg (CC L9) run dr hp 97 [.sc (.int .i64 1)]=some (bq 1,hp,⟨[],[],false,false⟩) :=
 bu xX aeN run dr hp _ [bq 1] rfl rfl rfl
theorem zo (run:ar)(dr:Bool)(hp:List Blk)(x:Int)(hx:Sm x):cg (CC L9) run dr hp 149 [bq x]=some (bq (-x),hp,⟨[],[],false,false⟩) :=
 bu EV abP run dr hp _ [bq (-x)] (ml hp x) (jy x) (by simp only[rC,cJ hx])
theorem Nh (run:ar)(dr:Bool)(hp:List Blk)(x y:Int)(hx:Sm x)(hy:Sm y) :
  cg (CC L9) run dr hp 150 [bq x,bq y]=some (bq (Int.ofNat (Nat.gcd x.natAbs y.natAbs)),hp,⟨[],[],false,false⟩) :=
 bu OK abQ run dr hp _ [bq (Int.ofNat (Nat.gcd x.natAbs y.natAbs))] (fK hp x y) (eY x y) (by simp only[wo,cJ hx,cJ hy])
theorem oo (run:ar)(dr:Bool)(hp:List Blk)(x y:Int)(hx:Sm x)(hy:Sm y)(h0:y.natAbs≠0) :
  cg (CC L9) run dr hp 151 [bq x,bq y]=some (.tup [bq (me x y),bq (AF x y)],hp,⟨[],[],false,false⟩) :=
 bu J8 abR run dr hp _ [bq (me x y),bq (AF x y)] (fK hp x y) (eY x y) (by
  simp only[TB,cJ hx,cJ hy,jY h0,Bool.not_false,cond_true])
theorem TP (run:ar)(k:Nat)(n d:Int)(hd:Sm d) :
  ∃ st,af (CC L9) run k (Tryz.f95.body.getD .skip) ⟨entry 10 [cb n d],[],[]⟩=some (.ret,st)∧aZ TT st.fr st.hp Tryz.f95.results.toList=some [bq (if d=0 then 1 else d)]:=by
 have hc1:=fun dr hp=>o0 run dr hp d hd
 have hc2:=fun dr hp=>Uv run dr hp
 obtain⟨e1,e2⟩:=cW 9 (cb n d)
 generalize entry 10 [cb n d]=fr0 at *
 unfold cb at e2
 by_cases h0:d=0
 ·rw[if_pos h0]
  have hs:d.sign=0:=by rw[h0];rfl
  rw[hs] at hc1
  simp only[whW,Ab.bJ] at hc1 hc2 ⊢
  generalize aG n.natAbs=rn at *
  generalize aG d.natAbs=rd at *
  generalize bx n=nn at *
  generalize bx d=nd at *
  simp[Tryz.f95,e1,e2,af,aJ,ao,aq,aH,ag,ai,aQ,aj,an,aF,aC,FP.none,bd,au,bj,aw,bL,partOf,aa,ae,ab,bh,bn,bX,bC,bg,hc1,hc2,uR,sW,aW,zW,rf0,rf1,aO,aU,aV,bO,cj,bG,br,aZ]
 ·rw[if_neg h0]
  have hs:(d.sign == 0)=false:=by
   rw[beq_eq_false_iff_ne]
   intro h;exact h0 (Int.sign_eq_zero_iff_zero.1 h)
  have hs' : ¬ d=0:=h0
  generalize d.sign=sg at *
  simp only[whW,Ab.bJ] at hc1 ⊢
  generalize aG n.natAbs=rn at *
  generalize aG d.natAbs=rd at *
  generalize bx n=nn at *
  generalize bx d=nd at *
  simp[Tryz.f95,e1,e2,af,aJ,ao,aq,aH,ag,ai,aQ,aj,an,aF,aC,FP.none,bd,au,bj,aw,bL,partOf,aa,ae,ab,bh,bn,bX,bC,bg,hc1,hs,uR,sW,aW,zW,rf0,rf1,aO,aU,aV,bO,cj,bG,br,aZ]
def dC (d:Int):Int:=if d=0 then 1 else d
def xx:List PV→Option (List PV)
 | [p]=>match gF p with
  | some (_,d)=>some [bq (dC d)]
  | none=>none
 | _=>none
theorem qk:Ab.Spec base.P 95 xx:=Ab.Spec.bQ (C:=CC L9) (cV aaG) fun args rs h=>by
 unfold xx at h
 split at h
 ·split at h
  ·rename_i n d e
   obtain⟨rfl,-,hd⟩:=et e
   simp only[Option.some.injEq] at h
   subst h
   obtain⟨st,e1,e2⟩:=TP (runK (CC L9) 1) 1 n d hd
   exact⟨2,_,_,_,_,_,aX U5 rfl e1 e2,ji _ _,Wk.refl rfl,trivial⟩
  ·cases h
 ·cases h
noncomputable def fP:Code:=Tryz.f104.body.getD .skip
noncomputable def mV:Code:=seq1 (ah 1 fP)
theorem Xx:((Region.before (kA (cA mV)))[4]?.getD 0).testBit 0=true:=by kernel_rfl
theorem Xw:((Region.before (kA (cA mV)))[5]?.getD 0).testBit 2=true:=by kernel_rfl
abbrev zR4:Blk:=⟨.live,[.sc (.bool false),.sc (.slice none 0 0),.sc (.bool false),.sc (.slice none 0 0)]⟩
abbrev bW (x:Int):Blk:=⟨.live,[.sc (.bool (bx x)),aM (aG x.natAbs)]⟩
theorem vL:ah 1 fP = .seq mV (ah 2 fP):=rfl
theorem Q0 (run:ar)(k:Nat)(x y:Int) :
  ∃ fr wr,aY (CC L9) run k 1 fP ⟨entry 42 [bq x,bq y],[],[]⟩=some ⟨fr,[bW x,bW y,zR4],wr⟩∧fr.length=42∧nth fr 2 = .ptr 0 0∧nth fr 3 = .ptr 1 0∧nth fr 4 = .ptr 2 0:=by
 obtain⟨e1,e2,e3⟩:=cC 40 (bq x) (bq y)
 generalize entry 42 [bq x,bq y]=fr0 at *
 rw[whW] at e2 e3
 simp[fP,Tryz.f104,aY,e1,e2,e3,af,aJ,ao,aq,aH,ag,ai,aj,an,aF,aC,aa,ae,ab,bh,and_assoc,bn,zR,aO]
theorem QZ (run:ar)(k:Nat)(fr:List PV)(wr:List Nat)(x y:Int)(hy:Sm y)(h0 : ¬ (y<0))(h42:fr.length=42)(h2:nth fr 2 = .ptr 0 0)(h3:nth fr 3 = .ptr 1 0)(h4:nth fr 4 = .ptr 2 0) :
  ∃ fr' wr',af (CC L9) run k mV ⟨fr,[bW x,bW y,zR4],wr⟩=some (.normal,⟨fr',[bW x,bW y,zR4],wr'⟩)∧fr'.length=42∧nth fr' 2 = .ptr 0 0∧nth fr' 3 = .ptr 1 0∧nth fr' 4 = .ptr 2 0:=by
 have hc1:=fun dr hp=>o0 run dr hp y hy
 have hs : ¬ (y.sign<0):=by
  intro h
  have:=Int.sign_neg_iff.1 h
  omega
 generalize y.sign=sg at *
 simp only[whW,Ab.bJ] at hc1 ⊢
 simp[mV,fP,Tryz.f104,seq1,ah,af,aJ,ao,aq,aH,ag,ai,aQ,aj,an,aF,aC,FP.none,bd,au,bj,aw,partOf,aa,ae,ab,bh,and_assoc,hc1,hs,h42,h2,h3,h4,sW,aW,aU,aV,bG,br]
theorem QY (run:ar)(k:Nat)(fr:List PV)(wr:List Nat)(x y:Int)(hx:Sm x)(hy:Sm y)(h0:y<0)(h42:fr.length=42)(h2:nth fr 2 = .ptr 0 0)(h3:nth fr 3 = .ptr 1 0)(h4:nth fr 4 = .ptr 2 0) :
  ∃ fr' wr',af (CC L9) run k mV ⟨fr,[bW x,bW y,zR4],wr⟩=some (.normal,⟨fr',[bW (-x),bW (-y),zR4],wr'⟩)∧fr'.length=42∧nth fr' 2 = .ptr 0 0∧nth fr' 3 = .ptr 1 0∧nth fr' 4 = .ptr 2 0:=by
 have hc1:=fun dr hp=>o0 run dr hp y hy
 have hc2:=fun dr hp=>zo run dr hp x hx
 have hc3:=fun dr hp=>zo run dr hp y hy
 have hs:y.sign<0:=Int.sign_neg_iff.2 h0
 generalize y.sign=sg at *
 have hb1:=Xx
 have hb2:=Xw
 simp only[mV,fP,Tryz.f104,seq1,cA,ah,kA,Option.getD_some] at hb1 hb2
 simp only[bW,whW,Ab.bJ] at hc1 hc2 hc3 ⊢
 generalize aG (-x).natAbs=r1 at *
 generalize bx (-x)=n1 at *
 generalize aG (-y).natAbs=r2 at *
 generalize bx (-y)=n2 at *
 simp[-Nat.testBit_zero,hb1,hb2,mV,fP,Tryz.f104,seq1,ah,af,aJ,ao,aq,aH,ag,ai,aQ,aj,an,aF,aC,FP.none,bd,au,bj,aw,partOf,aa,ae,ab,bh,and_assoc,bn,bX,bC,bg,hc1,hc2,hc3,hs,h42,h2,h3,h4,sW,aW,aU,aV,bO,cj,bG,br,number,FP.free,cF,FP.apart]
noncomputable def Gi:Code:=seq1 (ah 2 fP)
noncomputable def lU:Code:=seq1 (ah 3 fP)
theorem sV:ah 2 fP = .seq Gi (ah 3 fP):=rfl
theorem sU:ah 3 fP = .seq lU (ah 4 fP):=rfl
theorem Xv (run:ar)(k:Nat)(fr:List PV)(wr:List Nat)(x y:Int)(hx:Sm x)(hy:Sm y)(h42:fr.length=42)(h2:nth fr 2 = .ptr 0 0)(h3:nth fr 3 = .ptr 1 0)(h4:nth fr 4 = .ptr 2 0) :
  ∃ fr' wr',af (CC L9) run k Gi ⟨fr,[bW x,bW y,zR4],wr⟩=some (.normal,⟨fr',[bW x,bW y,zR4,bW (Int.ofNat (Nat.gcd x.natAbs y.natAbs))],wr'⟩)∧fr'.length=42∧nth fr' 2 = .ptr 0 0∧nth fr' 3 = .ptr 1 0∧nth fr' 4 = .ptr 2 0∧nth fr' 5 = .ptr 3 0:=by
 have hc1:=fun dr hp=>Nh run dr hp x y hx hy
 generalize Int.ofNat (Nat.gcd x.natAbs y.natAbs)=g at *
 simp only[bW,whW] at hc1 ⊢
 generalize aG g.natAbs=rg at *
 generalize bx g=ng at *
 simp[Gi,fP,Tryz.f104,seq1,ah,af,aJ,ao,aq,aH,ag,ai,aQ,aj,an,aF,aC,partOf,aa,ae,ab,bh,and_assoc,bn,bX,bC,bg,hc1,h42,h2,h3,h4,sW,aW,zW,aO,aU,aV,bO,cj,bG,br]
theorem QX (run:ar)(k:Nat)(fr:List PV)(wr:List Nat)(b0 b1 b2:Blk)(h42:fr.length=42)(h2:nth fr 2 = .ptr 0 0)(h3:nth fr 3 = .ptr 1 0)(h4:nth fr 4 = .ptr 2 0)(h5:nth fr 5 = .ptr 3 0) :
  ∃ fr' wr',af (CC L9) run k lU ⟨fr,[b0,b1,b2,bW 1],wr⟩=some (.normal,⟨fr',[b0,b1,b2,bW 1],wr'⟩)∧fr'.length=42∧nth fr' 2 = .ptr 0 0∧nth fr' 3 = .ptr 1 0∧nth fr' 4 = .ptr 2 0:=by
 have e:aM (aG (1:Int).natAbs) = .imm 1 false [dg 1]:=rfl
 have hd:dg 1 = .sc (.int .u32 1):=rfl
 simp only[bW,e,hd]
 simp[lU,fP,Tryz.f104,seq1,ah,af,aJ,ao,aq,aH,ag,ai,aj,an,aF,aC,FP.none,bd,au,bj,aw,bM,bc,bL,jA,partOf,aa,ae,ab,bh,and_assoc,cS,h42,h2,h3,h4,h5,uW,uD,sD,s32,aD,a32,wf0,wf1,aU,aV,br]
set_option maxHeartbeats 1000000 in
theorem QW (run:ar)(k:Nat)(fr:List PV)(wr:List Nat)(b2:Blk)(x y:Int)(g:Nat)(hx:Sm x)(hy:Sm y)(hg:1<g)(hg2:g<1000000000)(h42:fr.length=42)(h2:nth fr 2 = .ptr 0 0)(h3:nth fr 3 = .ptr 1 0)(h4:nth fr 4 = .ptr 2 0)(h5:nth fr 5 = .ptr 3 0) :
  ∃ fr' wr',af (CC L9) run k lU ⟨fr,[bW x,bW y,b2,bW (Int.ofNat g)],wr⟩=some (.normal,⟨fr',[bW (me x (Int.ofNat g)),bW (me y (Int.ofNat g)),b2,bW (Int.ofNat g)],wr'⟩)∧fr'.length=42∧nth fr' 2 = .ptr 0 0∧nth fr' 3 = .ptr 1 0∧nth fr' 4 = .ptr 2 0:=by
 have hSg:Sm (Int.ofNat g):=by
  unfold Sm
  rw[show (Int.ofNat g).natAbs=g from rfl,np (by omega) hg2];simp
 have hc1:=fun dr hp=>oo run dr hp x (Int.ofNat g) hx hSg (show g≠0 by omega)
 have hc2:=fun dr hp=>oo run dr hp y (Int.ofNat g) hy hSg (show g≠0 by omega)
 generalize me x (Int.ofNat g)=qx at *
 generalize me y (Int.ofNat g)=qy at *
 generalize AF x (Int.ofNat g)=mx at *
 generalize AF y (Int.ofNat g)=my at *
 have e:bq (Int.ofNat g) = .agg [.sc (.bool false),.imm 1 false [dg g]]:=by
  show wh false (aG g)=_
  rw[np (by omega) hg2];rfl
 have eb:bW (Int.ofNat g)=⟨.live,[.sc (.bool false),.imm 1 false [dg g]]⟩:=by
  show (⟨.live,[.sc (.bool false),aM (aG g)]⟩:Blk)=_
  rw[np (by omega) hg2];rfl
 have hd:dg g = .sc (.int .u32 (g:Int)):=rfl
 rw[e,hd] at hc1 hc2
 rw[eb,hd]
 simp only[bW,whW] at hc1 hc2 ⊢
 generalize aG qx.natAbs=rx at *
 generalize bx qx=nx at *
 generalize aG qy.natAbs=ry at *
 generalize bx qy=ny at *
 have hg3:(1:Int)<(g:Int):=by omega
 simp[lU,fP,Tryz.f104,seq1,ah,af,aJ,ao,aq,aH,ag,ai,aQ,aj,an,aF,aC,FP.none,bd,au,bj,aw,bM,bc,bL,jA,partOf,aa,ae,ab,bh,and_assoc,cS,bn,bX,bC,bg,hc1,hc2,hg3,h42,h2,h3,h4,h5,uW,uD,sW,sD,s32,aW,aD,a32,wf0,wf1,aU,aV,bO,cj,bG,br]
set_option maxHeartbeats 1000000 in
theorem QV (run:ar)(k:Nat)(fr:List PV)(wr:List Nat)(b2:Blk)(x y:Int)(g:Nat)(hx:Sm x)(hy:Sm y)(hSg:Sm (Int.ofNat g))(hg:1000000000≤g)(h42:fr.length=42)(h2:nth fr 2 = .ptr 0 0)(h3:nth fr 3 = .ptr 1 0)(h4:nth fr 4 = .ptr 2 0)(h5:nth fr 5 = .ptr 3 0) :
  ∃ fr' wr',af (CC L9) run k lU ⟨fr,[bW x,bW y,b2,bW (Int.ofNat g)],wr⟩=some (.normal,⟨fr',[bW (me x (Int.ofNat g)),bW (me y (Int.ofNat g)),b2,bW (Int.ofNat g)],wr'⟩)∧fr'.length=42∧nth fr' 2 = .ptr 0 0∧nth fr' 3 = .ptr 1 0∧nth fr' 4 = .ptr 2 0:=by
 have hc1:=fun dr hp=>oo run dr hp x (Int.ofNat g) hx hSg (show g≠0 by omega)
 have hc2:=fun dr hp=>oo run dr hp y (Int.ofNat g) hy hSg (show g≠0 by omega)
 generalize me x (Int.ofNat g)=qx at *
 generalize me y (Int.ofNat g)=qy at *
 generalize AF x (Int.ofNat g)=mx at *
 generalize AF y (Int.ofNat g)=my at *
 have hl:=qg hg
 have e:bq (Int.ofNat g) = .agg [.sc (.bool false),aM (aG g)]:=rfl
 have eb:bW (Int.ofNat g)=⟨.live,[.sc (.bool false),aM (aG g)]⟩:=rfl
 rw[e] at hc1 hc2
 rw[eb]
 simp only[bW,whW] at hc1 hc2 ⊢
 generalize aG qx.natAbs=rx at *
 generalize bx qx=nx at *
 generalize aG qy.natAbs=ry at *
 generalize bx qy=ny at *
 generalize aG g=dl at *
 have hl1:(1:Int)<(dl.length:Int):=by omega
 simp[lU,fP,Tryz.f104,seq1,ah,af,aJ,ao,aq,aH,ag,ai,aQ,aj,an,aF,aC,FP.none,bd,au,bj,aw,bM,bL,partOf,aa,ae,ab,bh,and_assoc,ct,bn,bX,bC,bg,hc1,hc2,hl1,h42,h2,h3,h4,h5,uW,uD,sW,sD,aW,aD,wf0,wf1,aU,aV,bO,cj,bG,br]
theorem yF (run:ar)(k:Nat)(fr:List PV)(wr:List Nat)(b3:Blk)(x y:Int)(h42:fr.length=42)(h2:nth fr 2 = .ptr 0 0)(h3:nth fr 3 = .ptr 1 0)(h4:nth fr 4 = .ptr 2 0) :
  ∃ st,af (CC L9) run k (ah 4 fP) ⟨fr,[bW x,bW y,zR4,b3],wr⟩=some (.ret,st)∧aZ TT st.fr st.hp Tryz.f104.results.toList=some [cb x y]:=by
 simp only[bW,cb]
 generalize aG x.natAbs=rx at *
 generalize bx x=nx at *
 generalize aG y.natAbs=ry at *
 generalize bx y=ny at *
 simp[fP,Tryz.f104,ah,af,aJ,ao,aq,aH,ag,ai,aj,an,aF,aC,FP.none,aw,partOf,aa,ae,ab,bh,bn,bX,bC,bg,h42,h2,h3,h4,uR,sR,sW,aR,aW,zR,rf0,rf1,eN,dR,jM,aU,aV,bO,cj,bG,br,aZ]
def kg (x y:Int):Int:=sgn (bx (bif bx y then -x else x)) (x.natAbs / Nat.gcd x.natAbs y.natAbs)
def kh (x y:Int):Int:=Int.ofNat (y.natAbs / Nat.gcd x.natAbs y.natAbs)
theorem wG (x:Int)(g:Nat)(h:x.natAbs % g=0):me x (Int.ofNat g)=sgn (bx x) (x.natAbs / g):=by
 have h1:wH x (Int.ofNat g)=false:=by
  unfold wH
  rw[show (Int.ofNat g).natAbs=g from rfl,h]
  rfl
 rw[me,h1,cond_false]
 show sgn (bx x != false) (x.natAbs / g)=_
 simp
def oB:List PV→Option (List PV)
 | [p,q]=>match fD p,fD q with
  | some x,some y=>bif !(y.natAbs.beq 0) then some [cb (kg x y) (kh x y)] else none
  | _,_=>none
 | _=>none
theorem yD (run:ar)(k:Nat)(fr:List PV)(wr:List Nat)(x y:Int)(hx:Sm x)(hy:Sm y)(hy0:0<y)
  (h42:fr.length=42) (h2:nth fr 2 = .ptr 0 0) (h3:nth fr 3 = .ptr 1 0) (h4:nth fr 4 = .ptr 2 0) :
  ∃ st,af (CC L9) run k (ah 2 fP) ⟨fr,[bW x,bW y,zR4],wr⟩=some (.ret,st)∧aZ TT st.fr st.hp Tryz.f104.results.toList=some [cb (sgn (bx x) (x.natAbs / Nat.gcd x.natAbs y.natAbs)) (Int.ofNat (y.natAbs / Nat.gcd x.natAbs y.natAbs))]:=by
 obtain⟨f1,wr1,a1,a2,a3,a4,a5,a6⟩:=Xv run k fr wr x y hx hy h42 h2 h3 h4
 have hgp:0<Nat.gcd x.natAbs y.natAbs:=Nat.gcd_pos_of_pos_right _ (by omega)
 have hny:bx y=false:=by rw[cN];simp;omega
 have hyn:Int.ofNat y.natAbs=y:=by simp;omega
 by_cases h1:Nat.gcd x.natAbs y.natAbs=1
 ·rw[h1] at a1 ⊢
  obtain⟨f2,wr2,b1,b2,b3,b4,b5⟩:=QX run k f1 wr1 (bW x) (bW y) zR4 a2 a3 a4 a5 a6
  obtain⟨st,e1,e2⟩:=yF run k f2 wr2 (bW 1) x y b2 b3 b4 b5
  refine⟨st,?_,?_⟩
  ·rw[sV,av a1,sU]
   show af (CC L9) run k (.seq lU (ah 4 fP)) ⟨f1,[bW x,bW y,zR4,bW 1],wr1⟩=_
   rw[av b1]
   exact e1
  ·rw[e2,Nat.div_one,Nat.div_one,aa7,hyn]
 ·obtain⟨f2,wr2,b1,b2,b3,b4,b5⟩:∃ fr' wr',af (CC L9) run k lU ⟨f1,[bW x,bW y,zR4,bW (Int.ofNat (Nat.gcd x.natAbs y.natAbs))],wr1⟩=some (.normal,⟨fr',[bW (me x (Int.ofNat (Nat.gcd x.natAbs y.natAbs))),bW (me y (Int.ofNat (Nat.gcd x.natAbs y.natAbs))),zR4,bW (Int.ofNat (Nat.gcd x.natAbs y.natAbs))],wr'⟩)∧fr'.length=42∧nth fr' 2 = .ptr 0 0∧nth fr' 3 = .ptr 1 0∧nth fr' 4 = .ptr 2 0:=by
   by_cases hg2:Nat.gcd x.natAbs y.natAbs<1000000000
   ·exact QW run k f1 wr1 zR4 x y (Nat.gcd x.natAbs y.natAbs) hx hy (by omega) hg2 a2 a3 a4 a5 a6
   ·exact QV run k f1 wr1 zR4 x y (Nat.gcd x.natAbs y.natAbs) hx hy (hy.of_le (Nat.gcd_le_right _ (by omega))) (by omega) a2 a3 a4 a5 a6
  obtain⟨st,e1,e2⟩:=yF run k f2 wr2 (bW (Int.ofNat (Nat.gcd x.natAbs y.natAbs))) (me x (Int.ofNat (Nat.gcd x.natAbs y.natAbs))) (me y (Int.ofNat (Nat.gcd x.natAbs y.natAbs))) b2 b3 b4 b5
  refine⟨st,?_,?_⟩
  ·rw[sV,av a1,sU,av b1]
   exact e1
  ·rw[e2,wG x _ (Nat.mod_eq_zero_of_dvd (Nat.gcd_dvd_left _ _)),wG y _ (Nat.mod_eq_zero_of_dvd (Nat.gcd_dvd_right _ _)),hny]
   rfl
theorem LR (run:ar)(k:Nat)(x y:Int)(hx:Sm x)(hy:Sm y)(hy0:y.natAbs≠0) :
  ∃ st,af (CC L9) run k fP ⟨entry 42 [bq x,bq y],[],[]⟩=some (.ret,st)∧aZ TT st.fr st.hp Tryz.f104.results.toList=some [cb (kg x y) (kh x y)]:=by
 obtain⟨f1,wr1,a1,a2,a3,a4,a5⟩:=Q0 run k x y
 by_cases h0:y<0
 ·have hny:bx y=true:=by rw[cN];simpa using h0
  obtain⟨f2,wr2,b1,b2,b3,b4,b5⟩:=QY run k f1 wr1 x y hx hy h0 a2 a3 a4 a5
  obtain⟨st,e1,e2⟩:=yD run k f2 wr2 (-x) (-y) hx.neg hy.neg (by omega) b2 b3 b4 b5
  refine⟨st,?_,?_⟩
  ·rw[aP 1 a1,vL,av b1];exact e1
  ·rw[e2,Int.natAbs_neg,Int.natAbs_neg,kg,kh,hny];rfl
 ·have hny:bx y=false:=by rw[cN];simpa using h0
  obtain⟨f2,wr2,b1,b2,b3,b4,b5⟩:=QZ run k f1 wr1 x y hy h0 a2 a3 a4 a5
  obtain⟨st,e1,e2⟩:=yD run k f2 wr2 x y hx hy (by omega) b2 b3 b4 b5
  refine⟨st,?_,?_⟩
  ·rw[aP 1 a1,vL,av b1];exact e1
  ·rw[e2,kg,kh,hny];rfl
theorem n6:Ab.Spec base.P 104 oB:=Ab.Spec.bQ (C:=CC L9) (cV aaG) fun args rs h=>by
 unfold oB at h
 split at h
 ·split at h
  ·rename_i x y ex ey
   obtain⟨rfl,hx⟩:=dV ex
   obtain⟨rfl,hy⟩:=dV ey
   by_cases hy0:y.natAbs=0
   ·rw[hy0] at h;simp at h
   ·rw[jY hy0] at h
    simp only[Bool.not_false,cond_true,Option.some.injEq] at h
    subst h
    obtain⟨st,e1,e2⟩:=LR (runK (CC L9) 1) 1 x y hx hy hy0
    exact⟨2,_,_,_,_,_,aX NM rfl e1 e2,sY _ _ _,Wk.refl rfl,trivial⟩
  ·cases h
 ·cases h
theorem NK:base.F.get 129=some Tryz.f129:=by kernel_rfl
theorem HO:base.F.get 49=some Tryz.f49:=by kernel_rfl
def aA (L:Lst)(run:ar)(g:Nat)(args:List PV)(r:PV):Prop:=∀ dr hp,cg (CC L) run dr hp g args=some (r,hp,⟨[],[],false,false⟩)
theorem fg (n d:Int):cb n d = .agg [.sc (.bool (bx n)),aM (aG n.natAbs),.sc (.bool (bx d)),aM (aG d.natAbs)]:=rfl
set_option maxHeartbeats 1000000 in
theorem KW (L:Lst)(run:ar)(k:Nat)(a b c d e1 e2 p q s t n m:Int)(g1:aA L run 95 [cb c d] (bq e2))(g2:aA L run 95 [cb a b] (bq e1))
  (g3:aA L run 105 [bq a,bq e2] (bq p)) (g4:aA L run 105 [bq c,bq e1] (bq q)) (g5:aA L run 139 [bq p,bq q] (bq s)) (g6:aA L run 105 [bq e1,bq e2] (bq t)) (g7:aA L run 104 [bq s,bq t] (cb n m)) :
  ∃ st,af (CC L) run k (Tryz.f87.body.getD .skip) ⟨entry 22 [cb a b,cb c d],[],[]⟩=some (.ret,st)∧aZ TT st.fr st.hp Tryz.f87.results.toList=some [cb n m]:=by
 obtain⟨h1,h2,h3⟩:=cC 20 (cb a b) (cb c d)
 generalize entry 22 [cb a b,cb c d]=fr0 at *
 unfold aA at *
 simp only[whW,fg] at *
 simp[Tryz.f87,h1,h2,h3,af,aJ,ao,aq,aH,ag,ai,aQ,aj,an,aF,aC,FP.none,bL,partOf,aa,ae,ab,bh,bn,bX,bC,bg,g1,g2,g3,g4,g5,g6,g7,uR,sR,sW,aR,aW,zR,rf0,rf1,aO,aU,aV,bO,cj,bG,br,aZ,number,FP.free,cF,FP.apart]
set_option maxHeartbeats 1000000 in
theorem KK (L:Lst)(run:ar)(k:Nat)(a b c d e1 e2 p t n m:Int)(g1:aA L run 95 [cb c d] (bq e2))(g2:aA L run 95 [cb a b] (bq e1))
  (g3:aA L run 105 [bq a,bq c] (bq p)) (g6:aA L run 105 [bq e1,bq e2] (bq t)) (g7:aA L run 104 [bq p,bq t] (cb n m)) :
  ∃ st,af (CC L) run k (Tryz.f56.body.getD .skip) ⟨entry 16 [cb a b,cb c d],[],[]⟩=some (.ret,st)∧aZ TT st.fr st.hp Tryz.f56.results.toList=some [cb n m]:=by
 obtain⟨h1,h2,h3⟩:=cC 14 (cb a b) (cb c d)
 generalize entry 16 [cb a b,cb c d]=fr0 at *
 unfold aA at *
 simp only[whW,fg] at *
 simp[Tryz.f56,h1,h2,h3,af,aJ,ao,aq,aH,ag,ai,aQ,aj,an,aF,aC,FP.none,bL,partOf,aa,ae,ab,bh,bn,bX,bC,bg,g1,g2,g3,g6,g7,uR,sR,sW,aR,aW,zR,rf0,rf1,aO,aU,aV,bO,cj,bG,br,aZ,number,FP.free,cF,FP.apart]
set_option maxHeartbeats 1000000 in
theorem KV (L:Lst)(run:ar)(k:Nat)(a b c d e1 e2 p q r:Int)(g1:aA L run 95 [cb c d] (bq e2))(g2:aA L run 95 [cb a b] (bq e1))
  (g3:aA L run 105 [bq a,bq e2] (bq p)) (g4:aA L run 105 [bq c,bq e1] (bq q)) (g5:aA L run 96 [bq p,bq q] (Ab.bJ r)) :
  ∃ st,af (CC L) run k (Tryz.f129.body.getD .skip) ⟨entry 16 [cb a b,cb c d],[],[]⟩=some (.ret,st)∧aZ TT st.fr st.hp Tryz.f129.results.toList=some [Ab.bJ r]:=by
 obtain⟨h1,h2,h3⟩:=cC 14 (cb a b) (cb c d)
 generalize entry 16 [cb a b,cb c d]=fr0 at *
 unfold aA at *
 simp only[whW,fg,Ab.bJ] at *
 simp[Tryz.f129,h1,h2,h3,af,aJ,ao,aq,aH,ag,ai,aQ,aj,an,aF,aC,FP.none,aw,bL,partOf,aa,ae,ab,bh,bn,g1,g2,g3,g4,g5,uR,sR,sW,aR,aW,rf0,rf1,aO,aU,aV,bG,br,aZ,number,FP.free,cF,FP.apart]
theorem KJ (L:Lst)(run:ar)(k:Nat)(a b c:Int)(g1:aA L run 149 [bq a] (bq c)) :
  ∃ st,af (CC L) run k (Tryz.f106.body.getD .skip) ⟨entry 9 [cb a b],[],[]⟩=some (.ret,st)∧aZ TT st.fr st.hp Tryz.f106.results.toList=some [cb c b]:=by
 obtain⟨h1,h2⟩:=cW 8 (cb a b)
 generalize entry 9 [cb a b]=fr0 at *
 unfold aA at *
 simp only[whW,fg] at *
 simp[Tryz.f106,h1,h2,af,aJ,ao,aq,aH,ag,ai,aQ,aj,an,aF,aC,FP.none,aw,bL,partOf,aa,ae,ab,bh,bn,bX,bC,bg,g1,uR,sR,sW,aR,aW,zR,rf0,rf1,eN,dR,jM,aO,aU,aV,bO,cj,bG,br,aZ,number,FP.free,cF,FP.apart]
theorem E7 (L:Lst)(run:ar)(k:Nat)(a b c:Int)(g1:aA L run 101 [bq a] (Ab.bJ c)) :
  ∃ st,af (CC L) run k (Tryz.f49.body.getD .skip) ⟨entry 6 [cb a b],[],[]⟩=some (.ret,st)∧aZ TT st.fr st.hp Tryz.f49.results.toList=some [Ab.bJ c]:=by
 obtain⟨h1,h2⟩:=cW 5 (cb a b)
 generalize entry 6 [cb a b]=fr0 at *
 unfold aA at *
 simp only[whW,fg,Ab.bJ] at *
 simp[Tryz.f49,h1,h2,af,aJ,ao,aq,aH,ag,ai,aQ,aj,an,aF,aC,FP.none,aw,bL,partOf,aa,ae,ab,bh,bn,g1,uR,sW,aW,rf0,rf1,aO,aU,aV,bG,br,aZ]
theorem KD (L:Lst)(run:ar)(k:Nat)(a b c d e f n m:Int)(g1:aA L run 106 [cb c d] (cb e f))(g2:aA L run 87 [cb a b,cb e f] (cb n m)) :
  ∃ st,af (CC L) run k (Tryz.f55.body.getD .skip) ⟨entry 9 [cb a b,cb c d],[],[]⟩=some (.ret,st)∧aZ TT st.fr st.hp Tryz.f55.results.toList=some [cb n m]:=by
 obtain⟨h1,h2,h3⟩:=cC 7 (cb a b) (cb c d)
 generalize entry 9 [cb a b,cb c d]=fr0 at *
 unfold aA at *
 simp only[fg] at *
 simp[Tryz.f55,h1,h2,h3,af,aJ,ao,aq,aH,ag,ai,aQ,aj,an,aF,aC,partOf,aa,ae,ab,bh,bn,bX,bC,bg,g1,g2,sR,aR,zR,aO,aU,aV,bO,cj,bG,br,aZ,number,FP.free,cF,FP.apart]
noncomputable def L10:Lst:=[(95,xx),(105,xr),(139,rT),(104,oB),(149,rC),(101,jf),(96,qo)]
theorem xb:dL base.P L10:=⟨qk,pU,nG,n6,mX,jD,nB,trivial⟩
theorem Ye:bw L10 95=fun a=>xx (aK a):=rfl
theorem Yd:bw L10 105=fun a=>xr (aK a):=rfl
theorem Yg:bw L10 139=fun a=>rT (aK a):=rfl
theorem RH:bw L10 104=fun a=>oB (aK a):=rfl
theorem Yc:bw L10 149=fun a=>rC (aK a):=rfl
theorem RG:bw L10 101=fun a=>jf (aK a):=rfl
theorem Yf:bw L10 96=fun a=>qo (aK a):=rfl
theorem wR (n d:Int):aK [cb n d]=[cb n d]:=by simp only[aK,AK]
theorem oa (run:ar)(n d:Int)(hn:Sm n)(hd:Sm d):aA L10 run 95 [cb n d] (bq (dC d)):=fun dr hp =>
 bu OL Ye run dr hp _ [bq (dC d)] (sY hp n d) (wR n d) (by simp only[xx,gV hn hd])
theorem ma (run:ar)(x y:Int)(hx:Sm x)(hy:Sm y):aA L10 run 105 [bq x,bq y] (bq (x*y)):=fun dr hp =>
 bu OH Yd run dr hp _ [bq (x*y)] (fK hp x y) (eY x y) (by simp only[xr,cJ hx,cJ hy])
theorem Zp (run:ar)(x y:Int)(hx:Sm x)(hy:Sm y):aA L10 run 139 [bq x,bq y] (bq (x+y)):=fun dr hp =>
 bu EY Yg run dr hp _ [bq (x+y)] (fK hp x y) (eY x y) (by simp only[rT,cJ hx,cJ hy])
theorem Zo (run:ar)(x y:Int)(hx:Sm x)(hy:Sm y):aA L10 run 96 [bq x,bq y] (Ab.bJ (fF x y)):=fun dr hp =>
 bu EX Yf run dr hp _ [Ab.bJ (fF x y)] (fK hp x y) (eY x y) (by simp only[qo,cJ hx,cJ hy])
theorem Zn (run:ar)(x:Int)(hx:Sm x):aA L10 run 149 [bq x] (bq (-x)):=fun dr hp =>
 bu EV Yc run dr hp _ [bq (-x)] (ml hp x) (jy x) (by simp only[rC,cJ hx])
theorem SZ (run:ar)(x:Int)(hx:Sm x):aA L10 run 101 [bq x] (Ab.bJ x.sign):=fun dr hp =>
 bu tH RG run dr hp _ [Ab.bJ x.sign] (ml hp x) (jy x) (by simp only[jf,cJ hx])
def pL (_ y:Int):Bool := !(y.natAbs.beq 0)
theorem Df (run:ar)(x y:Int)(hx:Sm x)(hy:Sm y)(h:pL x y=true):aA L10 run 104 [bq x,bq y] (cb (kg x y) (kh x y)):=fun dr hp =>
 bu Ip RH run dr hp _ [cb (kg x y) (kh x y)] (fK hp x y) (eY x y) (by
  unfold pL at h
  simp only[oB,cJ hx,cJ hy,h,cond_true])
def smB (x:Int):Bool:=x.natAbs.log2.blt 11000000
theorem iL {x:Int}(h:smB x=true):Sm x:=YT (by simpa [smB,Nat.blt_eq] using h)
theorem AR:Sm 1:=by unfold Sm;decide
theorem nH {d:Int}(h:Sm d):Sm (dC d):=by
 unfold dC
 by_cases h0:d=0
 ·rw[if_pos h0];exact AR
 ·rw[if_neg h0];exact h
def iG:List PV→Option (List PV)
 | [p,q]=>match gF p,gF q with
  | some (a,b),some (c,d)=>bif smB (a*dC d) && (smB (c*dC b) && (smB (a*dC d+c*dC b) && (smB (dC b*dC d) && pL (a*dC d+c*dC b) (dC b*dC d)))) then
    some [cb (kg (a*dC d+c*dC b) (dC b*dC d)) (kh (a*dC d+c*dC b) (dC b*dC d))] else none
  | _,_=>none
 | _=>none
theorem nW:Ab.Spec base.P 87 iG:=Ab.Spec.bQ (C:=CC L10) (cV xb) fun args rs h=>by
 unfold iG at h
 split at h
 ·split at h
  ·rename_i a b c d ex ey
   obtain⟨rfl,ha,hb⟩:=et ex
   obtain⟨rfl,hc,hd⟩:=et ey
   cases hg:smB (a*dC d) && (smB (c*dC b) && (smB (a*dC d+c*dC b) && (smB (dC b*dC d) && pL (a*dC d+c*dC b) (dC b*dC d)))) with
   | false=>rw[hg] at h;cases h
   | true =>
    rw[hg] at h
    simp only[cond_true,Option.some.injEq] at h
    subst h
    simp only[Bool.and_eq_true] at hg
    obtain⟨h1,h2,h3,h4,h5⟩:=hg
    obtain⟨st,e1,e2⟩:=KW L10 (runK (CC L10) 1) 1 a b c d _ _ _ _ _ _ _ _ (oa _ c d hc hd) (oa _ a b ha hb) (ma _ _ _ ha (nH hd)) (ma _ _ _ hc (nH hb)) (Zp _ _ _ (iL h1) (iL h2)) (ma _ _ _ (nH hb) (nH hd)) (Df _ _ _ (iL h3) (iL h4) h5)
    exact⟨2,_,_,_,_,_,aX NL rfl e1 e2,sY _ _ _,Wk.refl rfl,trivial⟩
  ·cases h
 ·cases h
def j8:List PV→Option (List PV)
 | [p,q]=>match gF p,gF q with
  | some (a,b),some (c,d)=>bif smB (a*c) && (smB (dC b*dC d) && pL (a*c) (dC b*dC d)) then
    some [cb (kg (a*c) (dC b*dC d)) (kh (a*c) (dC b*dC d))] else none
  | _,_=>none
 | _=>none
theorem nV:Ab.Spec base.P 56 j8:=Ab.Spec.bQ (C:=CC L10) (cV xb) fun args rs h=>by
 unfold j8 at h
 split at h
 ·split at h
  ·rename_i a b c d ex ey
   obtain⟨rfl,ha,hb⟩:=et ex
   obtain⟨rfl,hc,hd⟩:=et ey
   cases hg:smB (a*c) && (smB (dC b*dC d) && pL (a*c) (dC b*dC d)) with
   | false=>rw[hg] at h;cases h
   | true =>
    rw[hg] at h
    simp only[cond_true,Option.some.injEq] at h
    subst h
    simp only[Bool.and_eq_true] at hg
    obtain⟨h1,h4,h5⟩:=hg
    obtain⟨st,e1,e2⟩:=KK L10 (runK (CC L10) 1) 1 a b c d _ _ _ _ _ _ (oa _ c d hc hd) (oa _ a b ha hb) (ma _ _ _ ha hc) (ma _ _ _ (nH hb) (nH hd)) (Df _ _ _ (iL h1) (iL h4) h5)
    exact⟨2,_,_,_,_,_,aX NJ rfl e1 e2,sY _ _ _,Wk.refl rfl,trivial⟩
  ·cases h
 ·cases h
def Iv:List PV→Option (List PV)
 | [p,q]=>match gF p,gF q with
  | some (a,b),some (c,d)=>bif smB (a*dC d) && smB (c*dC b) then some [Ab.bJ (fF (a*dC d) (c*dC b))] else none
  | _,_=>none
 | _=>none
theorem ya:Ab.Spec base.P 129 Iv:=Ab.Spec.bQ (C:=CC L10) (cV xb) fun args rs h=>by
 unfold Iv at h
 split at h
 ·split at h
  ·rename_i a b c d ex ey
   obtain⟨rfl,ha,hb⟩:=et ex
   obtain⟨rfl,hc,hd⟩:=et ey
   cases hg:smB (a*dC d) && smB (c*dC b) with
   | false=>rw[hg] at h;cases h
   | true =>
    rw[hg] at h
    simp only[cond_true,Option.some.injEq] at h
    subst h
    simp only[Bool.and_eq_true] at hg
    obtain⟨h1,h2⟩:=hg
    obtain⟨st,e1,e2⟩:=KV L10 (runK (CC L10) 1) 1 a b c d _ _ _ _ _ (oa _ c d hc hd) (oa _ a b ha hb) (ma _ _ _ ha (nH hd)) (ma _ _ _ hc (nH hb)) (Zo _ _ _ (iL h1) (iL h2))
    exact⟨2,_,_,_,_,_,aX NK rfl e1 e2,eE _ _,Wk.refl rfl,trivial⟩
  ·cases h
 ·cases h
def jI:List PV→Option (List PV)
 | [p]=>match gF p with
  | some (a,b)=>some [cb (-a) b]
  | none=>none
 | _=>none
theorem nU:Ab.Spec base.P 106 jI:=Ab.Spec.bQ (C:=CC L10) (cV xb) fun args rs h=>by
 unfold jI at h
 split at h
 ·split at h
  ·rename_i a b ex
   obtain⟨rfl,ha,hb⟩:=et ex
   simp only[Option.some.injEq] at h
   subst h
   obtain⟨st,e1,e2⟩:=KJ L10 (runK (CC L10) 1) 1 a b _ (Zn _ a ha)
   exact⟨2,_,_,_,_,_,aX NI rfl e1 e2,sY _ _ _,Wk.refl rfl,trivial⟩
  ·cases h
 ·cases h
def iq:List PV→Option (List PV)
 | [p]=>match gF p with
  | some (a,_)=>some [Ab.bJ a.sign]
  | none=>none
 | _=>none
theorem jH:Ab.Spec base.P 49 iq:=Ab.Spec.bQ (C:=CC L10) (cV xb) fun args rs h=>by
 unfold iq at h
 split at h
 ·split at h
  ·rename_i a b ex
   obtain⟨rfl,ha,hb⟩:=et ex
   simp only[Option.some.injEq] at h
   subst h
   obtain⟨st,e1,e2⟩:=E7 L10 (runK (CC L10) 1) 1 a b _ (SZ _ a ha)
   exact⟨2,_,_,_,_,_,aX HO rfl e1 e2,eE _ _,Wk.refl rfl,trivial⟩
  ·cases h
 ·cases h
noncomputable def L11:Lst:=[(87,iG),(106,jI)]
theorem ad9:dL base.P L11:=⟨nW,nU,trivial⟩
theorem Yb:bw L11 87=fun a=>iG (aK a):=rfl
theorem Ya:bw L11 106=fun a=>jI (aK a):=rfl
theorem aaa (hp:List Blk)(a b c d:Int):bt (snap hp bp) [cb a b,cb c d]=some ([cb a b,cb c d],[]):=rfl
theorem Up (a b c d:Int):aK [cb a b,cb c d]=[cb a b,cb c d]:=by simp only[aK,AK]
theorem Zk (run:ar)(n d:Int)(hn:Sm n)(hd:Sm d):aA L11 run 106 [cb n d] (cb (-n) d):=fun dr hp =>
 bu Im Ya run dr hp _ [cb (-n) d] (sY hp n d) (wR n d) (by simp only[jI,gV hn hd])
theorem Zl (run:ar)(a b c d n m:Int)(h:iG [cb a b,cb c d]=some [cb n m]):aA L11 run 87 [cb a b,cb c d] (cb n m):=fun dr hp =>
 bu Io Yb run dr hp _ [cb n m] (aaa hp a b c d) (Up a b c d) h
def mM:List PV→Option (List PV)
 | [p,q]=>match gF q with
  | some (c,d)=>iG [p,cb (-c) d]
  | _=>none
 | _=>none
theorem KX {p q:PV}{rs:List PV}(h:iG [p,q]=some rs):∃ a b n m,p=cb a b∧rs=[cb n m]:=by
 simp only[iG] at h
 split at h
 ·rename_i a b c d ex ey
  obtain⟨rfl,-,-⟩:=et ex
  cases hg:smB (a*dC d) && (smB (c*dC b) && (smB (a*dC d+c*dC b) && (smB (dC b*dC d) && pL (a*dC d+c*dC b) (dC b*dC d)))) with
  | false=>rw[hg] at h;cases h
  | true =>
   rw[hg] at h
   simp only[cond_true,Option.some.injEq] at h
   exact⟨a,b,_,_,rfl,h.symm⟩
 ·cases h
theorem nT:Ab.Spec base.P 55 mM:=Ab.Spec.bQ (C:=CC L11) (cV ad9) fun args rs h=>by
 unfold mM at h
 split at h
 ·split at h
  ·rename_i p q c d ey
   obtain⟨rfl,hc,hd⟩:=et ey
   obtain⟨a,b,n,m,rfl,rfl⟩:=KX h
   obtain⟨st,e1,e2⟩:=KD L11 (runK (CC L11) 1) 1 a b c d _ _ n m (Zk _ c d hc hd) (Zl _ a b (-c) d n m h)
   exact⟨2,_,_,_,_,_,aX NG rfl e1 e2,sY _ _ _,Wk.refl rfl,trivial⟩
  ·cases h
 ·cases h
end Go.Proofs.YtjdmodeenbdfpaaGreat
