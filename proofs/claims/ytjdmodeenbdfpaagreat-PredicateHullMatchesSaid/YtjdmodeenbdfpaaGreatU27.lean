/- Contracts of num's integers, part 27; each lemma states its conditions. -/
import Derived.Shelf.Strings.Search1
import Derived.Shelf.Strings.Repeat
import Derived.Test.YtjdmodeenbdfpaaGreatProg
import Derived.Test.YtjdmodeenbdfpaaGreatU26
set_option linter.unusedSimpArgs false
set_option linter.unusedVariables false
set_option linter.unusedSimpArgs false
set_option linter.unusedVariables false
noncomputable section
namespace Go.Proofs
open Go.Shelf Go.RowKit Go.Lib
def Tryz.ET:Go.Shelf.Ren:=⟨fun | 217=>191 | 266=>196 | n=>n,fun | 9=>9 | 5=>5 | 3=>3 | n=>n,fun | n=>n⟩
theorem Tryz.ab2:Go.Proofs.Lays.n217 Tryz.prog Tryz.ET:={
 mixed:=by kernel_rfl
 f217:=Tryz.func191.trans (congrArg some (by kernel_rfl))
 f266:=Tryz.func196.trans (congrArg some (by kernel_rfl))
 t3:=Tryz.underlying3
 a3:=Tryz.isAgg3
 z3:=Tryz.sizeOf3
 v3:=Tryz.zeroValue3
 t5:=Tryz.underlying5
 a5:=Tryz.isAgg5
 z5:=Tryz.sizeOf5
 v5:=Tryz.zeroValue5
 t9:=Tryz.underlying9
 a9:=Tryz.isAgg9
 z9:=Tryz.sizeOf9
 v9:=Tryz.zeroValue9 }
theorem Tryz.stringslite_IndexByte (s:ByteArray)(c:Int)(w:World) :
  Calls Tryz.prog 191 #[.string s,.int .u8 c] w fun e w'=>e = .returned (.int .i64 (Lib.indexByte s.data.toList c.toNat.toUInt8))∧w'=w:=Any.stringslite_IndexByte Tryz.ab2 s c w
end Go.Proofs
namespace Go.Proofs.YtjdmodeenbdfpaaGreat
open Go Go.Ab Go.RowKit
theorem GJ {P:Program}{g:FuncId}{f:Ψ→Option Ψ}(he:∀ (args:Array Value)(w:World),(callFunc g args).run P w = .ok (.enter g args) w)
  (h:∀ args rs,f args=some rs→bT rs=true∧∀ (w:World) (M:Nat→Prop) (vs:List Value),Vs w M [] NoL args vs →
   ∃ post:Ending→World→Prop,Calls P g vs.toArray w post∧∀ e w',post e w'→∃ us,e = .returned (BA us)∧Vs w' M [] NoL rs us∧Old w w'):Ab.Spec P g f:=by
 intro args rs hf hi
 obtain⟨h1,h2⟩:=h args rs hf
 refine⟨h1,fun w M vs hM hvs => ?_⟩
 obtain⟨post,h3,h4⟩:=h2 w M vs hvs
 unfold jf
 rw[he]
 refine h3.mono fun e w' hh => ?_
 obtain⟨us,h5,h6⟩:=h4 e w' hh
 exact⟨_,h5,us,rfl,h6⟩
theorem Old.refl (w:World):Old w w:=⟨rfl,rfl,rfl,Nat.le_refl _,fun _ _=>rfl⟩
theorem vs2 {w:World}{M:Nat→Prop}{a b:Value}{vs:List Value}(h:Vs w M [] NoL [.sc a,.sc b] vs):vs=[a,b]:=by
 obtain⟨h1,h2⟩:=h
 match vs,h1 with
 | [u,v],_ =>
  have e1:=h2 0 _ u rfl rfl
  have e2:=h2 1 _ v rfl rfl
  cases e1;cases e2;rfl
theorem ahC (w:World)(M:Nat→Prop)(a:Value):Vs w M [] NoL [.sc a] [a]:=⟨rfl,fun k p v h1 h2=>by
 cases k with
 | zero=>simp at h1 h2;subst h1;subst h2;exact .sc _
 | succ k=>simp at h1⟩
def ibF:Ψ→Option Ψ
 | [.sc (.string s),.sc (.int .u8 c)]=>some [.sc (.int .i64 (Lib.indexByte (bO s) c.toNat.toUInt8))]
 | _=>none
theorem acj:Ab.Spec base.P 191 ibF:=GJ (P:=Tryz.prog) Tryz.call191 fun args rs h=>by
 unfold ibF at h
 split at h
 ·rename_i s c
  simp only[OiE] at h
  subst h
  refine⟨rfl,fun w M vs hvs => ?_⟩
  rw[vs2 hvs]
  refine⟨_,Tryz.stringslite_IndexByte s c w,?_⟩
  rintro e w' ⟨rfl,rfl⟩
  exact⟨[_],rfl,ahC _ M _,Old.refl _⟩
 ·cases h
def rf0:Field:={ name := "n",type:=70,offset:=0,embedded:=false,tag := "",pkgPath := "torus/num",byteOffset:=0 }
def rf1:Field:={ name := "d",type:=70,offset:=2,embedded:=false,tag := "",pkgPath := "torus/num",byteOffset:=32 }
theorem uR:und TT 72=some (.struct #[rf0,rf1]):=by kernel_rfl
theorem sR:dm TT 72=some 4:=by kernel_rfl
theorem aR:ia TT 72=some true:=by kernel_rfl
theorem zR:ef TT 72=some [.sc (.bool false),.sc (.slice none 0 0),.sc (.bool false),.sc (.slice none 0 0)]:=by kernel_rfl
theorem X4:base.F.get 95=some Tryz.f95:=by kernel_rfl
theorem P4:base.F.get 104=some Tryz.f104:=by kernel_rfl
theorem P3:base.F.get 87=some Tryz.f87:=by kernel_rfl
theorem PW:base.F.get 55=some Tryz.f55:=by kernel_rfl
theorem P0:base.F.get 56=some Tryz.f56:=by kernel_rfl
theorem PZ:base.F.get 106=some Tryz.f106:=by kernel_rfl
theorem aey:base.shared 95=false:=by kernel_rfl
theorem KI:base.shared 104=false:=by kernel_rfl
theorem ZE:base.shared 87=false:=by kernel_rfl
theorem ZB:base.shared 106=false:=by kernel_rfl
def ch (n d:Int):PV:=.agg [.sc (.bool (bw n)),aL (aJ n.natAbs),.sc (.bool (bw d)),aL (aJ d.natAbs)]
def gC:PV→Option (Int × Int)
 | .agg [a,b,c,d]=>match fM (.agg [a,b]),fM (.agg [c,d]) with
  | some n,some m=>some (n,m)
  | _,_=>none
 | _=>none
theorem eh {p:PV}{n d:Int}(h:gC p=some (n,d)):p=ch n d∧Sm n∧Sm d:=by
 unfold gC at h
 split at h
 ·split at h
  ·rename_i n' m' e1 e2
   simp only[OiE,PiE] at h
   obtain⟨rfl,rfl⟩:=h
   obtain⟨h1,h2⟩:=dV e1
   obtain⟨h3,h4⟩:=dV e2
   refine⟨?_,h2,h4⟩
   simp only[whW,PV.agg.injEq,List.cons.injEq,and_true] at h1 h3
   obtain⟨rfl,rfl⟩:=h1
   obtain⟨rfl,rfl⟩:=h3
   rfl
  ·cases h
 ·cases h
theorem gT {n d:Int}(h1:Sm n)(h2:Sm d):gC (ch n d)=some (n,d):=by
 have e1:=cQ h1
 have e2:=cQ h2
 rw[whW] at e1 e2
 simp only[gC,ch,e1,e2]
theorem Cl (n d:Int):canon (ch n d)=ch n d:=by simp only[ch,canon,aK,fF]
theorem xx (hp:Θ)(n d:Int):bu (snap hp bn) [ch n d]=some ([ch n d],[]):=rfl
def L9:Lst:=[(101,js),(97,ofF),(149,sZ),(150,xW),(151,Ws)]
theorem ad0:dt base.P L9:=⟨jT,ml,nL,rA,Wo,trivial⟩
theorem abf:bC L9 101=fun a=>js (aK a):=rfl
theorem aiB:bC L9 97=fun a=>ofF (aK a):=rfl
theorem afs:bC L9 149=fun a=>sZ (aK a):=rfl
theorem aft:bC L9 150=fun a=>xW (aK a):=rfl
theorem afu:bC L9 151=fun a=>Ws (aK a):=rfl
theorem pY (run:av)(dr:Bool)(hp:Θ)(x:Int)(hx:Sm x):bS (CC L9) run dr hp 101 [bt x]=some (Ab.bJ x.sign,hp,⟨[],[],false,false⟩) :=
 bq vh abf run dr hp _ [Ab.bJ x.sign] (og hp x) (kL x) (by simp only[js,cQ hx])
theorem Xv (run:av)(dr:Bool)(hp:Θ):bS (CC L9) run dr hp 97 [.sc (.int .i64 1)]=some (bt 1,hp,⟨[],[],false,false⟩) :=
 bq Dq aiB run dr hp _ [bt 1] rfl rfl rfl
theorem A5 (run:av)(dr:Bool)(hp:Θ)(x:Int)(hx:Sm x):bS (CC L9) run dr hp 149 [bt x]=some (bt (-x),hp,⟨[],[],false,false⟩) :=
 bq Hd afs run dr hp _ [bt (-x)] (og hp x) (kL x) (by simp only[sZ,cQ hx])
theorem Pu (run:av)(dr:Bool)(hp:Θ)(x y:Int)(hx:Sm x)(hy:Sm y) :
  bS (CC L9) run dr hp 150 [bt x,bt y]=some (bt (Int.ofNat (Nat.gcd x.natAbs y.natAbs)),hp,⟨[],[],false,false⟩) :=
 bq RU aft run dr hp _ [bt (Int.ofNat (Nat.gcd x.natAbs y.natAbs))] (gY hp x y) (fN x y) (by simp only[xW,cQ hx,cQ hy])
theorem pc (run:av)(dr:Bool)(hp:Θ)(x y:Int)(hx:Sm x)(hy:Sm y)(h0:y.natAbs≠0) :
  bS (CC L9) run dr hp 151 [bt x,bt y]=some (.tup [bt (mH x y),bt (Cf x y)],hp,⟨[],[],false,false⟩) :=
 bq M5 afu run dr hp _ [bt (mH x y),bt (Cf x y)] (gY hp x y) (fN x y) (by
  simp only[Ws,cQ hx,cQ hy,kl h0,Bool.not_false,cond_true])
theorem Wz (run:av)(k:Nat)(n d:Int)(hd:Sm d) :
  ∃ st,ae (CC L9) run k (Tryz.f95.body.getD .skip) ⟨entry 10 [ch n d],[],[]⟩=some (.ret,st)∧aY TT st.fr st.hp Tryz.f95.results.toList=some [bt (if d=0 then 1 else d)]:=by
 have hc1:=fun dr hp=>pY run dr hp d hd
 have hc2:=fun dr hp=>Xv run dr hp
 obtain⟨e1,e2⟩:=cV 9 (ch n d)
 generalize entry 10 [ch n d]=fr0 at *
 unfold ch at e2
 by_cases h0:d=0
 ·rw[if_pos h0]
  have hs:d.sign=0:=by rw[h0];rfl
  rw[hs] at hc1
  simp only[whW,Ab.bJ] at hc1 hc2 ⊢
  generalize aJ n.natAbs=rn at *
  generalize aJ d.natAbs=rd at *
  generalize bw n=nn at *
  generalize bw d=nd at *
  simp[Tryz.f95,e1,e2,ae,aH,aq,ar,aF,ag,ah,aM,an,aj,aC,aG,FzZ,ba,aw,bg,au,bN,partOf,aa,af,ab,bf,bp,cf,bH,bj,hc1,hc2,uR,sW,aW,zW,rf0,rf1,bd,aV,aX,cF,b9,bF,bz,aY]
 ·rw[if_neg h0]
  have hs:(d.sign == 0)=false:=by
   rw[beq_eq_false_iff_ne]
   intro h;exact h0 (Int.sign_eq_zero_iff_zero.1 h)
  have hs' : ¬ d=0:=h0
  generalize d.sign=sg at *
  simp only[whW,Ab.bJ] at hc1 ⊢
  generalize aJ n.natAbs=rn at *
  generalize aJ d.natAbs=rd at *
  generalize bw n=nn at *
  generalize bw d=nd at *
  simp[Tryz.f95,e1,e2,ae,aH,aq,ar,aF,ag,ah,aM,an,aj,aC,aG,FzZ,ba,aw,bg,au,bN,partOf,aa,af,ab,bf,bp,cf,bH,bj,hc1,hs,uR,sW,aW,zW,rf0,rf1,bd,aV,aX,cF,b9,bF,bz,aY]
def dB (d:Int):Int:=if d=0 then 1 else d
def FA:Ψ→Option Ψ
 | [p]=>match gC p with
  | some (_,d)=>some [bt (dB d)]
  | none=>none
 | _=>none
theorem rJ:Ab.Spec base.P 95 FA:=Ab.Spec.bL (C:=CC L9) (cP ad0) fun args rs h=>by
 unfold FA at h
 split at h
 ·split at h
  ·rename_i n d e
   obtain⟨rfl,-,hd⟩:=eh e
   simp only[OiE] at h
   subst h
   obtain⟨st,e1,e2⟩:=Wz (runK (CC L9) 1) 1 n d hd
   exact⟨2,_,_,_,_,_,aZ X4 rfl e1 e2,jv _ _,Wk.refl rfl,trivial⟩
  ·cases h
 ·cases h
def fU:Code:=Tryz.f104.body.getD .skip
def nH:Code:=seq1 (ai 1 fU)
theorem aaR:((Region.before (kT (aO nH)))[4]?.getD 0).testBit 0=true:=by kernel_rfl
theorem aaQ:((Region.before (kT (aO nH)))[5]?.getD 0).testBit 2=true:=by kernel_rfl
abbrev zR4:Blk:=⟨.live,[.sc (.bool false),.sc (.slice none 0 0),.sc (.bool false),.sc (.slice none 0 0)]⟩
abbrev bW (x:Int):Blk:=⟨.live,[.sc (.bool (bw x)),aL (aJ x.natAbs)]⟩
theorem xv:ai 1 fU = .seq nH (ai 2 fU):=rfl
theorem T9 (run:av)(k:Nat)(x y:Int) :
  ∃ fr wr,bh (CC L9) run k 1 fU ⟨entry 42 [bt x,bt y],[],[]⟩=some ⟨fr,[bW x,bW y,zR4],wr⟩∧fr.length=42∧nth fr 2 = .ptr 0 0∧nth fr 3 = .ptr 1 0∧nth fr 4 = .ptr 2 0:=by
 obtain⟨e1,e2,e3⟩:=cb 40 (bt x) (bt y)
 generalize entry 42 [bt x,bt y]=fr0 at *
 rw[whW] at e2 e3
 simp[fU,Tryz.f104,bh,e1,e2,e3,ae,aH,aq,ar,aF,ag,ah,an,aj,aC,aG,aa,af,ab,bf,and_assoc,bp,zR,bd]
theorem T0 (run:av)(k:Nat)(fr:Ψ)(wr:Ω)(x y:Int)(hy:Sm y)(h0 : ¬ (y<0))(h42:fr.length=42)(h2:nth fr 2 = .ptr 0 0)(h3:nth fr 3 = .ptr 1 0)(h4:nth fr 4 = .ptr 2 0) :
  ∃ fr' wr',ae (CC L9) run k nH ⟨fr,[bW x,bW y,zR4],wr⟩=some (.normal,⟨fr',[bW x,bW y,zR4],wr'⟩)∧fr'.length=42∧nth fr' 2 = .ptr 0 0∧nth fr' 3 = .ptr 1 0∧nth fr' 4 = .ptr 2 0:=by
 have hc1:=fun dr hp=>pY run dr hp y hy
 have hs : ¬ (y.sign<0):=by
  intro h
  have:=Int.sign_neg_iff.1 h
  omega
 generalize y.sign=sg at *
 simp only[whW,Ab.bJ] at hc1 ⊢
 simp[nH,fU,Tryz.f104,seq1,ai,ae,aH,aq,ar,aF,ag,ah,aM,an,aj,aC,aG,FzZ,ba,aw,bg,au,partOf,aa,af,ab,bf,and_assoc,hc1,hs,h42,h2,h3,h4,sW,aW,aV,aX,bF,bz]
theorem TZ (run:av)(k:Nat)(fr:Ψ)(wr:Ω)(x y:Int)(hx:Sm x)(hy:Sm y)(h0:y<0)(h42:fr.length=42)(h2:nth fr 2 = .ptr 0 0)(h3:nth fr 3 = .ptr 1 0)(h4:nth fr 4 = .ptr 2 0) :
  ∃ fr' wr',ae (CC L9) run k nH ⟨fr,[bW x,bW y,zR4],wr⟩=some (.normal,⟨fr',[bW (-x),bW (-y),zR4],wr'⟩)∧fr'.length=42∧nth fr' 2 = .ptr 0 0∧nth fr' 3 = .ptr 1 0∧nth fr' 4 = .ptr 2 0:=by
 have hc1:=fun dr hp=>pY run dr hp y hy
 have hc2:=fun dr hp=>A5 run dr hp x hx
 have hc3:=fun dr hp=>A5 run dr hp y hy
 have hs:y.sign<0:=Int.sign_neg_iff.2 h0
 generalize y.sign=sg at *
 have hb1:=aaR
 have hb2:=aaQ
 simp only[nH,fU,Tryz.f104,seq1,aO,ai,kT,Option.getD_some] at hb1 hb2
 simp only[bW,whW,Ab.bJ] at hc1 hc2 hc3 ⊢
 generalize aJ (-x).natAbs=r1 at *
 generalize bw (-x)=n1 at *
 generalize aJ (-y).natAbs=r2 at *
 generalize bw (-y)=n2 at *
 simp[-Nat.testBit_zero,hb1,hb2,nH,fU,Tryz.f104,seq1,ai,ae,aH,aq,ar,aF,ag,ah,aM,an,aj,aC,aG,FzZ,ba,aw,bg,au,partOf,aa,af,ab,bf,and_assoc,bp,cf,bH,bj,hc1,hc2,hc3,hs,h42,h2,h3,h4,sW,aW,aV,aX,cF,b9,bF,bz,number,FP.free,cC,FP.apart]
def Ir:Code:=seq1 (ai 2 fU)
def mh:Code:=seq1 (ai 3 fU)
theorem uq:ai 2 fU = .seq Ir (ai 3 fU):=rfl
theorem uo:ai 3 fU = .seq mh (ai 4 fU):=rfl
theorem aaP (run:av)(k:Nat)(fr:Ψ)(wr:Ω)(x y:Int)(hx:Sm x)(hy:Sm y)(h42:fr.length=42)(h2:nth fr 2 = .ptr 0 0)(h3:nth fr 3 = .ptr 1 0)(h4:nth fr 4 = .ptr 2 0) :
  ∃ fr' wr',ae (CC L9) run k Ir ⟨fr,[bW x,bW y,zR4],wr⟩=some (.normal,⟨fr',[bW x,bW y,zR4,bW (Int.ofNat (Nat.gcd x.natAbs y.natAbs))],wr'⟩)∧fr'.length=42∧nth fr' 2 = .ptr 0 0∧nth fr' 3 = .ptr 1 0∧nth fr' 4 = .ptr 2 0∧nth fr' 5 = .ptr 3 0:=by
 have hc1:=fun dr hp=>Pu run dr hp x y hx hy
 generalize Int.ofNat (Nat.gcd x.natAbs y.natAbs)=g at *
 simp only[bW,whW] at hc1 ⊢
 generalize aJ g.natAbs=rg at *
 generalize bw g=ng at *
 simp[Ir,fU,Tryz.f104,seq1,ai,ae,aH,aq,ar,aF,ag,ah,aM,an,aj,aC,aG,partOf,aa,af,ab,bf,and_assoc,bp,cf,bH,bj,hc1,h42,h2,h3,h4,sW,aW,zW,bd,aV,aX,cF,b9,bF,bz]
theorem TY (run:av)(k:Nat)(fr:Ψ)(wr:Ω)(b0 b1 b2:Blk)(h42:fr.length=42)(h2:nth fr 2 = .ptr 0 0)(h3:nth fr 3 = .ptr 1 0)(h4:nth fr 4 = .ptr 2 0)(h5:nth fr 5 = .ptr 3 0) :
  ∃ fr' wr',ae (CC L9) run k mh ⟨fr,[b0,b1,b2,bW 1],wr⟩=some (.normal,⟨fr',[b0,b1,b2,bW 1],wr'⟩)∧fr'.length=42∧nth fr' 2 = .ptr 0 0∧nth fr' 3 = .ptr 1 0∧nth fr' 4 = .ptr 2 0:=by
 have e:aL (aJ (1:Int).natAbs) = .imm 1 false [dg 1]:=rfl
 have hd:dg 1 = .sc (.int .u32 1):=rfl
 simp only[bW,e,hd]
 simp[mh,fU,Tryz.f104,seq1,ai,ae,aH,aq,ar,aF,ag,ah,an,aj,aC,aG,FzZ,ba,aw,bg,au,bM,bc,bN,jQ,partOf,aa,af,ab,bf,and_assoc,cR,h42,h2,h3,h4,h5,uW,uD,sD,s32,aD,a32,wf0,wf1,aV,aX,bz]
set_option maxHeartbeats 1000000 in
theorem TX (run:av)(k:Nat)(fr:Ψ)(wr:Ω)(b2:Blk)(x y:Int)(g:Nat)(hx:Sm x)(hy:Sm y)(hg:1<g)(hg2:g<1000000000)(h42:fr.length=42)(h2:nth fr 2 = .ptr 0 0)(h3:nth fr 3 = .ptr 1 0)(h4:nth fr 4 = .ptr 2 0)(h5:nth fr 5 = .ptr 3 0) :
  ∃ fr' wr',ae (CC L9) run k mh ⟨fr,[bW x,bW y,b2,bW (Int.ofNat g)],wr⟩=some (.normal,⟨fr',[bW (mH x (Int.ofNat g)),bW (mH y (Int.ofNat g)),b2,bW (Int.ofNat g)],wr'⟩)∧fr'.length=42∧nth fr' 2 = .ptr 0 0∧nth fr' 3 = .ptr 1 0∧nth fr' 4 = .ptr 2 0:=by
 have hSg:Sm (Int.ofNat g):=by
  unfold Sm
  rw[show (Int.ofNat g).natAbs=g from rfl,nY (by omega) hg2];simp
 have hc1:=fun dr hp=>pc run dr hp x (Int.ofNat g) hx hSg (show g≠0 by omega)
 have hc2:=fun dr hp=>pc run dr hp y (Int.ofNat g) hy hSg (show g≠0 by omega)
 generalize mH x (Int.ofNat g)=qx at *
 generalize mH y (Int.ofNat g)=qy at *
 generalize Cf x (Int.ofNat g)=mx at *
 generalize Cf y (Int.ofNat g)=my at *
 have e:bt (Int.ofNat g) = .agg [.sc (.bool false),.imm 1 false [dg g]]:=by
  show wh false (aJ g)=_
  rw[nY (by omega) hg2];rfl
 have eb:bW (Int.ofNat g)=⟨.live,[.sc (.bool false),.imm 1 false [dg g]]⟩:=by
  show (⟨.live,[.sc (.bool false),aL (aJ g)]⟩:Blk)=_
  rw[nY (by omega) hg2];rfl
 have hd:dg g = .sc (.int .u32 (g:Int)):=rfl
 rw[e,hd] at hc1 hc2
 rw[eb,hd]
 simp only[bW,whW] at hc1 hc2 ⊢
 generalize aJ qx.natAbs=rx at *
 generalize bw qx=nx at *
 generalize aJ qy.natAbs=ry at *
 generalize bw qy=ny at *
 have hg3:(1:Int)<(g:Int):=by omega
 simp[mh,fU,Tryz.f104,seq1,ai,ae,aH,aq,ar,aF,ag,ah,aM,an,aj,aC,aG,FzZ,ba,aw,bg,au,bM,bc,bN,jQ,partOf,aa,af,ab,bf,and_assoc,cR,bp,cf,bH,bj,hc1,hc2,hg3,h42,h2,h3,h4,h5,uW,uD,sW,sD,s32,aW,aD,a32,wf0,wf1,aV,aX,cF,b9,bF,bz]
set_option maxHeartbeats 1000000 in
theorem TW (run:av)(k:Nat)(fr:Ψ)(wr:Ω)(b2:Blk)(x y:Int)(g:Nat)(hx:Sm x)(hy:Sm y)(hSg:Sm (Int.ofNat g))(hg:1000000000≤g)(h42:fr.length=42)(h2:nth fr 2 = .ptr 0 0)(h3:nth fr 3 = .ptr 1 0)(h4:nth fr 4 = .ptr 2 0)(h5:nth fr 5 = .ptr 3 0) :
  ∃ fr' wr',ae (CC L9) run k mh ⟨fr,[bW x,bW y,b2,bW (Int.ofNat g)],wr⟩=some (.normal,⟨fr',[bW (mH x (Int.ofNat g)),bW (mH y (Int.ofNat g)),b2,bW (Int.ofNat g)],wr'⟩)∧fr'.length=42∧nth fr' 2 = .ptr 0 0∧nth fr' 3 = .ptr 1 0∧nth fr' 4 = .ptr 2 0:=by
 have hc1:=fun dr hp=>pc run dr hp x (Int.ofNat g) hx hSg (show g≠0 by omega)
 have hc2:=fun dr hp=>pc run dr hp y (Int.ofNat g) hy hSg (show g≠0 by omega)
 generalize mH x (Int.ofNat g)=qx at *
 generalize mH y (Int.ofNat g)=qy at *
 generalize Cf x (Int.ofNat g)=mx at *
 generalize Cf y (Int.ofNat g)=my at *
 have hl:=rH hg
 have e:bt (Int.ofNat g) = .agg [.sc (.bool false),aL (aJ g)]:=rfl
 have eb:bW (Int.ofNat g)=⟨.live,[.sc (.bool false),aL (aJ g)]⟩:=rfl
 rw[e] at hc1 hc2
 rw[eb]
 simp only[bW,whW] at hc1 hc2 ⊢
 generalize aJ qx.natAbs=rx at *
 generalize bw qx=nx at *
 generalize aJ qy.natAbs=ry at *
 generalize bw qy=ny at *
 generalize aJ g=dl at *
 have hl1:(1:Int)<(dl.length:Int):=by omega
 simp[mh,fU,Tryz.f104,seq1,ai,ae,aH,aq,ar,aF,ag,ah,aM,an,aj,aC,aG,FzZ,ba,aw,bg,au,bM,bN,partOf,aa,af,ab,bf,and_assoc,cl,bp,cf,bH,bj,hc1,hc2,hl1,h42,h2,h3,h4,h5,uW,uD,sW,sD,aW,aD,wf0,wf1,aV,aX,cF,b9,bF,bz]
theorem Al (run:av)(k:Nat)(fr:Ψ)(wr:Ω)(b3:Blk)(x y:Int)(h42:fr.length=42)(h2:nth fr 2 = .ptr 0 0)(h3:nth fr 3 = .ptr 1 0)(h4:nth fr 4 = .ptr 2 0) :
  ∃ st,ae (CC L9) run k (ai 4 fU) ⟨fr,[bW x,bW y,zR4,b3],wr⟩=some (.ret,st)∧aY TT st.fr st.hp Tryz.f104.results.toList=some [ch x y]:=by
 simp only[bW,ch]
 generalize aJ x.natAbs=rx at *
 generalize bw x=nx at *
 generalize aJ y.natAbs=ry at *
 generalize bw y=ny at *
 simp[fU,Tryz.f104,ai,ae,aH,aq,ar,aF,ag,ah,an,aj,aC,aG,FzZ,au,partOf,aa,af,ab,bf,bp,cf,bH,bj,h42,h2,h3,h4,uR,sR,sW,aR,aW,zR,rf0,rf1,fb,dJ,j6,aV,aX,cF,b9,bF,bz,aY]
def kD (x y:Int):Int:=sgn (bw (bif bw y then -x else x)) (x.natAbs / Nat.gcd x.natAbs y.natAbs)
def kE (x y:Int):Int:=Int.ofNat (y.natAbs / Nat.gcd x.natAbs y.natAbs)
theorem ye (x:Int)(g:Nat)(h:x.natAbs % g=0):mH x (Int.ofNat g)=sgn (bw x) (x.natAbs / g):=by
 have h1:yf x (Int.ofNat g)=false:=by
  unfold yf
  rw[show (Int.ofNat g).natAbs=g from rfl,h]
  rfl
 rw[mH,h1,cond_false]
 show sgn (bw x != false) (x.natAbs / g)=_
 simp
def pn:Ψ→Option Ψ
 | [p,q]=>match fM p,fM q with
  | some x,some y=>bif !(y.natAbs.beq 0) then some [ch (kD x y) (kE x y)] else none
  | _,_=>none
 | _=>none
theorem Ak (run:av)(k:Nat)(fr:Ψ)(wr:Ω)(x y:Int)(hx:Sm x)(hy:Sm y)(hy0:0<y)
  (h42:fr.length=42) (h2:nth fr 2 = .ptr 0 0) (h3:nth fr 3 = .ptr 1 0) (h4:nth fr 4 = .ptr 2 0) :
  ∃ st,ae (CC L9) run k (ai 2 fU) ⟨fr,[bW x,bW y,zR4],wr⟩=some (.ret,st)∧aY TT st.fr st.hp Tryz.f104.results.toList=some [ch (sgn (bw x) (x.natAbs / Nat.gcd x.natAbs y.natAbs)) (Int.ofNat (y.natAbs / Nat.gcd x.natAbs y.natAbs))]:=by
 obtain⟨f1,wr1,a1,a2,a3,a4,a5,a6⟩:=aaP run k fr wr x y hx hy h42 h2 h3 h4
 have hgp:0<Nat.gcd x.natAbs y.natAbs:=Nat.gcd_pos_of_pos_right _ (by omega)
 have hny:bw y=false:=by rw[cK];simp;omega
 have hyn:Int.ofNat y.natAbs=y:=by simp;omega
 by_cases h1:Nat.gcd x.natAbs y.natAbs=1
 ·rw[h1] at a1 ⊢
  obtain⟨f2,wr2,b1,b2,b3,b4,b5⟩:=TY run k f1 wr1 (bW x) (bW y) zR4 a2 a3 a4 a5 a6
  obtain⟨st,e1,e2⟩:=Al run k f2 wr2 (bW 1) x y b2 b3 b4 b5
  refine⟨st,?_,?_⟩
  ·rw[uq,ao a1,uo]
   show ae (CC L9) run k (.seq mh (ai 4 fU)) ⟨f1,[bW x,bW y,zR4,bW 1],wr1⟩=_
   rw[ao b1]
   exact e1
  ·rw[e2,Nat.div_one,Nat.div_one,aeA,hyn]
 ·obtain⟨f2,wr2,b1,b2,b3,b4,b5⟩:∃ fr' wr',ae (CC L9) run k mh ⟨f1,[bW x,bW y,zR4,bW (Int.ofNat (Nat.gcd x.natAbs y.natAbs))],wr1⟩=some (.normal,⟨fr',[bW (mH x (Int.ofNat (Nat.gcd x.natAbs y.natAbs))),bW (mH y (Int.ofNat (Nat.gcd x.natAbs y.natAbs))),zR4,bW (Int.ofNat (Nat.gcd x.natAbs y.natAbs))],wr'⟩)∧fr'.length=42∧nth fr' 2 = .ptr 0 0∧nth fr' 3 = .ptr 1 0∧nth fr' 4 = .ptr 2 0:=by
   by_cases hg2:Nat.gcd x.natAbs y.natAbs<1000000000
   ·exact TX run k f1 wr1 zR4 x y (Nat.gcd x.natAbs y.natAbs) hx hy (by omega) hg2 a2 a3 a4 a5 a6
   ·exact TW run k f1 wr1 zR4 x y (Nat.gcd x.natAbs y.natAbs) hx hy (hy.of_le (Nat.gcd_le_right _ (by omega))) (by omega) a2 a3 a4 a5 a6
  obtain⟨st,e1,e2⟩:=Al run k f2 wr2 (bW (Int.ofNat (Nat.gcd x.natAbs y.natAbs))) (mH x (Int.ofNat (Nat.gcd x.natAbs y.natAbs))) (mH y (Int.ofNat (Nat.gcd x.natAbs y.natAbs))) b2 b3 b4 b5
  refine⟨st,?_,?_⟩
  ·rw[uq,ao a1,uo,ao b1]
   exact e1
  ·rw[e2,ye x _ (Nat.mod_eq_zero_of_dvd (Nat.gcd_dvd_left _ _)),ye y _ (Nat.mod_eq_zero_of_dvd (Nat.gcd_dvd_right _ _)),hny]
   rfl
theorem Oc (run:av)(k:Nat)(x y:Int)(hx:Sm x)(hy:Sm y)(hy0:y.natAbs≠0) :
  ∃ st,ae (CC L9) run k fU ⟨entry 42 [bt x,bt y],[],[]⟩=some (.ret,st)∧aY TT st.fr st.hp Tryz.f104.results.toList=some [ch (kD x y) (kE x y)]:=by
 obtain⟨f1,wr1,a1,a2,a3,a4,a5⟩:=T9 run k x y
 by_cases h0:y<0
 ·have hny:bw y=true:=by rw[cK];simpa using h0
  obtain⟨f2,wr2,b1,b2,b3,b4,b5⟩:=TZ run k f1 wr1 x y hx hy h0 a2 a3 a4 a5
  obtain⟨st,e1,e2⟩:=Ak run k f2 wr2 (-x) (-y) hx.neg hy.neg (by omega) b2 b3 b4 b5
  refine⟨st,?_,?_⟩
  ·rw[aU 1 a1,xv,ao b1];exact e1
  ·rw[e2,Int.natAbs_neg,Int.natAbs_neg,kD,kE,hny];rfl
 ·have hny:bw y=false:=by rw[cK];simpa using h0
  obtain⟨f2,wr2,b1,b2,b3,b4,b5⟩:=T0 run k f1 wr1 x y hy h0 a2 a3 a4 a5
  obtain⟨st,e1,e2⟩:=Ak run k f2 wr2 x y hx hy (by omega) b2 b3 b4 b5
  refine⟨st,?_,?_⟩
  ·rw[aU 1 a1,xv,ao b1];exact e1
  ·rw[e2,kD,kE,hny];rfl
theorem oO:Ab.Spec base.P 104 pn:=Ab.Spec.bL (C:=CC L9) (cP ad0) fun args rs h=>by
 unfold pn at h
 split at h
 ·split at h
  ·rename_i x y ex ey
   obtain⟨rfl,hx⟩:=dV ex
   obtain⟨rfl,hy⟩:=dV ey
   by_cases hy0:y.natAbs=0
   ·rw[hy0] at h;simp at h
   ·rw[kl hy0] at h
    simp only[Bool.not_false,cond_true,OiE] at h
    subst h
    obtain⟨st,e1,e2⟩:=Oc (runK (CC L9) 1) 1 x y hx hy hy0
    exact⟨2,_,_,_,_,_,aZ P4 rfl e1 e2,xx _ _ _,Wk.refl rfl,trivial⟩
  ·cases h
 ·cases h
theorem P1:base.F.get 129=some Tryz.f129:=by kernel_rfl
theorem J2:base.F.get 49=some Tryz.f49:=by kernel_rfl
def aA (L:Lst)(run:av)(g:Nat)(args:Ψ)(r:PV):Prop:=∀ dr hp,bS (CC L) run dr hp g args=some (r,hp,⟨[],[],false,false⟩)
theorem gr (n d:Int):ch n d = .agg [.sc (.bool (bw n)),aL (aJ n.natAbs),.sc (.bool (bw d)),aL (aJ d.natAbs)]:=rfl
set_option maxHeartbeats 1000000 in
theorem Nu (L:Lst)(run:av)(k:Nat)(a b c d e1 e2 p q s t n m:Int)(g1:aA L run 95 [ch c d] (bt e2))(g2:aA L run 95 [ch a b] (bt e1))
  (g3:aA L run 105 [bt a,bt e2] (bt p)) (g4:aA L run 105 [bt c,bt e1] (bt q)) (g5:aA L run 139 [bt p,bt q] (bt s)) (g6:aA L run 105 [bt e1,bt e2] (bt t)) (g7:aA L run 104 [bt s,bt t] (ch n m)) :
  ∃ st,ae (CC L) run k (Tryz.f87.body.getD .skip) ⟨entry 22 [ch a b,ch c d],[],[]⟩=some (.ret,st)∧aY TT st.fr st.hp Tryz.f87.results.toList=some [ch n m]:=by
 obtain⟨h1,h2,h3⟩:=cb 20 (ch a b) (ch c d)
 generalize entry 22 [ch a b,ch c d]=fr0 at *
 unfold aA at *
 simp only[whW,gr] at *
 simp[Tryz.f87,h1,h2,h3,ae,aH,aq,ar,aF,ag,ah,aM,an,aj,aC,aG,FzZ,bN,partOf,aa,af,ab,bf,bp,cf,bH,bj,g1,g2,g3,g4,g5,g6,g7,uR,sR,sW,aR,aW,zR,rf0,rf1,bd,aV,aX,cF,b9,bF,bz,aY,number,FP.free,cC,FP.apart]
set_option maxHeartbeats 1000000 in
theorem Nh (L:Lst)(run:av)(k:Nat)(a b c d e1 e2 p t n m:Int)(g1:aA L run 95 [ch c d] (bt e2))(g2:aA L run 95 [ch a b] (bt e1))
  (g3:aA L run 105 [bt a,bt c] (bt p)) (g6:aA L run 105 [bt e1,bt e2] (bt t)) (g7:aA L run 104 [bt p,bt t] (ch n m)) :
  ∃ st,ae (CC L) run k (Tryz.f56.body.getD .skip) ⟨entry 16 [ch a b,ch c d],[],[]⟩=some (.ret,st)∧aY TT st.fr st.hp Tryz.f56.results.toList=some [ch n m]:=by
 obtain⟨h1,h2,h3⟩:=cb 14 (ch a b) (ch c d)
 generalize entry 16 [ch a b,ch c d]=fr0 at *
 unfold aA at *
 simp only[whW,gr] at *
 simp[Tryz.f56,h1,h2,h3,ae,aH,aq,ar,aF,ag,ah,aM,an,aj,aC,aG,FzZ,bN,partOf,aa,af,ab,bf,bp,cf,bH,bj,g1,g2,g3,g6,g7,uR,sR,sW,aR,aW,zR,rf0,rf1,bd,aV,aX,cF,b9,bF,bz,aY,number,FP.free,cC,FP.apart]
set_option maxHeartbeats 1000000 in
theorem Nt (L:Lst)(run:av)(k:Nat)(a b c d e1 e2 p q r:Int)(g1:aA L run 95 [ch c d] (bt e2))(g2:aA L run 95 [ch a b] (bt e1))
  (g3:aA L run 105 [bt a,bt e2] (bt p)) (g4:aA L run 105 [bt c,bt e1] (bt q)) (g5:aA L run 96 [bt p,bt q] (Ab.bJ r)) :
  ∃ st,ae (CC L) run k (Tryz.f129.body.getD .skip) ⟨entry 16 [ch a b,ch c d],[],[]⟩=some (.ret,st)∧aY TT st.fr st.hp Tryz.f129.results.toList=some [Ab.bJ r]:=by
 obtain⟨h1,h2,h3⟩:=cb 14 (ch a b) (ch c d)
 generalize entry 16 [ch a b,ch c d]=fr0 at *
 unfold aA at *
 simp only[whW,gr,Ab.bJ] at *
 simp[Tryz.f129,h1,h2,h3,ae,aH,aq,ar,aF,ag,ah,aM,an,aj,aC,aG,FzZ,au,bN,partOf,aa,af,ab,bf,bp,g1,g2,g3,g4,g5,uR,sR,sW,aR,aW,rf0,rf1,bd,aV,aX,bF,bz,aY,number,FP.free,cC,FP.apart]
theorem Ng (L:Lst)(run:av)(k:Nat)(a b c:Int)(g1:aA L run 149 [bt a] (bt c)) :
  ∃ st,ae (CC L) run k (Tryz.f106.body.getD .skip) ⟨entry 9 [ch a b],[],[]⟩=some (.ret,st)∧aY TT st.fr st.hp Tryz.f106.results.toList=some [ch c b]:=by
 obtain⟨h1,h2⟩:=cV 8 (ch a b)
 generalize entry 9 [ch a b]=fr0 at *
 unfold aA at *
 simp only[whW,gr] at *
 simp[Tryz.f106,h1,h2,ae,aH,aq,ar,aF,ag,ah,aM,an,aj,aC,aG,FzZ,au,bN,partOf,aa,af,ab,bf,bp,cf,bH,bj,g1,uR,sR,sW,aR,aW,zR,rf0,rf1,fb,dJ,j6,bd,aV,aX,cF,b9,bF,bz,aY,number,FP.free,cC,FP.apart]
theorem Hm (L:Lst)(run:av)(k:Nat)(a b c:Int)(g1:aA L run 101 [bt a] (Ab.bJ c)) :
  ∃ st,ae (CC L) run k (Tryz.f49.body.getD .skip) ⟨entry 6 [ch a b],[],[]⟩=some (.ret,st)∧aY TT st.fr st.hp Tryz.f49.results.toList=some [Ab.bJ c]:=by
 obtain⟨h1,h2⟩:=cV 5 (ch a b)
 generalize entry 6 [ch a b]=fr0 at *
 unfold aA at *
 simp only[whW,gr,Ab.bJ] at *
 simp[Tryz.f49,h1,h2,ae,aH,aq,ar,aF,ag,ah,aM,an,aj,aC,aG,FzZ,au,bN,partOf,aa,af,ab,bf,bp,g1,uR,sW,aW,rf0,rf1,bd,aV,aX,bF,bz,aY]
theorem Nc (L:Lst)(run:av)(k:Nat)(a b c d e f n m:Int)(g1:aA L run 106 [ch c d] (ch e f))(g2:aA L run 87 [ch a b,ch e f] (ch n m)) :
  ∃ st,ae (CC L) run k (Tryz.f55.body.getD .skip) ⟨entry 9 [ch a b,ch c d],[],[]⟩=some (.ret,st)∧aY TT st.fr st.hp Tryz.f55.results.toList=some [ch n m]:=by
 obtain⟨h1,h2,h3⟩:=cb 7 (ch a b) (ch c d)
 generalize entry 9 [ch a b,ch c d]=fr0 at *
 unfold aA at *
 simp only[gr] at *
 simp[Tryz.f55,h1,h2,h3,ae,aH,aq,ar,aF,ag,ah,aM,an,aj,aC,aG,partOf,aa,af,ab,bf,bp,cf,bH,bj,g1,g2,sR,aR,zR,bd,aV,aX,cF,b9,bF,bz,aY,number,FP.free,cC,FP.apart]
def L10:Lst:=[(95,FA),(105,EE),(139,tv),(104,pn),(149,sZ),(101,js),(96,uX)]
theorem yD:dt base.P L10:=⟨rJ,re,oo,oO,nL,jT,oc,trivial⟩
theorem abw:bC L10 95=fun a=>FA (aK a):=rfl
theorem abv:bC L10 105=fun a=>EE (aK a):=rfl
theorem aby:bC L10 139=fun a=>tv (aK a):=rfl
theorem UF:bC L10 104=fun a=>pn (aK a):=rfl
theorem abu:bC L10 149=fun a=>sZ (aK a):=rfl
theorem UE:bC L10 101=fun a=>js (aK a):=rfl
theorem abx:bC L10 96=fun a=>uX (aK a):=rfl
theorem FJ (n d:Int):aK [ch n d]=[ch n d]:=by simp only[aK,Cl]
theorem oW (run:av)(n d:Int)(hn:Sm n)(hd:Sm d):aA L10 run 95 [ch n d] (bt (dB d)):=fun dr hp =>
 bq aey abw run dr hp _ [bt (dB d)] (xx hp n d) (FJ n d) (by simp only[FA,gT hn hd])
theorem mD (run:av)(x y:Int)(hx:Sm x)(hy:Sm y):aA L10 run 105 [bt x,bt y] (bt (x*y)):=fun dr hp =>
 bq aex abv run dr hp _ [bt (x*y)] (gY hp x y) (fN x y) (by simp only[EE,cQ hx,cQ hy])
theorem acH (run:av)(x y:Int)(hx:Sm x)(hy:Sm y):aA L10 run 139 [bt x,bt y] (bt (x+y)):=fun dr hp =>
 bq Hf aby run dr hp _ [bt (x+y)] (gY hp x y) (fN x y) (by simp only[tv,cQ hx,cQ hy])
theorem acG (run:av)(x y:Int)(hx:Sm x)(hy:Sm y):aA L10 run 96 [bt x,bt y] (Ab.bJ (fX x y)):=fun dr hp =>
 bq RV abx run dr hp _ [Ab.bJ (fX x y)] (gY hp x y) (fN x y) (by simp only[uX,cQ hx,cQ hy])
theorem acF (run:av)(x:Int)(hx:Sm x):aA L10 run 149 [bt x] (bt (-x)):=fun dr hp =>
 bq Hd abu run dr hp _ [bt (-x)] (og hp x) (kL x) (by simp only[sZ,cQ hx])
theorem VU (run:av)(x:Int)(hx:Sm x):aA L10 run 101 [bt x] (Ab.bJ x.sign):=fun dr hp =>
 bq vh UE run dr hp _ [Ab.bJ x.sign] (og hp x) (kL x) (by simp only[js,cQ hx])
def qV (_ y:Int):Bool := !(y.natAbs.beq 0)
theorem Fi (run:av)(x y:Int)(hx:Sm x)(hy:Sm y)(h:qV x y=true):aA L10 run 104 [bt x,bt y] (ch (kD x y) (kE x y)):=fun dr hp =>
 bq KI UF run dr hp _ [ch (kD x y) (kE x y)] (gY hp x y) (fN x y) (by
  unfold qV at h
  simp only[pn,cQ hx,cQ hy,h,cond_true])
def smB (x:Int):Bool:=x.natAbs.log2.blt 11000000
theorem iW {x:Int}(h:smB x=true):Sm x:=abT (by simpa [smB,Nat.blt_eq] using h)
theorem JD:Sm 1:=by unfold Sm;decide
theorem oq {d:Int}(h:Sm d):Sm (dB d):=by
 unfold dB
 by_cases h0:d=0
 ·rw[if_pos h0];exact JD
 ·rw[if_neg h0];exact h
def ly:Ψ→Option Ψ
 | [p,q]=>match gC p,gC q with
  | some (a,b),some (c,d)=>bif smB (a*dB d) && (smB (c*dB b) && (smB (a*dB d+c*dB b) && (smB (dB b*dB d) && qV (a*dB d+c*dB b) (dB b*dB d)))) then
    some [ch (kD (a*dB d+c*dB b) (dB b*dB d)) (kE (a*dB d+c*dB b) (dB b*dB d))] else none
  | _,_=>none
 | _=>none
theorem oJ:Ab.Spec base.P 87 ly:=Ab.Spec.bL (C:=CC L10) (cP yD) fun args rs h=>by
 unfold ly at h
 split at h
 ·split at h
  ·rename_i a b c d ex ey
   obtain⟨rfl,ha,hb⟩:=eh ex
   obtain⟨rfl,hc,hd⟩:=eh ey
   cases hg:smB (a*dB d) && (smB (c*dB b) && (smB (a*dB d+c*dB b) && (smB (dB b*dB d) && qV (a*dB d+c*dB b) (dB b*dB d)))) with
   | false=>rw[hg] at h;cases h
   | true =>
    rw[hg] at h
    simp only[cond_true,OiE] at h
    subst h
    simp only[Bool.and_eq_true] at hg
    obtain⟨h1,h2,h3,h4,h5⟩:=hg
    obtain⟨st,e1,e2⟩:=Nu L10 (runK (CC L10) 1) 1 a b c d _ _ _ _ _ _ _ _ (oW _ c d hc hd) (oW _ a b ha hb) (mD _ _ _ ha (oq hd)) (mD _ _ _ hc (oq hb)) (acH _ _ _ (iW h1) (iW h2)) (mD _ _ _ (oq hb) (oq hd)) (Fi _ _ _ (iW h3) (iW h4) h5)
    exact⟨2,_,_,_,_,_,aZ P3 rfl e1 e2,xx _ _ _,Wk.refl rfl,trivial⟩
  ·cases h
 ·cases h
def qG:Ψ→Option Ψ
 | [p,q]=>match gC p,gC q with
  | some (a,b),some (c,d)=>bif smB (a*c) && (smB (dB b*dB d) && qV (a*c) (dB b*dB d)) then
    some [ch (kD (a*c) (dB b*dB d)) (kE (a*c) (dB b*dB d))] else none
  | _,_=>none
 | _=>none
theorem oI:Ab.Spec base.P 56 qG:=Ab.Spec.bL (C:=CC L10) (cP yD) fun args rs h=>by
 unfold qG at h
 split at h
 ·split at h
  ·rename_i a b c d ex ey
   obtain⟨rfl,ha,hb⟩:=eh ex
   obtain⟨rfl,hc,hd⟩:=eh ey
   cases hg:smB (a*c) && (smB (dB b*dB d) && qV (a*c) (dB b*dB d)) with
   | false=>rw[hg] at h;cases h
   | true =>
    rw[hg] at h
    simp only[cond_true,OiE] at h
    subst h
    simp only[Bool.and_eq_true] at hg
    obtain⟨h1,h4,h5⟩:=hg
    obtain⟨st,e1,e2⟩:=Nh L10 (runK (CC L10) 1) 1 a b c d _ _ _ _ _ _ (oW _ c d hc hd) (oW _ a b ha hb) (mD _ _ _ ha hc) (mD _ _ _ (oq hb) (oq hd)) (Fi _ _ _ (iW h1) (iW h4) h5)
    exact⟨2,_,_,_,_,_,aZ P0 rfl e1 e2,xx _ _ _,Wk.refl rfl,trivial⟩
  ·cases h
 ·cases h
def lv:Ψ→Option Ψ
 | [p,q]=>match gC p,gC q with
  | some (a,b),some (c,d)=>bif smB (a*dB d) && smB (c*dB b) then some [Ab.bJ (fX (a*dB d) (c*dB b))] else none
  | _,_=>none
 | _=>none
theorem jW:Ab.Spec base.P 129 lv:=Ab.Spec.bL (C:=CC L10) (cP yD) fun args rs h=>by
 unfold lv at h
 split at h
 ·split at h
  ·rename_i a b c d ex ey
   obtain⟨rfl,ha,hb⟩:=eh ex
   obtain⟨rfl,hc,hd⟩:=eh ey
   cases hg:smB (a*dB d) && smB (c*dB b) with
   | false=>rw[hg] at h;cases h
   | true =>
    rw[hg] at h
    simp only[cond_true,OiE] at h
    subst h
    simp only[Bool.and_eq_true] at hg
    obtain⟨h1,h2⟩:=hg
    obtain⟨st,e1,e2⟩:=Nt L10 (runK (CC L10) 1) 1 a b c d _ _ _ _ _ (oW _ c d hc hd) (oW _ a b ha hb) (mD _ _ _ ha (oq hd)) (mD _ _ _ hc (oq hb)) (acG _ _ _ (iW h1) (iW h2))
    exact⟨2,_,_,_,_,_,aZ P1 rfl e1 e2,eB _ _,Wk.refl rfl,trivial⟩
  ·cases h
 ·cases h
def nm:Ψ→Option Ψ
 | [p]=>match gC p with
  | some (a,b)=>some [ch (-a) b]
  | none=>none
 | _=>none
theorem oH:Ab.Spec base.P 106 nm:=Ab.Spec.bL (C:=CC L10) (cP yD) fun args rs h=>by
 unfold nm at h
 split at h
 ·split at h
  ·rename_i a b ex
   obtain⟨rfl,ha,hb⟩:=eh ex
   simp only[OiE] at h
   subst h
   obtain⟨st,e1,e2⟩:=Ng L10 (runK (CC L10) 1) 1 a b _ (acF _ a ha)
   exact⟨2,_,_,_,_,_,aZ PZ rfl e1 e2,xx _ _ _,Wk.refl rfl,trivial⟩
  ·cases h
 ·cases h
def wv:Ψ→Option Ψ
 | [p]=>match gC p with
  | some (a,_)=>some [Ab.bJ a.sign]
  | none=>none
 | _=>none
theorem pF:Ab.Spec base.P 49 wv:=Ab.Spec.bL (C:=CC L10) (cP yD) fun args rs h=>by
 unfold wv at h
 split at h
 ·split at h
  ·rename_i a b ex
   obtain⟨rfl,ha,hb⟩:=eh ex
   simp only[OiE] at h
   subst h
   obtain⟨st,e1,e2⟩:=Hm L10 (runK (CC L10) 1) 1 a b _ (VU _ a ha)
   exact⟨2,_,_,_,_,_,aZ J2 rfl e1 e2,eB _ _,Wk.refl rfl,trivial⟩
  ·cases h
 ·cases h
def L11:Lst:=[(87,ly),(106,nm)]
theorem ahc:dt base.P L11:=⟨oJ,oH,trivial⟩
theorem abt:bC L11 87=fun a=>ly (aK a):=rfl
theorem abr:bC L11 106=fun a=>nm (aK a):=rfl
theorem adn (hp:Θ)(a b c d:Int):bu (snap hp bn) [ch a b,ch c d]=some ([ch a b,ch c d],[]):=rfl
theorem W7 (a b c d:Int):aK [ch a b,ch c d]=[ch a b,ch c d]:=by simp only[aK,Cl]
theorem acD (run:av)(n d:Int)(hn:Sm n)(hd:Sm d):aA L11 run 106 [ch n d] (ch (-n) d):=fun dr hp =>
 bq ZB abr run dr hp _ [ch (-n) d] (xx hp n d) (FJ n d) (by simp only[nm,gT hn hd])
theorem acE (run:av)(a b c d n m:Int)(h:ly [ch a b,ch c d]=some [ch n m]):aA L11 run 87 [ch a b,ch c d] (ch n m):=fun dr hp =>
 bq ZE abt run dr hp _ [ch n m] (adn hp a b c d) (W7 a b c d) h
def tL:Ψ→Option Ψ
 | [p,q]=>match gC q with
  | some (c,d)=>ly [p,ch (-c) d]
  | _=>none
 | _=>none
theorem Nv {p q:PV}{rs:Ψ}(h:ly [p,q]=some rs):∃ a b n m,p=ch a b∧rs=[ch n m]:=by
 simp only[ly] at h
 split at h
 ·rename_i a b c d ex ey
  obtain⟨rfl,-,-⟩:=eh ex
  cases hg:smB (a*dB d) && (smB (c*dB b) && (smB (a*dB d+c*dB b) && (smB (dB b*dB d) && qV (a*dB d+c*dB b) (dB b*dB d)))) with
  | false=>rw[hg] at h;cases h
  | true =>
   rw[hg] at h
   simp only[cond_true,OiE] at h
   exact⟨a,b,_,_,rfl,h.symm⟩
 ·cases h
theorem sG:Ab.Spec base.P 55 tL:=Ab.Spec.bL (C:=CC L11) (cP ahc) fun args rs h=>by
 unfold tL at h
 split at h
 ·split at h
  ·rename_i p q c d ey
   obtain⟨rfl,hc,hd⟩:=eh ey
   obtain⟨a,b,n,m,rfl,rfl⟩:=Nv h
   obtain⟨st,e1,e2⟩:=Nc L11 (runK (CC L11) 1) 1 a b c d _ _ n m (acD _ c d hc hd) (acE _ a b (-c) d n m h)
   exact⟨2,_,_,_,_,_,aZ PW rfl e1 e2,xx _ _ _,Wk.refl rfl,trivial⟩
  ·cases h
 ·cases h
end Go.Proofs.YtjdmodeenbdfpaaGreat
end
