/- Contracts of num's integers, part 27 of the proof; each lemma states its own conditions. -/
import Derived.Shelf.Strings.Search1
import Derived.Shelf.Strings.Repeat
import Derived.Test.YtjdmodeenbdfpaaGreatProg
import Derived.Test.YtjdmodeenbdfpaaGreatQ26
set_option linter.unusedSimpArgs false
set_option linter.unusedVariables false
set_option linter.unusedSimpArgs false
set_option linter.unusedVariables false
namespace Go.Proofs
open Go.Shelf Go.RowKit Go.Lib
def Tryz.DG:Go.Shelf.Ren:=⟨fun | 217=>191 | 266=>196 | n=>n,fun | 9=>9 | 5=>5 | 3=>3 | n=>n,fun | n=>n⟩
theorem Tryz.YW:Go.Proofs.Lays.n217 Tryz.prog Tryz.DG:={
 mixed:=by kernel_rfl
 f217:=Tryz.func191.trans (congrArg some (by kernel_rfl))
 f266:=Tryz.func196.trans (congrArg some (by kernel_rfl))
 t3:=Tryz.underlying3
 a3:=Tryz.isAgg3
 z3:=Tryz.sizeOf3
 v3:=Tryz.zeroValue3
 t5:=Tryz.underlying5
 a5:=Tryz.isAgg5
 z5:=Tryz.sizeOf5
 v5:=Tryz.zeroValue5
 t9:=Tryz.underlying9
 a9:=Tryz.isAgg9
 z9:=Tryz.sizeOf9
 v9:=Tryz.zeroValue9 }
theorem Tryz.stringslite_IndexByte (s:ByteArray)(c:Int)(w:World) :
  Calls Tryz.prog 191 #[.string s,.int .u8 c] w fun e w'=>e = .returned (.int .i64 (Lib.indexByte s.data.toList c.toNat.toUInt8))∧w'=w:=Any.stringslite_IndexByte Tryz.YW s c w
def Tryz.td:Go.Shelf.Ren:=⟨fun | 105=>38 | 212=>88 | 99=>89 | 165=>90 | 166=>91 | 170=>92 | 169=>93 | 263=>140 | 264=>141 | 206=>142 | 240=>143 | 241=>144 | 276=>162 | 277=>163 | n=>n,fun | 9=>9 | 3=>3 | 4=>4 | 20=>20 | 0=>0 | 46=>114 | 109=>115 | 5=>5 | 72=>120 | 76=>124 | 51=>171 | 146=>172 | 53=>174 | 148=>175 | 70=>118 | 37=>43 | 75=>123 | 127=>177 | 164=>192 | 80=>126 | n=>n,fun | n=>n⟩
theorem Tryz.YX:Go.Proofs.Lays.n105 Tryz.prog Tryz.td:={
 mixed:=by kernel_rfl
 f99:=Tryz.func89.trans (congrArg some (by kernel_rfl))
 f105:=Tryz.func38.trans (congrArg some (by kernel_rfl))
 f165:=Tryz.func90.trans (congrArg some (by kernel_rfl))
 f166:=Tryz.func91.trans (congrArg some (by kernel_rfl))
 f169:=Tryz.func93.trans (congrArg some (by kernel_rfl))
 f170:=Tryz.func92.trans (congrArg some (by kernel_rfl))
 f206:=Tryz.func142.trans (congrArg some (by kernel_rfl))
 f212:=Tryz.func88.trans (congrArg some (by kernel_rfl))
 f240:=Tryz.func143.trans (congrArg some (by kernel_rfl))
 f241:=Tryz.func144.trans (congrArg some (by kernel_rfl))
 f263:=Tryz.func140.trans (congrArg some (by kernel_rfl))
 f264:=Tryz.func141.trans (congrArg some (by kernel_rfl))
 f276:=Tryz.func162.trans (congrArg some (by kernel_rfl))
 f277:=Tryz.func163.trans (congrArg some (by kernel_rfl))
 t0:=Tryz.underlying0
 a0:=Tryz.isAgg0
 z0:=Tryz.sizeOf0
 v0:=Tryz.zeroValue0
 t3:=Tryz.underlying3
 a3:=Tryz.isAgg3
 z3:=Tryz.sizeOf3
 v3:=Tryz.zeroValue3
 t4:=Tryz.underlying4
 a4:=Tryz.isAgg4
 z4:=Tryz.sizeOf4
 v4:=Tryz.zeroValue4
 t5:=Tryz.underlying5
 a5:=Tryz.isAgg5
 z5:=Tryz.sizeOf5
 v5:=Tryz.zeroValue5
 t9:=Tryz.underlying9
 a9:=Tryz.isAgg9
 z9:=Tryz.sizeOf9
 v9:=Tryz.zeroValue9
 t20:=Tryz.underlying20
 a20:=Tryz.isAgg20
 z20:=Tryz.sizeOf20
 v20:=Tryz.zeroValue20
 t37:=Tryz.underlying43
 a37:=Tryz.isAgg43
 z37:=Tryz.sizeOf43
 v37:=Tryz.zeroValue43
 t46:=Tryz.underlying114
 a46:=Tryz.isAgg114
 z46:=Tryz.sizeOf114
 v46:=Tryz.zeroValue114
 t51:=Tryz.underlying171
 a51:=Tryz.isAgg171
 z51:=Tryz.sizeOf171
 v51:=Tryz.zeroValue171
 t53:=Tryz.underlying174
 a53:=Tryz.isAgg174
 z53:=Tryz.sizeOf174
 v53:=Tryz.zeroValue174
 t70:=Tryz.underlying118
 a70:=Tryz.isAgg118
 z70:=Tryz.sizeOf118
 v70:=Tryz.zeroValue118
 t72:=Tryz.underlying120
 a72:=Tryz.isAgg120
 z72:=Tryz.sizeOf120
 v72:=Tryz.zeroValue120
 t75:=Tryz.underlying123
 a75:=Tryz.isAgg123
 z75:=Tryz.sizeOf123
 v75:=Tryz.zeroValue123
 t76:=Tryz.underlying124
 a76:=Tryz.isAgg124
 z76:=Tryz.sizeOf124
 v76:=Tryz.zeroValue124
 t109:=Tryz.underlying115
 a109:=Tryz.isAgg115
 z109:=Tryz.sizeOf115
 v109:=Tryz.zeroValue115
 t127:=Tryz.underlying177
 a127:=Tryz.isAgg177
 z127:=Tryz.sizeOf177
 v127:=Tryz.zeroValue177
 t146:=Tryz.underlying172
 a146:=Tryz.isAgg172
 z146:=Tryz.sizeOf172
 v146:=Tryz.zeroValue172
 t148:=Tryz.underlying175
 a148:=Tryz.isAgg175
 z148:=Tryz.sizeOf175
 v148:=Tryz.zeroValue175
 t164:=Tryz.underlying192
 a164:=Tryz.isAgg192
 z164:=Tryz.sizeOf192
 v164:=Tryz.zeroValue192 }
theorem Tryz.qF:Builder.Extra Tryz.prog Tryz.td:={
 sizeBuilder:=by kernel_rfl
 liesBuilder:=by kernel_rfl
 t5:=Tryz.underlying5
 a5:=Tryz.isAgg5
 z5:=Tryz.sizeOf5
 v5:=Tryz.zeroValue5
 infoByte:=by kernel_rfl
 cellsByte:=by kernel_rfl
 sizeByte:=by kernel_rfl
 neB5:=by decide }
theorem Tryz.strings_Repeat (s:ByteArray)(c:Nat)(w:World)(hc:c≤9223372036854775807)(hlen:s.size*c≤140737488355328) :
  Calls Tryz.prog 38 #[.string s,.int .i64 c] w fun e w'=>e = .returned (.string ⟨(Lib.repeatL s.data.toList c).toArray⟩)∧Below w.heap.size w w':=Any.strings_Repeat Tryz.YX Tryz.qF s c w hc hlen
end Go.Proofs
namespace Go.Proofs.YtjdmodeenbdfpaaGreat
open Go Go.Ab Go.RowKit
theorem uy {P:Program}{g:FuncId}{f:List PV→Option (List PV)}(he:∀ (args:Array Value)(w:World),(callFunc g args).run P w = .ok (.enter g args) w)
  (h:∀ args rs,f args=some rs→bM rs=true∧∀ (w:World) (M:Nat→Prop) (vs:List Value),Vs w M [] NoL args vs →
   ∃ post:Ending→World→Prop,Calls P g vs.toArray w post∧∀ e w',post e w'→∃ us,e = .returned (AF us)∧Vs w' M [] NoL rs us∧Old w w'):Ab.Spec P g f:=by
 intro args rs hf hi
 obtain⟨h1,h2⟩:=h args rs hf
 refine⟨h1,fun w M vs hM hvs => ?_⟩
 obtain⟨post,h3,h4⟩:=h2 w M vs hvs
 unfold iH
 rw[he]
 refine h3.mono fun e w' hh => ?_
 obtain⟨us,h5,h6⟩:=h4 e w' hh
 exact⟨_,h5,us,rfl,h6⟩
theorem Old.refl (w:World):Old w w:=⟨rfl,rfl,rfl,Nat.le_refl _,fun _ _=>rfl⟩
theorem Old.below {w w':World}(h:Below w.heap.size w w'):Old w w':=⟨h.os,h.tape,h.output,h.size,h.block⟩
theorem vs2 {w:World}{M:Nat→Prop}{a b:Value}{vs:List Value}(h:Vs w M [] NoL [.sc a,.sc b] vs):vs=[a,b]:=by
 obtain⟨h1,h2⟩:=h
 match vs,h1 with
 | [u,v],_ =>
  have e1:=h2 0 _ u rfl rfl
  have e2:=h2 1 _ v rfl rfl
  cases e1;cases e2;rfl
theorem aal (w:World)(M:Nat→Prop)(a:Value):Vs w M [] NoL [.sc a] [a]:=⟨rfl,fun k p v h1 h2=>by
 cases k with
 | zero=>simp at h1 h2;subst h1;subst h2;exact .sc _
 | succ k=>simp at h1⟩
def ibF:List PV→Option (List PV)
 | [.sc (.string s),.sc (.int .u8 c)]=>some [.sc (.int .i64 (Lib.indexByte (bH s) c.toNat.toUInt8))]
 | _=>none
theorem JE:Ab.Spec base.P 191 ibF:=uy (P:=Tryz.prog) Tryz.call191 fun args rs h=>by
 unfold ibF at h
 split at h
 ·rename_i s c
  simp only[Option.some.injEq] at h
  subst h
  refine⟨rfl,fun w M vs hvs => ?_⟩
  rw[vs2 hvs]
  refine⟨_,Tryz.stringslite_IndexByte s c w,?_⟩
  rintro e w' ⟨rfl,rfl⟩
  exact⟨[_],rfl,aal _ M _,Old.refl _⟩
 ·cases h
def abD:List PV→Option (List PV)
 | [.sc (.string s),.sc (.int .i64 (.ofNat c))]=>bif ((bH s).length*c).ble 100000000 && c.ble 100000000 then some [.sc (.string (mkStr (Lib.repeatL (bH s) c)))] else none
 | _=>none
theorem PT:Ab.Spec base.P 38 abD:=uy (P:=Tryz.prog) Tryz.call38 fun args rs h=>by
 unfold abD at h
 split at h
 ·rename_i s c
  cases hb:((bH s).length*c).ble 100000000 && c.ble 100000000 with
  | false=>rw[hb] at h;cases h
  | true =>
   rw[hb] at h
   simp only[cond_true,Option.some.injEq] at h
   subst h
   simp only[Bool.and_eq_true,Nat.ble_eq] at hb
   refine⟨rfl,fun w M vs hvs => ?_⟩
   rw[vs2 hvs]
   refine⟨_,Tryz.strings_Repeat s c w (by omega) (by rw[← fl];omega),?_⟩
   rintro e w' ⟨rfl,hw⟩
   exact⟨[_],rfl,aal _ M _,Old.below hw⟩
 ·cases h
def rf0:Field:={ name := "n",type:=70,offset:=0,embedded:=false,tag := "",pkgPath := "torus/num",byteOffset:=0 }
def rf1:Field:={ name := "d",type:=70,offset:=2,embedded:=false,tag := "",pkgPath := "torus/num",byteOffset:=32 }
theorem uR:und TT 72=some (.struct #[rf0,rf1]):=by kernel_rfl
theorem sR:cR TT 72=some 4:=by kernel_rfl
theorem aR:fW TT 72=some true:=by kernel_rfl
theorem zR:dV TT 72=some [.sc (.bool false),.sc (.slice none 0 0),.sc (.bool false),.sc (.slice none 0 0)]:=by kernel_rfl
theorem VD:base.F.get 95=some Tryz.f95:=by kernel_rfl
theorem Ol:base.F.get 104=some Tryz.f104:=by kernel_rfl
theorem Ok:base.F.get 87=some Tryz.f87:=by kernel_rfl
theorem Og:base.F.get 55=some Tryz.f55:=by kernel_rfl
theorem Oi:base.F.get 56=some Tryz.f56:=by kernel_rfl
theorem Oh:base.F.get 106=some Tryz.f106:=by kernel_rfl
theorem Pk:base.shared 95=false:=by kernel_rfl
theorem I6:base.shared 104=false:=by kernel_rfl
theorem I5:base.shared 87=false:=by kernel_rfl
theorem I4:base.shared 106=false:=by kernel_rfl
def bV (n d:Int):PV:=.agg [.sc (.bool (bt n)),aL (aA n.natAbs),.sc (.bool (bt d)),aL (aA d.natAbs)]
def gF:PV→Option (Int × Int)
 | .agg [a,b,c,d]=>match fL (.agg [a,b]),fL (.agg [c,d]) with
  | some n,some m=>some (n,m)
  | _,_=>none
 | _=>none
theorem ed {p:PV}{n d:Int}(h:gF p=some (n,d)):p=bV n d∧Sm n∧Sm d:=by
 unfold gF at h
 split at h
 ·split at h
  ·rename_i n' m' e1 e2
   simp only[Option.some.injEq,Prod.mk.injEq] at h
   obtain⟨rfl,rfl⟩:=h
   obtain⟨h1,h2⟩:=dR e1
   obtain⟨h3,h4⟩:=dR e2
   refine⟨?_,h2,h4⟩
   simp only[whW,PV.agg.injEq,List.cons.injEq,and_true] at h1 h3
   obtain⟨rfl,rfl⟩:=h1
   obtain⟨rfl,rfl⟩:=h3
   rfl
  ·cases h
 ·cases h
theorem gT {n d:Int}(h1:Sm n)(h2:Sm d):gF (bV n d)=some (n,d):=by
 have e1:=cG h1
 have e2:=cG h2
 rw[whW] at e1 e2
 simp only[gF,bV,e1,e2]
theorem Bn (n d:Int):canon (bV n d)=bV n d:=by simp only[bV,canon,aJ,fE]
theorem sY (hp:List Blk)(n d:Int):bq (snap hp bj) [bV n d]=some ([bV n d],[]):=rfl
noncomputable def L9:Lst:=[(101,jo),(97,ofF),(149,tz),(150,xM),(151,Nx)]
theorem aaP:dM base.P L9:=⟨kM,nI,pN,wE,Ef,trivial⟩
theorem Ya:bu L9 101=fun a=>jo (aJ a):=rfl
theorem aeU:bu L9 97=fun a=>ofF (aJ a):=rfl
theorem acj:bu L9 149=fun a=>tz (aJ a):=rfl
theorem ack:bu L9 150=fun a=>xM (aJ a):=rfl
theorem acm:bu L9 151=fun a=>Nx (aJ a):=rfl
theorem oU (run:aq)(dr:Bool)(hp:List Blk)(x:Int)(hx:Sm x):cb (CC L9) run dr hp 101 [bn x]=some (Ab.bC x.sign,hp,⟨[],[],false,false⟩) :=
 bp tJ Ya run dr hp _ [Ab.bC x.sign] (lV hp x) (jv x) (by simp only[jo,cG hx])
theorem UT (run:aq)(dr:Bool)(hp:List Blk):cb (CC L9) run dr hp 97 [.sc (.int .i64 1)]=some (bn 1,hp,⟨[],[],false,false⟩) :=
 bp yr aeU run dr hp _ [bn 1] rfl rfl rfl
theorem Aa (run:aq)(dr:Bool)(hp:List Blk)(x:Int)(hx:Sm x):cb (CC L9) run dr hp 149 [bn x]=some (bn (-x),hp,⟨[],[],false,false⟩) :=
 bp FK acj run dr hp _ [bn (-x)] (lV hp x) (jv x) (by simp only[tz,cG hx])
theorem NQ (run:aq)(dr:Bool)(hp:List Blk)(x y:Int)(hx:Sm x)(hy:Sm y) :
  cb (CC L9) run dr hp 150 [bn x,bn y]=some (bn (Int.ofNat (Nat.gcd x.natAbs y.natAbs)),hp,⟨[],[],false,false⟩) :=
 bp Ph ack run dr hp _ [bn (Int.ofNat (Nat.gcd x.natAbs y.natAbs))] (gC hp x y) (fk x y) (by simp only[xM,cG hx,cG hy])
theorem nV (run:aq)(dr:Bool)(hp:List Blk)(x y:Int)(hx:Sm x)(hy:Sm y)(h0:y.natAbs≠0) :
  cb (CC L9) run dr hp 151 [bn x,bn y]=some (.tup [bn (lQ x y),bn (Bg x y)],hp,⟨[],[],false,false⟩) :=
 bp Lg acm run dr hp _ [bn (lQ x y),bn (Bg x y)] (gC hp x y) (fk x y) (by
  simp only[Nx,cG hx,cG hy,jT h0,Bool.not_false,cond_true])
theorem Uh (run:aq)(k:Nat)(n d:Int)(hd:Sm d) :
  ∃ st,af (CC L9) run k (Tryz.f95.body.getD .skip) ⟨entry 10 [bV n d],[],[]⟩=some (.ret,st)∧aV TT st.fr st.hp Tryz.f95.results.toList=some [bn (if d=0 then 1 else d)]:=by
 have hc1:=fun dr hp=>oU run dr hp d hd
 have hc2:=fun dr hp=>UT run dr hp
 obtain⟨e1,e2⟩:=cQ 9 (bV n d)
 generalize entry 10 [bV n d]=fr0 at *
 unfold bV at e2
 by_cases h0:d=0
 ·rw[if_pos h0]
  have hs:d.sign=0:=by rw[h0];rfl
  rw[hs] at hc1
  simp only[whW,Ab.bC] at hc1 hc2 ⊢
  generalize aA n.natAbs=rn at *
  generalize aA d.natAbs=rd at *
  generalize bt n=nn at *
  generalize bt d=nd at *
  simp[Tryz.f95,e1,e2,af,aH,an,ao,aG,ag,ai,aO,aj,ak,aC,az,FP.none,aY,au,bf,av,bL,partOf,aa,ae,ab,bh,bm,bS,bD,bc,hc1,hc2,uR,sW,aW,zW,rf0,rf1,aP,aU,aZ,cf,bX,bE,br,aV]
 ·rw[if_neg h0]
  have hs:(d.sign == 0)=false:=by
   rw[beq_eq_false_iff_ne]
   intro h;exact h0 (Int.sign_eq_zero_iff_zero.1 h)
  have hs' : ¬ d=0:=h0
  generalize d.sign=sg at *
  simp only[whW,Ab.bC] at hc1 ⊢
  generalize aA n.natAbs=rn at *
  generalize aA d.natAbs=rd at *
  generalize bt n=nn at *
  generalize bt d=nd at *
  simp[Tryz.f95,e1,e2,af,aH,an,ao,aG,ag,ai,aO,aj,ak,aC,az,FP.none,aY,au,bf,av,bL,partOf,aa,ae,ab,bh,bm,bS,bD,bc,hc1,hs,uR,sW,aW,zW,rf0,rf1,aP,aU,aZ,cf,bX,bE,br,aV]
def du (d:Int):Int:=if d=0 then 1 else d
def Bj:List PV→Option (List PV)
 | [p]=>match gF p with
  | some (_,d)=>some [bn (du d)]
  | none=>none
 | _=>none
theorem wZ:Ab.Spec base.P 95 Bj:=Ab.Spec.bN (C:=CC L9) (cU aaP) fun args rs h=>by
 unfold Bj at h
 split at h
 ·split at h
  ·rename_i n d e
   obtain⟨rfl,-,hd⟩:=ed e
   simp only[Option.some.injEq] at h
   subst h
   obtain⟨st,e1,e2⟩:=Uh (runK (CC L9) 1) 1 n d hd
   exact⟨2,_,_,_,_,_,aQ VD rfl e1 e2,iX _ _,Wk.refl rfl,trivial⟩
  ·cases h
 ·cases h
noncomputable def fU:Code:=Tryz.f104.body.getD .skip
noncomputable def mF:Code:=seq1 (ah 1 fU)
theorem XG:((Region.before (ko (cB mF)))[4]?.getD 0).testBit 0=true:=by kernel_rfl
theorem XE:((Region.before (ko (cB mF)))[5]?.getD 0).testBit 2=true:=by kernel_rfl
abbrev zR4:Blk:=⟨.live,[.sc (.bool false),.sc (.slice none 0 0),.sc (.bool false),.sc (.slice none 0 0)]⟩
abbrev bW (x:Int):Blk:=⟨.live,[.sc (.bool (bt x)),aL (aA x.natAbs)]⟩
theorem vV:ah 1 fU = .seq mF (ah 2 fU):=rfl
theorem RV (run:aq)(k:Nat)(x y:Int) :
  ∃ fr wr,aX (CC L9) run k 1 fU ⟨entry 42 [bn x,bn y],[],[]⟩=some ⟨fr,[bW x,bW y,zR4],wr⟩∧fr.length=42∧nth fr 2 = .ptr 0 0∧nth fr 3 = .ptr 1 0∧nth fr 4 = .ptr 2 0:=by
 obtain⟨e1,e2,e3⟩:=cn 40 (bn x) (bn y)
 generalize entry 42 [bn x,bn y]=fr0 at *
 rw[whW] at e2 e3
 simp[fU,Tryz.f104,aX,e1,e2,e3,af,aH,an,ao,aG,ag,ai,aj,ak,aC,az,aa,ae,ab,bh,and_assoc,bm,zR,aP]
theorem RU (run:aq)(k:Nat)(fr:List PV)(wr:List Nat)(x y:Int)(hy:Sm y)(h0 : ¬ (y<0))(h42:fr.length=42)(h2:nth fr 2 = .ptr 0 0)(h3:nth fr 3 = .ptr 1 0)(h4:nth fr 4 = .ptr 2 0) :
  ∃ fr' wr',af (CC L9) run k mF ⟨fr,[bW x,bW y,zR4],wr⟩=some (.normal,⟨fr',[bW x,bW y,zR4],wr'⟩)∧fr'.length=42∧nth fr' 2 = .ptr 0 0∧nth fr' 3 = .ptr 1 0∧nth fr' 4 = .ptr 2 0:=by
 have hc1:=fun dr hp=>oU run dr hp y hy
 have hs : ¬ (y.sign<0):=by
  intro h
  have:=Int.sign_neg_iff.1 h
  omega
 generalize y.sign=sg at *
 simp only[whW,Ab.bC] at hc1 ⊢
 simp[mF,fU,Tryz.f104,seq1,ah,af,aH,an,ao,aG,ag,ai,aO,aj,ak,aC,az,FP.none,aY,au,bf,av,partOf,aa,ae,ab,bh,and_assoc,hc1,hs,h42,h2,h3,h4,sW,aW,aU,aZ,bE,br]
theorem RT (run:aq)(k:Nat)(fr:List PV)(wr:List Nat)(x y:Int)(hx:Sm x)(hy:Sm y)(h0:y<0)(h42:fr.length=42)(h2:nth fr 2 = .ptr 0 0)(h3:nth fr 3 = .ptr 1 0)(h4:nth fr 4 = .ptr 2 0) :
  ∃ fr' wr',af (CC L9) run k mF ⟨fr,[bW x,bW y,zR4],wr⟩=some (.normal,⟨fr',[bW (-x),bW (-y),zR4],wr'⟩)∧fr'.length=42∧nth fr' 2 = .ptr 0 0∧nth fr' 3 = .ptr 1 0∧nth fr' 4 = .ptr 2 0:=by
 have hc1:=fun dr hp=>oU run dr hp y hy
 have hc2:=fun dr hp=>Aa run dr hp x hx
 have hc3:=fun dr hp=>Aa run dr hp y hy
 have hs:y.sign<0:=Int.sign_neg_iff.2 h0
 generalize y.sign=sg at *
 have hb1:=XG
 have hb2:=XE
 simp only[mF,fU,Tryz.f104,seq1,cB,ah,ko,Option.getD_some] at hb1 hb2
 simp only[bW,whW,Ab.bC] at hc1 hc2 hc3 ⊢
 generalize aA (-x).natAbs=r1 at *
 generalize bt (-x)=n1 at *
 generalize aA (-y).natAbs=r2 at *
 generalize bt (-y)=n2 at *
 simp[-Nat.testBit_zero,hb1,hb2,mF,fU,Tryz.f104,seq1,ah,af,aH,an,ao,aG,ag,ai,aO,aj,ak,aC,az,FP.none,aY,au,bf,av,partOf,aa,ae,ab,bh,and_assoc,bm,bS,bD,bc,hc1,hc2,hc3,hs,h42,h2,h3,h4,sW,aW,aU,aZ,cf,bX,bE,br,number,FP.free,cH,FP.apart]
noncomputable def G2:Code:=seq1 (ah 2 fU)
noncomputable def lG:Code:=seq1 (ah 3 fU)
theorem sV:ah 2 fU = .seq G2 (ah 3 fU):=rfl
theorem sU:ah 3 fU = .seq lG (ah 4 fU):=rfl
theorem XD (run:aq)(k:Nat)(fr:List PV)(wr:List Nat)(x y:Int)(hx:Sm x)(hy:Sm y)(h42:fr.length=42)(h2:nth fr 2 = .ptr 0 0)(h3:nth fr 3 = .ptr 1 0)(h4:nth fr 4 = .ptr 2 0) :
  ∃ fr' wr',af (CC L9) run k G2 ⟨fr,[bW x,bW y,zR4],wr⟩=some (.normal,⟨fr',[bW x,bW y,zR4,bW (Int.ofNat (Nat.gcd x.natAbs y.natAbs))],wr'⟩)∧fr'.length=42∧nth fr' 2 = .ptr 0 0∧nth fr' 3 = .ptr 1 0∧nth fr' 4 = .ptr 2 0∧nth fr' 5 = .ptr 3 0:=by
 have hc1:=fun dr hp=>NQ run dr hp x y hx hy
 generalize Int.ofNat (Nat.gcd x.natAbs y.natAbs)=g at *
 simp only[bW,whW] at hc1 ⊢
 generalize aA g.natAbs=rg at *
 generalize bt g=ng at *
 simp[G2,fU,Tryz.f104,seq1,ah,af,aH,an,ao,aG,ag,ai,aO,aj,ak,aC,az,partOf,aa,ae,ab,bh,and_assoc,bm,bS,bD,bc,hc1,h42,h2,h3,h4,sW,aW,zW,aP,aU,aZ,cf,bX,bE,br]
theorem RS (run:aq)(k:Nat)(fr:List PV)(wr:List Nat)(b0 b1 b2:Blk)(h42:fr.length=42)(h2:nth fr 2 = .ptr 0 0)(h3:nth fr 3 = .ptr 1 0)(h4:nth fr 4 = .ptr 2 0)(h5:nth fr 5 = .ptr 3 0) :
  ∃ fr' wr',af (CC L9) run k lG ⟨fr,[b0,b1,b2,bW 1],wr⟩=some (.normal,⟨fr',[b0,b1,b2,bW 1],wr'⟩)∧fr'.length=42∧nth fr' 2 = .ptr 0 0∧nth fr' 3 = .ptr 1 0∧nth fr' 4 = .ptr 2 0:=by
 have e:aL (aA (1:Int).natAbs) = .imm 1 false [dg 1]:=rfl
 have hd:dg 1 = .sc (.int .u32 1):=rfl
 simp only[bW,e,hd]
 simp[lG,fU,Tryz.f104,seq1,ah,af,aH,an,ao,aG,ag,ai,aj,ak,aC,az,FP.none,aY,au,bf,av,bK,bg,bL,jx,partOf,aa,ae,ab,bh,and_assoc,cN,h42,h2,h3,h4,h5,uW,uD,sD,s32,aD,a32,wf0,wf1,aU,aZ,br]
set_option maxHeartbeats 1000000 in
theorem RQ (run:aq)(k:Nat)(fr:List PV)(wr:List Nat)(b2:Blk)(x y:Int)(g:Nat)(hx:Sm x)(hy:Sm y)(hg:1<g)(hg2:g<1000000000)(h42:fr.length=42)(h2:nth fr 2 = .ptr 0 0)(h3:nth fr 3 = .ptr 1 0)(h4:nth fr 4 = .ptr 2 0)(h5:nth fr 5 = .ptr 3 0) :
  ∃ fr' wr',af (CC L9) run k lG ⟨fr,[bW x,bW y,b2,bW (Int.ofNat g)],wr⟩=some (.normal,⟨fr',[bW (lQ x (Int.ofNat g)),bW (lQ y (Int.ofNat g)),b2,bW (Int.ofNat g)],wr'⟩)∧fr'.length=42∧nth fr' 2 = .ptr 0 0∧nth fr' 3 = .ptr 1 0∧nth fr' 4 = .ptr 2 0:=by
 have hSg:Sm (Int.ofNat g):=by
  unfold Sm
  rw[show (Int.ofNat g).natAbs=g from rfl,mU (by omega) hg2];simp
 have hc1:=fun dr hp=>nV run dr hp x (Int.ofNat g) hx hSg (show g≠0 by omega)
 have hc2:=fun dr hp=>nV run dr hp y (Int.ofNat g) hy hSg (show g≠0 by omega)
 generalize lQ x (Int.ofNat g)=qx at *
 generalize lQ y (Int.ofNat g)=qy at *
 generalize Bg x (Int.ofNat g)=mx at *
 generalize Bg y (Int.ofNat g)=my at *
 have e:bn (Int.ofNat g) = .agg [.sc (.bool false),.imm 1 false [dg g]]:=by
  show wh false (aA g)=_
  rw[mU (by omega) hg2];rfl
 have eb:bW (Int.ofNat g)=⟨.live,[.sc (.bool false),.imm 1 false [dg g]]⟩:=by
  show (⟨.live,[.sc (.bool false),aL (aA g)]⟩:Blk)=_
  rw[mU (by omega) hg2];rfl
 have hd:dg g = .sc (.int .u32 (g:Int)):=rfl
 rw[e,hd] at hc1 hc2
 rw[eb,hd]
 simp only[bW,whW] at hc1 hc2 ⊢
 generalize aA qx.natAbs=rx at *
 generalize bt qx=nx at *
 generalize aA qy.natAbs=ry at *
 generalize bt qy=ny at *
 have hg3:(1:Int)<(g:Int):=by omega
 simp[lG,fU,Tryz.f104,seq1,ah,af,aH,an,ao,aG,ag,ai,aO,aj,ak,aC,az,FP.none,aY,au,bf,av,bK,bg,bL,jx,partOf,aa,ae,ab,bh,and_assoc,cN,bm,bS,bD,bc,hc1,hc2,hg3,h42,h2,h3,h4,h5,uW,uD,sW,sD,s32,aW,aD,a32,wf0,wf1,aU,aZ,cf,bX,bE,br]
set_option maxHeartbeats 1000000 in
theorem RP (run:aq)(k:Nat)(fr:List PV)(wr:List Nat)(b2:Blk)(x y:Int)(g:Nat)(hx:Sm x)(hy:Sm y)(hSg:Sm (Int.ofNat g))(hg:1000000000≤g)(h42:fr.length=42)(h2:nth fr 2 = .ptr 0 0)(h3:nth fr 3 = .ptr 1 0)(h4:nth fr 4 = .ptr 2 0)(h5:nth fr 5 = .ptr 3 0) :
  ∃ fr' wr',af (CC L9) run k lG ⟨fr,[bW x,bW y,b2,bW (Int.ofNat g)],wr⟩=some (.normal,⟨fr',[bW (lQ x (Int.ofNat g)),bW (lQ y (Int.ofNat g)),b2,bW (Int.ofNat g)],wr'⟩)∧fr'.length=42∧nth fr' 2 = .ptr 0 0∧nth fr' 3 = .ptr 1 0∧nth fr' 4 = .ptr 2 0:=by
 have hc1:=fun dr hp=>nV run dr hp x (Int.ofNat g) hx hSg (show g≠0 by omega)
 have hc2:=fun dr hp=>nV run dr hp y (Int.ofNat g) hy hSg (show g≠0 by omega)
 generalize lQ x (Int.ofNat g)=qx at *
 generalize lQ y (Int.ofNat g)=qy at *
 generalize Bg x (Int.ofNat g)=mx at *
 generalize Bg y (Int.ofNat g)=my at *
 have hl:=qa hg
 have e:bn (Int.ofNat g) = .agg [.sc (.bool false),aL (aA g)]:=rfl
 have eb:bW (Int.ofNat g)=⟨.live,[.sc (.bool false),aL (aA g)]⟩:=rfl
 rw[e] at hc1 hc2
 rw[eb]
 simp only[bW,whW] at hc1 hc2 ⊢
 generalize aA qx.natAbs=rx at *
 generalize bt qx=nx at *
 generalize aA qy.natAbs=ry at *
 generalize bt qy=ny at *
 generalize aA g=dl at *
 have hl1:(1:Int)<(dl.length:Int):=by omega
 simp[lG,fU,Tryz.f104,seq1,ah,af,aH,an,ao,aG,ag,ai,aO,aj,ak,aC,az,FP.none,aY,au,bf,av,bK,bL,partOf,aa,ae,ab,bh,and_assoc,cg,bm,bS,bD,bc,hc1,hc2,hl1,h42,h2,h3,h4,h5,uW,uD,sW,sD,aW,aD,wf0,wf1,aU,aZ,cf,bX,bE,br]
theorem zb (run:aq)(k:Nat)(fr:List PV)(wr:List Nat)(b3:Blk)(x y:Int)(h42:fr.length=42)(h2:nth fr 2 = .ptr 0 0)(h3:nth fr 3 = .ptr 1 0)(h4:nth fr 4 = .ptr 2 0) :
  ∃ st,af (CC L9) run k (ah 4 fU) ⟨fr,[bW x,bW y,zR4,b3],wr⟩=some (.ret,st)∧aV TT st.fr st.hp Tryz.f104.results.toList=some [bV x y]:=by
 simp only[bW,bV]
 generalize aA x.natAbs=rx at *
 generalize bt x=nx at *
 generalize aA y.natAbs=ry at *
 generalize bt y=ny at *
 simp[fU,Tryz.f104,ah,af,aH,an,ao,aG,ag,ai,aj,ak,aC,az,FP.none,av,partOf,aa,ae,ab,bh,bm,bS,bD,bc,h42,h2,h3,h4,uR,sR,sW,aR,aW,zR,rf0,rf1,eJ,dn,jI,aU,aZ,cf,bX,bE,br,aV]
def kc (x y:Int):Int:=sgn (bt (bif bt y then -x else x)) (x.natAbs / Nat.gcd x.natAbs y.natAbs)
def kd (x y:Int):Int:=Int.ofNat (y.natAbs / Nat.gcd x.natAbs y.natAbs)
theorem wW (x:Int)(g:Nat)(h:x.natAbs % g=0):lQ x (Int.ofNat g)=sgn (bt x) (x.natAbs / g):=by
 have h1:wX x (Int.ofNat g)=false:=by
  unfold wX
  rw[show (Int.ofNat g).natAbs=g from rfl,h]
  rfl
 rw[lQ,h1,cond_false]
 show sgn (bt x != false) (x.natAbs / g)=_
 simp
def pI:List PV→Option (List PV)
 | [p,q]=>match fL p,fL q with
  | some x,some y=>bif !(y.natAbs.beq 0) then some [bV (kc x y) (kd x y)] else none
  | _,_=>none
 | _=>none
theorem y9 (run:aq)(k:Nat)(fr:List PV)(wr:List Nat)(x y:Int)(hx:Sm x)(hy:Sm y)(hy0:0<y)
  (h42:fr.length=42) (h2:nth fr 2 = .ptr 0 0) (h3:nth fr 3 = .ptr 1 0) (h4:nth fr 4 = .ptr 2 0) :
  ∃ st,af (CC L9) run k (ah 2 fU) ⟨fr,[bW x,bW y,zR4],wr⟩=some (.ret,st)∧aV TT st.fr st.hp Tryz.f104.results.toList=some [bV (sgn (bt x) (x.natAbs / Nat.gcd x.natAbs y.natAbs)) (Int.ofNat (y.natAbs / Nat.gcd x.natAbs y.natAbs))]:=by
 obtain⟨f1,wr1,a1,a2,a3,a4,a5,a6⟩:=XD run k fr wr x y hx hy h42 h2 h3 h4
 have hgp:0<Nat.gcd x.natAbs y.natAbs:=Nat.gcd_pos_of_pos_right _ (by omega)
 have hny:bt y=false:=by rw[cI];simp;omega
 have hyn:Int.ofNat y.natAbs=y:=by simp;omega
 by_cases h1:Nat.gcd x.natAbs y.natAbs=1
 ·rw[h1] at a1 ⊢
  obtain⟨f2,wr2,b1,b2,b3,b4,b5⟩:=RS run k f1 wr1 (bW x) (bW y) zR4 a2 a3 a4 a5 a6
  obtain⟨st,e1,e2⟩:=zb run k f2 wr2 (bW 1) x y b2 b3 b4 b5
  refine⟨st,?_,?_⟩
  ·rw[sV,aw a1,sU]
   show af (CC L9) run k (.seq lG (ah 4 fU)) ⟨f1,[bW x,bW y,zR4,bW 1],wr1⟩=_
   rw[aw b1]
   exact e1
  ·rw[e2,Nat.div_one,Nat.div_one,abn,hyn]
 ·obtain⟨f2,wr2,b1,b2,b3,b4,b5⟩:∃ fr' wr',af (CC L9) run k lG ⟨f1,[bW x,bW y,zR4,bW (Int.ofNat (Nat.gcd x.natAbs y.natAbs))],wr1⟩=some (.normal,⟨fr',[bW (lQ x (Int.ofNat (Nat.gcd x.natAbs y.natAbs))),bW (lQ y (Int.ofNat (Nat.gcd x.natAbs y.natAbs))),zR4,bW (Int.ofNat (Nat.gcd x.natAbs y.natAbs))],wr'⟩)∧fr'.length=42∧nth fr' 2 = .ptr 0 0∧nth fr' 3 = .ptr 1 0∧nth fr' 4 = .ptr 2 0:=by
   by_cases hg2:Nat.gcd x.natAbs y.natAbs<1000000000
   ·exact RQ run k f1 wr1 zR4 x y (Nat.gcd x.natAbs y.natAbs) hx hy (by omega) hg2 a2 a3 a4 a5 a6
   ·exact RP run k f1 wr1 zR4 x y (Nat.gcd x.natAbs y.natAbs) hx hy (hy.of_le (Nat.gcd_le_right _ (by omega))) (by omega) a2 a3 a4 a5 a6
  obtain⟨st,e1,e2⟩:=zb run k f2 wr2 (bW (Int.ofNat (Nat.gcd x.natAbs y.natAbs))) (lQ x (Int.ofNat (Nat.gcd x.natAbs y.natAbs))) (lQ y (Int.ofNat (Nat.gcd x.natAbs y.natAbs))) b2 b3 b4 b5
  refine⟨st,?_,?_⟩
  ·rw[sV,aw a1,sU,aw b1]
   exact e1
  ·rw[e2,wW x _ (Nat.mod_eq_zero_of_dvd (Nat.gcd_dvd_left _ _)),wW y _ (Nat.mod_eq_zero_of_dvd (Nat.gcd_dvd_right _ _)),hny]
   rfl
theorem MF (run:aq)(k:Nat)(x y:Int)(hx:Sm x)(hy:Sm y)(hy0:y.natAbs≠0) :
  ∃ st,af (CC L9) run k fU ⟨entry 42 [bn x,bn y],[],[]⟩=some (.ret,st)∧aV TT st.fr st.hp Tryz.f104.results.toList=some [bV (kc x y) (kd x y)]:=by
 obtain⟨f1,wr1,a1,a2,a3,a4,a5⟩:=RV run k x y
 by_cases h0:y<0
 ·have hny:bt y=true:=by rw[cI];simpa using h0
  obtain⟨f2,wr2,b1,b2,b3,b4,b5⟩:=RT run k f1 wr1 x y hx hy h0 a2 a3 a4 a5
  obtain⟨st,e1,e2⟩:=y9 run k f2 wr2 (-x) (-y) hx.neg hy.neg (by omega) b2 b3 b4 b5
  refine⟨st,?_,?_⟩
  ·rw[aM 1 a1,vV,aw b1];exact e1
  ·rw[e2,Int.natAbs_neg,Int.natAbs_neg,kc,kd,hny];rfl
 ·have hny:bt y=false:=by rw[cI];simpa using h0
  obtain⟨f2,wr2,b1,b2,b3,b4,b5⟩:=RU run k f1 wr1 x y hy h0 a2 a3 a4 a5
  obtain⟨st,e1,e2⟩:=y9 run k f2 wr2 x y hx hy (by omega) b2 b3 b4 b5
  refine⟨st,?_,?_⟩
  ·rw[aM 1 a1,vV,aw b1];exact e1
  ·rw[e2,kc,kd,hny];rfl
theorem rB:Ab.Spec base.P 104 pI:=Ab.Spec.bN (C:=CC L9) (cU aaP) fun args rs h=>by
 unfold pI at h
 split at h
 ·split at h
  ·rename_i x y ex ey
   obtain⟨rfl,hx⟩:=dR ex
   obtain⟨rfl,hy⟩:=dR ey
   by_cases hy0:y.natAbs=0
   ·rw[hy0] at h;simp at h
   ·rw[jT hy0] at h
    simp only[Bool.not_false,cond_true,Option.some.injEq] at h
    subst h
    obtain⟨st,e1,e2⟩:=MF (runK (CC L9) 1) 1 x y hx hy hy0
    exact⟨2,_,_,_,_,_,aQ Ol rfl e1 e2,sY _ _ _,Wk.refl rfl,trivial⟩
  ·cases h
 ·cases h
theorem Oj:base.F.get 129=some Tryz.f129:=by kernel_rfl
theorem Iu:base.F.get 49=some Tryz.f49:=by kernel_rfl
def ar (L:Lst)(run:aq)(g:Nat)(args:List PV)(r:PV):Prop:=∀ dr hp,cb (CC L) run dr hp g args=some (r,hp,⟨[],[],false,false⟩)
theorem fB (n d:Int):bV n d = .agg [.sc (.bool (bt n)),aL (aA n.natAbs),.sc (.bool (bt d)),aL (aA d.natAbs)]:=rfl
set_option maxHeartbeats 1000000 in
theorem LG (L:Lst)(run:aq)(k:Nat)(a b c d e1 e2 p q s t n m:Int)(g1:ar L run 95 [bV c d] (bn e2))(g2:ar L run 95 [bV a b] (bn e1))
  (g3:ar L run 105 [bn a,bn e2] (bn p)) (g4:ar L run 105 [bn c,bn e1] (bn q)) (g5:ar L run 139 [bn p,bn q] (bn s)) (g6:ar L run 105 [bn e1,bn e2] (bn t)) (g7:ar L run 104 [bn s,bn t] (bV n m)) :
  ∃ st,af (CC L) run k (Tryz.f87.body.getD .skip) ⟨entry 22 [bV a b,bV c d],[],[]⟩=some (.ret,st)∧aV TT st.fr st.hp Tryz.f87.results.toList=some [bV n m]:=by
 obtain⟨h1,h2,h3⟩:=cn 20 (bV a b) (bV c d)
 generalize entry 22 [bV a b,bV c d]=fr0 at *
 unfold ar at *
 simp only[whW,fB] at *
 simp[Tryz.f87,h1,h2,h3,af,aH,an,ao,aG,ag,ai,aO,aj,ak,aC,az,FP.none,bL,partOf,aa,ae,ab,bh,bm,bS,bD,bc,g1,g2,g3,g4,g5,g6,g7,uR,sR,sW,aR,aW,zR,rf0,rf1,aP,aU,aZ,cf,bX,bE,br,aV,number,FP.free,cH,FP.apart]
set_option maxHeartbeats 1000000 in
theorem Ls (L:Lst)(run:aq)(k:Nat)(a b c d e1 e2 p t n m:Int)(g1:ar L run 95 [bV c d] (bn e2))(g2:ar L run 95 [bV a b] (bn e1))
  (g3:ar L run 105 [bn a,bn c] (bn p)) (g6:ar L run 105 [bn e1,bn e2] (bn t)) (g7:ar L run 104 [bn p,bn t] (bV n m)) :
  ∃ st,af (CC L) run k (Tryz.f56.body.getD .skip) ⟨entry 16 [bV a b,bV c d],[],[]⟩=some (.ret,st)∧aV TT st.fr st.hp Tryz.f56.results.toList=some [bV n m]:=by
 obtain⟨h1,h2,h3⟩:=cn 14 (bV a b) (bV c d)
 generalize entry 16 [bV a b,bV c d]=fr0 at *
 unfold ar at *
 simp only[whW,fB] at *
 simp[Tryz.f56,h1,h2,h3,af,aH,an,ao,aG,ag,ai,aO,aj,ak,aC,az,FP.none,bL,partOf,aa,ae,ab,bh,bm,bS,bD,bc,g1,g2,g3,g6,g7,uR,sR,sW,aR,aW,zR,rf0,rf1,aP,aU,aZ,cf,bX,bE,br,aV,number,FP.free,cH,FP.apart]
set_option maxHeartbeats 1000000 in
theorem LD (L:Lst)(run:aq)(k:Nat)(a b c d e1 e2 p q r:Int)(g1:ar L run 95 [bV c d] (bn e2))(g2:ar L run 95 [bV a b] (bn e1))
  (g3:ar L run 105 [bn a,bn e2] (bn p)) (g4:ar L run 105 [bn c,bn e1] (bn q)) (g5:ar L run 96 [bn p,bn q] (Ab.bC r)) :
  ∃ st,af (CC L) run k (Tryz.f129.body.getD .skip) ⟨entry 16 [bV a b,bV c d],[],[]⟩=some (.ret,st)∧aV TT st.fr st.hp Tryz.f129.results.toList=some [Ab.bC r]:=by
 obtain⟨h1,h2,h3⟩:=cn 14 (bV a b) (bV c d)
 generalize entry 16 [bV a b,bV c d]=fr0 at *
 unfold ar at *
 simp only[whW,fB,Ab.bC] at *
 simp[Tryz.f129,h1,h2,h3,af,aH,an,ao,aG,ag,ai,aO,aj,ak,aC,az,FP.none,av,bL,partOf,aa,ae,ab,bh,bm,g1,g2,g3,g4,g5,uR,sR,sW,aR,aW,rf0,rf1,aP,aU,aZ,bE,br,aV,number,FP.free,cH,FP.apart]
theorem Lr (L:Lst)(run:aq)(k:Nat)(a b c:Int)(g1:ar L run 149 [bn a] (bn c)) :
  ∃ st,af (CC L) run k (Tryz.f106.body.getD .skip) ⟨entry 9 [bV a b],[],[]⟩=some (.ret,st)∧aV TT st.fr st.hp Tryz.f106.results.toList=some [bV c b]:=by
 obtain⟨h1,h2⟩:=cQ 8 (bV a b)
 generalize entry 9 [bV a b]=fr0 at *
 unfold ar at *
 simp only[whW,fB] at *
 simp[Tryz.f106,h1,h2,af,aH,an,ao,aG,ag,ai,aO,aj,ak,aC,az,FP.none,av,bL,partOf,aa,ae,ab,bh,bm,bS,bD,bc,g1,uR,sR,sW,aR,aW,zR,rf0,rf1,eJ,dn,jI,aP,aU,aZ,cf,bX,bE,br,aV,number,FP.free,cH,FP.apart]
theorem FW (L:Lst)(run:aq)(k:Nat)(a b c:Int)(g1:ar L run 101 [bn a] (Ab.bC c)) :
  ∃ st,af (CC L) run k (Tryz.f49.body.getD .skip) ⟨entry 6 [bV a b],[],[]⟩=some (.ret,st)∧aV TT st.fr st.hp Tryz.f49.results.toList=some [Ab.bC c]:=by
 obtain⟨h1,h2⟩:=cQ 5 (bV a b)
 generalize entry 6 [bV a b]=fr0 at *
 unfold ar at *
 simp only[whW,fB,Ab.bC] at *
 simp[Tryz.f49,h1,h2,af,aH,an,ao,aG,ag,ai,aO,aj,ak,aC,az,FP.none,av,bL,partOf,aa,ae,ab,bh,bm,g1,uR,sW,aW,rf0,rf1,aP,aU,aZ,bE,br,aV]
theorem Lp (L:Lst)(run:aq)(k:Nat)(a b c d e f n m:Int)(g1:ar L run 106 [bV c d] (bV e f))(g2:ar L run 87 [bV a b,bV e f] (bV n m)) :
  ∃ st,af (CC L) run k (Tryz.f55.body.getD .skip) ⟨entry 9 [bV a b,bV c d],[],[]⟩=some (.ret,st)∧aV TT st.fr st.hp Tryz.f55.results.toList=some [bV n m]:=by
 obtain⟨h1,h2,h3⟩:=cn 7 (bV a b) (bV c d)
 generalize entry 9 [bV a b,bV c d]=fr0 at *
 unfold ar at *
 simp only[fB] at *
 simp[Tryz.f55,h1,h2,h3,af,aH,an,ao,aG,ag,ai,aO,aj,ak,aC,az,partOf,aa,ae,ab,bh,bm,bS,bD,bc,g1,g2,sR,aR,zR,aP,aU,aZ,cf,bX,bE,br,aV,number,FP.free,cH,FP.apart]
noncomputable def L10:Lst:=[(95,Bj),(105,G9),(139,tE),(104,pI),(149,tz),(101,jo),(96,rM)]
theorem xv:dM base.P L10:=⟨wZ,wb,qu,rB,pN,kM,qf,trivial⟩
theorem Yp:bu L10 95=fun a=>Bj (aJ a):=rfl
theorem Yo:bu L10 105=fun a=>G9 (aJ a):=rfl
theorem Yr:bu L10 139=fun a=>tE (aJ a):=rfl
theorem Sj:bu L10 104=fun a=>pI (aJ a):=rfl
theorem Yn:bu L10 149=fun a=>tz (aJ a):=rfl
theorem Si:bu L10 101=fun a=>jo (aJ a):=rfl
theorem Yq:bu L10 96=fun a=>rM (aJ a):=rfl
theorem xj (n d:Int):aJ [bV n d]=[bV n d]:=by simp only[aJ,Bn]
theorem nN (run:aq)(n d:Int)(hn:Sm n)(hd:Sm d):ar L10 run 95 [bV n d] (bn (du d)):=fun dr hp =>
 bp Pk Yp run dr hp _ [bn (du d)] (sY hp n d) (xj n d) (by simp only[Bj,gT hn hd])
theorem lN (run:aq)(x y:Int)(hx:Sm x)(hy:Sm y):ar L10 run 105 [bn x,bn y] (bn (x*y)):=fun dr hp =>
 bp abl Yo run dr hp _ [bn (x*y)] (gC hp x y) (fk x y) (by simp only[G9,cG hx,cG hy])
theorem Zk (run:aq)(x y:Int)(hx:Sm x)(hy:Sm y):ar L10 run 139 [bn x,bn y] (bn (x+y)):=fun dr hp =>
 bp FN Yr run dr hp _ [bn (x+y)] (gC hp x y) (fk x y) (by simp only[tE,cG hx,cG hy])
theorem Zj (run:aq)(x y:Int)(hx:Sm x)(hy:Sm y):ar L10 run 96 [bn x,bn y] (Ab.bC (fD x y)):=fun dr hp =>
 bp FM Yq run dr hp _ [Ab.bC (fD x y)] (gC hp x y) (fk x y) (by simp only[rM,cG hx,cG hy])
theorem Zi (run:aq)(x:Int)(hx:Sm x):ar L10 run 149 [bn x] (bn (-x)):=fun dr hp =>
 bp FK Yn run dr hp _ [bn (-x)] (lV hp x) (jv x) (by simp only[tz,cG hx])
theorem TA (run:aq)(x:Int)(hx:Sm x):ar L10 run 101 [bn x] (Ab.bC x.sign):=fun dr hp =>
 bp tJ Si run dr hp _ [Ab.bC x.sign] (lV hp x) (jv x) (by simp only[jo,cG hx])
def pH (_ y:Int):Bool := !(y.natAbs.beq 0)
theorem DY (run:aq)(x y:Int)(hx:Sm x)(hy:Sm y)(h:pH x y=true):ar L10 run 104 [bn x,bn y] (bV (kc x y) (kd x y)):=fun dr hp =>
 bp I6 Sj run dr hp _ [bV (kc x y) (kd x y)] (gC hp x y) (fk x y) (by
  unfold pH at h
  simp only[pI,cG hx,cG hy,h,cond_true])
def smB (x:Int):Bool:=x.natAbs.log2.blt 11000000
theorem iy {x:Int}(h:smB x=true):Sm x:=YK (by simpa [smB,Nat.blt_eq] using h)
theorem Bu:Sm 1:=by unfold Sm;decide
theorem nc {d:Int}(h:Sm d):Sm (du d):=by
 unfold du
 by_cases h0:d=0
 ·rw[if_pos h0];exact Bu
 ·rw[if_neg h0];exact h
def iT:List PV→Option (List PV)
 | [p,q]=>match gF p,gF q with
  | some (a,b),some (c,d)=>bif smB (a*du d) && (smB (c*du b) && (smB (a*du d+c*du b) && (smB (du b*du d) && pH (a*du d+c*du b) (du b*du d)))) then
    some [bV (kc (a*du d+c*du b) (du b*du d)) (kd (a*du d+c*du b) (du b*du d))] else none
  | _,_=>none
 | _=>none
theorem qY:Ab.Spec base.P 87 iT:=Ab.Spec.bN (C:=CC L10) (cU xv) fun args rs h=>by
 unfold iT at h
 split at h
 ·split at h
  ·rename_i a b c d ex ey
   obtain⟨rfl,ha,hb⟩:=ed ex
   obtain⟨rfl,hc,hd⟩:=ed ey
   cases hg:smB (a*du d) && (smB (c*du b) && (smB (a*du d+c*du b) && (smB (du b*du d) && pH (a*du d+c*du b) (du b*du d)))) with
   | false=>rw[hg] at h;cases h
   | true =>
    rw[hg] at h
    simp only[cond_true,Option.some.injEq] at h
    subst h
    simp only[Bool.and_eq_true] at hg
    obtain⟨h1,h2,h3,h4,h5⟩:=hg
    obtain⟨st,e1,e2⟩:=LG L10 (runK (CC L10) 1) 1 a b c d _ _ _ _ _ _ _ _ (nN _ c d hc hd) (nN _ a b ha hb) (lN _ _ _ ha (nc hd)) (lN _ _ _ hc (nc hb)) (Zk _ _ _ (iy h1) (iy h2)) (lN _ _ _ (nc hb) (nc hd)) (DY _ _ _ (iy h3) (iy h4) h5)
    exact⟨2,_,_,_,_,_,aQ Ok rfl e1 e2,sY _ _ _,Wk.refl rfl,trivial⟩
  ·cases h
 ·cases h
def mq:List PV→Option (List PV)
 | [p,q]=>match gF p,gF q with
  | some (a,b),some (c,d)=>bif smB (a*c) && (smB (du b*du d) && pH (a*c) (du b*du d)) then
    some [bV (kc (a*c) (du b*du d)) (kd (a*c) (du b*du d))] else none
  | _,_=>none
 | _=>none
theorem yz:Ab.Spec base.P 56 mq:=Ab.Spec.bN (C:=CC L10) (cU xv) fun args rs h=>by
 unfold mq at h
 split at h
 ·split at h
  ·rename_i a b c d ex ey
   obtain⟨rfl,ha,hb⟩:=ed ex
   obtain⟨rfl,hc,hd⟩:=ed ey
   cases hg:smB (a*c) && (smB (du b*du d) && pH (a*c) (du b*du d)) with
   | false=>rw[hg] at h;cases h
   | true =>
    rw[hg] at h
    simp only[cond_true,Option.some.injEq] at h
    subst h
    simp only[Bool.and_eq_true] at hg
    obtain⟨h1,h4,h5⟩:=hg
    obtain⟨st,e1,e2⟩:=Ls L10 (runK (CC L10) 1) 1 a b c d _ _ _ _ _ _ (nN _ c d hc hd) (nN _ a b ha hb) (lN _ _ _ ha hc) (lN _ _ _ (nc hb) (nc hd)) (DY _ _ _ (iy h1) (iy h4) h5)
    exact⟨2,_,_,_,_,_,aQ Oi rfl e1 e2,sY _ _ _,Wk.refl rfl,trivial⟩
  ·cases h
 ·cases h
def P6:List PV→Option (List PV)
 | [p,q]=>match gF p,gF q with
  | some (a,b),some (c,d)=>bif smB (a*du d) && smB (c*du b) then some [Ab.bC (fD (a*du d) (c*du b))] else none
  | _,_=>none
 | _=>none
theorem LC:Ab.Spec base.P 129 P6:=Ab.Spec.bN (C:=CC L10) (cU xv) fun args rs h=>by
 unfold P6 at h
 split at h
 ·split at h
  ·rename_i a b c d ex ey
   obtain⟨rfl,ha,hb⟩:=ed ex
   obtain⟨rfl,hc,hd⟩:=ed ey
   cases hg:smB (a*du d) && smB (c*du b) with
   | false=>rw[hg] at h;cases h
   | true =>
    rw[hg] at h
    simp only[cond_true,Option.some.injEq] at h
    subst h
    simp only[Bool.and_eq_true] at hg
    obtain⟨h1,h2⟩:=hg
    obtain⟨st,e1,e2⟩:=LD L10 (runK (CC L10) 1) 1 a b c d _ _ _ _ _ (nN _ c d hc hd) (nN _ a b ha hb) (lN _ _ _ ha (nc hd)) (lN _ _ _ hc (nc hb)) (Zj _ _ _ (iy h1) (iy h2))
    exact⟨2,_,_,_,_,_,aQ Oj rfl e1 e2,eF _ _,Wk.refl rfl,trivial⟩
  ·cases h
 ·cases h
def j0:List PV→Option (List PV)
 | [p]=>match gF p with
  | some (a,b)=>some [bV (-a) b]
  | none=>none
 | _=>none
theorem qU:Ab.Spec base.P 106 j0:=Ab.Spec.bN (C:=CC L10) (cU xv) fun args rs h=>by
 unfold j0 at h
 split at h
 ·split at h
  ·rename_i a b ex
   obtain⟨rfl,ha,hb⟩:=ed ex
   simp only[Option.some.injEq] at h
   subst h
   obtain⟨st,e1,e2⟩:=Lr L10 (runK (CC L10) 1) 1 a b _ (Zi _ a ha)
   exact⟨2,_,_,_,_,_,aQ Oh rfl e1 e2,sY _ _ _,Wk.refl rfl,trivial⟩
  ·cases h
 ·cases h
def jj:List PV→Option (List PV)
 | [p]=>match gF p with
  | some (a,_)=>some [Ab.bC a.sign]
  | none=>none
 | _=>none
theorem lv:Ab.Spec base.P 49 jj:=Ab.Spec.bN (C:=CC L10) (cU xv) fun args rs h=>by
 unfold jj at h
 split at h
 ·split at h
  ·rename_i a b ex
   obtain⟨rfl,ha,hb⟩:=ed ex
   simp only[Option.some.injEq] at h
   subst h
   obtain⟨st,e1,e2⟩:=FW L10 (runK (CC L10) 1) 1 a b _ (TA _ a ha)
   exact⟨2,_,_,_,_,_,aQ Iu rfl e1 e2,eF _ _,Wk.refl rfl,trivial⟩
  ·cases h
 ·cases h
noncomputable def L11:Lst:=[(87,iT),(106,j0)]
theorem ad7:dM base.P L11:=⟨qY,qU,trivial⟩
theorem Ym:bu L11 87=fun a=>iT (aJ a):=rfl
theorem Yl:bu L11 106=fun a=>j0 (aJ a):=rfl
theorem aab (hp:List Blk)(a b c d:Int):bq (snap hp bj) [bV a b,bV c d]=some ([bV a b,bV c d],[]):=rfl
theorem UO (a b c d:Int):aJ [bV a b,bV c d]=[bV a b,bV c d]:=by simp only[aJ,Bn]
theorem Zg (run:aq)(n d:Int)(hn:Sm n)(hd:Sm d):ar L11 run 106 [bV n d] (bV (-n) d):=fun dr hp =>
 bp I4 Yl run dr hp _ [bV (-n) d] (sY hp n d) (xj n d) (by simp only[j0,gT hn hd])
theorem Zh (run:aq)(a b c d n m:Int)(h:iT [bV a b,bV c d]=some [bV n m]):ar L11 run 87 [bV a b,bV c d] (bV n m):=fun dr hp =>
 bp I5 Ym run dr hp _ [bV n m] (aab hp a b c d) (UO a b c d) h
def uV:List PV→Option (List PV)
 | [p,q]=>match gF q with
  | some (c,d)=>iT [p,bV (-c) d]
  | _=>none
 | _=>none
theorem LJ {p q:PV}{rs:List PV}(h:iT [p,q]=some rs):∃ a b n m,p=bV a b∧rs=[bV n m]:=by
 simp only[iT] at h
 split at h
 ·rename_i a b c d ex ey
  obtain⟨rfl,-,-⟩:=ed ex
  cases hg:smB (a*du d) && (smB (c*du b) && (smB (a*du d+c*du b) && (smB (du b*du d) && pH (a*du d+c*du b) (du b*du d)))) with
  | false=>rw[hg] at h;cases h
  | true =>
   rw[hg] at h
   simp only[cond_true,Option.some.injEq] at h
   exact⟨a,b,_,_,rfl,h.symm⟩
 ·cases h
theorem yv:Ab.Spec base.P 55 uV:=Ab.Spec.bN (C:=CC L11) (cU ad7) fun args rs h=>by
 unfold uV at h
 split at h
 ·split at h
  ·rename_i p q c d ey
   obtain⟨rfl,hc,hd⟩:=ed ey
   obtain⟨a,b,n,m,rfl,rfl⟩:=LJ h
   obtain⟨st,e1,e2⟩:=Lp L11 (runK (CC L11) 1) 1 a b c d _ _ n m (Zg _ c d hc hd) (Zh _ a b (-c) d n m h)
   exact⟨2,_,_,_,_,_,aQ Og rfl e1 e2,sY _ _ _,Wk.refl rfl,trivial⟩
  ·cases h
 ·cases h
end Go.Proofs.YtjdmodeenbdfpaaGreat
