/- Contracts of num's integers, part 27 of the proof; each lemma states its own conditions. -/
import Derived.Shelf.Strings.Search1
import Derived.Shelf.Strings.Repeat
import Derived.Test.YtjdmodeenbdfpaaGreatProg
import Derived.Test.YtjdmodeenbdfpaaGreatP26
set_option linter.unusedSimpArgs false
set_option linter.unusedVariables false
set_option linter.unusedSimpArgs false
set_option linter.unusedVariables false
namespace Go.Proofs
open Go.Shelf Go.RowKit Go.Lib
def Tryz.Dm:Go.Shelf.Ren:=⟨fun | 217=>191 | 266=>196 | n=>n,fun | 9=>9 | 5=>5 | 3=>3 | n=>n,fun | n=>n⟩
theorem Tryz.X9:Go.Proofs.Lays.n217 Tryz.prog Tryz.Dm:={
 mixed:=by kernel_rfl
 f217:=Tryz.func191.trans (congrArg some (by kernel_rfl))
 f266:=Tryz.func196.trans (congrArg some (by kernel_rfl))
 t3:=Tryz.underlying3
 a3:=Tryz.isAgg3
 z3:=Tryz.sizeOf3
 v3:=Tryz.zeroValue3
 t5:=Tryz.underlying5
 a5:=Tryz.isAgg5
 z5:=Tryz.sizeOf5
 v5:=Tryz.zeroValue5
 t9:=Tryz.underlying9
 a9:=Tryz.isAgg9
 z9:=Tryz.sizeOf9
 v9:=Tryz.zeroValue9 }
theorem Tryz.stringslite_IndexByte (s:ByteArray)(c:Int)(w:World) :
  Calls Tryz.prog 191 #[.string s,.int .u8 c] w fun e w'=>e = .returned (.int .i64 (Lib.indexByte s.data.toList c.toNat.toUInt8))∧w'=w:=Any.stringslite_IndexByte Tryz.X9 s c w
def Tryz.sK:Go.Shelf.Ren:=⟨fun | 105=>38 | 212=>88 | 99=>89 | 165=>90 | 166=>91 | 170=>92 | 169=>93 | 263=>140 | 264=>141 | 206=>142 | 240=>143 | 241=>144 | 276=>162 | 277=>163 | n=>n,fun | 9=>9 | 3=>3 | 4=>4 | 20=>20 | 0=>0 | 46=>114 | 109=>115 | 5=>5 | 72=>120 | 76=>124 | 51=>171 | 146=>172 | 53=>174 | 148=>175 | 70=>118 | 37=>43 | 75=>123 | 127=>177 | 164=>192 | 80=>126 | n=>n,fun | n=>n⟩
theorem Tryz.Ya:Go.Proofs.Lays.n105 Tryz.prog Tryz.sK:={
 mixed:=by kernel_rfl
 f99:=Tryz.func89.trans (congrArg some (by kernel_rfl))
 f105:=Tryz.func38.trans (congrArg some (by kernel_rfl))
 f165:=Tryz.func90.trans (congrArg some (by kernel_rfl))
 f166:=Tryz.func91.trans (congrArg some (by kernel_rfl))
 f169:=Tryz.func93.trans (congrArg some (by kernel_rfl))
 f170:=Tryz.func92.trans (congrArg some (by kernel_rfl))
 f206:=Tryz.func142.trans (congrArg some (by kernel_rfl))
 f212:=Tryz.func88.trans (congrArg some (by kernel_rfl))
 f240:=Tryz.func143.trans (congrArg some (by kernel_rfl))
 f241:=Tryz.func144.trans (congrArg some (by kernel_rfl))
 f263:=Tryz.func140.trans (congrArg some (by kernel_rfl))
 f264:=Tryz.func141.trans (congrArg some (by kernel_rfl))
 f276:=Tryz.func162.trans (congrArg some (by kernel_rfl))
 f277:=Tryz.func163.trans (congrArg some (by kernel_rfl))
 t0:=Tryz.underlying0
 a0:=Tryz.isAgg0
 z0:=Tryz.sizeOf0
 v0:=Tryz.zeroValue0
 t3:=Tryz.underlying3
 a3:=Tryz.isAgg3
 z3:=Tryz.sizeOf3
 v3:=Tryz.zeroValue3
 t4:=Tryz.underlying4
 a4:=Tryz.isAgg4
 z4:=Tryz.sizeOf4
 v4:=Tryz.zeroValue4
 t5:=Tryz.underlying5
 a5:=Tryz.isAgg5
 z5:=Tryz.sizeOf5
 v5:=Tryz.zeroValue5
 t9:=Tryz.underlying9
 a9:=Tryz.isAgg9
 z9:=Tryz.sizeOf9
 v9:=Tryz.zeroValue9
 t20:=Tryz.underlying20
 a20:=Tryz.isAgg20
 z20:=Tryz.sizeOf20
 v20:=Tryz.zeroValue20
 t37:=Tryz.underlying43
 a37:=Tryz.isAgg43
 z37:=Tryz.sizeOf43
 v37:=Tryz.zeroValue43
 t46:=Tryz.underlying114
 a46:=Tryz.isAgg114
 z46:=Tryz.sizeOf114
 v46:=Tryz.zeroValue114
 t51:=Tryz.underlying171
 a51:=Tryz.isAgg171
 z51:=Tryz.sizeOf171
 v51:=Tryz.zeroValue171
 t53:=Tryz.underlying174
 a53:=Tryz.isAgg174
 z53:=Tryz.sizeOf174
 v53:=Tryz.zeroValue174
 t70:=Tryz.underlying118
 a70:=Tryz.isAgg118
 z70:=Tryz.sizeOf118
 v70:=Tryz.zeroValue118
 t72:=Tryz.underlying120
 a72:=Tryz.isAgg120
 z72:=Tryz.sizeOf120
 v72:=Tryz.zeroValue120
 t75:=Tryz.underlying123
 a75:=Tryz.isAgg123
 z75:=Tryz.sizeOf123
 v75:=Tryz.zeroValue123
 t76:=Tryz.underlying124
 a76:=Tryz.isAgg124
 z76:=Tryz.sizeOf124
 v76:=Tryz.zeroValue124
 t109:=Tryz.underlying115
 a109:=Tryz.isAgg115
 z109:=Tryz.sizeOf115
 v109:=Tryz.zeroValue115
 t127:=Tryz.underlying177
 a127:=Tryz.isAgg177
 z127:=Tryz.sizeOf177
 v127:=Tryz.zeroValue177
 t146:=Tryz.underlying172
 a146:=Tryz.isAgg172
 z146:=Tryz.sizeOf172
 v146:=Tryz.zeroValue172
 t148:=Tryz.underlying175
 a148:=Tryz.isAgg175
 z148:=Tryz.sizeOf175
 v148:=Tryz.zeroValue175
 t164:=Tryz.underlying192
 a164:=Tryz.isAgg192
 z164:=Tryz.sizeOf192
 v164:=Tryz.zeroValue192 }
theorem Tryz.qj:Builder.Extra Tryz.prog Tryz.sK:={
 sizeBuilder:=by kernel_rfl
 liesBuilder:=by kernel_rfl
 t5:=Tryz.underlying5
 a5:=Tryz.isAgg5
 z5:=Tryz.sizeOf5
 v5:=Tryz.zeroValue5
 infoByte:=by kernel_rfl
 cellsByte:=by kernel_rfl
 sizeByte:=by kernel_rfl
 neB5:=by decide }
theorem Tryz.strings_Repeat (s:ByteArray)(c:Nat)(w:World)(hc:c≤9223372036854775807)(hlen:s.size*c≤140737488355328) :
  Calls Tryz.prog 38 #[.string s,.int .i64 c] w fun e w'=>e = .returned (.string ⟨(Lib.repeatL s.data.toList c).toArray⟩)∧Below w.heap.size w w':=Any.strings_Repeat Tryz.Ya Tryz.qj s c w hc hlen
end Go.Proofs
namespace Go.Proofs.YtjdmodeenbdfpaaGreat
open Go Go.Ab Go.RowKit
theorem ue {P:Program}{g:FuncId}{f:List PV→Option (List PV)}(he:∀ (args:Array Value)(w:World),(callFunc g args).run P w = .ok (.enter g args) w)
  (h:∀ args rs,f args=some rs→bK rs=true∧∀ (w:World) (M:Nat→Prop) (vs:List Value),Vs w M [] NoL args vs →
   ∃ post:Ending→World→Prop,Calls P g vs.toArray w post∧∀ e w',post e w'→∃ us,e = .returned (Ai us)∧Vs w' M [] NoL rs us∧Old w w'):Ab.Spec P g f:=by
 intro args rs hf hi
 obtain⟨h1,h2⟩:=h args rs hf
 refine⟨h1,fun w M vs hM hvs => ?_⟩
 obtain⟨post,h3,h4⟩:=h2 w M vs hvs
 unfold iy
 rw[he]
 refine h3.mono fun e w' hh => ?_
 obtain⟨us,h5,h6⟩:=h4 e w' hh
 exact⟨_,h5,us,rfl,h6⟩
theorem Old.refl (w:World):Old w w:=⟨rfl,rfl,rfl,Nat.le_refl _,fun _ _=>rfl⟩
theorem Old.below {w w':World}(h:Below w.heap.size w w'):Old w w':=⟨h.os,h.tape,h.output,h.size,h.block⟩
theorem vs2 {w:World}{M:Nat→Prop}{a b:Value}{vs:List Value}(h:Vs w M [] NoL [.sc a,.sc b] vs):vs=[a,b]:=by
 obtain⟨h1,h2⟩:=h
 match vs,h1 with
 | [u,v],_ =>
  have e1:=h2 0 _ u rfl rfl
  have e2:=h2 1 _ v rfl rfl
  cases e1;cases e2;rfl
theorem ZB (w:World)(M:Nat→Prop)(a:Value):Vs w M [] NoL [.sc a] [a]:=⟨rfl,fun k p v h1 h2=>by
 cases k with
 | zero=>simp at h1 h2;subst h1;subst h2;exact .sc _
 | succ k=>simp at h1⟩
def ibF:List PV→Option (List PV)
 | [.sc (.string s),.sc (.int .u8 c)]=>some [.sc (.int .i64 (Lib.indexByte (bD s) c.toNat.toUInt8))]
 | _=>none
theorem Jd:Ab.Spec base.P 191 ibF:=ue (P:=Tryz.prog) Tryz.call191 fun args rs h=>by
 unfold ibF at h
 split at h
 ·rename_i s c
  simp only[Option.some.injEq] at h
  subst h
  refine⟨rfl,fun w M vs hvs => ?_⟩
  rw[vs2 hvs]
  refine⟨_,Tryz.stringslite_IndexByte s c w,?_⟩
  rintro e w' ⟨rfl,rfl⟩
  exact⟨[_],rfl,ZB _ M _,Old.refl _⟩
 ·cases h
def aaV:List PV→Option (List PV)
 | [.sc (.string s),.sc (.int .i64 (.ofNat c))]=>bif ((bD s).length*c).ble 100000000 && c.ble 100000000 then some [.sc (.string (mkStr (Lib.repeatL (bD s) c)))] else none
 | _=>none
theorem Pq:Ab.Spec base.P 38 aaV:=ue (P:=Tryz.prog) Tryz.call38 fun args rs h=>by
 unfold aaV at h
 split at h
 ·rename_i s c
  cases hb:((bD s).length*c).ble 100000000 && c.ble 100000000 with
  | false=>rw[hb] at h;cases h
  | true =>
   rw[hb] at h
   simp only[cond_true,Option.some.injEq] at h
   subst h
   simp only[Bool.and_eq_true,Nat.ble_eq] at hb
   refine⟨rfl,fun w M vs hvs => ?_⟩
   rw[vs2 hvs]
   refine⟨_,Tryz.strings_Repeat s c w (by omega) (by rw[← fh];omega),?_⟩
   rintro e w' ⟨rfl,hw⟩
   exact⟨[_],rfl,ZB _ M _,Old.below hw⟩
 ·cases h
def rf0:Field:={ name := "n",type:=70,offset:=0,embedded:=false,tag := "",pkgPath := "torus/num",byteOffset:=0 }
def rf1:Field:={ name := "d",type:=70,offset:=2,embedded:=false,tag := "",pkgPath := "torus/num",byteOffset:=32 }
theorem uR:und TT 72=some (.struct #[rf0,rf1]):=by kernel_rfl
theorem sR:cQ TT 72=some 4:=by kernel_rfl
theorem aR:fN TT 72=some true:=by kernel_rfl
theorem zR:dR TT 72=some [.sc (.bool false),.sc (.slice none 0 0),.sc (.bool false),.sc (.slice none 0 0)]:=by kernel_rfl
theorem UR:base.F.get 95=some Tryz.f95:=by kernel_rfl
theorem NT:base.F.get 104=some Tryz.f104:=by kernel_rfl
theorem NS:base.F.get 87=some Tryz.f87:=by kernel_rfl
theorem NO:base.F.get 55=some Tryz.f55:=by kernel_rfl
theorem NQ:base.F.get 56=some Tryz.f56:=by kernel_rfl
theorem NP:base.F.get 106=some Tryz.f106:=by kernel_rfl
theorem OS:base.shared 95=false:=by kernel_rfl
theorem Iz:base.shared 104=false:=by kernel_rfl
theorem Iy:base.shared 87=false:=by kernel_rfl
theorem Ix:base.shared 106=false:=by kernel_rfl
def bT (n d:Int):PV:=.agg [.sc (.bool (bq n)),aL (aA n.natAbs),.sc (.bool (bq d)),aL (aA d.natAbs)]
def gp:PV→Option (Int × Int)
 | .agg [a,b,c,d]=>match fC (.agg [a,b]),fC (.agg [c,d]) with
  | some n,some m=>some (n,m)
  | _,_=>none
 | _=>none
theorem dV {p:PV}{n d:Int}(h:gp p=some (n,d)):p=bT n d∧Sm n∧Sm d:=by
 unfold gp at h
 split at h
 ·split at h
  ·rename_i n' m' e1 e2
   simp only[Option.some.injEq,Prod.mk.injEq] at h
   obtain⟨rfl,rfl⟩:=h
   obtain⟨h1,h2⟩:=dJ e1
   obtain⟨h3,h4⟩:=dJ e2
   refine⟨?_,h2,h4⟩
   simp only[whW,PV.agg.injEq,List.cons.injEq,and_true] at h1 h3
   obtain⟨rfl,rfl⟩:=h1
   obtain⟨rfl,rfl⟩:=h3
   rfl
  ·cases h
 ·cases h
theorem gM {n d:Int}(h1:Sm n)(h2:Sm d):gp (bT n d)=some (n,d):=by
 have e1:=cC h1
 have e2:=cC h2
 rw[whW] at e1 e2
 simp only[gp,bT,e1,e2]
theorem A3 (n d:Int):canon (bT n d)=bT n d:=by simp only[bT,canon,aJ,fw]
theorem sC (hp:List Blk)(n d:Int):bm (snap hp bh) [bT n d]=some ([bT n d],[]):=rfl
noncomputable def L9:Lst:=[(101,jc),(97,ofF),(149,td),(150,xt),(151,M4)]
theorem Z6:dK base.P L9:=⟨kz,nk,pA,wg,DJ,trivial⟩
theorem Xm:bt L9 101=fun a=>jc (aJ a):=rfl
theorem adV:bt L9 97=fun a=>ofF (aJ a):=rfl
theorem abo:bt L9 149=fun a=>td (aJ a):=rfl
theorem abp:bt L9 150=fun a=>xt (aJ a):=rfl
theorem abq:bt L9 151=fun a=>M4 (aJ a):=rfl
theorem oE (run:aq)(dr:Bool)(hp:List Blk)(x:Int)(hx:Sm x):bU (CC L9) run dr hp 101 [bk x]=some (Ab.bC x.sign,hp,⟨[],[],false,false⟩) :=
 bp tt Xm run dr hp _ [Ab.bC x.sign] (lJ hp x) (jm x) (by simp only[jc,cC hx])
theorem Ug (run:aq)(dr:Bool)(hp:List Blk):bU (CC L9) run dr hp 97 [.sc (.int .i64 1)]=some (bk 1,hp,⟨[],[],false,false⟩) :=
 bp x6 adV run dr hp _ [bk 1] rfl rfl rfl
theorem zH (run:aq)(dr:Bool)(hp:List Blk)(x:Int)(hx:Sm x):bU (CC L9) run dr hp 149 [bk x]=some (bk (-x),hp,⟨[],[],false,false⟩) :=
 bp Fl abo run dr hp _ [bk (-x)] (lJ hp x) (jm x) (by simp only[td,cC hx])
theorem No (run:aq)(dr:Bool)(hp:List Blk)(x y:Int)(hx:Sm x)(hy:Sm y) :
  bU (CC L9) run dr hp 150 [bk x,bk y]=some (bk (Int.ofNat (Nat.gcd x.natAbs y.natAbs)),hp,⟨[],[],false,false⟩) :=
 bp OQ abp run dr hp _ [bk (Int.ofNat (Nat.gcd x.natAbs y.natAbs))] (gj hp x y) (fg x y) (by simp only[xt,cC hx,cC hy])
theorem nJ (run:aq)(dr:Bool)(hp:List Blk)(x y:Int)(hx:Sm x)(hy:Sm y)(h0:y.natAbs≠0) :
  bU (CC L9) run dr hp 151 [bk x,bk y]=some (.tup [bk (lE x y),bk (AX x y)],hp,⟨[],[],false,false⟩) :=
 bp KO abq run dr hp _ [bk (lE x y),bk (AX x y)] (gj hp x y) (fg x y) (by
  simp only[M4,cC hx,cC hy,jJ h0,Bool.not_false,cond_true])
theorem Tz (run:aq)(k:Nat)(n d:Int)(hd:Sm d) :
  ∃ st,af (CC L9) run k (Tryz.f95.body.getD .skip) ⟨entry 10 [bT n d],[],[]⟩=some (.ret,st)∧aZ TT st.fr st.hp Tryz.f95.results.toList=some [bk (if d=0 then 1 else d)]:=by
 have hc1:=fun dr hp=>oE run dr hp d hd
 have hc2:=fun dr hp=>Ug run dr hp
 obtain⟨e1,e2⟩:=cP 9 (bT n d)
 generalize entry 10 [bT n d]=fr0 at *
 unfold bT at e2
 by_cases h0:d=0
 ·rw[if_pos h0]
  have hs:d.sign=0:=by rw[h0];rfl
  rw[hs] at hc1
  simp only[whW,Ab.bC] at hc1 hc2 ⊢
  generalize aA n.natAbs=rn at *
  generalize aA d.natAbs=rd at *
  generalize bq n=nn at *
  generalize bq d=nd at *
  simp[Tryz.f95,e1,e2,af,aH,an,ao,aG,ag,ai,aP,aj,ak,aC,az,FP.none,bc,ar,bd,au,bG,partOf,aa,ae,ab,bf,bg,bO,bx,aX,hc1,hc2,uR,sW,aW,zW,rf0,rf1,aM,aU,aV,bP,bZ,bA,bn,aZ]
 ·rw[if_neg h0]
  have hs:(d.sign == 0)=false:=by
   rw[beq_eq_false_iff_ne]
   intro h;exact h0 (Int.sign_eq_zero_iff_zero.1 h)
  have hs' : ¬ d=0:=h0
  generalize d.sign=sg at *
  simp only[whW,Ab.bC] at hc1 ⊢
  generalize aA n.natAbs=rn at *
  generalize aA d.natAbs=rd at *
  generalize bq n=nn at *
  generalize bq d=nd at *
  simp[Tryz.f95,e1,e2,af,aH,an,ao,aG,ag,ai,aP,aj,ak,aC,az,FP.none,bc,ar,bd,au,bG,partOf,aa,ae,ab,bf,bg,bO,bx,aX,hc1,hs,uR,sW,aW,zW,rf0,rf1,aM,aU,aV,bP,bZ,bA,bn,aZ]
def dq (d:Int):Int:=if d=0 then 1 else d
def A1:List PV→Option (List PV)
 | [p]=>match gp p with
  | some (_,d)=>some [bk (dq d)]
  | none=>none
 | _=>none
theorem wK:Ab.Spec base.P 95 A1:=Ab.Spec.bL (C:=CC L9) (cU Z6) fun args rs h=>by
 unfold A1 at h
 split at h
 ·split at h
  ·rename_i n d e
   obtain⟨rfl,-,hd⟩:=dV e
   simp only[Option.some.injEq] at h
   subst h
   obtain⟨st,e1,e2⟩:=Tz (runK (CC L9) 1) 1 n d hd
   exact⟨2,_,_,_,_,_,aQ UR rfl e1 e2,iL _ _,Wk.refl rfl,trivial⟩
  ·cases h
 ·cases h
noncomputable def fM:Code:=Tryz.f104.body.getD .skip
noncomputable def mo:Code:=seq1 (ah 1 fM)
theorem WY:((Region.before (j9 (cu mo)))[4]?.getD 0).testBit 0=true:=by kernel_rfl
theorem WX:((Region.before (j9 (cu mo)))[5]?.getD 0).testBit 2=true:=by kernel_rfl
abbrev zR4:Blk:=⟨.live,[.sc (.bool false),.sc (.slice none 0 0),.sc (.bool false),.sc (.slice none 0 0)]⟩
abbrev bW (x:Int):Blk:=⟨.live,[.sc (.bool (bq x)),aL (aA x.natAbs)]⟩
theorem vF:ah 1 fM = .seq mo (ah 2 fM):=rfl
theorem Q8 (run:aq)(k:Nat)(x y:Int) :
  ∃ fr wr,aY (CC L9) run k 1 fM ⟨entry 42 [bk x,bk y],[],[]⟩=some ⟨fr,[bW x,bW y,zR4],wr⟩∧fr.length=42∧nth fr 2 = .ptr 0 0∧nth fr 3 = .ptr 1 0∧nth fr 4 = .ptr 2 0:=by
 obtain⟨e1,e2,e3⟩:=cA 40 (bk x) (bk y)
 generalize entry 42 [bk x,bk y]=fr0 at *
 rw[whW] at e2 e3
 simp[fM,Tryz.f104,aY,e1,e2,e3,af,aH,an,ao,aG,ag,ai,aj,ak,aC,az,aa,ae,ab,bf,and_assoc,bg,zR,aM]
theorem Q7 (run:aq)(k:Nat)(fr:List PV)(wr:List Nat)(x y:Int)(hy:Sm y)(h0 : ¬ (y<0))(h42:fr.length=42)(h2:nth fr 2 = .ptr 0 0)(h3:nth fr 3 = .ptr 1 0)(h4:nth fr 4 = .ptr 2 0) :
  ∃ fr' wr',af (CC L9) run k mo ⟨fr,[bW x,bW y,zR4],wr⟩=some (.normal,⟨fr',[bW x,bW y,zR4],wr'⟩)∧fr'.length=42∧nth fr' 2 = .ptr 0 0∧nth fr' 3 = .ptr 1 0∧nth fr' 4 = .ptr 2 0:=by
 have hc1:=fun dr hp=>oE run dr hp y hy
 have hs : ¬ (y.sign<0):=by
  intro h
  have:=Int.sign_neg_iff.1 h
  omega
 generalize y.sign=sg at *
 simp only[whW,Ab.bC] at hc1 ⊢
 simp[mo,fM,Tryz.f104,seq1,ah,af,aH,an,ao,aG,ag,ai,aP,aj,ak,aC,az,FP.none,bc,ar,bd,au,partOf,aa,ae,ab,bf,and_assoc,hc1,hs,h42,h2,h3,h4,sW,aW,aU,aV,bA,bn]
theorem Q6 (run:aq)(k:Nat)(fr:List PV)(wr:List Nat)(x y:Int)(hx:Sm x)(hy:Sm y)(h0:y<0)(h42:fr.length=42)(h2:nth fr 2 = .ptr 0 0)(h3:nth fr 3 = .ptr 1 0)(h4:nth fr 4 = .ptr 2 0) :
  ∃ fr' wr',af (CC L9) run k mo ⟨fr,[bW x,bW y,zR4],wr⟩=some (.normal,⟨fr',[bW (-x),bW (-y),zR4],wr'⟩)∧fr'.length=42∧nth fr' 2 = .ptr 0 0∧nth fr' 3 = .ptr 1 0∧nth fr' 4 = .ptr 2 0:=by
 have hc1:=fun dr hp=>oE run dr hp y hy
 have hc2:=fun dr hp=>zH run dr hp x hx
 have hc3:=fun dr hp=>zH run dr hp y hy
 have hs:y.sign<0:=Int.sign_neg_iff.2 h0
 generalize y.sign=sg at *
 have hb1:=WY
 have hb2:=WX
 simp only[mo,fM,Tryz.f104,seq1,cu,ah,j9,Option.getD_some] at hb1 hb2
 simp only[bW,whW,Ab.bC] at hc1 hc2 hc3 ⊢
 generalize aA (-x).natAbs=r1 at *
 generalize bq (-x)=n1 at *
 generalize aA (-y).natAbs=r2 at *
 generalize bq (-y)=n2 at *
 simp[-Nat.testBit_zero,hb1,hb2,mo,fM,Tryz.f104,seq1,ah,af,aH,an,ao,aG,ag,ai,aP,aj,ak,aC,az,FP.none,bc,ar,bd,au,partOf,aa,ae,ab,bf,and_assoc,bg,bO,bx,aX,hc1,hc2,hc3,hs,h42,h2,h3,h4,sW,aW,aU,aV,bP,bZ,bA,bn,number,FP.free,cB,FP.apart]
noncomputable def Gz:Code:=seq1 (ah 2 fM)
noncomputable def lq:Code:=seq1 (ah 3 fM)
theorem sz:ah 2 fM = .seq Gz (ah 3 fM):=rfl
theorem sy:ah 3 fM = .seq lq (ah 4 fM):=rfl
theorem WW (run:aq)(k:Nat)(fr:List PV)(wr:List Nat)(x y:Int)(hx:Sm x)(hy:Sm y)(h42:fr.length=42)(h2:nth fr 2 = .ptr 0 0)(h3:nth fr 3 = .ptr 1 0)(h4:nth fr 4 = .ptr 2 0) :
  ∃ fr' wr',af (CC L9) run k Gz ⟨fr,[bW x,bW y,zR4],wr⟩=some (.normal,⟨fr',[bW x,bW y,zR4,bW (Int.ofNat (Nat.gcd x.natAbs y.natAbs))],wr'⟩)∧fr'.length=42∧nth fr' 2 = .ptr 0 0∧nth fr' 3 = .ptr 1 0∧nth fr' 4 = .ptr 2 0∧nth fr' 5 = .ptr 3 0:=by
 have hc1:=fun dr hp=>No run dr hp x y hx hy
 generalize Int.ofNat (Nat.gcd x.natAbs y.natAbs)=g at *
 simp only[bW,whW] at hc1 ⊢
 generalize aA g.natAbs=rg at *
 generalize bq g=ng at *
 simp[Gz,fM,Tryz.f104,seq1,ah,af,aH,an,ao,aG,ag,ai,aP,aj,ak,aC,az,partOf,aa,ae,ab,bf,and_assoc,bg,bO,bx,aX,hc1,h42,h2,h3,h4,sW,aW,zW,aM,aU,aV,bP,bZ,bA,bn]
theorem Q5 (run:aq)(k:Nat)(fr:List PV)(wr:List Nat)(b0 b1 b2:Blk)(h42:fr.length=42)(h2:nth fr 2 = .ptr 0 0)(h3:nth fr 3 = .ptr 1 0)(h4:nth fr 4 = .ptr 2 0)(h5:nth fr 5 = .ptr 3 0) :
  ∃ fr' wr',af (CC L9) run k lq ⟨fr,[b0,b1,b2,bW 1],wr⟩=some (.normal,⟨fr',[b0,b1,b2,bW 1],wr'⟩)∧fr'.length=42∧nth fr' 2 = .ptr 0 0∧nth fr' 3 = .ptr 1 0∧nth fr' 4 = .ptr 2 0:=by
 have e:aL (aA (1:Int).natAbs) = .imm 1 false [dg 1]:=rfl
 have hd:dg 1 = .sc (.int .u32 1):=rfl
 simp only[bW,e,hd]
 simp[lq,fM,Tryz.f104,seq1,ah,af,aH,an,ao,aG,ag,ai,aj,ak,aC,az,FP.none,bc,ar,bd,au,bH,ba,bG,jo,partOf,aa,ae,ab,bf,and_assoc,cL,h42,h2,h3,h4,h5,uW,uD,sD,s32,aD,a32,wf0,wf1,aU,aV,bn]
set_option maxHeartbeats 1000000 in
theorem Q4 (run:aq)(k:Nat)(fr:List PV)(wr:List Nat)(b2:Blk)(x y:Int)(g:Nat)(hx:Sm x)(hy:Sm y)(hg:1<g)(hg2:g<1000000000)(h42:fr.length=42)(h2:nth fr 2 = .ptr 0 0)(h3:nth fr 3 = .ptr 1 0)(h4:nth fr 4 = .ptr 2 0)(h5:nth fr 5 = .ptr 3 0) :
  ∃ fr' wr',af (CC L9) run k lq ⟨fr,[bW x,bW y,b2,bW (Int.ofNat g)],wr⟩=some (.normal,⟨fr',[bW (lE x (Int.ofNat g)),bW (lE y (Int.ofNat g)),b2,bW (Int.ofNat g)],wr'⟩)∧fr'.length=42∧nth fr' 2 = .ptr 0 0∧nth fr' 3 = .ptr 1 0∧nth fr' 4 = .ptr 2 0:=by
 have hSg:Sm (Int.ofNat g):=by
  unfold Sm
  rw[show (Int.ofNat g).natAbs=g from rfl,mG (by omega) hg2];simp
 have hc1:=fun dr hp=>nJ run dr hp x (Int.ofNat g) hx hSg (show g≠0 by omega)
 have hc2:=fun dr hp=>nJ run dr hp y (Int.ofNat g) hy hSg (show g≠0 by omega)
 generalize lE x (Int.ofNat g)=qx at *
 generalize lE y (Int.ofNat g)=qy at *
 generalize AX x (Int.ofNat g)=mx at *
 generalize AX y (Int.ofNat g)=my at *
 have e:bk (Int.ofNat g) = .agg [.sc (.bool false),.imm 1 false [dg g]]:=by
  show wh false (aA g)=_
  rw[mG (by omega) hg2];rfl
 have eb:bW (Int.ofNat g)=⟨.live,[.sc (.bool false),.imm 1 false [dg g]]⟩:=by
  show (⟨.live,[.sc (.bool false),aL (aA g)]⟩:Blk)=_
  rw[mG (by omega) hg2];rfl
 have hd:dg g = .sc (.int .u32 (g:Int)):=rfl
 rw[e,hd] at hc1 hc2
 rw[eb,hd]
 simp only[bW,whW] at hc1 hc2 ⊢
 generalize aA qx.natAbs=rx at *
 generalize bq qx=nx at *
 generalize aA qy.natAbs=ry at *
 generalize bq qy=ny at *
 have hg3:(1:Int)<(g:Int):=by omega
 simp[lq,fM,Tryz.f104,seq1,ah,af,aH,an,ao,aG,ag,ai,aP,aj,ak,aC,az,FP.none,bc,ar,bd,au,bH,ba,bG,jo,partOf,aa,ae,ab,bf,and_assoc,cL,bg,bO,bx,aX,hc1,hc2,hg3,h42,h2,h3,h4,h5,uW,uD,sW,sD,s32,aW,aD,a32,wf0,wf1,aU,aV,bP,bZ,bA,bn]
set_option maxHeartbeats 1000000 in
theorem Q3 (run:aq)(k:Nat)(fr:List PV)(wr:List Nat)(b2:Blk)(x y:Int)(g:Nat)(hx:Sm x)(hy:Sm y)(hSg:Sm (Int.ofNat g))(hg:1000000000≤g)(h42:fr.length=42)(h2:nth fr 2 = .ptr 0 0)(h3:nth fr 3 = .ptr 1 0)(h4:nth fr 4 = .ptr 2 0)(h5:nth fr 5 = .ptr 3 0) :
  ∃ fr' wr',af (CC L9) run k lq ⟨fr,[bW x,bW y,b2,bW (Int.ofNat g)],wr⟩=some (.normal,⟨fr',[bW (lE x (Int.ofNat g)),bW (lE y (Int.ofNat g)),b2,bW (Int.ofNat g)],wr'⟩)∧fr'.length=42∧nth fr' 2 = .ptr 0 0∧nth fr' 3 = .ptr 1 0∧nth fr' 4 = .ptr 2 0:=by
 have hc1:=fun dr hp=>nJ run dr hp x (Int.ofNat g) hx hSg (show g≠0 by omega)
 have hc2:=fun dr hp=>nJ run dr hp y (Int.ofNat g) hy hSg (show g≠0 by omega)
 generalize lE x (Int.ofNat g)=qx at *
 generalize lE y (Int.ofNat g)=qy at *
 generalize AX x (Int.ofNat g)=mx at *
 generalize AX y (Int.ofNat g)=my at *
 have hl:=pM hg
 have e:bk (Int.ofNat g) = .agg [.sc (.bool false),aL (aA g)]:=rfl
 have eb:bW (Int.ofNat g)=⟨.live,[.sc (.bool false),aL (aA g)]⟩:=rfl
 rw[e] at hc1 hc2
 rw[eb]
 simp only[bW,whW] at hc1 hc2 ⊢
 generalize aA qx.natAbs=rx at *
 generalize bq qx=nx at *
 generalize aA qy.natAbs=ry at *
 generalize bq qy=ny at *
 generalize aA g=dl at *
 have hl1:(1:Int)<(dl.length:Int):=by omega
 simp[lq,fM,Tryz.f104,seq1,ah,af,aH,an,ao,aG,ag,ai,aP,aj,ak,aC,az,FP.none,bc,ar,bd,au,bH,bG,partOf,aa,ae,ab,bf,and_assoc,ca,bg,bO,bx,aX,hc1,hc2,hl1,h42,h2,h3,h4,h5,uW,uD,sW,sD,aW,aD,wf0,wf1,aU,aV,bP,bZ,bA,bn]
theorem yO (run:aq)(k:Nat)(fr:List PV)(wr:List Nat)(b3:Blk)(x y:Int)(h42:fr.length=42)(h2:nth fr 2 = .ptr 0 0)(h3:nth fr 3 = .ptr 1 0)(h4:nth fr 4 = .ptr 2 0) :
  ∃ st,af (CC L9) run k (ah 4 fM) ⟨fr,[bW x,bW y,zR4,b3],wr⟩=some (.ret,st)∧aZ TT st.fr st.hp Tryz.f104.results.toList=some [bT x y]:=by
 simp only[bW,bT]
 generalize aA x.natAbs=rx at *
 generalize bq x=nx at *
 generalize aA y.natAbs=ry at *
 generalize bq y=ny at *
 simp[fM,Tryz.f104,ah,af,aH,an,ao,aG,ag,ai,aj,ak,aC,az,FP.none,au,partOf,aa,ae,ab,bf,bg,bO,bx,aX,h42,h2,h3,h4,uR,sR,sW,aR,aW,zR,rf0,rf1,eE,dF,jy,aU,aV,bP,bZ,bA,bn,aZ]
def jV (x y:Int):Int:=sgn (bq (bif bq y then -x else x)) (x.natAbs / Nat.gcd x.natAbs y.natAbs)
def jW (x y:Int):Int:=Int.ofNat (y.natAbs / Nat.gcd x.natAbs y.natAbs)
theorem wF (x:Int)(g:Nat)(h:x.natAbs % g=0):lE x (Int.ofNat g)=sgn (bq x) (x.natAbs / g):=by
 have h1:wH x (Int.ofNat g)=false:=by
  unfold wH
  rw[show (Int.ofNat g).natAbs=g from rfl,h]
  rfl
 rw[lE,h1,cond_false]
 show sgn (bq x != false) (x.natAbs / g)=_
 simp
def pt:List PV→Option (List PV)
 | [p,q]=>match fC p,fC q with
  | some x,some y=>bif !(y.natAbs.beq 0) then some [bT (jV x y) (jW x y)] else none
  | _,_=>none
 | _=>none
theorem yM (run:aq)(k:Nat)(fr:List PV)(wr:List Nat)(x y:Int)(hx:Sm x)(hy:Sm y)(hy0:0<y)
  (h42:fr.length=42) (h2:nth fr 2 = .ptr 0 0) (h3:nth fr 3 = .ptr 1 0) (h4:nth fr 4 = .ptr 2 0) :
  ∃ st,af (CC L9) run k (ah 2 fM) ⟨fr,[bW x,bW y,zR4],wr⟩=some (.ret,st)∧aZ TT st.fr st.hp Tryz.f104.results.toList=some [bT (sgn (bq x) (x.natAbs / Nat.gcd x.natAbs y.natAbs)) (Int.ofNat (y.natAbs / Nat.gcd x.natAbs y.natAbs))]:=by
 obtain⟨f1,wr1,a1,a2,a3,a4,a5,a6⟩:=WW run k fr wr x y hx hy h42 h2 h3 h4
 have hgp:0<Nat.gcd x.natAbs y.natAbs:=Nat.gcd_pos_of_pos_right _ (by omega)
 have hny:bq y=false:=by rw[cF];simp;omega
 have hyn:Int.ofNat y.natAbs=y:=by simp;omega
 by_cases h1:Nat.gcd x.natAbs y.natAbs=1
 ·rw[h1] at a1 ⊢
  obtain⟨f2,wr2,b1,b2,b3,b4,b5⟩:=Q5 run k f1 wr1 (bW x) (bW y) zR4 a2 a3 a4 a5 a6
  obtain⟨st,e1,e2⟩:=yO run k f2 wr2 (bW 1) x y b2 b3 b4 b5
  refine⟨st,?_,?_⟩
  ·rw[sz,aw a1,sy]
   show af (CC L9) run k (.seq lq (ah 4 fM)) ⟨f1,[bW x,bW y,zR4,bW 1],wr1⟩=_
   rw[aw b1]
   exact e1
  ·rw[e2,Nat.div_one,Nat.div_one,aaH,hyn]
 ·obtain⟨f2,wr2,b1,b2,b3,b4,b5⟩:∃ fr' wr',af (CC L9) run k lq ⟨f1,[bW x,bW y,zR4,bW (Int.ofNat (Nat.gcd x.natAbs y.natAbs))],wr1⟩=some (.normal,⟨fr',[bW (lE x (Int.ofNat (Nat.gcd x.natAbs y.natAbs))),bW (lE y (Int.ofNat (Nat.gcd x.natAbs y.natAbs))),zR4,bW (Int.ofNat (Nat.gcd x.natAbs y.natAbs))],wr'⟩)∧fr'.length=42∧nth fr' 2 = .ptr 0 0∧nth fr' 3 = .ptr 1 0∧nth fr' 4 = .ptr 2 0:=by
   by_cases hg2:Nat.gcd x.natAbs y.natAbs<1000000000
   ·exact Q4 run k f1 wr1 zR4 x y (Nat.gcd x.natAbs y.natAbs) hx hy (by omega) hg2 a2 a3 a4 a5 a6
   ·exact Q3 run k f1 wr1 zR4 x y (Nat.gcd x.natAbs y.natAbs) hx hy (hy.of_le (Nat.gcd_le_right _ (by omega))) (by omega) a2 a3 a4 a5 a6
  obtain⟨st,e1,e2⟩:=yO run k f2 wr2 (bW (Int.ofNat (Nat.gcd x.natAbs y.natAbs))) (lE x (Int.ofNat (Nat.gcd x.natAbs y.natAbs))) (lE y (Int.ofNat (Nat.gcd x.natAbs y.natAbs))) b2 b3 b4 b5
  refine⟨st,?_,?_⟩
  ·rw[sz,aw a1,sy,aw b1]
   exact e1
  ·rw[e2,wF x _ (Nat.mod_eq_zero_of_dvd (Nat.gcd_dvd_left _ _)),wF y _ (Nat.mod_eq_zero_of_dvd (Nat.gcd_dvd_right _ _)),hny]
   rfl
theorem Mb (run:aq)(k:Nat)(x y:Int)(hx:Sm x)(hy:Sm y)(hy0:y.natAbs≠0) :
  ∃ st,af (CC L9) run k fM ⟨entry 42 [bk x,bk y],[],[]⟩=some (.ret,st)∧aZ TT st.fr st.hp Tryz.f104.results.toList=some [bT (jV x y) (jW x y)]:=by
 obtain⟨f1,wr1,a1,a2,a3,a4,a5⟩:=Q8 run k x y
 by_cases h0:y<0
 ·have hny:bq y=true:=by rw[cF];simpa using h0
  obtain⟨f2,wr2,b1,b2,b3,b4,b5⟩:=Q6 run k f1 wr1 x y hx hy h0 a2 a3 a4 a5
  obtain⟨st,e1,e2⟩:=yM run k f2 wr2 (-x) (-y) hx.neg hy.neg (by omega) b2 b3 b4 b5
  refine⟨st,?_,?_⟩
  ·rw[aO 1 a1,vF,aw b1];exact e1
  ·rw[e2,Int.natAbs_neg,Int.natAbs_neg,jV,jW,hny];rfl
 ·have hny:bq y=false:=by rw[cF];simpa using h0
  obtain⟨f2,wr2,b1,b2,b3,b4,b5⟩:=Q7 run k f1 wr1 x y hy h0 a2 a3 a4 a5
  obtain⟨st,e1,e2⟩:=yM run k f2 wr2 x y hx hy (by omega) b2 b3 b4 b5
  refine⟨st,?_,?_⟩
  ·rw[aO 1 a1,vF,aw b1];exact e1
  ·rw[e2,jV,jW,hny];rfl
theorem qU:Ab.Spec base.P 104 pt:=Ab.Spec.bL (C:=CC L9) (cU Z6) fun args rs h=>by
 unfold pt at h
 split at h
 ·split at h
  ·rename_i x y ex ey
   obtain⟨rfl,hx⟩:=dJ ex
   obtain⟨rfl,hy⟩:=dJ ey
   by_cases hy0:y.natAbs=0
   ·rw[hy0] at h;simp at h
   ·rw[jJ hy0] at h
    simp only[Bool.not_false,cond_true,Option.some.injEq] at h
    subst h
    obtain⟨st,e1,e2⟩:=Mb (runK (CC L9) 1) 1 x y hx hy hy0
    exact⟨2,_,_,_,_,_,aQ NT rfl e1 e2,sC _ _ _,Wk.refl rfl,trivial⟩
  ·cases h
 ·cases h
theorem NR:base.F.get 129=some Tryz.f129:=by kernel_rfl
theorem HY:base.F.get 49=some Tryz.f49:=by kernel_rfl
def av (L:Lst)(run:aq)(g:Nat)(args:List PV)(r:PV):Prop:=∀ dr hp,bU (CC L) run dr hp g args=some (r,hp,⟨[],[],false,false⟩)
theorem fv (n d:Int):bT n d = .agg [.sc (.bool (bq n)),aL (aA n.natAbs),.sc (.bool (bq d)),aL (aA d.natAbs)]:=rfl
set_option maxHeartbeats 1000000 in
theorem Lf (L:Lst)(run:aq)(k:Nat)(a b c d e1 e2 p q s t n m:Int)(g1:av L run 95 [bT c d] (bk e2))(g2:av L run 95 [bT a b] (bk e1))
  (g3:av L run 105 [bk a,bk e2] (bk p)) (g4:av L run 105 [bk c,bk e1] (bk q)) (g5:av L run 139 [bk p,bk q] (bk s)) (g6:av L run 105 [bk e1,bk e2] (bk t)) (g7:av L run 104 [bk s,bk t] (bT n m)) :
  ∃ st,af (CC L) run k (Tryz.f87.body.getD .skip) ⟨entry 22 [bT a b,bT c d],[],[]⟩=some (.ret,st)∧aZ TT st.fr st.hp Tryz.f87.results.toList=some [bT n m]:=by
 obtain⟨h1,h2,h3⟩:=cA 20 (bT a b) (bT c d)
 generalize entry 22 [bT a b,bT c d]=fr0 at *
 unfold av at *
 simp only[whW,fv] at *
 simp[Tryz.f87,h1,h2,h3,af,aH,an,ao,aG,ag,ai,aP,aj,ak,aC,az,FP.none,bG,partOf,aa,ae,ab,bf,bg,bO,bx,aX,g1,g2,g3,g4,g5,g6,g7,uR,sR,sW,aR,aW,zR,rf0,rf1,aM,aU,aV,bP,bZ,bA,bn,aZ,number,FP.free,cB,FP.apart]
set_option maxHeartbeats 1000000 in
theorem K2 (L:Lst)(run:aq)(k:Nat)(a b c d e1 e2 p t n m:Int)(g1:av L run 95 [bT c d] (bk e2))(g2:av L run 95 [bT a b] (bk e1))
  (g3:av L run 105 [bk a,bk c] (bk p)) (g6:av L run 105 [bk e1,bk e2] (bk t)) (g7:av L run 104 [bk p,bk t] (bT n m)) :
  ∃ st,af (CC L) run k (Tryz.f56.body.getD .skip) ⟨entry 16 [bT a b,bT c d],[],[]⟩=some (.ret,st)∧aZ TT st.fr st.hp Tryz.f56.results.toList=some [bT n m]:=by
 obtain⟨h1,h2,h3⟩:=cA 14 (bT a b) (bT c d)
 generalize entry 16 [bT a b,bT c d]=fr0 at *
 unfold av at *
 simp only[whW,fv] at *
 simp[Tryz.f56,h1,h2,h3,af,aH,an,ao,aG,ag,ai,aP,aj,ak,aC,az,FP.none,bG,partOf,aa,ae,ab,bf,bg,bO,bx,aX,g1,g2,g3,g6,g7,uR,sR,sW,aR,aW,zR,rf0,rf1,aM,aU,aV,bP,bZ,bA,bn,aZ,number,FP.free,cB,FP.apart]
set_option maxHeartbeats 1000000 in
theorem Le (L:Lst)(run:aq)(k:Nat)(a b c d e1 e2 p q r:Int)(g1:av L run 95 [bT c d] (bk e2))(g2:av L run 95 [bT a b] (bk e1))
  (g3:av L run 105 [bk a,bk e2] (bk p)) (g4:av L run 105 [bk c,bk e1] (bk q)) (g5:av L run 96 [bk p,bk q] (Ab.bC r)) :
  ∃ st,af (CC L) run k (Tryz.f129.body.getD .skip) ⟨entry 16 [bT a b,bT c d],[],[]⟩=some (.ret,st)∧aZ TT st.fr st.hp Tryz.f129.results.toList=some [Ab.bC r]:=by
 obtain⟨h1,h2,h3⟩:=cA 14 (bT a b) (bT c d)
 generalize entry 16 [bT a b,bT c d]=fr0 at *
 unfold av at *
 simp only[whW,fv,Ab.bC] at *
 simp[Tryz.f129,h1,h2,h3,af,aH,an,ao,aG,ag,ai,aP,aj,ak,aC,az,FP.none,au,bG,partOf,aa,ae,ab,bf,bg,g1,g2,g3,g4,g5,uR,sR,sW,aR,aW,rf0,rf1,aM,aU,aV,bA,bn,aZ,number,FP.free,cB,FP.apart]
theorem KZ (L:Lst)(run:aq)(k:Nat)(a b c:Int)(g1:av L run 149 [bk a] (bk c)) :
  ∃ st,af (CC L) run k (Tryz.f106.body.getD .skip) ⟨entry 9 [bT a b],[],[]⟩=some (.ret,st)∧aZ TT st.fr st.hp Tryz.f106.results.toList=some [bT c b]:=by
 obtain⟨h1,h2⟩:=cP 8 (bT a b)
 generalize entry 9 [bT a b]=fr0 at *
 unfold av at *
 simp only[whW,fv] at *
 simp[Tryz.f106,h1,h2,af,aH,an,ao,aG,ag,ai,aP,aj,ak,aC,az,FP.none,au,bG,partOf,aa,ae,ab,bf,bg,bO,bx,aX,g1,uR,sR,sW,aR,aW,zR,rf0,rf1,eE,dF,jy,aM,aU,aV,bP,bZ,bA,bn,aZ,number,FP.free,cB,FP.apart]
theorem Fw (L:Lst)(run:aq)(k:Nat)(a b c:Int)(g1:av L run 101 [bk a] (Ab.bC c)) :
  ∃ st,af (CC L) run k (Tryz.f49.body.getD .skip) ⟨entry 6 [bT a b],[],[]⟩=some (.ret,st)∧aZ TT st.fr st.hp Tryz.f49.results.toList=some [Ab.bC c]:=by
 obtain⟨h1,h2⟩:=cP 5 (bT a b)
 generalize entry 6 [bT a b]=fr0 at *
 unfold av at *
 simp only[whW,fv,Ab.bC] at *
 simp[Tryz.f49,h1,h2,af,aH,an,ao,aG,ag,ai,aP,aj,ak,aC,az,FP.none,au,bG,partOf,aa,ae,ab,bf,bg,g1,uR,sW,aW,rf0,rf1,aM,aU,aV,bA,bn,aZ]
theorem KW (L:Lst)(run:aq)(k:Nat)(a b c d e f n m:Int)(g1:av L run 106 [bT c d] (bT e f))(g2:av L run 87 [bT a b,bT e f] (bT n m)) :
  ∃ st,af (CC L) run k (Tryz.f55.body.getD .skip) ⟨entry 9 [bT a b,bT c d],[],[]⟩=some (.ret,st)∧aZ TT st.fr st.hp Tryz.f55.results.toList=some [bT n m]:=by
 obtain⟨h1,h2,h3⟩:=cA 7 (bT a b) (bT c d)
 generalize entry 9 [bT a b,bT c d]=fr0 at *
 unfold av at *
 simp only[fv] at *
 simp[Tryz.f55,h1,h2,h3,af,aH,an,ao,aG,ag,ai,aP,aj,ak,aC,az,partOf,aa,ae,ab,bf,bg,bO,bx,aX,g1,g2,sR,aR,zR,aM,aU,aV,bP,bZ,bA,bn,aZ,number,FP.free,cB,FP.apart]
noncomputable def L10:Lst:=[(95,A1),(105,GJ),(139,tl),(104,pt),(149,td),(101,jc),(96,rl)]
theorem xd:dK base.P L10:=⟨wK,vM,pZ,qU,pA,kz,pQ,trivial⟩
theorem XB:bt L10 95=fun a=>A1 (aJ a):=rfl
theorem XA:bt L10 105=fun a=>GJ (aJ a):=rfl
theorem XD:bt L10 139=fun a=>tl (aJ a):=rfl
theorem RO:bt L10 104=fun a=>pt (aJ a):=rfl
theorem Xz:bt L10 149=fun a=>td (aJ a):=rfl
theorem RN:bt L10 101=fun a=>jc (aJ a):=rfl
theorem XC:bt L10 96=fun a=>rl (aJ a):=rfl
theorem wT (n d:Int):aJ [bT n d]=[bT n d]:=by simp only[aJ,A3]
theorem nA (run:aq)(n d:Int)(hn:Sm n)(hd:Sm d):av L10 run 95 [bT n d] (bk (dq d)):=fun dr hp =>
 bp OS XB run dr hp _ [bk (dq d)] (sC hp n d) (wT n d) (by simp only[A1,gM hn hd])
theorem lB (run:aq)(x y:Int)(hx:Sm x)(hy:Sm y):av L10 run 105 [bk x,bk y] (bk (x*y)):=fun dr hp =>
 bp aaF XA run dr hp _ [bk (x*y)] (gj hp x y) (fg x y) (by simp only[GJ,cC hx,cC hy])
theorem Yx (run:aq)(x y:Int)(hx:Sm x)(hy:Sm y):av L10 run 139 [bk x,bk y] (bk (x+y)):=fun dr hp =>
 bp Fp XD run dr hp _ [bk (x+y)] (gj hp x y) (fg x y) (by simp only[tl,cC hx,cC hy])
theorem Yw (run:aq)(x y:Int)(hx:Sm x)(hy:Sm y):av L10 run 96 [bk x,bk y] (Ab.bC (fE x y)):=fun dr hp =>
 bp Fo XC run dr hp _ [Ab.bC (fE x y)] (gj hp x y) (fg x y) (by simp only[rl,cC hx,cC hy])
theorem Yv (run:aq)(x:Int)(hx:Sm x):av L10 run 149 [bk x] (bk (-x)):=fun dr hp =>
 bp Fl Xz run dr hp _ [bk (-x)] (lJ hp x) (jm x) (by simp only[td,cC hx])
theorem SQ (run:aq)(x:Int)(hx:Sm x):av L10 run 101 [bk x] (Ab.bC x.sign):=fun dr hp =>
 bp tt RN run dr hp _ [Ab.bC x.sign] (lJ hp x) (jm x) (by simp only[jc,cC hx])
def pr (_ y:Int):Bool := !(y.natAbs.beq 0)
theorem DC (run:aq)(x y:Int)(hx:Sm x)(hy:Sm y)(h:pr x y=true):av L10 run 104 [bk x,bk y] (bT (jV x y) (jW x y)):=fun dr hp =>
 bp Iz RO run dr hp _ [bT (jV x y) (jW x y)] (gj hp x y) (fg x y) (by
  unfold pr at h
  simp only[pt,cC hx,cC hy,h,cond_true])
def smB (x:Int):Bool:=x.natAbs.log2.blt 11000000
theorem ik {x:Int}(h:smB x=true):Sm x:=XX (by simpa [smB,Nat.blt_eq] using h)
theorem Bb:Sm 1:=by unfold Sm;decide
theorem mS {d:Int}(h:Sm d):Sm (dq d):=by
 unfold dq
 by_cases h0:d=0
 ·rw[if_pos h0];exact Bb
 ·rw[if_neg h0];exact h
def iH:List PV→Option (List PV)
 | [p,q]=>match gp p,gp q with
  | some (a,b),some (c,d)=>bif smB (a*dq d) && (smB (c*dq b) && (smB (a*dq d+c*dq b) && (smB (dq b*dq d) && pr (a*dq d+c*dq b) (dq b*dq d)))) then
    some [bT (jV (a*dq d+c*dq b) (dq b*dq d)) (jW (a*dq d+c*dq b) (dq b*dq d))] else none
  | _,_=>none
 | _=>none
theorem qG:Ab.Spec base.P 87 iH:=Ab.Spec.bL (C:=CC L10) (cU xd) fun args rs h=>by
 unfold iH at h
 split at h
 ·split at h
  ·rename_i a b c d ex ey
   obtain⟨rfl,ha,hb⟩:=dV ex
   obtain⟨rfl,hc,hd⟩:=dV ey
   cases hg:smB (a*dq d) && (smB (c*dq b) && (smB (a*dq d+c*dq b) && (smB (dq b*dq d) && pr (a*dq d+c*dq b) (dq b*dq d)))) with
   | false=>rw[hg] at h;cases h
   | true =>
    rw[hg] at h
    simp only[cond_true,Option.some.injEq] at h
    subst h
    simp only[Bool.and_eq_true] at hg
    obtain⟨h1,h2,h3,h4,h5⟩:=hg
    obtain⟨st,e1,e2⟩:=Lf L10 (runK (CC L10) 1) 1 a b c d _ _ _ _ _ _ _ _ (nA _ c d hc hd) (nA _ a b ha hb) (lB _ _ _ ha (mS hd)) (lB _ _ _ hc (mS hb)) (Yx _ _ _ (ik h1) (ik h2)) (lB _ _ _ (mS hb) (mS hd)) (DC _ _ _ (ik h3) (ik h4) h5)
    exact⟨2,_,_,_,_,_,aQ NS rfl e1 e2,sC _ _ _,Wk.refl rfl,trivial⟩
  ·cases h
 ·cases h
def me:List PV→Option (List PV)
 | [p,q]=>match gp p,gp q with
  | some (a,b),some (c,d)=>bif smB (a*c) && (smB (dq b*dq d) && pr (a*c) (dq b*dq d)) then
    some [bT (jV (a*c) (dq b*dq d)) (jW (a*c) (dq b*dq d))] else none
  | _,_=>none
 | _=>none
theorem ye:Ab.Spec base.P 56 me:=Ab.Spec.bL (C:=CC L10) (cU xd) fun args rs h=>by
 unfold me at h
 split at h
 ·split at h
  ·rename_i a b c d ex ey
   obtain⟨rfl,ha,hb⟩:=dV ex
   obtain⟨rfl,hc,hd⟩:=dV ey
   cases hg:smB (a*c) && (smB (dq b*dq d) && pr (a*c) (dq b*dq d)) with
   | false=>rw[hg] at h;cases h
   | true =>
    rw[hg] at h
    simp only[cond_true,Option.some.injEq] at h
    subst h
    simp only[Bool.and_eq_true] at hg
    obtain⟨h1,h4,h5⟩:=hg
    obtain⟨st,e1,e2⟩:=K2 L10 (runK (CC L10) 1) 1 a b c d _ _ _ _ _ _ (nA _ c d hc hd) (nA _ a b ha hb) (lB _ _ _ ha hc) (lB _ _ _ (mS hb) (mS hd)) (DC _ _ _ (ik h1) (ik h4) h5)
    exact⟨2,_,_,_,_,_,aQ NQ rfl e1 e2,sC _ _ _,Wk.refl rfl,trivial⟩
  ·cases h
 ·cases h
def PC:List PV→Option (List PV)
 | [p,q]=>match gp p,gp q with
  | some (a,b),some (c,d)=>bif smB (a*dq d) && smB (c*dq b) then some [Ab.bC (fE (a*dq d) (c*dq b))] else none
  | _,_=>none
 | _=>none
theorem Ld:Ab.Spec base.P 129 PC:=Ab.Spec.bL (C:=CC L10) (cU xd) fun args rs h=>by
 unfold PC at h
 split at h
 ·split at h
  ·rename_i a b c d ex ey
   obtain⟨rfl,ha,hb⟩:=dV ex
   obtain⟨rfl,hc,hd⟩:=dV ey
   cases hg:smB (a*dq d) && smB (c*dq b) with
   | false=>rw[hg] at h;cases h
   | true =>
    rw[hg] at h
    simp only[cond_true,Option.some.injEq] at h
    subst h
    simp only[Bool.and_eq_true] at hg
    obtain⟨h1,h2⟩:=hg
    obtain⟨st,e1,e2⟩:=Le L10 (runK (CC L10) 1) 1 a b c d _ _ _ _ _ (nA _ c d hc hd) (nA _ a b ha hb) (lB _ _ _ ha (mS hd)) (lB _ _ _ hc (mS hb)) (Yw _ _ _ (ik h1) (ik h2))
    exact⟨2,_,_,_,_,_,aQ NR rfl e1 e2,eB _ _,Wk.refl rfl,trivial⟩
  ·cases h
 ·cases h
def jO:List PV→Option (List PV)
 | [p]=>match gp p with
  | some (a,b)=>some [bT (-a) b]
  | none=>none
 | _=>none
theorem qA:Ab.Spec base.P 106 jO:=Ab.Spec.bL (C:=CC L10) (cU xd) fun args rs h=>by
 unfold jO at h
 split at h
 ·split at h
  ·rename_i a b ex
   obtain⟨rfl,ha,hb⟩:=dV ex
   simp only[Option.some.injEq] at h
   subst h
   obtain⟨st,e1,e2⟩:=KZ L10 (runK (CC L10) 1) 1 a b _ (Yv _ a ha)
   exact⟨2,_,_,_,_,_,aQ NP rfl e1 e2,sC _ _ _,Wk.refl rfl,trivial⟩
  ·cases h
 ·cases h
def iY:List PV→Option (List PV)
 | [p]=>match gp p with
  | some (a,_)=>some [Ab.bC a.sign]
  | none=>none
 | _=>none
theorem k9:Ab.Spec base.P 49 iY:=Ab.Spec.bL (C:=CC L10) (cU xd) fun args rs h=>by
 unfold iY at h
 split at h
 ·split at h
  ·rename_i a b ex
   obtain⟨rfl,ha,hb⟩:=dV ex
   simp only[Option.some.injEq] at h
   subst h
   obtain⟨st,e1,e2⟩:=Fw L10 (runK (CC L10) 1) 1 a b _ (SQ _ a ha)
   exact⟨2,_,_,_,_,_,aQ HY rfl e1 e2,eB _ _,Wk.refl rfl,trivial⟩
  ·cases h
 ·cases h
noncomputable def L11:Lst:=[(87,iH),(106,jO)]
theorem ac8:dK base.P L11:=⟨qG,qA,trivial⟩
theorem Xy:bt L11 87=fun a=>iH (aJ a):=rfl
theorem Xx:bt L11 106=fun a=>jO (aJ a):=rfl
theorem Zp (hp:List Blk)(a b c d:Int):bm (snap hp bh) [bT a b,bT c d]=some ([bT a b,bT c d],[]):=rfl
theorem Ub (a b c d:Int):aJ [bT a b,bT c d]=[bT a b,bT c d]:=by simp only[aJ,A3]
theorem Yt (run:aq)(n d:Int)(hn:Sm n)(hd:Sm d):av L11 run 106 [bT n d] (bT (-n) d):=fun dr hp =>
 bp Ix Xx run dr hp _ [bT (-n) d] (sC hp n d) (wT n d) (by simp only[jO,gM hn hd])
theorem Yu (run:aq)(a b c d n m:Int)(h:iH [bT a b,bT c d]=some [bT n m]):av L11 run 87 [bT a b,bT c d] (bT n m):=fun dr hp =>
 bp Iy Xy run dr hp _ [bT n m] (Zp hp a b c d) (Ub a b c d) h
def uA:List PV→Option (List PV)
 | [p,q]=>match gp q with
  | some (c,d)=>iH [p,bT (-c) d]
  | _=>none
 | _=>none
theorem Lg {p q:PV}{rs:List PV}(h:iH [p,q]=some rs):∃ a b n m,p=bT a b∧rs=[bT n m]:=by
 simp only[iH] at h
 split at h
 ·rename_i a b c d ex ey
  obtain⟨rfl,-,-⟩:=dV ex
  cases hg:smB (a*dq d) && (smB (c*dq b) && (smB (a*dq d+c*dq b) && (smB (dq b*dq d) && pr (a*dq d+c*dq b) (dq b*dq d)))) with
  | false=>rw[hg] at h;cases h
  | true =>
   rw[hg] at h
   simp only[cond_true,Option.some.injEq] at h
   exact⟨a,b,_,_,rfl,h.symm⟩
 ·cases h
theorem ya:Ab.Spec base.P 55 uA:=Ab.Spec.bL (C:=CC L11) (cU ac8) fun args rs h=>by
 unfold uA at h
 split at h
 ·split at h
  ·rename_i p q c d ey
   obtain⟨rfl,hc,hd⟩:=dV ey
   obtain⟨a,b,n,m,rfl,rfl⟩:=Lg h
   obtain⟨st,e1,e2⟩:=KW L11 (runK (CC L11) 1) 1 a b c d _ _ n m (Yt _ c d hc hd) (Yu _ a b (-c) d n m h)
   exact⟨2,_,_,_,_,_,aQ NO rfl e1 e2,sC _ _ _,Wk.refl rfl,trivial⟩
  ·cases h
 ·cases h
end Go.Proofs.YtjdmodeenbdfpaaGreat
