/- Contracts of num's integers, part 16; each lemma states its conditions. -/
import Derived.Test.YtjdmodeenbdfpaaGreatV14
import Derived.Test.YtjdmodeenbdfpaaGreatV15
set_option linter.unusedSimpArgs false
set_option linter.unusedVariables false
noncomputable section
namespace Go.Proofs.YtjdmodeenbdfpaaGreat
open Go Go.Ab Go.RowKit Tryz
attribute [local simp] FzZ aC aF aG aH aL aM aU aW aX aZ aa ab ae af ag ah ai aj an ao aq au av bF bG bc bf bg bm bp ca cg partOf sW seq1
theorem GY {P:Program}{g:FuncId}{f:Ψ→Option Ψ}(he:∀ (args:Array Value)(w:World),(callFunc g args).run P w = .ok (.enter g args) w)
  (h:∀ args rs,f args=some rs→bV rs=true∧∀ (w:World) (M:Nat→Prop) (vs:List Value),Vs w M [] NoL args vs →
   ∃ post:Ending→World→Prop,Calls P g vs.toArray w post∧∀ e w',post e w'→∃ us,e = .returned (BP us)∧Vs w' M [] NoL rs us∧Old w w'):Ab.Spec P g f:=by
 intro args rs hf hi
 obtain⟨h1,h2⟩:=h args rs hf
 refine⟨h1,fun w M vs hM hvs => ?_⟩
 obtain⟨post,h3,h4⟩:=h2 w M vs hvs
 unfold js
 rw[he]
 refine h3.mono fun e w' hh => ?_
 obtain⟨us,h5,h6⟩:=h4 e w' hh
 exact⟨_,h5,us,rfl,h6⟩
theorem Old.refl (w:World):Old w w:=⟨rfl,rfl,rfl,Nat.le_refl _,fun _ _=>rfl⟩
theorem vs2 {w:World}{M:Nat→Prop}{a b:Value}{vs:List Value}(h:Vs w M [] NoL [.sc a,.sc b] vs):vs=[a,b]:=by
 obtain⟨h1,h2⟩:=h
 match vs,h1 with
 | [u,v],_ =>
  have e1:=h2 0 _ u rfl rfl
  have e2:=h2 1 _ v rfl rfl
  cases e1;cases e2;rfl
theorem aiT (w:World)(M:Nat→Prop)(a:Value):Vs w M [] NoL [.sc a] [a]:=⟨rfl,fun k p v h1 h2=>by
 cases k with
 | zero=>simp at h1 h2;subst h1;subst h2;exact .sc _
 | succ k=>simp at h1⟩
def ibF:Ψ→Option Ψ
 | [.sc (.string s),.sc (.int .u8 c)]=>some [.sc (.int .i64 (Lib.indexByte (bQ s) c.toNat.toUInt8))]
 | _=>none
theorem ac7:Ab.Spec base.P 191 ibF:=GY (P:=Tryz.prog) Tryz.call191 fun args rs h=>by
 unfold ibF at h
 split at h
 ·rename_i s c
  simp only[OiE] at h
  subst h
  refine⟨rfl,fun w M vs hvs => ?_⟩
  rw[vs2 hvs]
  refine⟨_,Tryz.stringslite_IndexByte s c w,?_⟩
  rintro e w' ⟨rfl,rfl⟩
  exact⟨[_],rfl,aiT _ M _,Old.refl _⟩
 ·cases h
def rf0:Field:={ name := "n",type:=70,offset:=0,embedded:=false,tag := "",pkgPath := "torus/num",byteOffset:=0 }
def rf1:Field:={ name := "d",type:=70,offset:=2,embedded:=false,tag := "",pkgPath := "torus/num",byteOffset:=32 }
theorem uR:und TT 72=some (.struct #[rf0,rf1]):=by kernel_rfl
theorem sR:de TT 72=some 4:=by kernel_rfl
theorem aR:fR TT 72=some true:=by kernel_rfl
theorem zR:dU TT 72=some [.sc (.bool false),.sc (.slice none 0 0),.sc (.bool false),.sc (.slice none 0 0)]:=by kernel_rfl
theorem ZC:base.F.get 95=some f95:=by kernel_rfl
theorem Rl:base.F.get 104=some f104:=by kernel_rfl
theorem Rk:base.F.get 87=some f87:=by kernel_rfl
theorem Q8:base.F.get 55=some f55:=by kernel_rfl
theorem Ri:base.F.get 56=some f56:=by kernel_rfl
theorem Q9:base.F.get 106=some f106:=by kernel_rfl
theorem SI:base.shared 95=false:=by kernel_rfl
theorem Li:base.shared 104=false:=by kernel_rfl
theorem Lh:base.shared 87=false:=by kernel_rfl
theorem Lf:base.shared 106=false:=by kernel_rfl
def cf (n d:Int):PV:=.agg [.sc (.bool (bz n)),aP (aJ n.natAbs),.sc (.bool (bz d)),aP (aJ d.natAbs)]
def gL:PV→Option (Int × Int)
 | .agg [a,b,c,d]=>match fQ (.agg [a,b]),fQ (.agg [c,d]) with
  | some n,some m=>some (n,m)
  | _,_=>none
 | _=>none
theorem eg {p:PV}{n d:Int}(h:gL p=some (n,d)):p=cf n d∧Sm n∧Sm d:=by
 unfold gL at h
 split at h
 ·split at h
  ·rename_i n' m' e1 e2
   simp only[OiE,PiE] at h
   obtain⟨rfl,rfl⟩:=h
   obtain⟨h1,h2⟩:=dY e1
   obtain⟨h3,h4⟩:=dY e2
   refine⟨?_,h2,h4⟩
   simp only[whW,PV.agg.injEq,List.cons.injEq,and_true] at h1 h3
   obtain⟨rfl,rfl⟩:=h1
   obtain⟨rfl,rfl⟩:=h3
   rfl
  ·cases h
 ·cases h
theorem gZ {n d:Int}(h1:Sm n)(h2:Sm d):gL (cf n d)=some (n,d):=by
 have e1:=cK h1
 have e2:=cK h2
 rw[whW] at e1 e2
 simp only[gL,cf,e1,e2]
theorem Cz (n d:Int):canon (cf n d)=cf n d:=by simp only[cf,canon,aK,fJ]
theorem uJ (hp:Θ)(n d:Int):bw (snap hp bq) [cf n d]=some ([cf n d],[]):=rfl
def L9:Lst:=[(101,jC),(97,ofF),(149,tj),(150,ya),(151,XE)]
theorem ae0:dE base.P L9:=⟨kf,mM,oe,rM,XA,trivial⟩
theorem ab2:bx L9 101=fun a=>jC (aK a):=rfl
theorem ajt:bx L9 97=fun a=>ofF (aK a):=rfl
theorem agj:bx L9 149=fun a=>tj (aK a):=rfl
theorem agk:bx L9 150=fun a=>ya (aK a):=rfl
theorem agl:bx L9 151=fun a=>XE (aK a):=rfl
theorem qu (run:aw)(dr:Bool)(hp:Θ)(x:Int)(hx:Sm x):bP (CC L9) run dr hp 101 [br x]=some (Ab.bN x.sign,hp,⟨[],[],false,false⟩) :=
 bt vw ab2 run dr hp _ [Ab.bN x.sign] (nk hp x) (j6 x) (by simp only[jC,cK hx])
theorem YD (run:aw)(dr:Bool)(hp:Θ):bP (CC L9) run dr hp 97 [.sc (.int .i64 1)]=some (br 1,hp,⟨[],[],false,false⟩) :=
 bt zU ajt run dr hp _ [br 1] rfl rfl rfl
theorem Bj (run:aw)(dr:Bool)(hp:Θ)(x:Int)(hx:Sm x):bP (CC L9) run dr hp 149 [br x]=some (br (-x),hp,⟨[],[],false,false⟩) :=
 bt Hl agj run dr hp _ [br (-x)] (nk hp x) (j6 x) (by simp only[tj,cK hx])
theorem QD (run:aw)(dr:Bool)(hp:Θ)(x y:Int)(hx:Sm x)(hy:Sm y) :
  bP (CC L9) run dr hp 150 [br x,br y]=some (br (Int.ofNat (Nat.gcd x.natAbs y.natAbs)),hp,⟨[],[],false,false⟩) :=
 bt SH agk run dr hp _ [br (Int.ofNat (Nat.gcd x.natAbs y.natAbs))] (gI hp x y) (ft x y) (by simp only[ya,cK hx,cK hy])
theorem pC (run:aw)(dr:Bool)(hp:Θ)(x y:Int)(hx:Sm x)(hy:Sm y)(h0:y.natAbs≠0) :
  bP (CC L9) run dr hp 151 [br x,br y]=some (.tup [br (m8 x y),br (Ct x y)],hp,⟨[],[],false,false⟩) :=
 bt ND agl run dr hp _ [br (m8 x y),br (Ct x y)] (gI hp x y) (ft x y) (by
  simp only[XE,cK hx,cK hy,kJ h0,Bool.not_false,cond_true])
theorem XQ (run:aw)(k:Nat)(n d:Int)(hd:Sm d) :
  ∃ st,ae (CC L9) run k (f95.body.getD .skip) ⟨entry 10 [cf n d],[],[]⟩=some (.ret,st)∧aX TT st.fr st.hp f95.results.toList=some [br (if d=0 then 1 else d)]:=by
 have hc1:=fun dr hp=>qu run dr hp d hd
 have hc2:=fun dr hp=>YD run dr hp
 obtain⟨e1,e2⟩:=cO 9 (cf n d)
 generalize entry 10 [cf n d]=fr0 at *
 unfold cf at e2
 by_cases h0:d=0
 ·rw[if_pos h0]
  have hs:d.sign=0:=by rw[h0];rfl
  rw[hs] at hc1
  simp only[whW,Ab.bN] at hc1 hc2 ⊢
  generalize aJ n.natAbs=rn at *
  generalize aJ d.natAbs=rd at *
  generalize bz n=nn at *
  generalize bz d=nd at *
  simp[f95,e1,e2,bM,bZ,hc1,hc2,uR,zW,rf0,rf1,aO]
 ·rw[if_neg h0]
  have hs:(d.sign == 0)=false:=by
   rw[beq_eq_false_iff_ne]
   intro h;exact h0 (Int.sign_eq_zero_iff_zero.1 h)
  have hs' : ¬ d=0:=h0
  generalize d.sign=sg at *
  simp only[whW,Ab.bN] at hc1 ⊢
  generalize aJ n.natAbs=rn at *
  generalize aJ d.natAbs=rd at *
  generalize bz n=nn at *
  generalize bz d=nd at *
  simp[f95,e1,e2,bM,bZ,hc1,hs,uR,zW,rf0,rf1,aO]
def dB (d:Int):Int:=if d=0 then 1 else d
def zi:Ψ→Option Ψ
 | [p]=>match gL p with
  | some (_,d)=>some [br (dB d)]
  | none=>none
 | _=>none
theorem rV:Ab.Spec base.P 95 zi:=Ab.Spec.bS (C:=CC L9) (cR ae0) fun args rs h=>by
 unfold zi at h
 split at h
 ·split at h
  ·rename_i n d e
   obtain⟨rfl,-,hd⟩:=eg e
   simp only[OiE] at h
   subst h
   obtain⟨st,e1,e2⟩:=XQ (runK (CC L9) 1) 1 n d hd
   exact⟨2,_,_,_,_,_,ba ZC rfl e1 e2,jF _ _,Wk.refl rfl,trivial⟩
  ·cases h
 ·cases h
def fX:Code:=f104.body.getD .skip
def oa:Code:=seq1 (ai 1 fX)
theorem abE:((Region.before (ly (aQ oa)))[4]?.getD 0).testBit 0=true:=by kernel_rfl
theorem abD:((Region.before (ly (aQ oa)))[5]?.getD 0).testBit 2=true:=by kernel_rfl
abbrev zR4:Blk:=⟨.live,[.sc (.bool false),.sc (.slice none 0 0),.sc (.bool false),.sc (.slice none 0 0)]⟩
abbrev bW (x:Int):Blk:=⟨.live,[.sc (.bool (bz x)),aP (aJ x.natAbs)]⟩
theorem xE:ai 1 fX = .seq oa (ai 2 fX):=rfl
theorem UN (run:aw)(k:Nat)(x y:Int) :
  ∃ fr wr,bh (CC L9) run k 1 fX ⟨entry 42 [br x,br y],[],[]⟩=some ⟨fr,[bW x,bW y,zR4],wr⟩∧fr.length=42∧nth fr 2 = .ptr 0 0∧nth fr 3 = .ptr 1 0∧nth fr 4 = .ptr 2 0:=by
 obtain⟨e1,e2,e3⟩:=cl 40 (br x) (br y)
 generalize entry 42 [br x,br y]=fr0 at *
 rw[whW] at e2 e3
 simp[fX,f104,bh,e1,e2,e3,and_assoc,zR,aO]
theorem UM (run:aw)(k:Nat)(fr:Ψ)(wr:Ω)(x y:Int)(hy:Sm y)(h0 : ¬ (y<0))(h42:fr.length=42)(h2:nth fr 2 = .ptr 0 0)(h3:nth fr 3 = .ptr 1 0)(h4:nth fr 4 = .ptr 2 0) :
  ∃ fr' wr',ae (CC L9) run k oa ⟨fr,[bW x,bW y,zR4],wr⟩=some (.normal,⟨fr',[bW x,bW y,zR4],wr'⟩)∧fr'.length=42∧nth fr' 2 = .ptr 0 0∧nth fr' 3 = .ptr 1 0∧nth fr' 4 = .ptr 2 0:=by
 have hc1:=fun dr hp=>qu run dr hp y hy
 have hs : ¬ (y.sign<0):=by
  intro h
  have:=Int.sign_neg_iff.1 h
  omega
 generalize y.sign=sg at *
 simp only[whW,Ab.bN] at hc1 ⊢
 simp[oa,fX,f104,and_assoc,hc1,hs,h42,h2,h3,h4]
theorem UL (run:aw)(k:Nat)(fr:Ψ)(wr:Ω)(x y:Int)(hx:Sm x)(hy:Sm y)(h0:y<0)(h42:fr.length=42)(h2:nth fr 2 = .ptr 0 0)(h3:nth fr 3 = .ptr 1 0)(h4:nth fr 4 = .ptr 2 0) :
  ∃ fr' wr',ae (CC L9) run k oa ⟨fr,[bW x,bW y,zR4],wr⟩=some (.normal,⟨fr',[bW (-x),bW (-y),zR4],wr'⟩)∧fr'.length=42∧nth fr' 2 = .ptr 0 0∧nth fr' 3 = .ptr 1 0∧nth fr' 4 = .ptr 2 0:=by
 have hc1:=fun dr hp=>qu run dr hp y hy
 have hc2:=fun dr hp=>Bj run dr hp x hx
 have hc3:=fun dr hp=>Bj run dr hp y hy
 have hs:y.sign<0:=Int.sign_neg_iff.2 h0
 generalize y.sign=sg at *
 have hb1:=abE
 have hb2:=abD
 simp only[oa,fX,f104,seq1,aQ,ai,ly,Option.getD_some] at hb1 hb2
 simp only[bW,whW,Ab.bN] at hc1 hc2 hc3 ⊢
 generalize aJ (-x).natAbs=r1 at *
 generalize bz (-x)=n1 at *
 generalize aJ (-y).natAbs=r2 at *
 generalize bz (-y)=n2 at *
 simp[-Nat.testBit_zero,hb1,hb2,oa,fX,f104,and_assoc,bZ,hc1,hc2,hc3,hs,h42,h2,h3,h4,number,FP.free,cw,FP.apart]
def IE:Code:=seq1 (ai 2 fX)
def mL:Code:=seq1 (ai 3 fX)
theorem uG:ai 2 fX = .seq IE (ai 3 fX):=rfl
theorem uF:ai 3 fX = .seq mL (ai 4 fX):=rfl
theorem abC (run:aw)(k:Nat)(fr:Ψ)(wr:Ω)(x y:Int)(hx:Sm x)(hy:Sm y)(h42:fr.length=42)(h2:nth fr 2 = .ptr 0 0)(h3:nth fr 3 = .ptr 1 0)(h4:nth fr 4 = .ptr 2 0) :
  ∃ fr' wr',ae (CC L9) run k IE ⟨fr,[bW x,bW y,zR4],wr⟩=some (.normal,⟨fr',[bW x,bW y,zR4,bW (Int.ofNat (Nat.gcd x.natAbs y.natAbs))],wr'⟩)∧fr'.length=42∧nth fr' 2 = .ptr 0 0∧nth fr' 3 = .ptr 1 0∧nth fr' 4 = .ptr 2 0∧nth fr' 5 = .ptr 3 0:=by
 have hc1:=fun dr hp=>QD run dr hp x y hx hy
 generalize Int.ofNat (Nat.gcd x.natAbs y.natAbs)=g at *
 simp only[bW,whW] at hc1 ⊢
 generalize aJ g.natAbs=rg at *
 generalize bz g=ng at *
 simp[IE,fX,f104,and_assoc,bZ,hc1,h42,h2,h3,h4,zW,aO]
theorem UK (run:aw)(k:Nat)(fr:Ψ)(wr:Ω)(b0 b1 b2:Blk)(h42:fr.length=42)(h2:nth fr 2 = .ptr 0 0)(h3:nth fr 3 = .ptr 1 0)(h4:nth fr 4 = .ptr 2 0)(h5:nth fr 5 = .ptr 3 0) :
  ∃ fr' wr',ae (CC L9) run k mL ⟨fr,[b0,b1,b2,bW 1],wr⟩=some (.normal,⟨fr',[b0,b1,b2,bW 1],wr'⟩)∧fr'.length=42∧nth fr' 2 = .ptr 0 0∧nth fr' 3 = .ptr 1 0∧nth fr' 4 = .ptr 2 0:=by
 have e:aP (aJ (1:Int).natAbs) = .imm 1 false [dg 1]:=rfl
 have hd:dg 1 = .sc (.int .u32 1):=rfl
 simp only[bW,e,hd]
 simp[mL,fX,f104,bL,bd,bM,j9,and_assoc,cP,h42,h2,h3,h4,h5,uW,uD,sD,s32,aD,a32,wf0,wf1]
set_option maxHeartbeats 1000000 in
theorem UJ (run:aw)(k:Nat)(fr:Ψ)(wr:Ω)(b2:Blk)(x y:Int)(g:Nat)(hx:Sm x)(hy:Sm y)(hg:1<g)(hg2:g<1000000000)(h42:fr.length=42)(h2:nth fr 2 = .ptr 0 0)(h3:nth fr 3 = .ptr 1 0)(h4:nth fr 4 = .ptr 2 0)(h5:nth fr 5 = .ptr 3 0) :
  ∃ fr' wr',ae (CC L9) run k mL ⟨fr,[bW x,bW y,b2,bW (Int.ofNat g)],wr⟩=some (.normal,⟨fr',[bW (m8 x (Int.ofNat g)),bW (m8 y (Int.ofNat g)),b2,bW (Int.ofNat g)],wr'⟩)∧fr'.length=42∧nth fr' 2 = .ptr 0 0∧nth fr' 3 = .ptr 1 0∧nth fr' 4 = .ptr 2 0:=by
 have hSg:Sm (Int.ofNat g):=by
  unfold Sm
  rw[show (Int.ofNat g).natAbs=g from rfl,oy (by omega) hg2];simp
 have hc1:=fun dr hp=>pC run dr hp x (Int.ofNat g) hx hSg (show g≠0 by omega)
 have hc2:=fun dr hp=>pC run dr hp y (Int.ofNat g) hy hSg (show g≠0 by omega)
 generalize m8 x (Int.ofNat g)=qx at *
 generalize m8 y (Int.ofNat g)=qy at *
 generalize Ct x (Int.ofNat g)=mx at *
 generalize Ct y (Int.ofNat g)=my at *
 have e:br (Int.ofNat g) = .agg [.sc (.bool false),.imm 1 false [dg g]]:=by
  show wh false (aJ g)=_
  rw[oy (by omega) hg2];rfl
 have eb:bW (Int.ofNat g)=⟨.live,[.sc (.bool false),.imm 1 false [dg g]]⟩:=by
  show (⟨.live,[.sc (.bool false),aP (aJ g)]⟩:Blk)=_
  rw[oy (by omega) hg2];rfl
 have hd:dg g = .sc (.int .u32 (g:Int)):=rfl
 rw[e,hd] at hc1 hc2
 rw[eb,hd]
 simp only[bW,whW] at hc1 hc2 ⊢
 generalize aJ qx.natAbs=rx at *
 generalize bz qx=nx at *
 generalize aJ qy.natAbs=ry at *
 generalize bz qy=ny at *
 have hg3:(1:Int)<(g:Int):=by omega
 simp[mL,fX,f104,bL,bd,bM,j9,and_assoc,cP,bZ,hc1,hc2,hg3,h42,h2,h3,h4,h5,uW,uD,sD,s32,aD,a32,wf0,wf1]
set_option maxHeartbeats 1000000 in
theorem UI (run:aw)(k:Nat)(fr:Ψ)(wr:Ω)(b2:Blk)(x y:Int)(g:Nat)(hx:Sm x)(hy:Sm y)(hSg:Sm (Int.ofNat g))(hg:1000000000≤g)(h42:fr.length=42)(h2:nth fr 2 = .ptr 0 0)(h3:nth fr 3 = .ptr 1 0)(h4:nth fr 4 = .ptr 2 0)(h5:nth fr 5 = .ptr 3 0) :
  ∃ fr' wr',ae (CC L9) run k mL ⟨fr,[bW x,bW y,b2,bW (Int.ofNat g)],wr⟩=some (.normal,⟨fr',[bW (m8 x (Int.ofNat g)),bW (m8 y (Int.ofNat g)),b2,bW (Int.ofNat g)],wr'⟩)∧fr'.length=42∧nth fr' 2 = .ptr 0 0∧nth fr' 3 = .ptr 1 0∧nth fr' 4 = .ptr 2 0:=by
 have hc1:=fun dr hp=>pC run dr hp x (Int.ofNat g) hx hSg (show g≠0 by omega)
 have hc2:=fun dr hp=>pC run dr hp y (Int.ofNat g) hy hSg (show g≠0 by omega)
 generalize m8 x (Int.ofNat g)=qx at *
 generalize m8 y (Int.ofNat g)=qy at *
 generalize Ct x (Int.ofNat g)=mx at *
 generalize Ct y (Int.ofNat g)=my at *
 have hl:=rS hg
 have e:br (Int.ofNat g) = .agg [.sc (.bool false),aP (aJ g)]:=rfl
 have eb:bW (Int.ofNat g)=⟨.live,[.sc (.bool false),aP (aJ g)]⟩:=rfl
 rw[e] at hc1 hc2
 rw[eb]
 simp only[bW,whW] at hc1 hc2 ⊢
 generalize aJ qx.natAbs=rx at *
 generalize bz qx=nx at *
 generalize aJ qy.natAbs=ry at *
 generalize bz qy=ny at *
 generalize aJ g=dl at *
 have hl1:(1:Int)<(dl.length:Int):=by omega
 simp[mL,fX,f104,bL,bM,and_assoc,cm,bZ,hc1,hc2,hl1,h42,h2,h3,h4,h5,uW,uD,sD,aD,wf0,wf1]
theorem AD (run:aw)(k:Nat)(fr:Ψ)(wr:Ω)(b3:Blk)(x y:Int)(h42:fr.length=42)(h2:nth fr 2 = .ptr 0 0)(h3:nth fr 3 = .ptr 1 0)(h4:nth fr 4 = .ptr 2 0) :
  ∃ st,ae (CC L9) run k (ai 4 fX) ⟨fr,[bW x,bW y,zR4,b3],wr⟩=some (.ret,st)∧aX TT st.fr st.hp f104.results.toList=some [cf x y]:=by
 simp only[bW,cf]
 generalize aJ x.natAbs=rx at *
 generalize bz x=nx at *
 generalize aJ y.natAbs=ry at *
 generalize bz y=ny at *
 simp[fX,f104,bZ,h42,h2,h3,h4,uR,sR,aR,zR,rf0,rf1,eK,dH,kr]
def kY (x y:Int):Int:=sgn (bz (bif bz y then -x else x)) (x.natAbs / Nat.gcd x.natAbs y.natAbs)
def kZ (x y:Int):Int:=Int.ofNat (y.natAbs / Nat.gcd x.natAbs y.natAbs)
theorem yp (x:Int)(g:Nat)(h:x.natAbs % g=0):m8 x (Int.ofNat g)=sgn (bz x) (x.natAbs / g):=by
 have h1:yq x (Int.ofNat g)=false:=by
  unfold yq
  rw[show (Int.ofNat g).natAbs=g from rfl,h]
  rfl
 rw[m8,h1,cond_false]
 show sgn (bz x != false) (x.natAbs / g)=_
 simp
def pK:Ψ→Option Ψ
 | [p,q]=>match fQ p,fQ q with
  | some x,some y=>bif !(y.natAbs.beq 0) then some [cf (kY x y) (kZ x y)] else none
  | _,_=>none
 | _=>none
theorem AA (run:aw)(k:Nat)(fr:Ψ)(wr:Ω)(x y:Int)(hx:Sm x)(hy:Sm y)(hy0:0<y)
  (h42:fr.length=42) (h2:nth fr 2 = .ptr 0 0) (h3:nth fr 3 = .ptr 1 0) (h4:nth fr 4 = .ptr 2 0) :
  ∃ st,ae (CC L9) run k (ai 2 fX) ⟨fr,[bW x,bW y,zR4],wr⟩=some (.ret,st)∧aX TT st.fr st.hp f104.results.toList=some [cf (sgn (bz x) (x.natAbs / Nat.gcd x.natAbs y.natAbs)) (Int.ofNat (y.natAbs / Nat.gcd x.natAbs y.natAbs))]:=by
 obtain⟨f1,wr1,a1,a2,a3,a4,a5,a6⟩:=abC run k fr wr x y hx hy h42 h2 h3 h4
 have hgp:0<Nat.gcd x.natAbs y.natAbs:=Nat.gcd_pos_of_pos_right _ (by omega)
 have hny:bz y=false:=by rw[cL];simp;omega
 have hyn:Int.ofNat y.natAbs=y:=by simp;omega
 by_cases h1:Nat.gcd x.natAbs y.natAbs=1
 ·rw[h1] at a1 ⊢
  obtain⟨f2,wr2,b1,b2,b3,b4,b5⟩:=UK run k f1 wr1 (bW x) (bW y) zR4 a2 a3 a4 a5 a6
  obtain⟨st,e1,e2⟩:=AD run k f2 wr2 (bW 1) x y b2 b3 b4 b5
  refine⟨st,?_,?_⟩
  ·rw[uG,ar a1,uF]
   show ae (CC L9) run k (.seq mL (ai 4 fX)) ⟨f1,[bW x,bW y,zR4,bW 1],wr1⟩=_
   rw[ar b1]
   exact e1
  ·rw[e2,Nat.div_one,Nat.div_one,afv,hyn]
 ·obtain⟨f2,wr2,b1,b2,b3,b4,b5⟩:∃ fr' wr',ae (CC L9) run k mL ⟨f1,[bW x,bW y,zR4,bW (Int.ofNat (Nat.gcd x.natAbs y.natAbs))],wr1⟩=some (.normal,⟨fr',[bW (m8 x (Int.ofNat (Nat.gcd x.natAbs y.natAbs))),bW (m8 y (Int.ofNat (Nat.gcd x.natAbs y.natAbs))),zR4,bW (Int.ofNat (Nat.gcd x.natAbs y.natAbs))],wr'⟩)∧fr'.length=42∧nth fr' 2 = .ptr 0 0∧nth fr' 3 = .ptr 1 0∧nth fr' 4 = .ptr 2 0:=by
   by_cases hg2:Nat.gcd x.natAbs y.natAbs<1000000000
   ·exact UJ run k f1 wr1 zR4 x y (Nat.gcd x.natAbs y.natAbs) hx hy (by omega) hg2 a2 a3 a4 a5 a6
   ·exact UI run k f1 wr1 zR4 x y (Nat.gcd x.natAbs y.natAbs) hx hy (hy.of_le (Nat.gcd_le_right _ (by omega))) (by omega) a2 a3 a4 a5 a6
  obtain⟨st,e1,e2⟩:=AD run k f2 wr2 (bW (Int.ofNat (Nat.gcd x.natAbs y.natAbs))) (m8 x (Int.ofNat (Nat.gcd x.natAbs y.natAbs))) (m8 y (Int.ofNat (Nat.gcd x.natAbs y.natAbs))) b2 b3 b4 b5
  refine⟨st,?_,?_⟩
  ·rw[uG,ar a1,uF,ar b1]
   exact e1
  ·rw[e2,yp x _ (Nat.mod_eq_zero_of_dvd (Nat.gcd_dvd_left _ _)),yp y _ (Nat.mod_eq_zero_of_dvd (Nat.gcd_dvd_right _ _)),hny]
   rfl
theorem OP (run:aw)(k:Nat)(x y:Int)(hx:Sm x)(hy:Sm y)(hy0:y.natAbs≠0) :
  ∃ st,ae (CC L9) run k fX ⟨entry 42 [br x,br y],[],[]⟩=some (.ret,st)∧aX TT st.fr st.hp f104.results.toList=some [cf (kY x y) (kZ x y)]:=by
 obtain⟨f1,wr1,a1,a2,a3,a4,a5⟩:=UN run k x y
 by_cases h0:y<0
 ·have hny:bz y=true:=by rw[cL];simpa using h0
  obtain⟨f2,wr2,b1,b2,b3,b4,b5⟩:=UL run k f1 wr1 x y hx hy h0 a2 a3 a4 a5
  obtain⟨st,e1,e2⟩:=AA run k f2 wr2 (-x) (-y) hx.neg hy.neg (by omega) b2 b3 b4 b5
  refine⟨st,?_,?_⟩
  ·rw[aY 1 a1,xE,ar b1];exact e1
  ·rw[e2,Int.natAbs_neg,Int.natAbs_neg,kY,kZ,hny];rfl
 ·have hny:bz y=false:=by rw[cL];simpa using h0
  obtain⟨f2,wr2,b1,b2,b3,b4,b5⟩:=UM run k f1 wr1 x y hy h0 a2 a3 a4 a5
  obtain⟨st,e1,e2⟩:=AA run k f2 wr2 x y hx hy (by omega) b2 b3 b4 b5
  refine⟨st,?_,?_⟩
  ·rw[aY 1 a1,xE,ar b1];exact e1
  ·rw[e2,kY,kZ,hny];rfl
theorem pe:Ab.Spec base.P 104 pK:=Ab.Spec.bS (C:=CC L9) (cR ae0) fun args rs h=>by
 unfold pK at h
 split at h
 ·split at h
  ·rename_i x y ex ey
   obtain⟨rfl,hx⟩:=dY ex
   obtain⟨rfl,hy⟩:=dY ey
   by_cases hy0:y.natAbs=0
   ·rw[hy0] at h;simp at h
   ·rw[kJ hy0] at h
    simp only[Bool.not_false,cond_true,OiE] at h
    subst h
    obtain⟨st,e1,e2⟩:=OP (runK (CC L9) 1) 1 x y hx hy hy0
    exact⟨2,_,_,_,_,_,ba Rl rfl e1 e2,uJ _ _ _,Wk.refl rfl,trivial⟩
  ·cases h
 ·cases h
theorem Rj:base.F.get 129=some f129:=by kernel_rfl
theorem KH:base.F.get 49=some f49:=by kernel_rfl
def az (L:Lst)(run:aw)(g:Nat)(args:Ψ)(r:PV):Prop:=∀ dr hp,bP (CC L) run dr hp g args=some (r,hp,⟨[],[],false,false⟩)
theorem fH (n d:Int):cf n d = .agg [.sc (.bool (bz n)),aP (aJ n.natAbs),.sc (.bool (bz d)),aP (aJ d.natAbs)]:=rfl
set_option maxHeartbeats 1000000 in
theorem N2 (L:Lst)(run:aw)(k:Nat)(a b c d e1 e2 p q s t n m:Int)(g1:az L run 95 [cf c d] (br e2))(g2:az L run 95 [cf a b] (br e1))
  (g3:az L run 105 [br a,br e2] (br p)) (g4:az L run 105 [br c,br e1] (br q)) (g5:az L run 139 [br p,br q] (br s)) (g6:az L run 105 [br e1,br e2] (br t)) (g7:az L run 104 [br s,br t] (cf n m)) :
  ∃ st,ae (CC L) run k (f87.body.getD .skip) ⟨entry 22 [cf a b,cf c d],[],[]⟩=some (.ret,st)∧aX TT st.fr st.hp f87.results.toList=some [cf n m]:=by
 obtain⟨h1,h2,h3⟩:=cl 20 (cf a b) (cf c d)
 generalize entry 22 [cf a b,cf c d]=fr0 at *
 unfold az at *
 simp only[whW,fH] at *
 simp[f87,h1,h2,h3,bM,bZ,g1,g2,g3,g4,g5,g6,g7,uR,sR,aR,zR,rf0,rf1,aO,number,FP.free,cw,FP.apart]
set_option maxHeartbeats 1000000 in
theorem NQ (L:Lst)(run:aw)(k:Nat)(a b c d e1 e2 p t n m:Int)(g1:az L run 95 [cf c d] (br e2))(g2:az L run 95 [cf a b] (br e1))
  (g3:az L run 105 [br a,br c] (br p)) (g6:az L run 105 [br e1,br e2] (br t)) (g7:az L run 104 [br p,br t] (cf n m)) :
  ∃ st,ae (CC L) run k (f56.body.getD .skip) ⟨entry 16 [cf a b,cf c d],[],[]⟩=some (.ret,st)∧aX TT st.fr st.hp f56.results.toList=some [cf n m]:=by
 obtain⟨h1,h2,h3⟩:=cl 14 (cf a b) (cf c d)
 generalize entry 16 [cf a b,cf c d]=fr0 at *
 unfold az at *
 simp only[whW,fH] at *
 simp[f56,h1,h2,h3,bM,bZ,g1,g2,g3,g6,g7,uR,sR,aR,zR,rf0,rf1,aO,number,FP.free,cw,FP.apart]
set_option maxHeartbeats 1000000 in
theorem N1 (L:Lst)(run:aw)(k:Nat)(a b c d e1 e2 p q r:Int)(g1:az L run 95 [cf c d] (br e2))(g2:az L run 95 [cf a b] (br e1))
  (g3:az L run 105 [br a,br e2] (br p)) (g4:az L run 105 [br c,br e1] (br q)) (g5:az L run 96 [br p,br q] (Ab.bN r)) :
  ∃ st,ae (CC L) run k (f129.body.getD .skip) ⟨entry 16 [cf a b,cf c d],[],[]⟩=some (.ret,st)∧aX TT st.fr st.hp f129.results.toList=some [Ab.bN r]:=by
 obtain⟨h1,h2,h3⟩:=cl 14 (cf a b) (cf c d)
 generalize entry 16 [cf a b,cf c d]=fr0 at *
 unfold az at *
 simp only[whW,fH,Ab.bN] at *
 simp[f129,h1,h2,h3,bM,g1,g2,g3,g4,g5,uR,sR,aR,rf0,rf1,aO,number,FP.free,cw,FP.apart]
theorem NP (L:Lst)(run:aw)(k:Nat)(a b c:Int)(g1:az L run 149 [br a] (br c)) :
  ∃ st,ae (CC L) run k (f106.body.getD .skip) ⟨entry 9 [cf a b],[],[]⟩=some (.ret,st)∧aX TT st.fr st.hp f106.results.toList=some [cf c b]:=by
 obtain⟨h1,h2⟩:=cO 8 (cf a b)
 generalize entry 9 [cf a b]=fr0 at *
 unfold az at *
 simp only[whW,fH] at *
 simp[f106,h1,h2,bM,bZ,g1,uR,sR,aR,zR,rf0,rf1,eK,dH,kr,aO,number,FP.free,cw,FP.apart]
theorem Ht (L:Lst)(run:aw)(k:Nat)(a b c:Int)(g1:az L run 101 [br a] (Ab.bN c)) :
  ∃ st,ae (CC L) run k (f49.body.getD .skip) ⟨entry 6 [cf a b],[],[]⟩=some (.ret,st)∧aX TT st.fr st.hp f49.results.toList=some [Ab.bN c]:=by
 obtain⟨h1,h2⟩:=cO 5 (cf a b)
 generalize entry 6 [cf a b]=fr0 at *
 unfold az at *
 simp only[whW,fH,Ab.bN] at *
 simp[f49,h1,h2,bM,g1,uR,rf0,rf1,aO]
theorem NM (L:Lst)(run:aw)(k:Nat)(a b c d e f n m:Int)(g1:az L run 106 [cf c d] (cf e f))(g2:az L run 87 [cf a b,cf e f] (cf n m)) :
  ∃ st,ae (CC L) run k (f55.body.getD .skip) ⟨entry 9 [cf a b,cf c d],[],[]⟩=some (.ret,st)∧aX TT st.fr st.hp f55.results.toList=some [cf n m]:=by
 obtain⟨h1,h2,h3⟩:=cl 7 (cf a b) (cf c d)
 generalize entry 9 [cf a b,cf c d]=fr0 at *
 unfold az at *
 simp only[fH] at *
 simp[f55,h1,h2,h3,bZ,g1,g2,sR,aR,zR,aO,number,FP.free,cw,FP.apart]
def L10:Lst:=[(95,zi),(105,EY),(139,tE),(104,pK),(149,tj),(101,jC),(96,sa)]
theorem yM:dE base.P L10:=⟨rV,rD,oI,pe,oe,kf,oC,trivial⟩
theorem acj:bx L10 95=fun a=>zi (aK a):=rfl
theorem aci:bx L10 105=fun a=>EY (aK a):=rfl
theorem acm:bx L10 139=fun a=>tE (aK a):=rfl
theorem Vw:bx L10 104=fun a=>pK (aK a):=rfl
theorem ach:bx L10 149=fun a=>tj (aK a):=rfl
theorem Vv:bx L10 101=fun a=>jC (aK a):=rfl
theorem ack:bx L10 96=fun a=>sa (aK a):=rfl
theorem yB (n d:Int):aK [cf n d]=[cf n d]:=by simp only[aK,Cz]
theorem pn (run:aw)(n d:Int)(hn:Sm n)(hd:Sm d):az L10 run 95 [cf n d] (br (dB d)):=fun dr hp =>
 bt SI acj run dr hp _ [br (dB d)] (uJ hp n d) (yB n d) (by simp only[zi,gZ hn hd])
theorem mW (run:aw)(x y:Int)(hx:Sm x)(hy:Sm y):az L10 run 105 [br x,br y] (br (x*y)):=fun dr hp =>
 bt aft aci run dr hp _ [br (x*y)] (gI hp x y) (ft x y) (by simp only[EY,cK hx,cK hy])
theorem adv (run:aw)(x y:Int)(hx:Sm x)(hy:Sm y):az L10 run 139 [br x,br y] (br (x+y)):=fun dr hp =>
 bt Ho acm run dr hp _ [br (x+y)] (gI hp x y) (ft x y) (by simp only[tE,cK hx,cK hy])
theorem adu (run:aw)(x y:Int)(hx:Sm x)(hy:Sm y):az L10 run 96 [br x,br y] (Ab.bN (fI x y)):=fun dr hp =>
 bt Hn ack run dr hp _ [Ab.bN (fI x y)] (gI hp x y) (ft x y) (by simp only[sa,cK hx,cK hy])
theorem adt (run:aw)(x:Int)(hx:Sm x):az L10 run 149 [br x] (br (-x)):=fun dr hp =>
 bt Hl ach run dr hp _ [br (-x)] (nk hp x) (j6 x) (by simp only[tj,cK hx])
theorem WU (run:aw)(x:Int)(hx:Sm x):az L10 run 101 [br x] (Ab.bN x.sign):=fun dr hp =>
 bt vw Vv run dr hp _ [Ab.bN x.sign] (nk hp x) (j6 x) (by simp only[jC,cK hx])
def rm (_ y:Int):Bool := !(y.natAbs.beq 0)
theorem Fz (run:aw)(x y:Int)(hx:Sm x)(hy:Sm y)(h:rm x y=true):az L10 run 104 [br x,br y] (cf (kY x y) (kZ x y)):=fun dr hp =>
 bt Li Vw run dr hp _ [cf (kY x y) (kZ x y)] (gI hp x y) (ft x y) (by
  unfold rm at h
  simp only[pK,cK hx,cK hy,h,cond_true])
def smB (x:Int):Bool:=x.natAbs.log2.blt 11000000
theorem jk {x:Int}(h:smB x=true):Sm x:=acH (by simpa [smB,Nat.blt_eq] using h)
theorem CJ:Sm 1:=by unfold Sm;decide
theorem oJ {d:Int}(h:Sm d):Sm (dB d):=by
 unfold dB
 by_cases h0:d=0
 ·rw[if_pos h0];exact CJ
 ·rw[if_neg h0];exact h
def je:Ψ→Option Ψ
 | [p,q]=>match gL p,gL q with
  | some (a,b),some (c,d)=>bif smB (a*dB d) && (smB (c*dB b) && (smB (a*dB d+c*dB b) && (smB (dB b*dB d) && rm (a*dB d+c*dB b) (dB b*dB d)))) then
    some [cf (kY (a*dB d+c*dB b) (dB b*dB d)) (kZ (a*dB d+c*dB b) (dB b*dB d))] else none
  | _,_=>none
 | _=>none
theorem oZ:Ab.Spec base.P 87 je:=Ab.Spec.bS (C:=CC L10) (cR yM) fun args rs h=>by
 unfold je at h
 split at h
 ·split at h
  ·rename_i a b c d ex ey
   obtain⟨rfl,ha,hb⟩:=eg ex
   obtain⟨rfl,hc,hd⟩:=eg ey
   cases hg:smB (a*dB d) && (smB (c*dB b) && (smB (a*dB d+c*dB b) && (smB (dB b*dB d) && rm (a*dB d+c*dB b) (dB b*dB d)))) with
   | false=>rw[hg] at h;cases h
   | true =>
    rw[hg] at h
    simp only[cond_true,OiE] at h
    subst h
    simp only[Bool.and_eq_true] at hg
    obtain⟨h1,h2,h3,h4,h5⟩:=hg
    obtain⟨st,e1,e2⟩:=N2 L10 (runK (CC L10) 1) 1 a b c d _ _ _ _ _ _ _ _ (pn _ c d hc hd) (pn _ a b ha hb) (mW _ _ _ ha (oJ hd)) (mW _ _ _ hc (oJ hb)) (adv _ _ _ (jk h1) (jk h2)) (mW _ _ _ (oJ hb) (oJ hd)) (Fz _ _ _ (jk h3) (jk h4) h5)
    exact⟨2,_,_,_,_,_,ba Rk rfl e1 e2,uJ _ _ _,Wk.refl rfl,trivial⟩
  ·cases h
 ·cases h
def kR:Ψ→Option Ψ
 | [p,q]=>match gL p,gL q with
  | some (a,b),some (c,d)=>bif smB (a*c) && (smB (dB b*dB d) && rm (a*c) (dB b*dB d)) then
    some [cf (kY (a*c) (dB b*dB d)) (kZ (a*c) (dB b*dB d))] else none
  | _,_=>none
 | _=>none
theorem oY:Ab.Spec base.P 56 kR:=Ab.Spec.bS (C:=CC L10) (cR yM) fun args rs h=>by
 unfold kR at h
 split at h
 ·split at h
  ·rename_i a b c d ex ey
   obtain⟨rfl,ha,hb⟩:=eg ex
   obtain⟨rfl,hc,hd⟩:=eg ey
   cases hg:smB (a*c) && (smB (dB b*dB d) && rm (a*c) (dB b*dB d)) with
   | false=>rw[hg] at h;cases h
   | true =>
    rw[hg] at h
    simp only[cond_true,OiE] at h
    subst h
    simp only[Bool.and_eq_true] at hg
    obtain⟨h1,h4,h5⟩:=hg
    obtain⟨st,e1,e2⟩:=NQ L10 (runK (CC L10) 1) 1 a b c d _ _ _ _ _ _ (pn _ c d hc hd) (pn _ a b ha hb) (mW _ _ _ ha hc) (mW _ _ _ (oJ hb) (oJ hd)) (Fz _ _ _ (jk h1) (jk h4) h5)
    exact⟨2,_,_,_,_,_,ba Ri rfl e1 e2,uJ _ _ _,Wk.refl rfl,trivial⟩
  ·cases h
 ·cases h
def lU:Ψ→Option Ψ
 | [p,q]=>match gL p,gL q with
  | some (a,b),some (c,d)=>bif smB (a*dB d) && smB (c*dB b) then some [Ab.bN (fI (a*dB d) (c*dB b))] else none
  | _,_=>none
 | _=>none
theorem ki:Ab.Spec base.P 129 lU:=Ab.Spec.bS (C:=CC L10) (cR yM) fun args rs h=>by
 unfold lU at h
 split at h
 ·split at h
  ·rename_i a b c d ex ey
   obtain⟨rfl,ha,hb⟩:=eg ex
   obtain⟨rfl,hc,hd⟩:=eg ey
   cases hg:smB (a*dB d) && smB (c*dB b) with
   | false=>rw[hg] at h;cases h
   | true =>
    rw[hg] at h
    simp only[cond_true,OiE] at h
    subst h
    simp only[Bool.and_eq_true] at hg
    obtain⟨h1,h2⟩:=hg
    obtain⟨st,e1,e2⟩:=N1 L10 (runK (CC L10) 1) 1 a b c d _ _ _ _ _ (pn _ c d hc hd) (pn _ a b ha hb) (mW _ _ _ ha (oJ hd)) (mW _ _ _ hc (oJ hb)) (adu _ _ _ (jk h1) (jk h2))
    exact⟨2,_,_,_,_,_,ba Rj rfl e1 e2,eD _ _,Wk.refl rfl,trivial⟩
  ·cases h
 ·cases h
def kp:Ψ→Option Ψ
 | [p]=>match gL p with
  | some (a,b)=>some [cf (-a) b]
  | none=>none
 | _=>none
theorem oX:Ab.Spec base.P 106 kp:=Ab.Spec.bS (C:=CC L10) (cR yM) fun args rs h=>by
 unfold kp at h
 split at h
 ·split at h
  ·rename_i a b ex
   obtain⟨rfl,ha,hb⟩:=eg ex
   simp only[OiE] at h
   subst h
   obtain⟨st,e1,e2⟩:=NP L10 (runK (CC L10) 1) 1 a b _ (adt _ a ha)
   exact⟨2,_,_,_,_,_,ba Q9 rfl e1 e2,uJ _ _ _,Wk.refl rfl,trivial⟩
  ·cases h
 ·cases h
def jS:Ψ→Option Ψ
 | [p]=>match gL p with
  | some (a,_)=>some [Ab.bN a.sign]
  | none=>none
 | _=>none
theorem mv:Ab.Spec base.P 49 jS:=Ab.Spec.bS (C:=CC L10) (cR yM) fun args rs h=>by
 unfold jS at h
 split at h
 ·split at h
  ·rename_i a b ex
   obtain⟨rfl,ha,hb⟩:=eg ex
   simp only[OiE] at h
   subst h
   obtain⟨st,e1,e2⟩:=Ht L10 (runK (CC L10) 1) 1 a b _ (WU _ a ha)
   exact⟨2,_,_,_,_,_,ba KH rfl e1 e2,eD _ _,Wk.refl rfl,trivial⟩
  ·cases h
 ·cases h
def L11:Lst:=[(87,je),(106,kp)]
theorem ain:dE base.P L11:=⟨oZ,oX,trivial⟩
theorem acg:bx L11 87=fun a=>je (aK a):=rfl
theorem acf:bx L11 106=fun a=>kp (aK a):=rfl
theorem aeo (hp:Θ)(a b c d:Int):bw (snap hp bq) [cf a b,cf c d]=some ([cf a b,cf c d],[]):=rfl
theorem Yy (a b c d:Int):aK [cf a b,cf c d]=[cf a b,cf c d]:=by simp only[aK,Cz]
theorem adr (run:aw)(n d:Int)(hn:Sm n)(hd:Sm d):az L11 run 106 [cf n d] (cf (-n) d):=fun dr hp =>
 bt Lf acf run dr hp _ [cf (-n) d] (uJ hp n d) (yB n d) (by simp only[kp,gZ hn hd])
theorem ads (run:aw)(a b c d n m:Int)(h:je [cf a b,cf c d]=some [cf n m]):az L11 run 87 [cf a b,cf c d] (cf n m):=fun dr hp =>
 bt Lh acg run dr hp _ [cf n m] (aeo hp a b c d) (Yy a b c d) h
def tU:Ψ→Option Ψ
 | [p,q]=>match gL q with
  | some (c,d)=>je [p,cf (-c) d]
  | _=>none
 | _=>none
theorem N3 {p q:PV}{rs:Ψ}(h:je [p,q]=some rs):∃ a b n m,p=cf a b∧rs=[cf n m]:=by
 simp only[je] at h
 split at h
 ·rename_i a b c d ex ey
  obtain⟨rfl,-,-⟩:=eg ex
  cases hg:smB (a*dB d) && (smB (c*dB b) && (smB (a*dB d+c*dB b) && (smB (dB b*dB d) && rm (a*dB d+c*dB b) (dB b*dB d)))) with
  | false=>rw[hg] at h;cases h
  | true =>
   rw[hg] at h
   simp only[cond_true,OiE] at h
   exact⟨a,b,_,_,rfl,h.symm⟩
 ·cases h
theorem sQ:Ab.Spec base.P 55 tU:=Ab.Spec.bS (C:=CC L11) (cR ain) fun args rs h=>by
 unfold tU at h
 split at h
 ·split at h
  ·rename_i p q c d ey
   obtain⟨rfl,hc,hd⟩:=eg ey
   obtain⟨a,b,n,m,rfl,rfl⟩:=N3 h
   obtain⟨st,e1,e2⟩:=NM L11 (runK (CC L11) 1) 1 a b c d _ _ n m (adr _ c d hc hd) (ads _ a b (-c) d n m h)
   exact⟨2,_,_,_,_,_,ba Q8 rfl e1 e2,uJ _ _ _,Wk.refl rfl,trivial⟩
  ·cases h
 ·cases h
theorem ZD:base.F.get 153=some f153:=by kernel_rfl
theorem Ru:base.F.get 169=some f169:=by kernel_rfl
theorem GD:base.F.get 183=some f183:=by kernel_rfl
theorem np:base.F.get 108=some f108:=by kernel_rfl
theorem afu:base.shared 153=false:=by kernel_rfl
theorem aaw:base.shared 169=false:=by kernel_rfl
theorem NB:base.shared 183=false:=by kernel_rfl
theorem BJ:base.shared 191=false:=by kernel_rfl
abbrev gT:ByteArray:={ data:=#[47] }
theorem wj:bQ gT=[47]:=rfl
def idx (s:ByteArray):Int:=bif eqL [47] (bQ s) then 0 else Lib.indexByte (bQ s) 47
theorem Fe (L:Lst)(run:aw)(k:Nat)(s:ByteArray)(g1:az L run 191 [.sc (.string s),.sc (.int .u8 47)] (.sc (.int .i64 (Lib.indexByte (bQ s) 47)))) :
  ∃ st,ae (CC L) run k (f183.body.getD .skip) ⟨entry 143 [.sc (.string s),.sc (.string gT)],[],[]⟩=some (.ret,st)∧aX TT st.fr st.hp f183.results.toList=some [Ab.bN (idx s)]:=by
 obtain⟨h1,h2,h3⟩:=cl 141 (.sc (.string s)) (.sc (.string gT))
 generalize entry 143 [.sc (.string s),.sc (.string gT)]=fr0 at *
 unfold az at g1
 unfold idx
 have hix:im TT 9 (.sc (.string gT)) (.sc (.int .i64 0))=some (.sc (.int .u8 47)):=by
  simp[im,uS,j9,wj,EU]
 have hst:=wj
 generalize gT=sl at *
 generalize Lib.indexByte (bQ s) 47=i at *
 cases he:eqL [47] (bQ s) with
 | true=>simp[f183,h1,h2,h3,bL,uS,hst,fw,he,Ab.bN]
 | false=>simp[f183,h1,h2,h3,bL,uS,hst,fw,he,g1,hix,Ab.bN]
def vG:Ψ→Option Ψ
 | [.sc (.string s),.sc (.string p)]=>bif eqL (bQ p) [47] then some [Ab.bN (idx s)] else none
 | _=>none
theorem tr:∀ {a b:List UInt8},eqL a b=true→a=b
 | [],[],_=>rfl
 | a::x,b::y,h=>by
  simp only[eqL,Bool.and_eq_true,beq_iff_eq] at h
  rw[tr h.2,UInt8.toNat_inj.1 h.1]
 | [],_::_,h=>by simp[eqL] at h
 | _::_,[],h=>by simp[eqL] at h
theorem wA {p:ByteArray}(h:eqL (bQ p) [47]=true):p=gT:=by
 have:=tr h
 rw[← gE p,this];rfl
def L12:Lst:=[(191,ibF)]
theorem g12 (run:aw)(s:ByteArray):az L12 run 191 [.sc (.string s),.sc (.int .u8 47)] (.sc (.int .i64 (Lib.indexByte (bQ s) 47))):=fun dr hp =>
 bt (L:=L12) (f:=ibF) BJ rfl run dr hp _ [.sc (.int .i64 (Lib.indexByte (bQ s) 47))] rfl rfl rfl
theorem Fc:Ab.Spec base.P 183 vG:=Ab.Spec.bS (C:=CC L12) (cR ⟨ac7,trivial⟩) fun args rs h=>by
 unfold vG at h
 split at h
 ·rename_i s p
  cases hb:eqL (bQ p) [47] with
  | false=>rw[hb] at h;cases h
  | true =>
   rw[hb] at h
   simp only[cond_true,OiE] at h
   subst h
   rw[wA hb]
   obtain⟨st,e1,e2⟩:=Fe L12 (runK (CC L12) 1) 1 s (g12 _ s)
   exact⟨2,_,_,_,_,_,ba GD rfl e1 e2,eD _ _,Wk.refl rfl,trivial⟩
 ·cases h
def nK (s:ByteArray):Ψ:=match idx s with
 | .ofNat i=>[.sc (.string (mkStr ((bQ s).take i))),.sc (.string (mkStr ((bQ s).drop (i+1)))),.sc (.bool true)]
 | .negSucc _=>[.sc (.string s),.sc (.string { data:=#[] }),.sc (.bool false)]
def mc (s:ByteArray):Bool:=match idx s with
 | .ofNat i=>(i+1).ble (bQ s).length && (bQ s).length.ble 1000000000
 | .negSucc _=>true
def lY:Code:=f169.body.getD .skip
def I9:Code:=seq1 (seq1 (ai 1 lY))
def tn:Code:=aQ (seq1 (ai 1 lY))
theorem xT:ai 1 lY = .seq (.seq I9 tn) (ai 2 lY):=rfl
theorem Ws (L:Lst)(run:aw)(k:Nat)(s sl:ByteArray):∃ fr,bh (CC L) run k 1 lY ⟨entry 23 [.sc (.string s),.sc (.string sl)],[],[]⟩=some ⟨fr,[],[]⟩∧fr.length=23∧nth fr 0 = .sc (.string s)∧nth fr 1 = .sc (.string sl):=by
 obtain⟨h1,h2,h3⟩:=cl 21 (.sc (.string s)) (.sc (.string sl))
 generalize entry 23 [.sc (.string s),.sc (.string sl)]=fr0 at *
 simp[lY,f169,bh,h1,h2,h3]
theorem acT (L:Lst)(run:aw)(k:Nat)(fr:Ψ)(s sl:ByteArray)(z:Int)(g1:az L run 183 [.sc (.string s),.sc (.string sl)] (Ab.bN z))(h1:fr.length=23)(h2:nth fr 0 = .sc (.string s))(h3:nth fr 1 = .sc (.string sl)) :
  ∃ fr',ae (CC L) run k I9 ⟨fr,[],[]⟩=some (.normal,⟨fr',[],[]⟩)∧fr'.length=23∧nth fr' 0 = .sc (.string s)∧nth fr' 1 = .sc (.string sl)∧nth fr' 7 = .sc (.int .i64 z):=by
 unfold az at g1
 simp only[Ab.bN] at g1
 simp[I9,lY,f169,h1,h2,h3,g1]
theorem Wr (L:Lst)(run:aw)(k:Nat)(fr:Ψ)(s sl a b:ByteArray)(z j:Int)(n:Nat)(hz : ¬ (z<0))(hj:bA .i64 (z+n)=j)(hn:(bQ sl).length=n)(hs1:dW s none (some (.sc (.int .i64 z))) none=some (.sc (.string a)))(hs2:dW s (some (.sc (.int .i64 j))) none none=some (.sc (.string b)))
  (h1:fr.length=23) (h2:nth fr 0 = .sc (.string s)) (h3:nth fr 1 = .sc (.string sl)) (h7:nth fr 7 = .sc (.int .i64 z)) :
  ∃ st,ae (CC L) run k tn ⟨fr,[],[]⟩=some (.ret,st)∧aX TT st.fr st.hp f169.results.toList=some [.sc (.string a),.sc (.string b),.sc (.bool true)]:=by
 have hz':0≤z:=by omega
 simp[tn,lY,f169,aQ,h1,h2,h3,h7,bL,uS,hz',hn,hj,dw,hs1,hs2,number,FP.free]
theorem Wq (L:Lst)(run:aw)(k:Nat)(fr:Ψ)(s sl:ByteArray)(z:Int)(hz:z<0)(h1:fr.length=23)(h2:nth fr 0 = .sc (.string s))(h3:nth fr 1 = .sc (.string sl))(h7:nth fr 7 = .sc (.int .i64 z)) :
  ∃ st fr',ae (CC L) run k tn ⟨fr,[],[]⟩=some (.normal,⟨fr',[],[]⟩)∧ae (CC L) run k (ai 2 lY) ⟨fr',[],[]⟩=some (.ret,st)∧aX TT st.fr st.hp f169.results.toList=some [.sc (.string s),.sc (.string { data:=#[] }),.sc (.bool false)]:=by
 have hz' : ¬ (0≤z):=by omega
 have e:∃ fr',ae (CC L) run k tn ⟨fr,[],[]⟩=some (.normal,⟨fr',[],[]⟩)∧fr'.length=23∧nth fr' 0 = .sc (.string s):=by
  simp[tn,lY,f169,aQ,h1,h2,h7,hz']
 obtain⟨fr',e1,e2,e3⟩:=e
 have e':∃ st,ae (CC L) run k (ai 2 lY) ⟨fr',[],[]⟩=some (.ret,st)∧aX TT st.fr st.hp f169.results.toList=some [.sc (.string s),.sc (.string { data:=#[] }),.sc (.bool false)]:=by
  simp[lY,f169,e2,e3]
 obtain⟨st,e4,e5⟩:=e'
 exact⟨st,fr',e1,e4,e5⟩
theorem Jb (L:Lst)(run:aw)(k:Nat)(s:ByteArray)(hk:mc s=true)(g1:az L run 183 [.sc (.string s),.sc (.string gT)] (Ab.bN (idx s))) :
  ∃ st,ae (CC L) run k lY ⟨entry 23 [.sc (.string s),.sc (.string gT)],[],[]⟩=some (.ret,st)∧aX TT st.fr st.hp f169.results.toList=some (nK s):=by
 obtain⟨f1,a1,a2,a3,a4⟩:=Ws L run k s gT
 obtain⟨f2,b1,b2,b3,b4,b5⟩:=acT L run k f1 s gT (idx s) g1 a2 a3 a4
 unfold nK
 unfold mc at hk
 cases hi:idx s with
 | ofNat i =>
  rw[hi] at b5 hk
  simp only[Bool.and_eq_true,Nat.ble_eq] at hk
  have hw:=bD i (Nat.lt_of_lt_of_le hk.1 (Nat.le_trans hk.2 (by decide)))
  have hs1:dW s none (some (.sc (.int .i64 (Int.ofNat i)))) none=some (.sc (.string (mkStr ((bQ s).take i)))):=by
   have:i≤(bQ s).length:=Nat.le_of_succ_le hk.1
   simp[dW,bnd,fv,bn,this]
  have hs2:dW s (some (.sc (.int .i64 ((i:Int)+1)))) none none=some (.sc (.string (mkStr ((bQ s).drop (i+1))))):=by
   have:i+1≤(bQ s).length:=hk.1
   simp[dW,bnd,fv,jr,this]
  obtain⟨st,c1,c2⟩:=Wr L run k f2 s gT _ _ (Int.ofNat i) _ 1 (by simp) hw rfl hs1 hs2 b2 b3 b4 b5
  exact⟨st,by rw[aY 1 a1,xT,bO ((ar b1).trans c1)],c2⟩
 | negSucc i =>
  rw[hi] at b5
  obtain⟨st,f3,c1,c2,c3⟩:=Wq L run k f2 s gT (Int.negSucc i) (by simp) b2 b3 b4 b5
  exact⟨st,by rw[aY 1 a1,xT,ar ((ar b1).trans c1)];exact c2,c3⟩
def rY:Ψ→Option Ψ
 | [.sc (.string s),.sc (.string p)]=>bif eqL (bQ p) [47] && mc s then some (nK s) else none
 | _=>none
theorem EH (hp:Θ)(s:ByteArray):bw (snap hp bq) (nK s)=some (nK s,[]):=by
 unfold nK;cases idx s <;> rfl
theorem KT (s:ByteArray):WkL (nK s) (nK s):=WkL.refl (by unfold nK;cases idx s <;> rfl)
def L13:Lst:=[(183,vG)]
theorem g13 (run:aw)(s:ByteArray):az L13 run 183 [.sc (.string s),.sc (.string gT)] (Ab.bN (idx s)):=fun dr hp =>
 bt (L:=L13) (f:=vG) NB rfl run dr hp _ [Ab.bN (idx s)] rfl rfl rfl
theorem Ja:Ab.Spec base.P 169 rY:=Ab.Spec.bS (C:=CC L13) (cR ⟨Fc,trivial⟩) fun args rs h=>by
 unfold rY at h
 split at h
 ·rename_i s p
  cases hb:eqL (bQ p) [47] && mc s with
  | false=>rw[hb] at h;cases h
  | true =>
   rw[hb] at h
   simp only[cond_true,OiE] at h
   subst h
   rw[Bool.and_eq_true] at hb
   rw[wA hb.1]
   obtain⟨st,e1,e2⟩:=Jb L13 (runK (CC L13) 1) 1 s hb.2 (g13 _ s)
   exact⟨2,_,_,_,_,_,ba Ru rfl e1 e2,EH _ _,KT _⟩
 ·cases h
def L14:Lst:=[(169,rY)]
theorem g14 (run:aw)(s:ByteArray)(hk:mc s=true):az L14 run 169 [.sc (.string s),.sc (.string gT)] (jm (nK s)):=fun dr hp =>
 bt (L:=L14) (f:=rY) aaw rfl run dr hp _ (nK s) rfl rfl (by
  show (bif true && mc s then some (nK s) else none)=_
  rw[hk];rfl)
theorem PW (L:Lst)(run:aw)(k:Nat)(s:ByteArray)(g1:az L run 169 [.sc (.string s),.sc (.string gT)] (jm (nK s))) :
  ∃ st,ae (CC L) run k (f153.body.getD .skip) ⟨entry 13 [.sc (.string s),.sc (.string gT)],[],[]⟩=some (.ret,st)∧aX TT st.fr st.hp f153.results.toList=some (nK s):=by
 obtain⟨h1,h2,h3⟩:=cl 11 (.sc (.string s)) (.sc (.string gT))
 generalize entry 13 [.sc (.string s),.sc (.string gT)]=fr0 at *
 unfold az at g1
 unfold nK at g1 ⊢
 cases hi:idx s <;> rw[hi] at g1 <;> simp only[jm] at g1 ⊢ <;> simp[f153,h1,h2,h3,g1]
theorem PU:Ab.Spec base.P 153 rY:=Ab.Spec.bS (C:=CC L14) (cR ⟨Ja,trivial⟩) fun args rs h=>by
 unfold rY at h
 split at h
 ·rename_i s p
  cases hb:eqL (bQ p) [47] && mc s with
  | false=>rw[hb] at h;cases h
  | true =>
   rw[hb] at h
   simp only[cond_true,OiE] at h
   subst h
   rw[Bool.and_eq_true] at hb
   rw[wA hb.1]
   obtain⟨st,e1,e2⟩:=PW L14 (runK (CC L14) 1) 1 s (g14 _ s hb.2)
   exact⟨2,_,_,_,_,_,ba ZD rfl e1 e2,EH _ _,KT _⟩
 ·cases h
def rrC:Code:=f108.body.getD .skip
def NO:Code:=seq1 (ai 3 rrC)
def DL:Code:=seq1 (ai 5 rrC)
theorem z6:ai 3 rrC = .seq NO (ai 4 rrC):=rfl
theorem zZ:ai 5 rrC = .seq DL (ai 6 rrC):=rfl
theorem afD (L:Lst)(run:aw)(k:Nat)(s s1 t1:ByteArray)(sl ok:Bool)(n:Int)(g1:az L run 153 [.sc (.string s),.sc (.string gT)] (.tup [.sc (.string s1),.sc (.string t1),.sc (.bool sl)]))(g2:az L run 154 [.sc (.string s1)] (.tup [br n,.sc (.bool ok)])) :
  ∃ fr wr,bh (CC L) run k 3 rrC ⟨entry 61 [.sc (.string s)],[],[]⟩=some ⟨fr,[zR4,bW n],wr⟩∧fr.length=61∧nth fr 2 = .ptr 0 0∧nth fr 5 = .sc (.string t1)∧nth fr 6 = .sc (.bool sl)∧nth fr 7 = .ptr 1 0∧nth fr 8 = .sc (.bool ok):=by
 obtain⟨h1,h2⟩:=cO 60 (.sc (.string s))
 generalize entry 61 [.sc (.string s)]=fr0 at *
 unfold az at g1 g2
 simp only[whW,bW] at g2 ⊢
 generalize aJ n.natAbs=rn at *
 generalize bz n=nn at *
 simp[rrC,f108,bh,h1,h2,and_assoc,bZ,g1,g2,zR,zW,aO]
theorem afC (L:Lst)(run:aw)(k:Nat)(fr:Ψ)(wr:Ω)(sl ok:Bool)(n:Int)(hb:ok=false∨sl=false)(g1:az L run 97 [.sc (.int .i64 1)] (br 1))
  (h1:fr.length=61) (h2:nth fr 2 = .ptr 0 0) (h6:nth fr 6 = .sc (.bool sl)) (h7:nth fr 7 = .ptr 1 0) (h8:nth fr 8 = .sc (.bool ok)) :
  ∃ st,ae (CC L) run k NO ⟨fr,[zR4,bW n],wr⟩=some (.ret,st)∧aX TT st.fr st.hp f108.results.toList=some [cf n 1,.sc (.bool ok)]:=by
 unfold az at g1
 rw[fH]
 simp only[whW,bW] at g1 ⊢
 generalize aJ n.natAbs=rn at *
 generalize bz n=nn at *
 generalize aJ (1:Int).natAbs=r1 at *
 generalize bz 1=n1 at *
 rcases hb with rfl | rfl
 ·simp[NO,rrC,f108,h1,h2,h7,h8,unP,bZ,undef,g1,uR,sR,aR,zR,rf0,rf1,eK,dH,kr,number,FP.free,cw,FP.apart]
 ·cases ok <;> simp[NO,rrC,f108,h1,h2,h6,h7,h8,unP,bZ,undef,g1,uR,sR,aR,zR,rf0,rf1,eK,dH,kr,number,FP.free,cw,FP.apart]
theorem afB (L:Lst)(run:aw)(k:Nat)(fr:Ψ)(wr:Ω)(n:Int)(h1:fr.length=61)(h2:nth fr 2 = .ptr 0 0)(h6:nth fr 6 = .sc (.bool true))(h7:nth fr 7 = .ptr 1 0)(h8:nth fr 8 = .sc (.bool true)) :
  ∃ fr',ae (CC L) run k NO ⟨fr,[zR4,bW n],wr⟩=some (.normal,⟨fr',[zR4,bW n],wr⟩)∧fr'.length=61∧nth fr' 2 = .ptr 0 0∧nth fr' 5=nth fr 5∧nth fr' 7 = .ptr 1 0:=by
 simp[NO,rrC,f108,h1,h2,h6,h7,h8,unP]
theorem ai6 (L:Lst)(run:aw)(k:Nat)(fr:Ψ)(wr:Ω)(t1:ByteArray)(ok:Bool)(n d:Int)(g1:az L run 154 [.sc (.string t1)] (.tup [br d,.sc (.bool ok)]))(h1:fr.length=61)(h2:nth fr 2 = .ptr 0 0)(h5:nth fr 5 = .sc (.string t1))(h7:nth fr 7 = .ptr 1 0) :
  ∃ fr' wr',bh (CC L) run k 1 (ai 4 rrC) ⟨fr,[zR4,bW n],wr⟩=some ⟨fr',[zR4,bW n,bW d],wr'⟩∧fr'.length=61∧nth fr' 2 = .ptr 0 0∧nth fr' 7 = .ptr 1 0∧nth fr' 9 = .ptr 2 0∧nth fr' 8 = .sc (.bool ok):=by
 unfold az at g1
 simp only[whW,bW] at g1 ⊢
 generalize aJ n.natAbs=rn at *
 generalize bz n=nn at *
 generalize aJ d.natAbs=rd at *
 generalize bz d=nd at *
 simp[rrC,f108,bh,h1,h2,h5,h7,and_assoc,bZ,g1,zW,aO]
def wL (ok:Bool)(s c1 c2:Int):Bool := !ok || (s == 0 || (decide (c1≤0) || c2 != 0))
set_option maxHeartbeats 4000000 in
theorem ai5 (L:Lst)(run:aw)(k:Nat)(fr:Ψ)(wr:Ω)(ok:Bool)(n d g:Int)(s c1 c2:Int)(g1:ok=true→az L run 101 [br n] (Ab.bN s))(g0:az L run 97 [.sc (.int .i64 1)] (br 1))(g2:ok=true→s≠0→az L run 96 [br d,br 1] (Ab.bN c1))
  (g3:ok=true→s≠0 → ¬ (c1≤0)→az L run 150 [br n,br d] (br g)) (g4:ok=true→s≠0 → ¬ (c1≤0)→az L run 96 [br g,br 1] (Ab.bN c2))
  (h1:fr.length=61) (h2:nth fr 2 = .ptr 0 0) (h7:nth fr 7 = .ptr 1 0) (h9:nth fr 9 = .ptr 2 0) (h8:nth fr 8 = .sc (.bool ok)) :
  (wL ok s c1 c2=true∧∃ st,ae (CC L) run k DL ⟨fr,[zR4,bW n,bW d],wr⟩=some (.ret,st)∧aX TT st.fr st.hp f108.results.toList=some [.agg [.sc (.bool false),.sc (.slice none 0 0),.sc (.bool false),.sc (.slice none 0 0)],.sc (.bool false)]) ∨
  (wL ok s c1 c2=false∧∃ fr',ae (CC L) run k DL ⟨fr,[zR4,bW n,bW d],wr⟩=some (.normal,⟨fr',[zR4,bW n,bW d],wr⟩)∧fr'.length=61∧nth fr' 2 = .ptr 0 0∧nth fr' 7 = .ptr 1 0∧nth fr' 9 = .ptr 2 0):=by
 unfold wL
 unfold az at *
 simp only[whW,bW,Ab.bN] at *
 generalize aJ n.natAbs=rn at *
 generalize bz n=nn at *
 generalize aJ d.natAbs=rd at *
 generalize bz d=nd at *
 generalize aJ g.natAbs=rg at *
 generalize bz g=ng at *
 generalize aJ (1:Int).natAbs=r1 at *
 generalize bz 1=n1 at *
 cases ok with
 | false =>
  refine .inl ⟨rfl,?_⟩
  simp[DL,rrC,f108,h1,h2,h8,unP,fB,undef,uR,sR,aR,zR,rf0,rf1,eK,dH,number,FP.free]
 | true =>
  have g1:=g1 rfl
  by_cases hs:s=0
  ·refine .inl ⟨by simp[hs],?_⟩
   have hs':(s == 0)=true:=by simpa using hs
   simp[DL,rrC,f108,h1,h2,h7,h8,g1,hs',unP,fB,undef,uR,sR,aR,zR,rf0,rf1,eK,dH,number,FP.free]
  ·have g2:=g2 rfl hs
   have hs':(s == 0)=false:=by simpa using hs
   by_cases hc:c1≤0
   ·refine .inl ⟨by simp[hc],?_⟩
    simp[DL,rrC,f108,h1,h2,h7,h8,h9,g1,g0,g2,hs',hc,unP,fB,undef,uR,sR,aR,zR,rf0,rf1,eK,dH,number,FP.free,cw,FP.apart]
   ·have g3:=g3 rfl hs hc
    have g4:=g4 rfl hs hc
    by_cases hc2:c2=0
    ·have hc2':(c2 != 0)=false:=by simpa using hc2
     refine .inr ⟨by simp[hc,hc2,hs],?_⟩
     simp[DL,rrC,f108,h1,h2,h7,h8,h9,g1,g0,g2,g3,g4,hs',hc,hc2',unP,number,FP.free,cw,FP.apart]
    ·have hc2':(c2 != 0)=true:=by simpa using hc2
     refine .inl ⟨by simp[hc,hc2,hs],?_⟩
     simp[DL,rrC,f108,h1,h2,h7,h8,h9,g1,g0,g2,g3,g4,hs',hc,hc2',unP,fB,undef,uR,sR,aR,zR,rf0,rf1,eK,dH,number,FP.free,cw,FP.apart]
theorem aaI (L:Lst)(run:aw)(k:Nat)(fr:Ψ)(wr:Ω)(n d:Int)(h1:fr.length=61)(h2:nth fr 2 = .ptr 0 0)(h7:nth fr 7 = .ptr 1 0)(h9:nth fr 9 = .ptr 2 0) :
  ∃ st,ae (CC L) run k (ai 6 rrC) ⟨fr,[zR4,bW n,bW d],wr⟩=some (.ret,st)∧aX TT st.fr st.hp f108.results.toList=some [cf n d,.sc (.bool true)]:=by
 rw[fH]
 simp only[bW]
 generalize aJ n.natAbs=rn at *
 generalize bz n=nn at *
 generalize aJ d.natAbs=rd at *
 generalize bz d=nd at *
 simp[rrC,f108,h1,h2,h7,h9,bZ,uR,sR,aR,zR,rf0,rf1,eK,dH,kr,number,FP.free,cw,FP.apart]
def L15:Lst:=[(153,rY),(154,z7),(97,ofF),(101,jC),(96,sa),(150,ya)]
theorem aim:dE base.P L15:=⟨PU,NV,mM,kf,oC,rM,trivial⟩
theorem acd:bx L15 153=fun a=>rY (aK a):=rfl
theorem Vu:bx L15 154=fun a=>z7 (aK a):=rfl
theorem agr:bx L15 97=fun a=>ofF (aK a):=rfl
theorem Vt:bx L15 101=fun a=>jC (aK a):=rfl
theorem ace:bx L15 96=fun a=>sa (aK a):=rfl
theorem acb:bx L15 150=fun a=>ya (aK a):=rfl
def jM (s:ByteArray):ByteArray:=match idx s with
 | .ofNat i=>mkStr ((bQ s).take i)
 | .negSucc _=>s
def jL (s:ByteArray):ByteArray:=match idx s with
 | .ofNat i=>mkStr ((bQ s).drop (i+1))
 | .negSucc _=>{ data:=#[] }
def vg (s:ByteArray):Bool:=match idx s with
 | .ofNat _=>true
 | .negSucc _=>false
theorem ad0 (s:ByteArray):nK s=[.sc (.string (jM s)),.sc (.string (jL s)),.sc (.bool (vg s))]:=by
 unfold nK jM jL vg
 cases idx s <;> rfl
theorem XY (s:ByteArray):(bys (jM s)).length≤(bys s).length:=by
 unfold jM
 cases idx s with
 | ofNat i=>simp only[j7,fk,List.length_take];omega
 | negSucc i=>exact Nat.le_refl _
theorem XX (s:ByteArray):(bys (jL s)).length≤(bys s).length:=by
 unfold jL
 cases idx s with
 | ofNat i=>simp only[j7,fk,List.length_drop];omega
 | negSucc i=>exact Nat.zero_le _
def eZ (s:ByteArray):Int:=match gN s with
 | some z=>z
 | none=>0
def iM (s:ByteArray):Bool:=match gN s with
 | some _=>true
 | none=>false
theorem adq (run:aw)(s:ByteArray)(hk:mc s=true):az L15 run 153 [.sc (.string s),.sc (.string gT)] (.tup [.sc (.string (jM s)),.sc (.string (jL s)),.sc (.bool (vg s))]):=fun dr hp =>
 bt (L:=L15) (f:=rY) afu acd run dr hp _ [.sc (.string (jM s)),.sc (.string (jL s)),.sc (.bool (vg s))] rfl rfl (by
  rw[← ad0]
  show (bif true && mc s then some (nK s) else none)=_
  rw[hk];rfl)
theorem Fy (run:aw)(s:ByteArray)(hl:(bys s).length<3000000):az L15 run 154 [.sc (.string s)] (.tup [br (eZ s),.sc (.bool (iM s))]):=fun dr hp =>
 bt (L:=L15) (f:=z7) aas Vu run dr hp _ [br (eZ s),.sc (.bool (iM s))] rfl rfl (by
  have h:(bys s).length.blt 3000000=true:=by rw[Nat.blt_eq];exact hl
  simp only[z7,h,cond_true]
  unfold eZ iM
  cases gN s <;> rfl)
theorem WT (run:aw):az L15 run 97 [.sc (.int .i64 1)] (br 1):=fun dr hp =>
 bt (L:=L15) (f:=ofF) zU agr run dr hp _ [br 1] rfl rfl rfl
theorem WS (run:aw)(x:Int)(hx:Sm x):az L15 run 101 [br x] (Ab.bN x.sign):=fun dr hp =>
 bt (L:=L15) (f:=jC) vw Vt run dr hp _ [Ab.bN x.sign] (nk hp x) (j6 x) (by simp only[jC,cK hx])
theorem Mm (run:aw)(x y:Int)(hx:Sm x)(hy:Sm y):az L15 run 96 [br x,br y] (Ab.bN (fI x y)):=fun dr hp =>
 bt (L:=L15) (f:=sa) Hn ace run dr hp _ [Ab.bN (fI x y)] (gI hp x y) (ft x y) (by simp only[sa,cK hx,cK hy])
theorem adp (run:aw)(x y:Int)(hx:Sm x)(hy:Sm y):az L15 run 150 [br x,br y] (br (Int.ofNat (Nat.gcd x.natAbs y.natAbs))):=fun dr hp =>
 bt (L:=L15) (f:=ya) SH acb run dr hp _ [br (Int.ofNat (Nat.gcd x.natAbs y.natAbs))] (gI hp x y) (ft x y) (by simp only[ya,cK hx,cK hy])
def afE (n d:Int)(ok:Bool):Option Ψ :=
 bif smB n && (smB d && (smB (Int.ofNat (Nat.gcd n.natAbs d.natAbs)))) then
  bif wL ok n.sign (fI d 1) (fI (Int.ofNat (Nat.gcd n.natAbs d.natAbs)) 1) then some [cf 0 0,.sc (.bool false)] else some [cf n d,.sc (.bool true)]
 else none
def rrF:Ψ→Option Ψ
 | [.sc (.string s)]=>bif (bys s).length.blt 3000000 && mc s then
   (bif iM (jM s) && vg s then afE (eZ (jM s)) (eZ (jL s)) (iM (jL s)) else some [cf (eZ (jM s)) 1,.sc (.bool (iM (jM s)))]) else none
 | _=>none
theorem UR (hp:Θ)(n d:Int)(b:Bool):bw (snap hp bq) [cf n d,.sc (.bool b)]=some ([cf n d,.sc (.bool b)],[]):=rfl
theorem vC:Ab.Spec base.P 108 rrF:=Ab.Spec.bS (C:=CC L15) (cR aim) fun args rs h=>by
 unfold rrF at h
 split at h
 ·rename_i s
  cases hb:(bys s).length.blt 3000000 && mc s with
  | false=>rw[hb] at h;cases h
  | true =>
   rw[hb] at h
   simp only[cond_true] at h
   simp only[Bool.and_eq_true,Nat.blt_eq] at hb
   have hA:=Nat.lt_of_le_of_lt (XY s) hb.1
   have hB:=Nat.lt_of_le_of_lt (XX s) hb.1
   obtain⟨f1,wr1,a1,a2,a3,a4,a5,a6,a7⟩:=afD L15 (runK (CC L15) 1) 1 s _ _ _ _ _ (adq _ s hb.2) (Fy _ _ hA)
   cases hc:iM (jM s) && vg s with
   | false =>
    rw[hc] at h
    simp only[cond_false,OiE] at h
    subst h
    have hor:iM (jM s)=false∨vg s=false:=by
     revert hc;cases iM (jM s) <;> cases vg s <;> simp
    obtain⟨st,e1,e2⟩:=afC L15 (runK (CC L15) 1) 1 f1 wr1 _ _ _ hor (WT _) a2 a3 a5 a6 a7
    have hx:ae (CC L15) (runK (CC L15) 1) 1 rrC ⟨entry 61 [.sc (.string s)],[],[]⟩=some (.ret,st):=by
     rw[aY 3 a1,z6,bO e1]
    exact⟨2,_,_,_,_,_,ba np rfl hx e2,UR _ _ _ _,Wk.refl rfl,Wk.refl rfl,trivial⟩
   | true =>
    rw[hc] at h
    simp only[cond_true] at h
    rw[Bool.and_eq_true] at hc
    rw[hc.1] at a7
    rw[hc.2] at a5
    obtain⟨f2,b1,b2,b3,b4,b5⟩:=afB L15 (runK (CC L15) 1) 1 f1 wr1 (eZ (jM s)) a2 a3 a5 a6 a7
    obtain⟨f3,wr3,c1,c2,c3,c4,c5,c6⟩:=ai6 L15 (runK (CC L15) 1) 1 f2 wr1 (jL s) _ (eZ (jM s)) _ (Fy _ _ hB) b2 b3 (by rw[b4,a4]) b5
    generalize eZ (jM s)=n at *
    generalize eZ (jL s)=d at *
    generalize iM (jL s)=ok at *
    unfold afE at h
    cases hg:smB n && (smB d && (smB (Int.ofNat (Nat.gcd n.natAbs d.natAbs)))) with
    | false=>rw[hg] at h;cases h
    | true =>
     rw[hg] at h
     simp only[cond_true] at h
     simp only[Bool.and_eq_true] at hg
     obtain⟨s1,s2,s4⟩:=hg
     have hx0:ae (CC L15) (runK (CC L15) 1) 1 rrC ⟨entry 61 [.sc (.string s)],[],[]⟩=ae (CC L15) (runK (CC L15) 1) 1 (ai 5 rrC) ⟨f3,[zR4,bW n,bW d],wr3⟩:=by
      rw[aY 3 a1,z6,ar b1,aY 1 c1];rfl
     rcases ai5 L15 (runK (CC L15) 1) 1 f3 wr3 ok n d (Int.ofNat (Nat.gcd n.natAbs d.natAbs)) n.sign (fI d 1) (fI (Int.ofNat (Nat.gcd n.natAbs d.natAbs)) 1) (fun _=>WS _ n (jk s1)) (WT _) (fun _ _=>Mm _ d 1 (jk s2) CJ)
      (fun _ _ _=>adp _ n d (jk s1) (jk s2)) (fun _ _ _=>Mm _ _ 1 (jk s4) CJ) c2 c3 c4 c5 c6 with ⟨hbad,st,e1,e2⟩| ⟨hbad,f4,d1,d2,d3,d4,d5⟩
     ·rw[hbad] at h
      simp only[cond_true,OiE] at h
      subst h
      have hx:ae (CC L15) (runK (CC L15) 1) 1 rrC ⟨entry 61 [.sc (.string s)],[],[]⟩=some (.ret,st):=by
       rw[hx0,zZ,bO e1]
      exact⟨2,_,_,_,[.agg [.sc (.bool false),.sc (.slice none 0 0),.sc (.bool false),.sc (.slice none 0 0)],.sc (.bool false)],[],ba np rfl hx e2,rfl,Wk.agg ⟨Wk.refl rfl,Wk.nil false,Wk.refl rfl,Wk.nil false,trivial⟩,Wk.refl rfl,trivial⟩
     ·rw[hbad] at h
      simp only[cond_false,OiE] at h
      subst h
      obtain⟨st,e1,e2⟩:=aaI L15 (runK (CC L15) 1) 1 f4 wr3 n d d2 d3 d4 d5
      have hx:ae (CC L15) (runK (CC L15) 1) 1 rrC ⟨entry 61 [.sc (.string s)],[],[]⟩=some (.ret,st):=by
       rw[hx0,zZ,ar d1];exact e1
      exact⟨2,_,_,_,_,_,ba np rfl hx e2,UR _ _ _ _,Wk.refl rfl,Wk.refl rfl,trivial⟩
 ·cases h
theorem uY:base.F.get 145=some f145:=by kernel_rfl
theorem Rm:base.F.get 94=some f94:=by kernel_rfl
theorem KI:base.F.get 43=some f43:=by kernel_rfl
theorem Ny:base.shared 145=false:=by kernel_rfl
theorem aav:base.shared 94=false:=by kernel_rfl
def nd:Nat→Nat→Nat
 | 0,_=>0
 | k+1,x=>bif x.beq 0 then 0 else nd k (x / 10)+1
def ij:Code:=f145.body.getD .skip
def pr:Code:=((f145.body).bind aA).getD .skip
theorem Jw (L:Lst)(run:aw)(k:Nat)(fr:Ψ)(hp:Θ)(wr:Ω)(h29:fr.length=29)(h4:nth fr 4 = .sc (.int .u32 (0:Nat))) :
  ∃ fr',ae (CC L) run k pr ⟨fr,hp,wr⟩=some (.exit 0,⟨fr',hp,wr⟩)∧fr'.length=29∧nth fr' 3=nth fr 3:=by
 simp[pr,f145,aA,h29,h4]
theorem ZT (k:IntKind)(a s:Nat)(h:s=a / 10)(hs:s≤hiN k):bA k ((a:Int) / 10)=(s:Int):=by
 have e:((a:Int) / 10)=(s:Int):=by omega
 rw[e];exact dk k _ hs
theorem Cv (L:Lst)(run:aw)(k:Nat)(fr:Ψ)(hp:Θ)(wr:Ω)(c x y:Nat)(hc:c<100000000)(hx:0<x)(hx2:x≤4294967295)(hy:y=x / 10)(h29:fr.length=29)(h3:nth fr 3 = .sc (.int .i64 (c:Int)))(h4:nth fr 4 = .sc (.int .u32 (x:Int))) :
  ∃ fr',ae (CC L) run k pr ⟨fr,hp,wr⟩=some (.normal,⟨fr',hp,wr⟩)∧fr'.length=29∧nth fr' 3 = .sc (.int .i64 ((c+1:Nat):Int))∧nth fr' 4 = .sc (.int .u32 (y:Int)):=by
 have hw:=bD c (Nat.lt_trans hc (by decide))
 have hw2:=ZT .u32 x y hy (iX (by omega))
 simp[pr,f145,aA,h29,h3,h4,hx,hw,hw2]
theorem uP (L:Lst)(run:aw)(k:Nat)(hp:Θ)(wr:Ω):∀ (n x c:Nat) (fr:Ψ),x<10 ^ n→c+n<100000000→x≤4294967295→fr.length=29→nth fr 3 = .sc (.int .i64 (c:Int))→nth fr 4 = .sc (.int .u32 (x:Int)) →
  ∃ fr',cb (ae (CC L) run k pr) (n+1) ⟨fr,hp,wr⟩=some (.exit 0,⟨fr',hp,wr⟩)∧fr'.length=29∧nth fr' 3 = .sc (.int .i64 ((c+nd n x:Nat):Int))
 | n,x,c,fr,hx,hc,hx2,h29,h3,h4=>by
  by_cases h0:x=0
  ·subst h0
   obtain⟨fr',g1,g2,g3⟩:=Jw L run k fr hp wr h29 h4
   refine⟨fr',bu g1,g2,?_⟩
   rw[g3,h3]
   cases n <;> rfl
  ·cases n with
   | zero=>simp at hx;exact absurd hx h0
   | succ n =>
    obtain⟨fr1,g1,g2,g3,g4⟩:=Cv L run k fr hp wr c x _ (by omega) (by omega) hx2 rfl h29 h3 h4
    obtain⟨fr',q1,q2,q3⟩:=uP L run k hp wr n (x / 10) (c+1) fr1 (by rw[Nat.pow_succ] at hx;omega) (by omega) (by omega) g2 g3 g4
    refine⟨fr',by rw[bT g1];exact q1,q2,?_⟩
    rw[q3]
    have hb:x.beq 0=false:=by
     cases x with
     | zero=>exact absurd rfl h0
     | succ x=>rfl
    rw[nd,hb,cond_false]
    congr 3;omega
def rT:Code:=seq1 (seq1 (ai 3 ij))
theorem Cu:ai 3 ij = .seq (.seq rT (.block 0 (.loop pr))) (ai 4 ij):=rfl
theorem Jv (L:Lst)(run:aw)(k:Nat)(n:Bool):∃ st,ae (CC L) run k ij ⟨entry 29 [wh n []],[],[]⟩=some (.ret,st)∧aX TT st.fr st.hp f145.results.toList=some [Ab.bN 0]:=by
 obtain⟨e1,e2⟩:=cO 28 (wh n [])
 generalize entry 29 [wh n []]=fr0 at *
 rw[show wh n [] = .agg [.sc (.bool n),aP []] from rfl] at e2
 simp[ij,f145,e1,e2,bL,bM,cm,uW,uD,sD,aD,wf0,wf1,aO,Ab.bN]
set_option maxHeartbeats 1000000 in
theorem Ju (L:Lst)(run:aw)(k:Nat)(n:Bool)(l:Ω)(a c:Nat)(hc:c=9*l.length)(hl:l.length<1000000) :
  ∃ f1 fr,bh (CC L) run k 3 ij ⟨entry 29 [wh n (l++[a])],[],[]⟩=some ⟨f1,[⟨.live,[.sc (.bool n),aP (l++[a])]⟩],[0]⟩∧ae (CC L) run k rT ⟨f1,[⟨.live,[.sc (.bool n),aP (l++[a])]⟩],[0]⟩=some (.normal,⟨fr,[⟨.live,[.sc (.bool n),aP (l++[a])]⟩],[0]⟩)∧fr.length=29
   ∧ nth fr 3 = .sc (.int .i64 (c:Int))∧nth fr 4 = .sc (.int .u32 (a:Int)):=by
 obtain⟨e1,e2⟩:=cO 28 (wh n (l++[a]))
 generalize entry 29 [wh n (l++[a])]=fr0 at *
 have hd:(bp ((l++[a]).map dg) l.length).head?=some (.sc (.int .u32 a)):=by
  rw[eM _ _ (by simp)];simp[dg]
 have hE:aP (l++[a]) = .imm (l.length+1) false ((l++[a]).map dg):=by simp[aP]
 rw[show wh n (l++[a]) = .agg [.sc (.bool n),aP (l++[a])] from rfl,hE] at e2
 rw[hE]
 obtain⟨m,hm⟩:∃ m,m=l.length:=⟨_,rfl⟩
 rw[← hm] at hd hc e2 hl ⊢
 have hw:bA .i64 (m:Int)=(m:Int):=cq .i64 m (hiI (by omega))
 have hw2:bA .i64 (9*(m:Int))=(c:Int):=by
  have e:(9*(m:Int))=(c:Int):=by omega
  rw[e];exact cq .i64 c (hiI (by omega))
 have hne:((m:Int)+1 == 0)=false:=by
  rw[beq_eq_false_iff_ne];omega
 have hlt:m<m+1:=by omega
 generalize (l++[a]).map dg=cs at *
 have p1:∃ f1,bh (CC L) run k 3 ij ⟨fr0,[],[]⟩=some ⟨f1,[⟨.live,[.sc (.bool n),.imm (m+1) false cs]⟩],[0]⟩∧f1.length=29∧nth f1 1 = .ptr 0 0∧nth f1 3 = .sc (.int .i64 (c:Int)):=by
  simp[ij,f145,bh,e1,e2,bL,bM,cP,uW,uD,sD,aD,wf0,wf1,aO,hne,hw,hw2]
 obtain⟨f1,q1,q2,q3,q4⟩:=p1
 refine⟨f1,?_⟩
 rw[q1]
 have p2:∃ fr,ae (CC L) run k rT ⟨f1,[⟨.live,[.sc (.bool n),.imm (m+1) false cs]⟩],[0]⟩=some (.normal,⟨fr,[⟨.live,[.sc (.bool n),.imm (m+1) false cs]⟩],[0]⟩)∧fr.length=29∧nth fr 3 = .sc (.int .i64 (c:Int))∧nth fr 4 = .sc (.int .u32 (a:Int)):=by
  simp[rT,ij,f145,q2,q3,q4,bL,bd,bM,bn,cP,uW,uD,sD,s32,aD,a32,wf0,wf1,hw,hlt,hd]
 obtain⟨fr,r1,r2⟩:=p2
 exact⟨fr,rfl,r1,r2⟩
theorem FM (L:Lst)(run:aw)(k:Nat)(fr:Ψ)(hp:Θ)(wr:Ω)(z:Int)(h29:fr.length=29)(h3:nth fr 3 = .sc (.int .i64 z)) :
  ∃ st,ae (CC L) run k (ai 4 ij) ⟨fr,hp,wr⟩=some (.ret,st)∧aX TT st.fr st.hp f145.results.toList=some [Ab.bN z]:=by
 simp[ij,f145,h29,h3,Ab.bN]
def qk (l:Ω):Nat:=match l.getLast? with
 | none=>0
 | some a=>9*(l.length - 1)+nd 9 a
def lf:Ψ→Option Ψ
 | [.agg [.sc (.bool _),p]]=>match ia p with
  | some l=>some [Ab.bN (Int.ofNat (qk l))]
  | none=>none
 | _=>none
theorem oA:Ab.Spec base.P 145 lf:=Ab.Spec.bS (C:=CC []) (cR trivial) fun args rs h=>by
 unfold lf at h
 split at h
 ·split at h
  ·rename_i n p _ l hl
   obtain⟨rfl,hd,hlen⟩:=dx hl
   simp only[OiE] at h
   subst h
   by_cases h0:l=[]
   ·subst h0
    obtain⟨st,e1,e2⟩:=Jv [] (runK (CC []) 1) 1 n
    exact⟨2,_,_,_,_,_,ba uY rfl e1 e2,eD _ _,Wk.refl rfl,trivial⟩
   ·obtain⟨m,a,rfl⟩:∃ m a,l=m++[a]:=⟨l.dropLast,l.getLast h0,(List.dropLast_concat_getLast h0).symm⟩
    have ha:a<1000000000:=hd a (by simp)
    have hm:m.length<1000000:=by simp at hlen;omega
    obtain⟨f1,f2,a1,a2,a3,a4,a5⟩:=Ju [] (runK (CC []) 10) 10 n m a (9*m.length) rfl hm
    obtain⟨f3,b1,b2,b3⟩:=uP [] (runK (CC []) 10) 10 [⟨.live,[.sc (.bool n),aP (m++[a])]⟩] [0] 9 a (9*m.length) f2 (Nat.lt_of_lt_of_le ha (by decide)) (by omega) (Nat.le_trans (Nat.le_of_lt ha) (by decide)) a3 a4 a5
    obtain⟨st,e1,e2⟩:=FM [] (runK (CC []) 10) 10 f3 _ _ _ b2 b3
    have hx:ae (CC []) (runK (CC []) 10) 10 ij ⟨entry 29 [wh n (m++[a])],[],[]⟩=some (.ret,st):=by
     rw[aY 3 a1,Cu,ar ((ar a2).trans (bE b1))]
     exact e1
    have hN:qk (m++[a])=9*m.length+nd 9 a:=by simp[qk]
    rw[hN]
    exact⟨11,_,_,_,_,_,ba uY rfl hx e2,eD _ (9*m.length+nd 9 a:Nat),Wk.refl rfl,trivial⟩
  ·cases h
 ·cases h
def L16:Lst:=[(145,lf)]
theorem o16:bx L16 145=fun a=>lf (aK a):=rfl
theorem g16 (run:aw)(n:Bool)(l:Ω)(hd:Dok l)(hl:l.length<1000000):az L16 run 145 [.agg [.sc (.bool n),aP l]] (Ab.bN (Int.ofNat (qk l))):=fun dr hp =>
 bt (L:=L16) (f:=lf) Ny o16 run dr hp _ [Ab.bN (Int.ofNat (qk l))] rfl (by simp only[aK,canon,jo,aP]) (by simp only[lf,cW hd hl])
theorem Ph (L:Lst)(run:aw)(k:Nat)(n:Bool)(l:Ω)(c:Nat)(g1:az L run 145 [.agg [.sc (.bool n),aP l]] (Ab.bN (Int.ofNat c))) :
  ∃ st,ae (CC L) run k (f94.body.getD .skip) ⟨entry 6 [wh n l],[],[]⟩=some (.ret,st)∧aX TT st.fr st.hp f94.results.toList=some [.sc (.bool (decide (1000<c)))]:=by
 obtain⟨e1,e2⟩:=cO 5 (wh n l)
 generalize entry 6 [wh n l]=fr0 at *
 rw[show wh n l = .agg [.sc (.bool n),aP l] from rfl] at e2
 unfold az at g1
 simp only[Ab.bN,Int.ofNat_eq_natCast] at g1
 have hc:((c:Int) > 1000)=(1000<c):=by apply propext;omega
 have hc2:((1000:Int)<c)=(1000<c):=by apply propext;omega
 simp[f94,e1,e2,g1,hc,aO]
def xR:Ψ→Option Ψ
 | [.agg [.sc (.bool _),p]]=>match ia p with
  | some l=>some [.sc (.bool (decide (1000<qk l)))]
  | none=>none
 | _=>none
theorem tm:Ab.Spec base.P 94 xR:=Ab.Spec.bS (C:=CC L16) (cR ⟨oA,trivial⟩) fun args rs h=>by
 unfold xR at h
 split at h
 ·split at h
  ·rename_i n p _ l hl
   obtain⟨rfl,hd,hlen⟩:=dx hl
   simp only[OiE] at h
   subst h
   obtain⟨st,e1,e2⟩:=Ph L16 (runK (CC L16) 1) 1 n l _ (g16 _ n l hd hlen)
   exact⟨2,_,_,_,_,_,ba Rm rfl e1 e2,xF _ _,Wk.refl rfl,trivial⟩
  ·cases h
 ·cases h
def L17:Lst:=[(94,xR)]
theorem o17:bx L17 94=fun a=>xR (aK a):=rfl
theorem g17 (run:aw)(z:Int)(hz:Sm z):az L17 run 94 [br z] (.sc (.bool (decide (1000<qk (aJ z.natAbs))))):=fun dr hp =>
 bt (L:=L17) (f:=xR) aav o17 run dr hp _ [.sc (.bool (decide (1000<qk (aJ z.natAbs))))] (nk hp z) (j6 z) (by
  show (match ia (aP (aJ z.natAbs)) with | some l=>some [PV.sc (.bool (decide (1000<qk l)))] | none=>none)=_
  rw[cW (bU _) hz.lt])
theorem Hw (L:Lst)(run:aw)(k:Nat)(a b:Int)(p q:Bool)(g1:az L run 94 [br a] (.sc (.bool p)))(g2:az L run 94 [br b] (.sc (.bool q))) :
  ∃ st,ae (CC L) run k (f43.body.getD .skip) ⟨entry 11 [cf a b],[],[]⟩=some (.ret,st)∧aX TT st.fr st.hp f43.results.toList=some [.sc (.bool (p || q))]:=by
 obtain⟨h1,h2⟩:=cO 10 (cf a b)
 generalize entry 11 [cf a b]=fr0 at *
 unfold az at *
 simp only[whW,fH] at *
 cases p <;> simp[f43,h1,h2,bM,g1,g2,undef,uR,rf0,rf1,aO]
def mz:Ψ→Option Ψ
 | [p]=>match gL p with
  | some (a,b)=>some [.sc (.bool (decide (1000<qk (aJ a.natAbs)) || decide (1000<qk (aJ b.natAbs))))]
  | none=>none
 | _=>none
theorem mw:Ab.Spec base.P 43 mz:=Ab.Spec.bS (C:=CC L17) (cR ⟨tm,trivial⟩) fun args rs h=>by
 unfold mz at h
 split at h
 ·split at h
  ·rename_i a b ex
   obtain⟨rfl,ha,hb⟩:=eg ex
   simp only[OiE] at h
   subst h
   obtain⟨st,e1,e2⟩:=Hw L17 (runK (CC L17) 1) 1 a b _ _ (g17 _ a ha) (g17 _ b hb)
   exact⟨2,_,_,_,_,_,ba KI rfl e1 e2,xF _ _,Wk.refl rfl,trivial⟩
  ·cases h
 ·cases h
theorem uL:und TT 24=some (.slice 3):=by kernel_rfl
theorem sI:de TT 3=some 1:=by kernel_rfl
theorem aI:fR TT 3=some false:=by kernel_rfl
theorem bI:ja TT 3=some 8:=by kernel_rfl
theorem zI:dU TT 3=some [iv 0]:=by kernel_rfl
theorem uAR:und TT 27=some .string:=by kernel_rfl
theorem Gw:base.F.get 156=some f156:=by kernel_rfl
theorem lS:base.shared 156=false:=by kernel_rfl
theorem zq:base.F.get 115=some f115:=by kernel_rfl
theorem tR:base.shared 115=false:=by kernel_rfl
theorem uX:base.F.get 116=some f116:=by kernel_rfl
theorem kg:base.shared 116=false:=by kernel_rfl
theorem sz:base.F.get 113=some f113:=by kernel_rfl
theorem wE:base.shared 113=false:=by kernel_rfl
theorem pQ:base.F.get 114=some f114:=by kernel_rfl
theorem tS:base.shared 114=false:=by kernel_rfl
theorem oM:base.F.get 118=some f118:=by kernel_rfl
theorem zS:base.shared 118=false:=by kernel_rfl
theorem J5:base.F.get 117=some f117:=by kernel_rfl
theorem Si:base.shared 117=false:=by kernel_rfl
theorem Gx:base.F.get 119=some f119:=by kernel_rfl
theorem zT:base.shared 119=false:=by kernel_rfl
theorem J8:base.F.get 120=some f120:=by kernel_rfl
theorem Dv:base.shared 120=false:=by kernel_rfl
theorem J7:base.F.get 155=some f155:=by kernel_rfl
theorem Du:base.shared 155=false:=by kernel_rfl
theorem Kq:base.F.get 69=some f69:=by kernel_rfl
theorem Dy:base.shared 69=false:=by kernel_rfl
theorem Gy:base.F.get 66=some f66:=by kernel_rfl
theorem sK:base.shared 66=false:=by kernel_rfl
theorem zu:base.F.get 147=some f147:=by kernel_rfl
theorem Dx:base.shared 147=false:=by kernel_rfl
theorem Gz:base.F.get 100=some f100:=by kernel_rfl
theorem Nv:base.shared 100=false:=by kernel_rfl
theorem ke:base.F.get 111=some f111:=by kernel_rfl
theorem Hh:base.shared 111=false:=by kernel_rfl
theorem CP:base.F.get 68=some f68:=by kernel_rfl
theorem wF:base.shared 68=false:=by kernel_rfl
theorem J6:base.F.get 121=some f121:=by kernel_rfl
theorem Dt:base.shared 121=false:=by kernel_rfl
theorem J9:base.F.get 112=some f112:=by kernel_rfl
theorem Dw:base.shared 112=false:=by kernel_rfl
theorem CQ:base.F.get 157=some f157:=by kernel_rfl
theorem Hi:base.shared 157=false:=by kernel_rfl
def kU:Code:=((f156.body).bind aA).getD .skip
theorem T0 (l:Ω)(a:Nat)(hp:Θ):dw TT hp 24 (bC (l++[a])) none (some (.sc (.int .i64 (l.length:Int)))) none=some (bC l):=by
 have h:bC (l++[a]) = .imm (l.length+1) false ((l++[a]).map iv):=by simp[bC,mX]
 rw[h]
 simp only[dw,uL,iJ,sI,bnd,fv,gl,Option.map]
 simp[gK]
 rw[dh (by simp)]
 simp[bC,mX]
set_option maxHeartbeats 1000000 in
theorem Ed (L:Lst)(run:aw)(k:Nat)(fr:Ψ)(hp:Θ)(wr:Ω)(l:Ω)(a:Nat)(hl:l.length<10000000)(ha:a≠0)
  (h21:fr.length=21) (h0:nth fr 0=bC (l++[a])) :
  ∃ fr',ae (CC L) run k kU ⟨fr,hp,wr⟩=some (.exit 0,⟨fr',hp,wr⟩)∧nth fr' 0=nth fr 0∧fr'.length=21:=by
 have hw:bA .i64 ((l.length+1:Nat) - 1:Int)=Int.ofNat l.length:=by
  have:=dk .i64 l.length (by simp[hiN];omega)
  rw[← this];congr 1;omega
 have hw':bA .i64 (l.length:Int)=Int.ofNat l.length:=dk .i64 l.length (by simp[hiN];omega)
 have h:bC (l++[a]) = .imm (l.length+1) false ((l++[a]).map iv):=by simp[bC,mX]
 have hd:(bp ((l++[a]).map iv) l.length).head?=some (.sc (.int .i64 a)):=by
  rw[mV _ _ (by simp)];simp[iv]
 rw[h] at h0
 have ha':((a:Int) == 0)=false:=by simp;exact ha
 simp[kU,f156,aA,bL,bd,bn,cP,h21,h0,uL,sI,aI,hw',hd,ha',-List.map_append]
set_option maxHeartbeats 1000000 in
theorem HL (L:Lst)(run:aw)(k:Nat)(fr:Ψ)(hp:Θ)(wr:Ω)(h21:fr.length=21)(h0:nth fr 0=bC []) :
  ∃ fr',ae (CC L) run k kU ⟨fr,hp,wr⟩=some (.exit 0,⟨fr',hp,wr⟩)∧nth fr' 0=nth fr 0∧fr'.length=21:=by
 have h:bC [] = .imm 0 false []:=rfl
 rw[h] at h0
 simp[kU,f156,aA,bL,cP,h21,h0,uL,-List.map_append]
set_option maxHeartbeats 1000000 in
theorem N8 (L:Lst)(run:aw)(k:Nat)(fr:Ψ)(hp:Θ)(wr:Ω)(l:Ω)(hl:l.length<10000000)
  (h21:fr.length=21) (h0:nth fr 0=bC (l++[0])) :
  ∃ fr',ae (CC L) run k kU ⟨fr,hp,wr⟩=some (.normal,⟨fr',hp,wr⟩)∧nth fr' 0=bC l∧fr'.length=21:=by
 have hw':bA .i64 (l.length:Int)=Int.ofNat l.length:=dk .i64 l.length (by simp[hiN];omega)
 have h:bC (l++[0]) = .imm (l.length+1) false ((l++[0]).map iv):=by simp[bC,mX]
 have hd:(bp ((l++[0]).map iv) l.length).head?=some (.sc (.int .i64 0)):=by
  rw[mV _ _ (by simp)];simp[iv]
 have hs:=T0 l 0
 rw[h] at h0 hs
 simp[kU,f156,aA,bL,bd,bn,cP,h21,h0,uL,sI,aI,hw',hd,hs,-List.map_append]
theorem ue (L:Lst)(run:aw)(k:Nat):∀ (n:Nat) (l:Ω) (fr:Ψ) (hp:Θ) (wr:Ω),l.length=n→n<10000000→fr.length=21→nth fr 0=bC l →
  ∃ fr',cb (ae (CC L) run k kU) (n+1) ⟨fr,hp,wr⟩=some (.exit 0,⟨fr',hp,wr⟩)∧nth fr' 0=bC (T.fi l)∧fr'.length=21
 | 0,l,fr,hp,wr,hl,hn,h21,h0=>by
  have:l=[]:=List.length_eq_zero_iff.1 hl
  subst this
  obtain⟨fr',h1,h2,h3⟩:=HL L run k fr hp wr h21 h0
  exact⟨fr',bu h1,by rw[h2,h0];rfl,h3⟩
 | n+1,l,fr,hp,wr,hl,hn,h21,h0=>by
  obtain⟨l',a,rfl,hl'⟩:=BG hl
  by_cases ha:a=0
  ·subst ha
   obtain⟨fr1,h1,h2,h3⟩:=N8 L run k fr hp wr l' (by omega) h21 h0
   obtain⟨fr',g1,g2,g3⟩:=ue L run k n l' fr1 hp wr hl' (by omega) h3 h2
   exact⟨fr',by rw[bT h1];exact g1,by rw[g2,T.eA,if_pos rfl],g3⟩
  ·obtain⟨fr',h1,h2,h3⟩:=Ed L run k fr hp wr l' a (by omega) ha h21 h0
   exact⟨fr',bu h1,by rw[h2,h0,T.eA,if_neg ha],h3⟩
def mE:Code:=f156.body.getD .skip
theorem B2:ai 1 mE = .seq (.block 0 (.loop kU)) (ai 2 mE):=rfl
theorem HK (L:Lst)(run:aw)(k:Nat)(p:PV):∃ fr,bh (CC L) run k 1 mE ⟨entry 21 [p],[],[]⟩=some ⟨fr,[],[]⟩∧fr.length=21∧nth fr 0=p:=by
 simp[mE,f156,bh,entry,nth,eX]
theorem Ee (L:Lst)(run:aw)(k:Nat)(fr:Ψ)(hp:Θ)(wr:Ω)(p:PV)(h21:fr.length=21)(h0:nth fr 0=p) :
  ∃ st,ae (CC L) run k (ai 2 mE) ⟨fr,hp,wr⟩=some (.ret,st)∧aX TT st.fr st.hp f156.results.toList=some [p]:=by
 simp[mE,f156,h21,h0]
def iQ:Ψ→Option Ψ
 | [p]=>match nH p with
  | some l=>some [bC (T.fi l)]
  | none=>none
 | _=>none
theorem pW (hp:Θ)(l:Ω):bw (snap hp bq) [bC l]=some ([bC l],[]):=rfl
theorem ud:Ab.Spec base.P 156 iQ:=Ab.Spec.bS (C:=CC []) (cR trivial) fun args rs h=>by
 unfold iQ at h
 split at h
 ·split at h
  ·rename_i l hl
   obtain⟨rfl,_,hlen⟩:=gh hl
   simp only[OiE] at h
   subst h
   obtain⟨fr1,h1,h20,h0⟩:=HK [] (runK (CC []) (l.length+1)) (l.length+1) (bC l)
   obtain⟨fr2,g1,g2,g3⟩:=ue [] (runK (CC []) (l.length+1)) (l.length+1) l.length l fr1 [] [] rfl (by omega) h20 h0
   obtain⟨st,e1,e2⟩:=Ee [] (runK (CC []) (l.length+1)) (l.length+1) fr2 [] [] _ g3 g2
   have hx:ae (CC []) (runK (CC []) (l.length+1)) (l.length+1) mE ⟨entry 21 [bC l],[],[]⟩=some (.ret,st):=by
    rw[aY 1 h1,B2,ar (bE g1)]
    exact e1
   exact⟨l.length+2,_,_,_,_,_,ba Gw rfl hx e2,pW _ _,Wk.refl rfl,trivial⟩
  ·cases h
 ·cases h
end Go.Proofs.YtjdmodeenbdfpaaGreat
end
