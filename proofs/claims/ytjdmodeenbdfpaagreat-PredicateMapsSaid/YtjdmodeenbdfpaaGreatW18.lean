/- Contracts of num's integers, part 18; each lemma states its conditions. -/
import Derived.Test.YtjdmodeenbdfpaaGreatW16
import Derived.Test.YtjdmodeenbdfpaaGreatW17
set_option linter.unusedSimpArgs false
set_option linter.unusedVariables false
noncomputable section
namespace Go.Proofs.YtjdmodeenbdfpaaGreat
open Go Go.Ab Go.RowKit Tryz
attribute [local simp] FP.apart FP.free FzZ aC aF aG aH aM aP aW aX aZ aa ab ae af ag ah ai aj an ao aq au av bD bH bX bZ bc bd bf bg bm bq cD cm number partOf sW seq1
theorem GA {P:Program}{g:FuncId}{f:Ψ→Option Ψ}(he:∀ (args:Array Value)(w:World),(callFunc g args).run P w = .ok (.enter g args) w)
  (h:∀ args rs,f args=some rs→bM rs=true∧∀ (w:World) (M:Nat→Prop) (vs:List Value),Vs w M [] NoL args vs →
   ∃ post:Ending→World→Prop,Calls P g vs.toArray w post∧∀ e w',post e w'→∃ us,e = .returned (BI us)∧Vs w' M [] NoL rs us∧Old w w'):Ab.Spec P g f:=by
 intro args rs hf hi
 obtain⟨h1,h2⟩:=h args rs hf
 refine⟨h1,fun w M vs hM hvs => ?_⟩
 obtain⟨post,h3,h4⟩:=h2 w M vs hvs
 unfold jk
 rw[he]
 refine h3.mono fun e w' hh => ?_
 obtain⟨us,h5,h6⟩:=h4 e w' hh
 exact⟨_,h5,us,rfl,h6⟩
theorem Old.refl (w:World):Old w w:=⟨rfl,rfl,rfl,Nat.le_refl _,fun _ _=>rfl⟩
theorem vs2 {w:World}{M:Nat→Prop}{a b:Value}{vs:List Value}(h:Vs w M [] NoL [.sc a,.sc b] vs):vs=[a,b]:=by
 obtain⟨h1,h2⟩:=h
 match vs,h1 with
 | [u,v],_ =>
  have e1:=h2 0 _ u rfl rfl
  have e2:=h2 1 _ v rfl rfl
  cases e1;cases e2;rfl
theorem ahq (w:World)(M:Nat→Prop)(a:Value):Vs w M [] NoL [.sc a] [a]:=⟨rfl,fun k p v h1 h2=>by
 cases k with
 | zero=>simp at h1 h2;subst h1;subst h2;exact .sc _
 | succ k=>simp at h1⟩
def ibF:Ψ→Option Ψ
 | [.sc (.string s),.sc (.int .u8 c)]=>some [.sc (.int .i64 (Lib.indexByte (bO s) c.toNat.toUInt8))]
 | _=>none
theorem abo:Ab.Spec base.P 191 ibF:=GA (P:=Tryz.prog) Tryz.call191 fun args rs h=>by
 unfold ibF at h
 split at h
 ·rename_i s c
  simp only[OiE] at h
  subst h
  refine⟨rfl,fun w M vs hvs => ?_⟩
  rw[vs2 hvs]
  refine⟨_,Tryz.stringslite_IndexByte s c w,?_⟩
  rintro e w' ⟨rfl,rfl⟩
  exact⟨[_],rfl,ahq _ M _,Old.refl _⟩
 ·cases h
def rf0:Field:={ name := "n",type:=70,offset:=0,embedded:=false,tag := "",pkgPath := "torus/num",byteOffset:=0 }
def rf1:Field:={ name := "d",type:=70,offset:=2,embedded:=false,tag := "",pkgPath := "torus/num",byteOffset:=32 }
theorem uR:und TT 72=some (.struct #[rf0,rf1]):=by kernel_rfl
theorem sR:de TT 72=some 4:=by kernel_rfl
theorem aR:fq TT 72=some true:=by kernel_rfl
theorem zR:eB TT 72=some [.sc (.bool false),.sc (.slice none 0 0),.sc (.bool false),.sc (.slice none 0 0)]:=by kernel_rfl
theorem XT:base.F.get 95=some f95:=by kernel_rfl
theorem PX:base.F.get 104=some f104:=by kernel_rfl
theorem PW:base.F.get 87=some f87:=by kernel_rfl
theorem PR:base.F.get 55=some f55:=by kernel_rfl
theorem PT:base.F.get 56=some f56:=by kernel_rfl
theorem PS:base.F.get 106=some f106:=by kernel_rfl
theorem RN:base.shared 95=false:=by kernel_rfl
theorem J6:base.shared 104=false:=by kernel_rfl
theorem Bz:base.shared 87=false:=by kernel_rfl
theorem J4:base.shared 106=false:=by kernel_rfl
def cf (n d:Int):PV:=.agg [.sc (.bool (bw n)),aO (aK n.natAbs),.sc (.bool (bw d)),aO (aK d.natAbs)]
def gK:PV→Option (Int × Int)
 | .agg [a,b,c,d]=>match fM (.agg [a,b]),fM (.agg [c,d]) with
  | some n,some m=>some (n,m)
  | _,_=>none
 | _=>none
theorem eC {p:PV}{n d:Int}(h:gK p=some (n,d)):p=cf n d∧Sm n∧Sm d:=by
 unfold gK at h
 split at h
 ·split at h
  ·rename_i n' m' e1 e2
   simp only[OiE,PiE] at h
   obtain⟨rfl,rfl⟩:=h
   obtain⟨h1,h2⟩:=eh e1
   obtain⟨h3,h4⟩:=eh e2
   refine⟨?_,h2,h4⟩
   simp only[whW,PV.agg.injEq,List.cons.injEq,and_true] at h1 h3
   obtain⟨rfl,rfl⟩:=h1
   obtain⟨rfl,rfl⟩:=h3
   rfl
  ·cases h
 ·cases h
theorem hZ {n d:Int}(h1:Sm n)(h2:Sm d):gK (cf n d)=some (n,d):=by
 have e1:=cJ h1
 have e2:=cJ h2
 rw[whW] at e1 e2
 simp only[gK,cf,e1,e2]
theorem Cw (n d:Int):canon (cf n d)=cf n d:=by simp only[cf,canon,aJ,fH]
theorem ur (hp:Θ)(n d:Int):bj (snap hp bp) [cf n d]=some ([cf n d],[]):=rfl
def L9:Lst:=[(101,jx),(97,ofF),(149,sT),(150,xN),(151,Wj)]
theorem adh:dt base.P L9:=⟨kc,mw,nM,rp,V6,trivial⟩
theorem aaq:bt L9 101=fun a=>jx (aJ a):=rfl
theorem ahN:bt L9 97=fun a=>ofF (aJ a):=rfl
theorem aeB:bt L9 149=fun a=>sT (aJ a):=rfl
theorem aeC:bt L9 150=fun a=>xN (aJ a):=rfl
theorem aeD:bt L9 151=fun a=>Wj (aJ a):=rfl
theorem pZ (run:aw)(dr:Bool)(hp:Θ)(x:Int)(hx:Sm x):bU (CC L9) run dr hp 101 [br x]=some (Ab.bJ x.sign,hp,⟨[],[],false,false⟩) :=
 bu ve aaq run dr hp _ [Ab.bJ x.sign] (mQ hp x) (jU x) (by simp only[jx,cJ hx])
theorem W0 (run:aw)(dr:Bool)(hp:Θ):bU (CC L9) run dr hp 97 [.sc (.int .i64 1)]=some (br 1,hp,⟨[],[],false,false⟩) :=
 bu zu ahN run dr hp _ [br 1] rfl rfl rfl
theorem A0 (run:aw)(dr:Bool)(hp:Θ)(x:Int)(hx:Sm x):bU (CC L9) run dr hp 149 [br x]=some (br (-x),hp,⟨[],[],false,false⟩) :=
 bu GZ aeB run dr hp _ [br (-x)] (mQ hp x) (jU x) (by simp only[sT,cJ hx])
theorem Po (run:aw)(dr:Bool)(hp:Θ)(x y:Int)(hx:Sm x)(hy:Sm y) :
  bU (CC L9) run dr hp 150 [br x,br y]=some (br (Int.ofNat (Nat.gcd x.natAbs y.natAbs)),hp,⟨[],[],false,false⟩) :=
 bu RM aeC run dr hp _ [br (Int.ofNat (Nat.gcd x.natAbs y.natAbs))] (gI hp x y) (fv x y) (by simp only[xN,cJ hx,cJ hy])
theorem pa (run:aw)(dr:Bool)(hp:Θ)(x y:Int)(hx:Sm x)(hy:Sm y)(h0:y.natAbs≠0) :
  bU (CC L9) run dr hp 151 [br x,br y]=some (.tup [br (mL x y),br (Co x y)],hp,⟨[],[],false,false⟩) :=
 bu ML aeD run dr hp _ [br (mL x y),br (Co x y)] (gI hp x y) (fv x y) (by
  simp only[Wj,cJ hx,cJ hy,kF h0,Bool.not_false,cond_true])
theorem Wu (run:aw)(k:Nat)(n d:Int)(hd:Sm d) :
  ∃ st,af (CC L9) run k (f95.body.getD .skip) ⟨entry 10 [cf n d],[],[]⟩=some (.ret,st)∧bc TT st.fr st.hp f95.results.toList=some [br (if d=0 then 1 else d)]:=by
 have hc1:=fun dr hp=>pZ run dr hp d hd
 have hc2:=fun dr hp=>W0 run dr hp
 obtain⟨e1,e2⟩:=cL 9 (cf n d)
 generalize entry 10 [cf n d]=fr0 at *
 unfold cf at e2
 by_cases h0:d=0
 ·rw[if_pos h0]
  have hs:d.sign=0:=by rw[h0];rfl
  rw[hs] at hc1
  simp only[whW,Ab.bJ] at hc1 hc2 ⊢
  generalize aK n.natAbs=rn at *
  generalize aK d.natAbs=rd at *
  generalize bw n=nn at *
  generalize bw d=nd at *
  simp[f95,e1,e2,bP,hc1,hc2,uR,zW,rf0,rf1,aL]
 ·rw[if_neg h0]
  have hs:(d.sign == 0)=false:=by
   rw[beq_eq_false_iff_ne]
   intro h;exact h0 (Int.sign_eq_zero_iff_zero.1 h)
  have hs' : ¬ d=0:=h0
  generalize d.sign=sg at *
  simp only[whW,Ab.bJ] at hc1 ⊢
  generalize aK n.natAbs=rn at *
  generalize aK d.natAbs=rd at *
  generalize bw n=nn at *
  generalize bw d=nd at *
  simp[f95,e1,e2,bP,hc1,hs,uR,zW,rf0,rf1,aL]
def dE (d:Int):Int:=if d=0 then 1 else d
def yO:Ψ→Option Ψ
 | [p]=>match gK p with
  | some (_,d)=>some [br (dE d)]
  | none=>none
 | _=>none
theorem rK:Ab.Spec base.P 95 yO:=Ab.Spec.bN (C:=CC L9) (cP adh) fun args rs h=>by
 unfold yO at h
 split at h
 ·split at h
  ·rename_i n d e
   obtain⟨rfl,-,hd⟩:=eC e
   simp only[OiE] at h
   subst h
   obtain⟨st,e1,e2⟩:=Wu (runK (CC L9) 1) 1 n d hd
   exact⟨2,_,_,_,_,_,aV XT rfl e1 e2,jB _ _,Wk.refl rfl,trivial⟩
  ·cases h
 ·cases h
def fX:Code:=f104.body.getD .skip
def nJ:Code:=seq1 (ag 1 fX)
theorem Z1:((Region.before (lh (bn nJ)))[4]?.getD 0).testBit 0=true:=by kernel_rfl
theorem Z0:((Region.before (lh (bn nJ)))[5]?.getD 0).testBit 2=true:=by kernel_rfl
abbrev zR4:Blk:=⟨.live,[.sc (.bool false),.sc (.slice none 0 0),.sc (.bool false),.sc (.slice none 0 0)]⟩
abbrev bW (x:Int):Blk:=⟨.live,[.sc (.bool (bw x)),aO (aK x.natAbs)]⟩
theorem xn:ag 1 fX = .seq nJ (ag 2 fX):=rfl
theorem TQ (run:aw)(k:Nat)(x y:Int) :
  ∃ fr wr,ba (CC L9) run k 1 fX ⟨entry 42 [br x,br y],[],[]⟩=some ⟨fr,[bW x,bW y,zR4],wr⟩∧fr.length=42∧nth fr 2 = .ptr 0 0∧nth fr 3 = .ptr 1 0∧nth fr 4 = .ptr 2 0:=by
 obtain⟨e1,e2,e3⟩:=cC 40 (br x) (br y)
 generalize entry 42 [br x,br y]=fr0 at *
 rw[whW] at e2 e3
 simp[fX,f104,ba,e1,e2,e3,and_assoc,zR,aL]
theorem TP (run:aw)(k:Nat)(fr:Ψ)(wr:Ω)(x y:Int)(hy:Sm y)(h0 : ¬ (y<0))(h42:fr.length=42)(h2:nth fr 2 = .ptr 0 0)(h3:nth fr 3 = .ptr 1 0)(h4:nth fr 4 = .ptr 2 0) :
  ∃ fr' wr',af (CC L9) run k nJ ⟨fr,[bW x,bW y,zR4],wr⟩=some (.normal,⟨fr',[bW x,bW y,zR4],wr'⟩)∧fr'.length=42∧nth fr' 2 = .ptr 0 0∧nth fr' 3 = .ptr 1 0∧nth fr' 4 = .ptr 2 0:=by
 have hc1:=fun dr hp=>pZ run dr hp y hy
 have hs : ¬ (y.sign<0):=by
  intro h
  have:=Int.sign_neg_iff.1 h
  omega
 generalize y.sign=sg at *
 simp only[whW,Ab.bJ] at hc1 ⊢
 simp[nJ,fX,f104,and_assoc,hc1,hs,h42,h2,h3,h4]
theorem TN (run:aw)(k:Nat)(fr:Ψ)(wr:Ω)(x y:Int)(hx:Sm x)(hy:Sm y)(h0:y<0)(h42:fr.length=42)(h2:nth fr 2 = .ptr 0 0)(h3:nth fr 3 = .ptr 1 0)(h4:nth fr 4 = .ptr 2 0) :
  ∃ fr' wr',af (CC L9) run k nJ ⟨fr,[bW x,bW y,zR4],wr⟩=some (.normal,⟨fr',[bW (-x),bW (-y),zR4],wr'⟩)∧fr'.length=42∧nth fr' 2 = .ptr 0 0∧nth fr' 3 = .ptr 1 0∧nth fr' 4 = .ptr 2 0:=by
 have hc1:=fun dr hp=>pZ run dr hp y hy
 have hc2:=fun dr hp=>A0 run dr hp x hx
 have hc3:=fun dr hp=>A0 run dr hp y hy
 have hs:y.sign<0:=Int.sign_neg_iff.2 h0
 generalize y.sign=sg at *
 have hb1:=Z1
 have hb2:=Z0
 simp only[nJ,fX,f104,seq1,bn,ag,lh,Option.getD_some] at hb1 hb2
 simp only[bW,whW,Ab.bJ] at hc1 hc2 hc3 ⊢
 generalize aK (-x).natAbs=r1 at *
 generalize bw (-x)=n1 at *
 generalize aK (-y).natAbs=r2 at *
 generalize bw (-y)=n2 at *
 simp[-Nat.testBit_zero,hb1,hb2,nJ,fX,f104,and_assoc,hc1,hc2,hc3,hs,h42,h2,h3,h4]
def HX:Code:=seq1 (ag 2 fX)
def mv:Code:=seq1 (ag 3 fX)
theorem uo:ag 2 fX = .seq HX (ag 3 fX):=rfl
theorem um:ag 3 fX = .seq mv (ag 4 fX):=rfl
theorem ZZ (run:aw)(k:Nat)(fr:Ψ)(wr:Ω)(x y:Int)(hx:Sm x)(hy:Sm y)(h42:fr.length=42)(h2:nth fr 2 = .ptr 0 0)(h3:nth fr 3 = .ptr 1 0)(h4:nth fr 4 = .ptr 2 0) :
  ∃ fr' wr',af (CC L9) run k HX ⟨fr,[bW x,bW y,zR4],wr⟩=some (.normal,⟨fr',[bW x,bW y,zR4,bW (Int.ofNat (Nat.gcd x.natAbs y.natAbs))],wr'⟩)∧fr'.length=42∧nth fr' 2 = .ptr 0 0∧nth fr' 3 = .ptr 1 0∧nth fr' 4 = .ptr 2 0∧nth fr' 5 = .ptr 3 0:=by
 have hc1:=fun dr hp=>Po run dr hp x y hx hy
 generalize Int.ofNat (Nat.gcd x.natAbs y.natAbs)=g at *
 simp only[bW,whW] at hc1 ⊢
 generalize aK g.natAbs=rg at *
 generalize bw g=ng at *
 simp[HX,fX,f104,and_assoc,hc1,h42,h2,h3,h4,zW,aL]
theorem TM (run:aw)(k:Nat)(fr:Ψ)(wr:Ω)(b0 b1 b2:Blk)(h42:fr.length=42)(h2:nth fr 2 = .ptr 0 0)(h3:nth fr 3 = .ptr 1 0)(h4:nth fr 4 = .ptr 2 0)(h5:nth fr 5 = .ptr 3 0) :
  ∃ fr' wr',af (CC L9) run k mv ⟨fr,[b0,b1,b2,bW 1],wr⟩=some (.normal,⟨fr',[b0,b1,b2,bW 1],wr'⟩)∧fr'.length=42∧nth fr' 2 = .ptr 0 0∧nth fr' 3 = .ptr 1 0∧nth fr' 4 = .ptr 2 0:=by
 have e:aO (aK (1:Int).natAbs) = .imm 1 false [dg 1]:=rfl
 have hd:dg 1 = .sc (.int .u32 1):=rfl
 simp only[bW,e,hd]
 simp[mv,fX,f104,bL,aU,bP,jX,and_assoc,cR,h42,h2,h3,h4,h5,uW,uD,sD,s32,aD,a32,wf0,wf1]
set_option maxHeartbeats 1000000 in
theorem TL (run:aw)(k:Nat)(fr:Ψ)(wr:Ω)(b2:Blk)(x y:Int)(g:Nat)(hx:Sm x)(hy:Sm y)(hg:1<g)(hg2:g<1000000000)(h42:fr.length=42)(h2:nth fr 2 = .ptr 0 0)(h3:nth fr 3 = .ptr 1 0)(h4:nth fr 4 = .ptr 2 0)(h5:nth fr 5 = .ptr 3 0) :
  ∃ fr' wr',af (CC L9) run k mv ⟨fr,[bW x,bW y,b2,bW (Int.ofNat g)],wr⟩=some (.normal,⟨fr',[bW (mL x (Int.ofNat g)),bW (mL y (Int.ofNat g)),b2,bW (Int.ofNat g)],wr'⟩)∧fr'.length=42∧nth fr' 2 = .ptr 0 0∧nth fr' 3 = .ptr 1 0∧nth fr' 4 = .ptr 2 0:=by
 have hSg:Sm (Int.ofNat g):=by
  unfold Sm
  rw[show (Int.ofNat g).natAbs=g from rfl,oa (by omega) hg2];simp
 have hc1:=fun dr hp=>pa run dr hp x (Int.ofNat g) hx hSg (show g≠0 by omega)
 have hc2:=fun dr hp=>pa run dr hp y (Int.ofNat g) hy hSg (show g≠0 by omega)
 generalize mL x (Int.ofNat g)=qx at *
 generalize mL y (Int.ofNat g)=qy at *
 generalize Co x (Int.ofNat g)=mx at *
 generalize Co y (Int.ofNat g)=my at *
 have e:br (Int.ofNat g) = .agg [.sc (.bool false),.imm 1 false [dg g]]:=by
  show wh false (aK g)=_
  rw[oa (by omega) hg2];rfl
 have eb:bW (Int.ofNat g)=⟨.live,[.sc (.bool false),.imm 1 false [dg g]]⟩:=by
  show (⟨.live,[.sc (.bool false),aO (aK g)]⟩:Blk)=_
  rw[oa (by omega) hg2];rfl
 have hd:dg g = .sc (.int .u32 (g:Int)):=rfl
 rw[e,hd] at hc1 hc2
 rw[eb,hd]
 simp only[bW,whW] at hc1 hc2 ⊢
 generalize aK qx.natAbs=rx at *
 generalize bw qx=nx at *
 generalize aK qy.natAbs=ry at *
 generalize bw qy=ny at *
 have hg3:(1:Int)<(g:Int):=by omega
 simp[mv,fX,f104,bL,aU,bP,jX,and_assoc,cR,hc1,hc2,hg3,h42,h2,h3,h4,h5,uW,uD,sD,s32,aD,a32,wf0,wf1]
set_option maxHeartbeats 1000000 in
theorem TK (run:aw)(k:Nat)(fr:Ψ)(wr:Ω)(b2:Blk)(x y:Int)(g:Nat)(hx:Sm x)(hy:Sm y)(hSg:Sm (Int.ofNat g))(hg:1000000000≤g)(h42:fr.length=42)(h2:nth fr 2 = .ptr 0 0)(h3:nth fr 3 = .ptr 1 0)(h4:nth fr 4 = .ptr 2 0)(h5:nth fr 5 = .ptr 3 0) :
  ∃ fr' wr',af (CC L9) run k mv ⟨fr,[bW x,bW y,b2,bW (Int.ofNat g)],wr⟩=some (.normal,⟨fr',[bW (mL x (Int.ofNat g)),bW (mL y (Int.ofNat g)),b2,bW (Int.ofNat g)],wr'⟩)∧fr'.length=42∧nth fr' 2 = .ptr 0 0∧nth fr' 3 = .ptr 1 0∧nth fr' 4 = .ptr 2 0:=by
 have hc1:=fun dr hp=>pa run dr hp x (Int.ofNat g) hx hSg (show g≠0 by omega)
 have hc2:=fun dr hp=>pa run dr hp y (Int.ofNat g) hy hSg (show g≠0 by omega)
 generalize mL x (Int.ofNat g)=qx at *
 generalize mL y (Int.ofNat g)=qy at *
 generalize Co x (Int.ofNat g)=mx at *
 generalize Co y (Int.ofNat g)=my at *
 have hl:=rF hg
 have e:br (Int.ofNat g) = .agg [.sc (.bool false),aO (aK g)]:=rfl
 have eb:bW (Int.ofNat g)=⟨.live,[.sc (.bool false),aO (aK g)]⟩:=rfl
 rw[e] at hc1 hc2
 rw[eb]
 simp only[bW,whW] at hc1 hc2 ⊢
 generalize aK qx.natAbs=rx at *
 generalize bw qx=nx at *
 generalize aK qy.natAbs=ry at *
 generalize bw qy=ny at *
 generalize aK g=dl at *
 have hl1:(1:Int)<(dl.length:Int):=by omega
 simp[mv,fX,f104,bL,bP,and_assoc,cn,hc1,hc2,hl1,h42,h2,h3,h4,h5,uW,uD,sD,aD,wf0,wf1]
theorem Am (run:aw)(k:Nat)(fr:Ψ)(wr:Ω)(b3:Blk)(x y:Int)(h42:fr.length=42)(h2:nth fr 2 = .ptr 0 0)(h3:nth fr 3 = .ptr 1 0)(h4:nth fr 4 = .ptr 2 0) :
  ∃ st,af (CC L9) run k (ag 4 fX) ⟨fr,[bW x,bW y,zR4,b3],wr⟩=some (.ret,st)∧bc TT st.fr st.hp f104.results.toList=some [cf x y]:=by
 simp only[bW,cf]
 generalize aK x.natAbs=rx at *
 generalize bw x=nx at *
 generalize aK y.natAbs=ry at *
 generalize bw y=ny at *
 simp[fX,f104,h42,h2,h3,h4,uR,sR,aR,zR,rf0,rf1,fb,dq,ko]
def kP (x y:Int):Int:=sgn (bw (bif bw y then -x else x)) (x.natAbs / Nat.gcd x.natAbs y.natAbs)
def kQ (x y:Int):Int:=Int.ofNat (y.natAbs / Nat.gcd x.natAbs y.natAbs)
theorem xZ (x:Int)(g:Nat)(h:x.natAbs % g=0):mL x (Int.ofNat g)=sgn (bw x) (x.natAbs / g):=by
 have h1:x7 x (Int.ofNat g)=false:=by
  unfold x7
  rw[show (Int.ofNat g).natAbs=g from rfl,h]
  rfl
 rw[mL,h1,cond_false]
 show sgn (bw x != false) (x.natAbs / g)=_
 simp
def pn:Ψ→Option Ψ
 | [p,q]=>match fM p,fM q with
  | some x,some y=>bif !(y.natAbs.beq 0) then some [cf (kP x y) (kQ x y)] else none
  | _,_=>none
 | _=>none
theorem Ak (run:aw)(k:Nat)(fr:Ψ)(wr:Ω)(x y:Int)(hx:Sm x)(hy:Sm y)(hy0:0<y)
  (h42:fr.length=42) (h2:nth fr 2 = .ptr 0 0) (h3:nth fr 3 = .ptr 1 0) (h4:nth fr 4 = .ptr 2 0) :
  ∃ st,af (CC L9) run k (ag 2 fX) ⟨fr,[bW x,bW y,zR4],wr⟩=some (.ret,st)∧bc TT st.fr st.hp f104.results.toList=some [cf (sgn (bw x) (x.natAbs / Nat.gcd x.natAbs y.natAbs)) (Int.ofNat (y.natAbs / Nat.gcd x.natAbs y.natAbs))]:=by
 obtain⟨f1,wr1,a1,a2,a3,a4,a5,a6⟩:=ZZ run k fr wr x y hx hy h42 h2 h3 h4
 have hgp:0<Nat.gcd x.natAbs y.natAbs:=Nat.gcd_pos_of_pos_right _ (by omega)
 have hny:bw y=false:=by rw[cK];simp;omega
 have hyn:Int.ofNat y.natAbs=y:=by simp;omega
 by_cases h1:Nat.gcd x.natAbs y.natAbs=1
 ·rw[h1] at a1 ⊢
  obtain⟨f2,wr2,b1,b2,b3,b4,b5⟩:=TM run k f1 wr1 (bW x) (bW y) zR4 a2 a3 a4 a5 a6
  obtain⟨st,e1,e2⟩:=Am run k f2 wr2 (bW 1) x y b2 b3 b4 b5
  refine⟨st,?_,?_⟩
  ·rw[uo,ar a1,um]
   show af (CC L9) run k (.seq mv (ag 4 fX)) ⟨f1,[bW x,bW y,zR4,bW 1],wr1⟩=_
   rw[ar b1]
   exact e1
  ·rw[e2,Nat.div_one,Nat.div_one,adS,hyn]
 ·obtain⟨f2,wr2,b1,b2,b3,b4,b5⟩:∃ fr' wr',af (CC L9) run k mv ⟨f1,[bW x,bW y,zR4,bW (Int.ofNat (Nat.gcd x.natAbs y.natAbs))],wr1⟩=some (.normal,⟨fr',[bW (mL x (Int.ofNat (Nat.gcd x.natAbs y.natAbs))),bW (mL y (Int.ofNat (Nat.gcd x.natAbs y.natAbs))),zR4,bW (Int.ofNat (Nat.gcd x.natAbs y.natAbs))],wr'⟩)∧fr'.length=42∧nth fr' 2 = .ptr 0 0∧nth fr' 3 = .ptr 1 0∧nth fr' 4 = .ptr 2 0:=by
   by_cases hg2:Nat.gcd x.natAbs y.natAbs<1000000000
   ·exact TL run k f1 wr1 zR4 x y (Nat.gcd x.natAbs y.natAbs) hx hy (by omega) hg2 a2 a3 a4 a5 a6
   ·exact TK run k f1 wr1 zR4 x y (Nat.gcd x.natAbs y.natAbs) hx hy (hy.of_le (Nat.gcd_le_right _ (by omega))) (by omega) a2 a3 a4 a5 a6
  obtain⟨st,e1,e2⟩:=Am run k f2 wr2 (bW (Int.ofNat (Nat.gcd x.natAbs y.natAbs))) (mL x (Int.ofNat (Nat.gcd x.natAbs y.natAbs))) (mL y (Int.ofNat (Nat.gcd x.natAbs y.natAbs))) b2 b3 b4 b5
  refine⟨st,?_,?_⟩
  ·rw[uo,ar a1,um,ar b1]
   exact e1
  ·rw[e2,xZ x _ (Nat.mod_eq_zero_of_dvd (Nat.gcd_dvd_left _ _)),xZ y _ (Nat.mod_eq_zero_of_dvd (Nat.gcd_dvd_right _ _)),hny]
   rfl
theorem N1 (run:aw)(k:Nat)(x y:Int)(hx:Sm x)(hy:Sm y)(hy0:y.natAbs≠0) :
  ∃ st,af (CC L9) run k fX ⟨entry 42 [br x,br y],[],[]⟩=some (.ret,st)∧bc TT st.fr st.hp f104.results.toList=some [cf (kP x y) (kQ x y)]:=by
 obtain⟨f1,wr1,a1,a2,a3,a4,a5⟩:=TQ run k x y
 by_cases h0:y<0
 ·have hny:bw y=true:=by rw[cK];simpa using h0
  obtain⟨f2,wr2,b1,b2,b3,b4,b5⟩:=TN run k f1 wr1 x y hx hy h0 a2 a3 a4 a5
  obtain⟨st,e1,e2⟩:=Ak run k f2 wr2 (-x) (-y) hx.neg hy.neg (by omega) b2 b3 b4 b5
  refine⟨st,?_,?_⟩
  ·rw[aQ 1 a1,xn,ar b1];exact e1
  ·rw[e2,Int.natAbs_neg,Int.natAbs_neg,kP,kQ,hny];rfl
 ·have hny:bw y=false:=by rw[cK];simpa using h0
  obtain⟨f2,wr2,b1,b2,b3,b4,b5⟩:=TP run k f1 wr1 x y hy h0 a2 a3 a4 a5
  obtain⟨st,e1,e2⟩:=Ak run k f2 wr2 x y hx hy (by omega) b2 b3 b4 b5
  refine⟨st,?_,?_⟩
  ·rw[aQ 1 a1,xn,ar b1];exact e1
  ·rw[e2,kP,kQ,hny];rfl
theorem oQ:Ab.Spec base.P 104 pn:=Ab.Spec.bN (C:=CC L9) (cP adh) fun args rs h=>by
 unfold pn at h
 split at h
 ·split at h
  ·rename_i x y ex ey
   obtain⟨rfl,hx⟩:=eh ex
   obtain⟨rfl,hy⟩:=eh ey
   by_cases hy0:y.natAbs=0
   ·rw[hy0] at h;simp at h
   ·rw[kF hy0] at h
    simp only[Bool.not_false,cond_true,OiE] at h
    subst h
    obtain⟨st,e1,e2⟩:=N1 (runK (CC L9) 1) 1 x y hx hy hy0
    exact⟨2,_,_,_,_,_,aV PX rfl e1 e2,ur _ _ _,Wk.refl rfl,trivial⟩
  ·cases h
 ·cases h
theorem PU:base.F.get 129=some f129:=by kernel_rfl
theorem JB:base.F.get 49=some f49:=by kernel_rfl
def az (L:Lst)(run:aw)(g:Nat)(args:Ψ)(r:PV):Prop:=∀ dr hp,bU (CC L) run dr hp g args=some (r,hp,⟨[],[],false,false⟩)
theorem fG (n d:Int):cf n d = .agg [.sc (.bool (bw n)),aO (aK n.natAbs),.sc (.bool (bw d)),aO (aK d.natAbs)]:=rfl
set_option maxHeartbeats 1000000 in
theorem Ng (L:Lst)(run:aw)(k:Nat)(a b c d e1 e2 p q s t n m:Int)(g1:az L run 95 [cf c d] (br e2))(g2:az L run 95 [cf a b] (br e1))
  (g3:az L run 105 [br a,br e2] (br p)) (g4:az L run 105 [br c,br e1] (br q)) (g5:az L run 139 [br p,br q] (br s)) (g6:az L run 105 [br e1,br e2] (br t)) (g7:az L run 104 [br s,br t] (cf n m)) :
  ∃ st,af (CC L) run k (f87.body.getD .skip) ⟨entry 22 [cf a b,cf c d],[],[]⟩=some (.ret,st)∧bc TT st.fr st.hp f87.results.toList=some [cf n m]:=by
 obtain⟨h1,h2,h3⟩:=cC 20 (cf a b) (cf c d)
 generalize entry 22 [cf a b,cf c d]=fr0 at *
 unfold az at *
 simp only[whW,fG] at *
 simp[f87,h1,h2,h3,bP,g1,g2,g3,g4,g5,g6,g7,uR,sR,aR,zR,rf0,rf1,aL]
set_option maxHeartbeats 1000000 in
theorem MW (L:Lst)(run:aw)(k:Nat)(a b c d e1 e2 p t n m:Int)(g1:az L run 95 [cf c d] (br e2))(g2:az L run 95 [cf a b] (br e1))
  (g3:az L run 105 [br a,br c] (br p)) (g6:az L run 105 [br e1,br e2] (br t)) (g7:az L run 104 [br p,br t] (cf n m)) :
  ∃ st,af (CC L) run k (f56.body.getD .skip) ⟨entry 16 [cf a b,cf c d],[],[]⟩=some (.ret,st)∧bc TT st.fr st.hp f56.results.toList=some [cf n m]:=by
 obtain⟨h1,h2,h3⟩:=cC 14 (cf a b) (cf c d)
 generalize entry 16 [cf a b,cf c d]=fr0 at *
 unfold az at *
 simp only[whW,fG] at *
 simp[f56,h1,h2,h3,bP,g1,g2,g3,g6,g7,uR,sR,aR,zR,rf0,rf1,aL]
set_option maxHeartbeats 1000000 in
theorem Nd (L:Lst)(run:aw)(k:Nat)(a b c d e1 e2 p q r:Int)(g1:az L run 95 [cf c d] (br e2))(g2:az L run 95 [cf a b] (br e1))
  (g3:az L run 105 [br a,br e2] (br p)) (g4:az L run 105 [br c,br e1] (br q)) (g5:az L run 96 [br p,br q] (Ab.bJ r)) :
  ∃ st,af (CC L) run k (f129.body.getD .skip) ⟨entry 16 [cf a b,cf c d],[],[]⟩=some (.ret,st)∧bc TT st.fr st.hp f129.results.toList=some [Ab.bJ r]:=by
 obtain⟨h1,h2,h3⟩:=cC 14 (cf a b) (cf c d)
 generalize entry 16 [cf a b,cf c d]=fr0 at *
 unfold az at *
 simp only[whW,fG,Ab.bJ] at *
 simp[f129,h1,h2,h3,bP,g1,g2,g3,g4,g5,uR,sR,aR,rf0,rf1,aL]
theorem MV (L:Lst)(run:aw)(k:Nat)(a b c:Int)(g1:az L run 149 [br a] (br c)) :
  ∃ st,af (CC L) run k (f106.body.getD .skip) ⟨entry 9 [cf a b],[],[]⟩=some (.ret,st)∧bc TT st.fr st.hp f106.results.toList=some [cf c b]:=by
 obtain⟨h1,h2⟩:=cL 8 (cf a b)
 generalize entry 9 [cf a b]=fr0 at *
 unfold az at *
 simp only[whW,fG] at *
 simp[f106,h1,h2,bP,g1,uR,sR,aR,zR,rf0,rf1,fb,dq,ko,aL]
theorem G6 (L:Lst)(run:aw)(k:Nat)(a b c:Int)(g1:az L run 101 [br a] (Ab.bJ c)) :
  ∃ st,af (CC L) run k (f49.body.getD .skip) ⟨entry 6 [cf a b],[],[]⟩=some (.ret,st)∧bc TT st.fr st.hp f49.results.toList=some [Ab.bJ c]:=by
 obtain⟨h1,h2⟩:=cL 5 (cf a b)
 generalize entry 6 [cf a b]=fr0 at *
 unfold az at *
 simp only[whW,fG,Ab.bJ] at *
 simp[f49,h1,h2,bP,g1,uR,rf0,rf1,aL]
theorem MT (L:Lst)(run:aw)(k:Nat)(a b c d e f n m:Int)(g1:az L run 106 [cf c d] (cf e f))(g2:az L run 87 [cf a b,cf e f] (cf n m)) :
  ∃ st,af (CC L) run k (f55.body.getD .skip) ⟨entry 9 [cf a b,cf c d],[],[]⟩=some (.ret,st)∧bc TT st.fr st.hp f55.results.toList=some [cf n m]:=by
 obtain⟨h1,h2,h3⟩:=cC 7 (cf a b) (cf c d)
 generalize entry 9 [cf a b,cf c d]=fr0 at *
 unfold az at *
 simp only[fG] at *
 simp[f55,h1,h2,h3,g1,g2,sR,aR,zR,aL]
def L10:Lst:=[(95,yO),(105,ES),(139,tr),(104,pn),(149,sT),(101,jx),(96,rN)]
theorem yv:dt base.P L10:=⟨rK,rf,ou,oQ,nM,kc,og,trivial⟩
theorem aaF:bt L10 95=fun a=>yO (aJ a):=rfl
theorem aaE:bt L10 105=fun a=>ES (aJ a):=rfl
theorem aaH:bt L10 139=fun a=>tr (aJ a):=rfl
theorem Uo:bt L10 104=fun a=>pn (aJ a):=rfl
theorem aaD:bt L10 149=fun a=>sT (aJ a):=rfl
theorem Un:bt L10 101=fun a=>jx (aJ a):=rfl
theorem aaG:bt L10 96=fun a=>rN (aJ a):=rfl
theorem yh (n d:Int):aJ [cf n d]=[cf n d]:=by simp only[aJ,Cw]
theorem oV (run:aw)(n d:Int)(hn:Sm n)(hd:Sm d):az L10 run 95 [cf n d] (br (dE d)):=fun dr hp =>
 bu RN aaF run dr hp _ [br (dE d)] (ur hp n d) (yh n d) (by simp only[yO,hZ hn hd])
theorem mH (run:aw)(x y:Int)(hx:Sm x)(hy:Sm y):az L10 run 105 [br x,br y] (br (x*y)):=fun dr hp =>
 bu adQ aaE run dr hp _ [br (x*y)] (gI hp x y) (fv x y) (by simp only[ES,cJ hx,cJ hy])
theorem abF (run:aw)(x y:Int)(hx:Sm x)(hy:Sm y):az L10 run 139 [br x,br y] (br (x+y)):=fun dr hp =>
 bu G2 aaH run dr hp _ [br (x+y)] (gI hp x y) (fv x y) (by simp only[tr,cJ hx,cJ hy])
theorem abE (run:aw)(x y:Int)(hx:Sm x)(hy:Sm y):az L10 run 96 [br x,br y] (Ab.bJ (fP x y)):=fun dr hp =>
 bu G1 aaG run dr hp _ [Ab.bJ (fP x y)] (gI hp x y) (fv x y) (by simp only[rN,cJ hx,cJ hy])
theorem abD (run:aw)(x:Int)(hx:Sm x):az L10 run 149 [br x] (br (-x)):=fun dr hp =>
 bu GZ aaD run dr hp _ [br (-x)] (mQ hp x) (jU x) (by simp only[sT,cJ hx])
theorem VK (run:aw)(x:Int)(hx:Sm x):az L10 run 101 [br x] (Ab.bJ x.sign):=fun dr hp =>
 bu ve Un run dr hp _ [Ab.bJ x.sign] (mQ hp x) (jU x) (by simp only[jx,cJ hx])
def qY (_ y:Int):Bool := !(y.natAbs.beq 0)
theorem Fo (run:aw)(x y:Int)(hx:Sm x)(hy:Sm y)(h:qY x y=true):az L10 run 104 [br x,br y] (cf (kP x y) (kQ x y)):=fun dr hp =>
 bu J6 Uo run dr hp _ [cf (kP x y) (kQ x y)] (gI hp x y) (fv x y) (by
  unfold qY at h
  simp only[pn,cJ hx,cJ hy,h,cond_true])
def smB (x:Int):Bool:=x.natAbs.log2.blt 11000000
theorem iW {x:Int}(h:smB x=true):Sm x:=aa7 (by simpa [smB,Nat.blt_eq] using h)
theorem CE:Sm 1:=by unfold Sm;decide
theorem ov {d:Int}(h:Sm d):Sm (dE d):=by
 unfold dE
 by_cases h0:d=0
 ·rw[if_pos h0];exact CE
 ·rw[if_neg h0];exact h
def fW:Ψ→Option Ψ
 | [p,q]=>match gK p,gK q with
  | some (a,b),some (c,d)=>bif smB (a*dE d) && (smB (c*dE b) && (smB (a*dE d+c*dE b) && (smB (dE b*dE d) && qY (a*dE d+c*dE b) (dE b*dE d)))) then
    some [cf (kP (a*dE d+c*dE b) (dE b*dE d)) (kQ (a*dE d+c*dE b) (dE b*dE d))] else none
  | _,_=>none
 | _=>none
theorem lL:Ab.Spec base.P 87 fW:=Ab.Spec.bN (C:=CC L10) (cP yv) fun args rs h=>by
 unfold fW at h
 split at h
 ·split at h
  ·rename_i a b c d ex ey
   obtain⟨rfl,ha,hb⟩:=eC ex
   obtain⟨rfl,hc,hd⟩:=eC ey
   cases hg:smB (a*dE d) && (smB (c*dE b) && (smB (a*dE d+c*dE b) && (smB (dE b*dE d) && qY (a*dE d+c*dE b) (dE b*dE d)))) with
   | false=>rw[hg] at h;cases h
   | true =>
    rw[hg] at h
    simp only[cond_true,OiE] at h
    subst h
    simp only[Bool.and_eq_true] at hg
    obtain⟨h1,h2,h3,h4,h5⟩:=hg
    obtain⟨st,e1,e2⟩:=Ng L10 (runK (CC L10) 1) 1 a b c d _ _ _ _ _ _ _ _ (oV _ c d hc hd) (oV _ a b ha hb) (mH _ _ _ ha (ov hd)) (mH _ _ _ hc (ov hb)) (abF _ _ _ (iW h1) (iW h2)) (mH _ _ _ (ov hb) (ov hd)) (Fo _ _ _ (iW h3) (iW h4) h5)
    exact⟨2,_,_,_,_,_,aV PW rfl e1 e2,ur _ _ _,Wk.refl rfl,trivial⟩
  ·cases h
 ·cases h
def jy:Ψ→Option Ψ
 | [p,q]=>match gK p,gK q with
  | some (a,b),some (c,d)=>bif smB (a*c) && (smB (dE b*dE d) && qY (a*c) (dE b*dE d)) then
    some [cf (kP (a*c) (dE b*dE d)) (kQ (a*c) (dE b*dE d))] else none
  | _,_=>none
 | _=>none
theorem oK:Ab.Spec base.P 56 jy:=Ab.Spec.bN (C:=CC L10) (cP yv) fun args rs h=>by
 unfold jy at h
 split at h
 ·split at h
  ·rename_i a b c d ex ey
   obtain⟨rfl,ha,hb⟩:=eC ex
   obtain⟨rfl,hc,hd⟩:=eC ey
   cases hg:smB (a*c) && (smB (dE b*dE d) && qY (a*c) (dE b*dE d)) with
   | false=>rw[hg] at h;cases h
   | true =>
    rw[hg] at h
    simp only[cond_true,OiE] at h
    subst h
    simp only[Bool.and_eq_true] at hg
    obtain⟨h1,h4,h5⟩:=hg
    obtain⟨st,e1,e2⟩:=MW L10 (runK (CC L10) 1) 1 a b c d _ _ _ _ _ _ (oV _ c d hc hd) (oV _ a b ha hb) (mH _ _ _ ha hc) (mH _ _ _ (ov hb) (ov hd)) (Fo _ _ _ (iW h1) (iW h4) h5)
    exact⟨2,_,_,_,_,_,aV PT rfl e1 e2,ur _ _ _,Wk.refl rfl,trivial⟩
  ·cases h
 ·cases h
def Kz:Ψ→Option Ψ
 | [p,q]=>match gK p,gK q with
  | some (a,b),some (c,d)=>bif smB (a*dE d) && smB (c*dE b) then some [Ab.bJ (fP (a*dE d) (c*dE b))] else none
  | _,_=>none
 | _=>none
theorem zG:Ab.Spec base.P 129 Kz:=Ab.Spec.bN (C:=CC L10) (cP yv) fun args rs h=>by
 unfold Kz at h
 split at h
 ·split at h
  ·rename_i a b c d ex ey
   obtain⟨rfl,ha,hb⟩:=eC ex
   obtain⟨rfl,hc,hd⟩:=eC ey
   cases hg:smB (a*dE d) && smB (c*dE b) with
   | false=>rw[hg] at h;cases h
   | true =>
    rw[hg] at h
    simp only[cond_true,OiE] at h
    subst h
    simp only[Bool.and_eq_true] at hg
    obtain⟨h1,h2⟩:=hg
    obtain⟨st,e1,e2⟩:=Nd L10 (runK (CC L10) 1) 1 a b c d _ _ _ _ _ (oV _ c d hc hd) (oV _ a b ha hb) (mH _ _ _ ha (ov hd)) (mH _ _ _ hc (ov hb)) (abE _ _ _ (iW h1) (iW h2))
    exact⟨2,_,_,_,_,_,aV PU rfl e1 e2,eL _ _,Wk.refl rfl,trivial⟩
  ·cases h
 ·cases h
def ki:Ψ→Option Ψ
 | [p]=>match gK p with
  | some (a,b)=>some [cf (-a) b]
  | none=>none
 | _=>none
theorem oJ:Ab.Spec base.P 106 ki:=Ab.Spec.bN (C:=CC L10) (cP yv) fun args rs h=>by
 unfold ki at h
 split at h
 ·split at h
  ·rename_i a b ex
   obtain⟨rfl,ha,hb⟩:=eC ex
   simp only[OiE] at h
   subst h
   obtain⟨st,e1,e2⟩:=MV L10 (runK (CC L10) 1) 1 a b _ (abD _ a ha)
   exact⟨2,_,_,_,_,_,aV PS rfl e1 e2,ur _ _ _,Wk.refl rfl,trivial⟩
  ·cases h
 ·cases h
def iZ:Ψ→Option Ψ
 | [p]=>match gK p with
  | some (a,_)=>some [Ab.bJ a.sign]
  | none=>none
 | _=>none
theorem kh:Ab.Spec base.P 49 iZ:=Ab.Spec.bN (C:=CC L10) (cP yv) fun args rs h=>by
 unfold iZ at h
 split at h
 ·split at h
  ·rename_i a b ex
   obtain⟨rfl,ha,hb⟩:=eC ex
   simp only[OiE] at h
   subst h
   obtain⟨st,e1,e2⟩:=G6 L10 (runK (CC L10) 1) 1 a b _ (VK _ a ha)
   exact⟨2,_,_,_,_,_,aV JB rfl e1 e2,eL _ _,Wk.refl rfl,trivial⟩
  ·cases h
 ·cases h
def L11:Lst:=[(87,fW),(106,ki)]
theorem agU:dt base.P L11:=⟨lL,oJ,trivial⟩
theorem aaC:bt L11 87=fun a=>fW (aJ a):=rfl
theorem aaB:bt L11 106=fun a=>ki (aJ a):=rfl
theorem acw (hp:Θ)(a b c d:Int):bj (snap hp bp) [cf a b,cf c d]=some ([cf a b,cf c d],[]):=rfl
theorem WW (a b c d:Int):aJ [cf a b,cf c d]=[cf a b,cf c d]:=by simp only[aJ,Cw]
theorem abB (run:aw)(n d:Int)(hn:Sm n)(hd:Sm d):az L11 run 106 [cf n d] (cf (-n) d):=fun dr hp =>
 bu J4 aaB run dr hp _ [cf (-n) d] (ur hp n d) (yh n d) (by simp only[ki,hZ hn hd])
theorem abC (run:aw)(a b c d n m:Int)(h:fW [cf a b,cf c d]=some [cf n m]):az L11 run 87 [cf a b,cf c d] (cf n m):=fun dr hp =>
 bu Bz aaC run dr hp _ [cf n m] (acw hp a b c d) (WW a b c d) h
def tK:Ψ→Option Ψ
 | [p,q]=>match gK q with
  | some (c,d)=>fW [p,cf (-c) d]
  | _=>none
 | _=>none
theorem Nh {p q:PV}{rs:Ψ}(h:fW [p,q]=some rs):∃ a b n m,p=cf a b∧rs=[cf n m]:=by
 simp only[fW] at h
 split at h
 ·rename_i a b c d ex ey
  obtain⟨rfl,-,-⟩:=eC ex
  cases hg:smB (a*dE d) && (smB (c*dE b) && (smB (a*dE d+c*dE b) && (smB (dE b*dE d) && qY (a*dE d+c*dE b) (dE b*dE d)))) with
  | false=>rw[hg] at h;cases h
  | true =>
   rw[hg] at h
   simp only[cond_true,OiE] at h
   exact⟨a,b,_,_,rfl,h.symm⟩
 ·cases h
theorem sy:Ab.Spec base.P 55 tK:=Ab.Spec.bN (C:=CC L11) (cP agU) fun args rs h=>by
 unfold tK at h
 split at h
 ·split at h
  ·rename_i p q c d ey
   obtain⟨rfl,hc,hd⟩:=eC ey
   obtain⟨a,b,n,m,rfl,rfl⟩:=Nh h
   obtain⟨st,e1,e2⟩:=MT L11 (runK (CC L11) 1) 1 a b c d _ _ n m (abB _ c d hc hd) (abC _ a b (-c) d n m h)
   exact⟨2,_,_,_,_,_,aV PR rfl e1 e2,ur _ _ _,Wk.refl rfl,trivial⟩
  ·cases h
 ·cases h
theorem XU:base.F.get 153=some f153:=by kernel_rfl
theorem PZ:base.F.get 169=some f169:=by kernel_rfl
theorem Gj:base.F.get 183=some f183:=by kernel_rfl
theorem mS:base.F.get 108=some f108:=by kernel_rfl
theorem adR:base.shared 153=false:=by kernel_rfl
theorem YW:base.shared 169=false:=by kernel_rfl
theorem MJ:base.shared 183=false:=by kernel_rfl
theorem BA:base.shared 191=false:=by kernel_rfl
abbrev gU:ByteArray:={ data:=#[47] }
theorem vU:bO gU=[47]:=rfl
def idx (s:ByteArray):Int:=bif eqL [47] (bO s) then 0 else Lib.indexByte (bO s) 47
theorem E7 (L:Lst)(run:aw)(k:Nat)(s:ByteArray)(g1:az L run 191 [.sc (.string s),.sc (.int .u8 47)] (.sc (.int .i64 (Lib.indexByte (bO s) 47)))) :
  ∃ st,af (CC L) run k (f183.body.getD .skip) ⟨entry 143 [.sc (.string s),.sc (.string gU)],[],[]⟩=some (.ret,st)∧bc TT st.fr st.hp f183.results.toList=some [Ab.bJ (idx s)]:=by
 obtain⟨h1,h2,h3⟩:=cC 141 (.sc (.string s)) (.sc (.string gU))
 generalize entry 143 [.sc (.string s),.sc (.string gU)]=fr0 at *
 unfold az at g1
 unfold idx
 have hix:ig TT 9 (.sc (.string gU)) (.sc (.int .i64 0))=some (.sc (.int .u8 47)):=by
  simp[ig,uS,jX,vU,EO]
 have hst:=vU
 generalize gU=sl at *
 generalize Lib.indexByte (bO s) 47=i at *
 cases he:eqL [47] (bO s) with
 | true=>simp[f183,h1,h2,h3,bL,uS,hst,fc,he,Ab.bJ]
 | false=>simp[f183,h1,h2,h3,bL,uS,hst,fc,he,g1,hix,Ab.bJ]
def vj:Ψ→Option Ψ
 | [.sc (.string s),.sc (.string p)]=>bif eqL (bO p) [47] then some [Ab.bJ (idx s)] else none
 | _=>none
theorem s9:∀ {a b:List UInt8},eqL a b=true→a=b
 | [],[],_=>rfl
 | a::x,b::y,h=>by
  simp only[eqL,Bool.and_eq_true,beq_iff_eq] at h
  rw[s9 h.2,UInt8.toNat_inj.1 h.1]
 | [],_::_,h=>by simp[eqL] at h
 | _::_,[],h=>by simp[eqL] at h
theorem v8 {p:ByteArray}(h:eqL (bO p) [47]=true):p=gU:=by
 have:=s9 h
 rw[← gE p,this];rfl
def L12:Lst:=[(191,ibF)]
theorem g12 (run:aw)(s:ByteArray):az L12 run 191 [.sc (.string s),.sc (.int .u8 47)] (.sc (.int .i64 (Lib.indexByte (bO s) 47))):=fun dr hp =>
 bu (L:=L12) (f:=ibF) BA rfl run dr hp _ [.sc (.int .i64 (Lib.indexByte (bO s) 47))] rfl rfl rfl
theorem E6:Ab.Spec base.P 183 vj:=Ab.Spec.bN (C:=CC L12) (cP ⟨abo,trivial⟩) fun args rs h=>by
 unfold vj at h
 split at h
 ·rename_i s p
  cases hb:eqL (bO p) [47] with
  | false=>rw[hb] at h;cases h
  | true =>
   rw[hb] at h
   simp only[cond_true,OiE] at h
   subst h
   rw[v8 hb]
   obtain⟨st,e1,e2⟩:=E7 L12 (runK (CC L12) 1) 1 s (g12 _ s)
   exact⟨2,_,_,_,_,_,aV Gj rfl e1 e2,eL _ _,Wk.refl rfl,trivial⟩
 ·cases h
def m4 (s:ByteArray):Ψ:=match idx s with
 | .ofNat i=>[.sc (.string (mkStr ((bO s).take i))),.sc (.string (mkStr ((bO s).drop (i+1)))),.sc (.bool true)]
 | .negSucc _=>[.sc (.string s),.sc (.string { data:=#[] }),.sc (.bool false)]
def l6 (s:ByteArray):Bool:=match idx s with
 | .ofNat i=>(i+1).ble (bO s).length && (bO s).length.ble 1000000000
 | .negSucc _=>true
def lU:Code:=f169.body.getD .skip
def Ir:Code:=seq1 (seq1 (ag 1 lU))
def sY:Code:=bn (seq1 (ag 1 lU))
theorem xF:ag 1 lU = .seq (.seq Ir sY) (ag 2 lU):=rfl
theorem Vu (L:Lst)(run:aw)(k:Nat)(s sl:ByteArray):∃ fr,ba (CC L) run k 1 lU ⟨entry 23 [.sc (.string s),.sc (.string sl)],[],[]⟩=some ⟨fr,[],[]⟩∧fr.length=23∧nth fr 0 = .sc (.string s)∧nth fr 1 = .sc (.string sl):=by
 obtain⟨h1,h2,h3⟩:=cC 21 (.sc (.string s)) (.sc (.string sl))
 generalize entry 23 [.sc (.string s),.sc (.string sl)]=fr0 at *
 simp[lU,f169,ba,h1,h2,h3]
theorem abf (L:Lst)(run:aw)(k:Nat)(fr:Ψ)(s sl:ByteArray)(z:Int)(g1:az L run 183 [.sc (.string s),.sc (.string sl)] (Ab.bJ z))(h1:fr.length=23)(h2:nth fr 0 = .sc (.string s))(h3:nth fr 1 = .sc (.string sl)) :
  ∃ fr',af (CC L) run k Ir ⟨fr,[],[]⟩=some (.normal,⟨fr',[],[]⟩)∧fr'.length=23∧nth fr' 0 = .sc (.string s)∧nth fr' 1 = .sc (.string sl)∧nth fr' 7 = .sc (.int .i64 z):=by
 unfold az at g1
 simp only[Ab.bJ] at g1
 simp[Ir,lU,f169,h1,h2,h3,g1]
theorem Vt (L:Lst)(run:aw)(k:Nat)(fr:Ψ)(s sl a b:ByteArray)(z j:Int)(n:Nat)(hz : ¬ (z<0))(hj:bF .i64 (z+n)=j)(hn:(bO sl).length=n)(hs1:ef s none (some (.sc (.int .i64 z))) none=some (.sc (.string a)))(hs2:ef s (some (.sc (.int .i64 j))) none none=some (.sc (.string b)))
  (h1:fr.length=23) (h2:nth fr 0 = .sc (.string s)) (h3:nth fr 1 = .sc (.string sl)) (h7:nth fr 7 = .sc (.int .i64 z)) :
  ∃ st,af (CC L) run k sY ⟨fr,[],[]⟩=some (.ret,st)∧bc TT st.fr st.hp f169.results.toList=some [.sc (.string a),.sc (.string b),.sc (.bool true)]:=by
 have hz':0≤z:=by omega
 simp[sY,lU,f169,bn,h1,h2,h3,h7,bL,uS,hz',hn,hj,dh,hs1,hs2]
theorem Vr (L:Lst)(run:aw)(k:Nat)(fr:Ψ)(s sl:ByteArray)(z:Int)(hz:z<0)(h1:fr.length=23)(h2:nth fr 0 = .sc (.string s))(h3:nth fr 1 = .sc (.string sl))(h7:nth fr 7 = .sc (.int .i64 z)) :
  ∃ st fr',af (CC L) run k sY ⟨fr,[],[]⟩=some (.normal,⟨fr',[],[]⟩)∧af (CC L) run k (ag 2 lU) ⟨fr',[],[]⟩=some (.ret,st)∧bc TT st.fr st.hp f169.results.toList=some [.sc (.string s),.sc (.string { data:=#[] }),.sc (.bool false)]:=by
 have hz' : ¬ (0≤z):=by omega
 have e:∃ fr',af (CC L) run k sY ⟨fr,[],[]⟩=some (.normal,⟨fr',[],[]⟩)∧fr'.length=23∧nth fr' 0 = .sc (.string s):=by
  simp[sY,lU,f169,bn,h1,h2,h7,hz']
 obtain⟨fr',e1,e2,e3⟩:=e
 have e':∃ st,af (CC L) run k (ag 2 lU) ⟨fr',[],[]⟩=some (.ret,st)∧bc TT st.fr st.hp f169.results.toList=some [.sc (.string s),.sc (.string { data:=#[] }),.sc (.bool false)]:=by
  simp[lU,f169,e2,e3]
 obtain⟨st,e4,e5⟩:=e'
 exact⟨st,fr',e1,e4,e5⟩
theorem Iu (L:Lst)(run:aw)(k:Nat)(s:ByteArray)(hk:l6 s=true)(g1:az L run 183 [.sc (.string s),.sc (.string gU)] (Ab.bJ (idx s))) :
  ∃ st,af (CC L) run k lU ⟨entry 23 [.sc (.string s),.sc (.string gU)],[],[]⟩=some (.ret,st)∧bc TT st.fr st.hp f169.results.toList=some (m4 s):=by
 obtain⟨f1,a1,a2,a3,a4⟩:=Vu L run k s gU
 obtain⟨f2,b1,b2,b3,b4,b5⟩:=abf L run k f1 s gU (idx s) g1 a2 a3 a4
 unfold m4
 unfold l6 at hk
 cases hi:idx s with
 | ofNat i =>
  rw[hi] at b5 hk
  simp only[Bool.and_eq_true,Nat.ble_eq] at hk
  have hw:=bA i (Nat.lt_of_lt_of_le hk.1 (Nat.le_trans hk.2 (by decide)))
  have hs1:ef s none (some (.sc (.int .i64 (Int.ofNat i)))) none=some (.sc (.string (mkStr ((bO s).take i)))):=by
   have:i≤(bO s).length:=Nat.le_of_succ_le hk.1
   simp[ef,bnd,eD,bh,this]
  have hs2:ef s (some (.sc (.int .i64 ((i:Int)+1)))) none none=some (.sc (.string (mkStr ((bO s).drop (i+1))))):=by
   have:i+1≤(bO s).length:=hk.1
   simp[ef,bnd,eD,ji,this]
  obtain⟨st,c1,c2⟩:=Vt L run k f2 s gU _ _ (Int.ofNat i) _ 1 (by simp) hw rfl hs1 hs2 b2 b3 b4 b5
  exact⟨st,by rw[aQ 1 a1,xF,cj ((ar b1).trans c1)],c2⟩
 | negSucc i =>
  rw[hi] at b5
  obtain⟨st,f3,c1,c2,c3⟩:=Vr L run k f2 s gU (Int.negSucc i) (by simp) b2 b3 b4 b5
  exact⟨st,by rw[aQ 1 a1,xF,ar ((ar b1).trans c1)];exact c2,c3⟩
def rM:Ψ→Option Ψ
 | [.sc (.string s),.sc (.string p)]=>bif eqL (bO p) [47] && l6 s then some (m4 s) else none
 | _=>none
theorem ED (hp:Θ)(s:ByteArray):bj (snap hp bp) (m4 s)=some (m4 s,[]):=by
 unfold m4;cases idx s <;> rfl
theorem JM (s:ByteArray):WkL (m4 s) (m4 s):=WkL.refl (by unfold m4;cases idx s <;> rfl)
def L13:Lst:=[(183,vj)]
theorem g13 (run:aw)(s:ByteArray):az L13 run 183 [.sc (.string s),.sc (.string gU)] (Ab.bJ (idx s)):=fun dr hp =>
 bu (L:=L13) (f:=vj) MJ rfl run dr hp _ [Ab.bJ (idx s)] rfl rfl rfl
theorem It:Ab.Spec base.P 169 rM:=Ab.Spec.bN (C:=CC L13) (cP ⟨E6,trivial⟩) fun args rs h=>by
 unfold rM at h
 split at h
 ·rename_i s p
  cases hb:eqL (bO p) [47] && l6 s with
  | false=>rw[hb] at h;cases h
  | true =>
   rw[hb] at h
   simp only[cond_true,OiE] at h
   subst h
   rw[Bool.and_eq_true] at hb
   rw[v8 hb.1]
   obtain⟨st,e1,e2⟩:=Iu L13 (runK (CC L13) 1) 1 s hb.2 (g13 _ s)
   exact⟨2,_,_,_,_,_,aV PZ rfl e1 e2,ED _ _,JM _⟩
 ·cases h
def L14:Lst:=[(169,rM)]
theorem g14 (run:aw)(s:ByteArray)(hk:l6 s=true):az L14 run 169 [.sc (.string s),.sc (.string gU)] (ja (m4 s)):=fun dr hp =>
 bu (L:=L14) (f:=rM) YW rfl run dr hp _ (m4 s) rfl rfl (by
  show (bif true && l6 s then some (m4 s) else none)=_
  rw[hk];rfl)
theorem O7 (L:Lst)(run:aw)(k:Nat)(s:ByteArray)(g1:az L run 169 [.sc (.string s),.sc (.string gU)] (ja (m4 s))) :
  ∃ st,af (CC L) run k (f153.body.getD .skip) ⟨entry 13 [.sc (.string s),.sc (.string gU)],[],[]⟩=some (.ret,st)∧bc TT st.fr st.hp f153.results.toList=some (m4 s):=by
 obtain⟨h1,h2,h3⟩:=cC 11 (.sc (.string s)) (.sc (.string gU))
 generalize entry 13 [.sc (.string s),.sc (.string gU)]=fr0 at *
 unfold az at g1
 unfold m4 at g1 ⊢
 cases hi:idx s <;> rw[hi] at g1 <;> simp only[ja] at g1 ⊢ <;> simp[f153,h1,h2,h3,g1]
theorem O6:Ab.Spec base.P 153 rM:=Ab.Spec.bN (C:=CC L14) (cP ⟨It,trivial⟩) fun args rs h=>by
 unfold rM at h
 split at h
 ·rename_i s p
  cases hb:eqL (bO p) [47] && l6 s with
  | false=>rw[hb] at h;cases h
  | true =>
   rw[hb] at h
   simp only[cond_true,OiE] at h
   subst h
   rw[Bool.and_eq_true] at hb
   rw[v8 hb.1]
   obtain⟨st,e1,e2⟩:=O7 L14 (runK (CC L14) 1) 1 s (g14 _ s hb.2)
   exact⟨2,_,_,_,_,_,aV XU rfl e1 e2,ED _ _,JM _⟩
 ·cases h
def rrC:Code:=f108.body.getD .skip
def MU:Code:=seq1 (ag 3 rrC)
def DP:Code:=seq1 (ag 5 rrC)
theorem zC:ag 3 rrC = .seq MU (ag 4 rrC):=rfl
theorem zA:ag 5 rrC = .seq DP (ag 6 rrC):=rfl
theorem adW (L:Lst)(run:aw)(k:Nat)(s s1 t1:ByteArray)(sl ok:Bool)(n:Int)(g1:az L run 153 [.sc (.string s),.sc (.string gU)] (.tup [.sc (.string s1),.sc (.string t1),.sc (.bool sl)]))(g2:az L run 154 [.sc (.string s1)] (.tup [br n,.sc (.bool ok)])) :
  ∃ fr wr,ba (CC L) run k 3 rrC ⟨entry 61 [.sc (.string s)],[],[]⟩=some ⟨fr,[zR4,bW n],wr⟩∧fr.length=61∧nth fr 2 = .ptr 0 0∧nth fr 5 = .sc (.string t1)∧nth fr 6 = .sc (.bool sl)∧nth fr 7 = .ptr 1 0∧nth fr 8 = .sc (.bool ok):=by
 obtain⟨h1,h2⟩:=cL 60 (.sc (.string s))
 generalize entry 61 [.sc (.string s)]=fr0 at *
 unfold az at g1 g2
 simp only[whW,bW] at g2 ⊢
 generalize aK n.natAbs=rn at *
 generalize bw n=nn at *
 simp[rrC,f108,ba,h1,h2,and_assoc,g1,g2,zR,zW,aL]
theorem adV (L:Lst)(run:aw)(k:Nat)(fr:Ψ)(wr:Ω)(sl ok:Bool)(n:Int)(hb:ok=false∨sl=false)(g1:az L run 97 [.sc (.int .i64 1)] (br 1))
  (h1:fr.length=61) (h2:nth fr 2 = .ptr 0 0) (h6:nth fr 6 = .sc (.bool sl)) (h7:nth fr 7 = .ptr 1 0) (h8:nth fr 8 = .sc (.bool ok)) :
  ∃ st,af (CC L) run k MU ⟨fr,[zR4,bW n],wr⟩=some (.ret,st)∧bc TT st.fr st.hp f108.results.toList=some [cf n 1,.sc (.bool ok)]:=by
 unfold az at g1
 rw[fG]
 simp only[whW,bW] at g1 ⊢
 generalize aK n.natAbs=rn at *
 generalize bw n=nn at *
 generalize aK (1:Int).natAbs=r1 at *
 generalize bw 1=n1 at *
 rcases hb with rfl | rfl
 ·simp[MU,rrC,f108,h1,h2,h7,h8,unP,undef,g1,uR,sR,aR,zR,rf0,rf1,fb,dq,ko]
 ·cases ok <;> simp[MU,rrC,f108,h1,h2,h6,h7,h8,unP,undef,g1,uR,sR,aR,zR,rf0,rf1,fb,dq,ko]
theorem adU (L:Lst)(run:aw)(k:Nat)(fr:Ψ)(wr:Ω)(n:Int)(h1:fr.length=61)(h2:nth fr 2 = .ptr 0 0)(h6:nth fr 6 = .sc (.bool true))(h7:nth fr 7 = .ptr 1 0)(h8:nth fr 8 = .sc (.bool true)) :
  ∃ fr',af (CC L) run k MU ⟨fr,[zR4,bW n],wr⟩=some (.normal,⟨fr',[zR4,bW n],wr⟩)∧fr'.length=61∧nth fr' 2 = .ptr 0 0∧nth fr' 5=nth fr 5∧nth fr' 7 = .ptr 1 0:=by
 simp[MU,rrC,f108,h1,h2,h6,h7,h8,unP]
theorem ahA (L:Lst)(run:aw)(k:Nat)(fr:Ψ)(wr:Ω)(t1:ByteArray)(ok:Bool)(n d:Int)(g1:az L run 154 [.sc (.string t1)] (.tup [br d,.sc (.bool ok)]))(h1:fr.length=61)(h2:nth fr 2 = .ptr 0 0)(h5:nth fr 5 = .sc (.string t1))(h7:nth fr 7 = .ptr 1 0) :
  ∃ fr' wr',ba (CC L) run k 1 (ag 4 rrC) ⟨fr,[zR4,bW n],wr⟩=some ⟨fr',[zR4,bW n,bW d],wr'⟩∧fr'.length=61∧nth fr' 2 = .ptr 0 0∧nth fr' 7 = .ptr 1 0∧nth fr' 9 = .ptr 2 0∧nth fr' 8 = .sc (.bool ok):=by
 unfold az at g1
 simp only[whW,bW] at g1 ⊢
 generalize aK n.natAbs=rn at *
 generalize bw n=nn at *
 generalize aK d.natAbs=rd at *
 generalize bw d=nd at *
 simp[rrC,f108,ba,h1,h2,h5,h7,and_assoc,g1,zW,aL]
def wq (ok:Bool)(s c1 c2:Int):Bool := !ok || (s == 0 || (decide (c1≤0) || c2 != 0))
set_option maxHeartbeats 4000000 in
theorem ahz (L:Lst)(run:aw)(k:Nat)(fr:Ψ)(wr:Ω)(ok:Bool)(n d g:Int)(s c1 c2:Int)(g1:ok=true→az L run 101 [br n] (Ab.bJ s))(g0:az L run 97 [.sc (.int .i64 1)] (br 1))(g2:ok=true→s≠0→az L run 96 [br d,br 1] (Ab.bJ c1))
  (g3:ok=true→s≠0 → ¬ (c1≤0)→az L run 150 [br n,br d] (br g)) (g4:ok=true→s≠0 → ¬ (c1≤0)→az L run 96 [br g,br 1] (Ab.bJ c2))
  (h1:fr.length=61) (h2:nth fr 2 = .ptr 0 0) (h7:nth fr 7 = .ptr 1 0) (h9:nth fr 9 = .ptr 2 0) (h8:nth fr 8 = .sc (.bool ok)) :
  (wq ok s c1 c2=true∧∃ st,af (CC L) run k DP ⟨fr,[zR4,bW n,bW d],wr⟩=some (.ret,st)∧bc TT st.fr st.hp f108.results.toList=some [.agg [.sc (.bool false),.sc (.slice none 0 0),.sc (.bool false),.sc (.slice none 0 0)],.sc (.bool false)]) ∨
  (wq ok s c1 c2=false∧∃ fr',af (CC L) run k DP ⟨fr,[zR4,bW n,bW d],wr⟩=some (.normal,⟨fr',[zR4,bW n,bW d],wr⟩)∧fr'.length=61∧nth fr' 2 = .ptr 0 0∧nth fr' 7 = .ptr 1 0∧nth fr' 9 = .ptr 2 0):=by
 unfold wq
 unfold az at *
 simp only[whW,bW,Ab.bJ] at *
 generalize aK n.natAbs=rn at *
 generalize bw n=nn at *
 generalize aK d.natAbs=rd at *
 generalize bw d=nd at *
 generalize aK g.natAbs=rg at *
 generalize bw g=ng at *
 generalize aK (1:Int).natAbs=r1 at *
 generalize bw 1=n1 at *
 cases ok with
 | false =>
  refine .inl ⟨rfl,?_⟩
  simp[DP,rrC,f108,h1,h2,h8,unP,fC,undef,uR,sR,aR,zR,rf0,rf1,fb,dq]
 | true =>
  have g1:=g1 rfl
  by_cases hs:s=0
  ·refine .inl ⟨by simp[hs],?_⟩
   have hs':(s == 0)=true:=by simpa using hs
   simp[DP,rrC,f108,h1,h2,h7,h8,g1,hs',unP,fC,undef,uR,sR,aR,zR,rf0,rf1,fb,dq]
  ·have g2:=g2 rfl hs
   have hs':(s == 0)=false:=by simpa using hs
   by_cases hc:c1≤0
   ·refine .inl ⟨by simp[hc],?_⟩
    simp[DP,rrC,f108,h1,h2,h7,h8,h9,g1,g0,g2,hs',hc,unP,fC,undef,uR,sR,aR,zR,rf0,rf1,fb,dq]
   ·have g3:=g3 rfl hs hc
    have g4:=g4 rfl hs hc
    by_cases hc2:c2=0
    ·have hc2':(c2 != 0)=false:=by simpa using hc2
     refine .inr ⟨by simp[hc,hc2,hs],?_⟩
     simp[DP,rrC,f108,h1,h2,h7,h8,h9,g1,g0,g2,g3,g4,hs',hc,hc2',unP]
    ·have hc2':(c2 != 0)=true:=by simpa using hc2
     refine .inl ⟨by simp[hc,hc2,hs],?_⟩
     simp[DP,rrC,f108,h1,h2,h7,h8,h9,g1,g0,g2,g3,g4,hs',hc,hc2',unP,fC,undef,uR,sR,aR,zR,rf0,rf1,fb,dq]
theorem Y5 (L:Lst)(run:aw)(k:Nat)(fr:Ψ)(wr:Ω)(n d:Int)(h1:fr.length=61)(h2:nth fr 2 = .ptr 0 0)(h7:nth fr 7 = .ptr 1 0)(h9:nth fr 9 = .ptr 2 0) :
  ∃ st,af (CC L) run k (ag 6 rrC) ⟨fr,[zR4,bW n,bW d],wr⟩=some (.ret,st)∧bc TT st.fr st.hp f108.results.toList=some [cf n d,.sc (.bool true)]:=by
 rw[fG]
 simp only[bW]
 generalize aK n.natAbs=rn at *
 generalize bw n=nn at *
 generalize aK d.natAbs=rd at *
 generalize bw d=nd at *
 simp[rrC,f108,h1,h2,h7,h9,uR,sR,aR,zR,rf0,rf1,fb,dq,ko]
def L15:Lst:=[(153,rM),(154,zE),(97,ofF),(101,jx),(96,rN),(150,xN)]
theorem agT:dt base.P L15:=⟨O6,M5,mw,kc,og,rp,trivial⟩
theorem aaz:bt L15 153=fun a=>rM (aJ a):=rfl
theorem Um:bt L15 154=fun a=>zE (aJ a):=rfl
theorem aeJ:bt L15 97=fun a=>ofF (aJ a):=rfl
theorem Uk:bt L15 101=fun a=>jx (aJ a):=rfl
theorem aaA:bt L15 96=fun a=>rN (aJ a):=rfl
theorem aay:bt L15 150=fun a=>xN (aJ a):=rfl
def jG (s:ByteArray):ByteArray:=match idx s with
 | .ofNat i=>mkStr ((bO s).take i)
 | .negSucc _=>s
def jF (s:ByteArray):ByteArray:=match idx s with
 | .ofNat i=>mkStr ((bO s).drop (i+1))
 | .negSucc _=>{ data:=#[] }
def uQ (s:ByteArray):Bool:=match idx s with
 | .ofNat _=>true
 | .negSucc _=>false
theorem ab9 (s:ByteArray):m4 s=[.sc (.string (jG s)),.sc (.string (jF s)),.sc (.bool (uQ s))]:=by
 unfold m4 jG jF uQ
 cases idx s <;> rfl
theorem WC (s:ByteArray):(bys (jG s)).length≤(bys s).length:=by
 unfold jG
 cases idx s with
 | ofNat i=>simp only[jr,fm,List.length_take];omega
 | negSucc i=>exact Nat.le_refl _
theorem WA (s:ByteArray):(bys (jF s)).length≤(bys s).length:=by
 unfold jF
 cases idx s with
 | ofNat i=>simp only[jr,fm,List.length_drop];omega
 | negSucc i=>exact Nat.zero_le _
def fe (s:ByteArray):Int:=match gM s with
 | some z=>z
 | none=>0
def iB (s:ByteArray):Bool:=match gM s with
 | some _=>true
 | none=>false
theorem abA (run:aw)(s:ByteArray)(hk:l6 s=true):az L15 run 153 [.sc (.string s),.sc (.string gU)] (.tup [.sc (.string (jG s)),.sc (.string (jF s)),.sc (.bool (uQ s))]):=fun dr hp =>
 bu (L:=L15) (f:=rM) adR aaz run dr hp _ [.sc (.string (jG s)),.sc (.string (jF s)),.sc (.bool (uQ s))] rfl rfl (by
  rw[← ab9]
  show (bif true && l6 s then some (m4 s) else none)=_
  rw[hk];rfl)
theorem Fm (run:aw)(s:ByteArray)(hl:(bys s).length<3000000):az L15 run 154 [.sc (.string s)] (.tup [br (fe s),.sc (.bool (iB s))]):=fun dr hp =>
 bu (L:=L15) (f:=zE) YT Um run dr hp _ [br (fe s),.sc (.bool (iB s))] rfl rfl (by
  have h:(bys s).length.blt 3000000=true:=by rw[Nat.blt_eq];exact hl
  simp only[zE,h,cond_true]
  unfold fe iB
  cases gM s <;> rfl)
theorem VJ (run:aw):az L15 run 97 [.sc (.int .i64 1)] (br 1):=fun dr hp =>
 bu (L:=L15) (f:=ofF) zu aeJ run dr hp _ [br 1] rfl rfl rfl
theorem VI (run:aw)(x:Int)(hx:Sm x):az L15 run 101 [br x] (Ab.bJ x.sign):=fun dr hp =>
 bu (L:=L15) (f:=jx) ve Uk run dr hp _ [Ab.bJ x.sign] (mQ hp x) (jU x) (by simp only[jx,cJ hx])
theorem Lf (run:aw)(x y:Int)(hx:Sm x)(hy:Sm y):az L15 run 96 [br x,br y] (Ab.bJ (fP x y)):=fun dr hp =>
 bu (L:=L15) (f:=rN) G1 aaA run dr hp _ [Ab.bJ (fP x y)] (gI hp x y) (fv x y) (by simp only[rN,cJ hx,cJ hy])
theorem abz (run:aw)(x y:Int)(hx:Sm x)(hy:Sm y):az L15 run 150 [br x,br y] (br (Int.ofNat (Nat.gcd x.natAbs y.natAbs))):=fun dr hp =>
 bu (L:=L15) (f:=xN) RM aay run dr hp _ [br (Int.ofNat (Nat.gcd x.natAbs y.natAbs))] (gI hp x y) (fv x y) (by simp only[xN,cJ hx,cJ hy])
def adX (n d:Int)(ok:Bool):Option Ψ :=
 bif smB n && (smB d && (smB (Int.ofNat (Nat.gcd n.natAbs d.natAbs)))) then
  bif wq ok n.sign (fP d 1) (fP (Int.ofNat (Nat.gcd n.natAbs d.natAbs)) 1) then some [cf 0 0,.sc (.bool false)] else some [cf n d,.sc (.bool true)]
 else none
def rrF:Ψ→Option Ψ
 | [.sc (.string s)]=>bif (bys s).length.blt 3000000 && l6 s then
   (bif iB (jG s) && uQ s then adX (fe (jG s)) (fe (jF s)) (iB (jF s)) else some [cf (fe (jG s)) 1,.sc (.bool (iB (jG s)))]) else none
 | _=>none
theorem TU (hp:Θ)(n d:Int)(b:Bool):bj (snap hp bp) [cf n d,.sc (.bool b)]=some ([cf n d,.sc (.bool b)],[]):=rfl
theorem qJ:Ab.Spec base.P 108 rrF:=Ab.Spec.bN (C:=CC L15) (cP agT) fun args rs h=>by
 unfold rrF at h
 split at h
 ·rename_i s
  cases hb:(bys s).length.blt 3000000 && l6 s with
  | false=>rw[hb] at h;cases h
  | true =>
   rw[hb] at h
   simp only[cond_true] at h
   simp only[Bool.and_eq_true,Nat.blt_eq] at hb
   have hA:=Nat.lt_of_le_of_lt (WC s) hb.1
   have hB:=Nat.lt_of_le_of_lt (WA s) hb.1
   obtain⟨f1,wr1,a1,a2,a3,a4,a5,a6,a7⟩:=adW L15 (runK (CC L15) 1) 1 s _ _ _ _ _ (abA _ s hb.2) (Fm _ _ hA)
   cases hc:iB (jG s) && uQ s with
   | false =>
    rw[hc] at h
    simp only[cond_false,OiE] at h
    subst h
    have hor:iB (jG s)=false∨uQ s=false:=by
     revert hc;cases iB (jG s) <;> cases uQ s <;> simp
    obtain⟨st,e1,e2⟩:=adV L15 (runK (CC L15) 1) 1 f1 wr1 _ _ _ hor (VJ _) a2 a3 a5 a6 a7
    have hx:af (CC L15) (runK (CC L15) 1) 1 rrC ⟨entry 61 [.sc (.string s)],[],[]⟩=some (.ret,st):=by
     rw[aQ 3 a1,zC,cj e1]
    exact⟨2,_,_,_,_,_,aV mS rfl hx e2,TU _ _ _ _,Wk.refl rfl,Wk.refl rfl,trivial⟩
   | true =>
    rw[hc] at h
    simp only[cond_true] at h
    rw[Bool.and_eq_true] at hc
    rw[hc.1] at a7
    rw[hc.2] at a5
    obtain⟨f2,b1,b2,b3,b4,b5⟩:=adU L15 (runK (CC L15) 1) 1 f1 wr1 (fe (jG s)) a2 a3 a5 a6 a7
    obtain⟨f3,wr3,c1,c2,c3,c4,c5,c6⟩:=ahA L15 (runK (CC L15) 1) 1 f2 wr1 (jF s) _ (fe (jG s)) _ (Fm _ _ hB) b2 b3 (by rw[b4,a4]) b5
    generalize fe (jG s)=n at *
    generalize fe (jF s)=d at *
    generalize iB (jF s)=ok at *
    unfold adX at h
    cases hg:smB n && (smB d && (smB (Int.ofNat (Nat.gcd n.natAbs d.natAbs)))) with
    | false=>rw[hg] at h;cases h
    | true =>
     rw[hg] at h
     simp only[cond_true] at h
     simp only[Bool.and_eq_true] at hg
     obtain⟨s1,s2,s4⟩:=hg
     have hx0:af (CC L15) (runK (CC L15) 1) 1 rrC ⟨entry 61 [.sc (.string s)],[],[]⟩=af (CC L15) (runK (CC L15) 1) 1 (ag 5 rrC) ⟨f3,[zR4,bW n,bW d],wr3⟩:=by
      rw[aQ 3 a1,zC,ar b1,aQ 1 c1];rfl
     rcases ahz L15 (runK (CC L15) 1) 1 f3 wr3 ok n d (Int.ofNat (Nat.gcd n.natAbs d.natAbs)) n.sign (fP d 1) (fP (Int.ofNat (Nat.gcd n.natAbs d.natAbs)) 1) (fun _=>VI _ n (iW s1)) (VJ _) (fun _ _=>Lf _ d 1 (iW s2) CE)
      (fun _ _ _=>abz _ n d (iW s1) (iW s2)) (fun _ _ _=>Lf _ _ 1 (iW s4) CE) c2 c3 c4 c5 c6 with ⟨hbad,st,e1,e2⟩| ⟨hbad,f4,d1,d2,d3,d4,d5⟩
     ·rw[hbad] at h
      simp only[cond_true,OiE] at h
      subst h
      have hx:af (CC L15) (runK (CC L15) 1) 1 rrC ⟨entry 61 [.sc (.string s)],[],[]⟩=some (.ret,st):=by
       rw[hx0,zA,cj e1]
      exact⟨2,_,_,_,[.agg [.sc (.bool false),.sc (.slice none 0 0),.sc (.bool false),.sc (.slice none 0 0)],.sc (.bool false)],[],aV mS rfl hx e2,rfl,Wk.agg ⟨Wk.refl rfl,Wk.nil false,Wk.refl rfl,Wk.nil false,trivial⟩,Wk.refl rfl,trivial⟩
     ·rw[hbad] at h
      simp only[cond_false,OiE] at h
      subst h
      obtain⟨st,e1,e2⟩:=Y5 L15 (runK (CC L15) 1) 1 f4 wr3 n d d2 d3 d4 d5
      have hx:af (CC L15) (runK (CC L15) 1) 1 rrC ⟨entry 61 [.sc (.string s)],[],[]⟩=some (.ret,st):=by
       rw[hx0,zA,ar d1];exact e1
      exact⟨2,_,_,_,_,_,aV mS rfl hx e2,TU _ _ _ _,Wk.refl rfl,Wk.refl rfl,trivial⟩
 ·cases h
end Go.Proofs.YtjdmodeenbdfpaaGreat
end
