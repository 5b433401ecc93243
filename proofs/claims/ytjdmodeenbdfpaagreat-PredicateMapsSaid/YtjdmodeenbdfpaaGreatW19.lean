/- Contracts of num's integers, part 19; each lemma states its conditions. -/
import Derived.Test.YtjdmodeenbdfpaaGreatW18
import Derived.Test.YtjdmodeenbdfpaaGreatW08
set_option linter.unusedSimpArgs false
set_option linter.unusedVariables false
noncomputable section
namespace Go.Proofs.YtjdmodeenbdfpaaGreat
open Go Go.Ab List Tryz
attribute [local simp] FzZ aA aC aF aG aH aZ aa ab ae af ah ai aj an ao aq au av bL bf bg
variable(L:Lst)(run:aw)(k:Nat)(fr:Ψ)(hp:Ω)(wr:Θ)
theorem uH:base.F.get 145=some f145:=by kernel_rfl
theorem PY:base.F.get 94=some f94:=by kernel_rfl
theorem JC:base.F.get 43=some f43:=by kernel_rfl
theorem ME:base.shared 145=false:=by kernel_rfl
theorem YV:base.shared 94=false:=by kernel_rfl
def nd:Nat→Nat→Nat
 | 0,_=>0
 | k+1,x=>bif x.beq 0 then 0 else nd k (x / 10)+1
def ic:Code:=f145.body.getD .skip
def oX:Code:=((f145.body).bind aA).getD .skip
theorem IM (L:Lst)(run:aw)(k:Nat)(fr:Ψ)(hp:Θ)(wr:Ω)(h29:fr.length=29)(h4:nth fr 4 = .sc (.int .u32 (0:Nat))) :
  ∃ fr',af (CC L) run k oX ⟨fr,hp,wr⟩=some (.exit 0,⟨fr',hp,wr⟩)∧fr'.length=29∧nth fr' 3=nth fr 3:=by
 simp[oX,f145,h29,h4]
theorem Yq (k:IntKind)(a s:Nat)(h:s=a / 10)(hs:s≤hiN k):bF k ((a:Int) / 10)=(s:Int):=by
 have e:((a:Int) / 10)=(s:Int):=by omega
 rw[e];exact dx k _ hs
theorem Cq (L:Lst)(run:aw)(k:Nat)(fr:Ψ)(hp:Θ)(wr:Ω)(c x y:Nat)(hc:c<100000000)(hx:0<x)(hx2:x≤4294967295)(hy:y=x / 10)(h29:fr.length=29)(h3:nth fr 3 = .sc (.int .i64 (c:Int)))(h4:nth fr 4 = .sc (.int .u32 (x:Int))) :
  ∃ fr',af (CC L) run k oX ⟨fr,hp,wr⟩=some (.normal,⟨fr',hp,wr⟩)∧fr'.length=29∧nth fr' 3 = .sc (.int .i64 ((c+1:Nat):Int))∧nth fr' 4 = .sc (.int .u32 (y:Int)):=by
 have hw:=bA c (Nat.lt_trans hc (by decide))
 have hw2:=Yq .u32 x y hy (iM (by omega))
 simp[oX,f145,h29,h3,h4,hx,hw,hw2]
theorem uz (L:Lst)(run:aw)(k:Nat)(hp:Θ)(wr:Ω):∀ (n x c:Nat) (fr:Ψ),x<10 ^ n→c+n<100000000→x≤4294967295→fr.length=29→nth fr 3 = .sc (.int .i64 (c:Int))→nth fr 4 = .sc (.int .u32 (x:Int)) →
  ∃ fr',ch (af (CC L) run k oX) (n+1) ⟨fr,hp,wr⟩=some (.exit 0,⟨fr',hp,wr⟩)∧fr'.length=29∧nth fr' 3 = .sc (.int .i64 ((c+nd n x:Nat):Int))
 | n,x,c,fr,hx,hc,hx2,h29,h3,h4=>by
  by_cases h0:x=0
  ·subst h0
   obtain⟨fr',g1,g2,g3⟩:=IM L run k fr hp wr h29 h4
   refine⟨fr',bE g1,g2,?_⟩
   rw[g3,h3]
   cases n <;> rfl
  ·cases n with
   | zero=>simp at hx;exact absurd hx h0
   | succ n =>
    obtain⟨fr1,g1,g2,g3,g4⟩:=Cq L run k fr hp wr c x _ (by omega) (by omega) hx2 rfl h29 h3 h4
    obtain⟨fr',q1,q2,q3⟩:=uz L run k hp wr n (x / 10) (c+1) fr1 (by rw[Nat.pow_succ] at hx;omega) (by omega) (by omega) g2 g3 g4
    refine⟨fr',by rw[ca g1];exact q1,q2,?_⟩
    rw[q3]
    have hb:x.beq 0=false:=by
     cases x with
     | zero=>exact absurd rfl h0
     | succ x=>rfl
    rw[nd,hb,cond_false]
    congr 3;omega
def rG:Code:=seq1 (seq1 (ag 3 ic))
theorem Cp:ag 3 ic = .seq (.seq rG (.block 0 (.loop oX))) (ag 4 ic):=rfl
theorem IL(n:Bool):∃ st,af (CC L) run k ic ⟨entry 29 [wh n []],[],[]⟩=some (.ret,st)∧bc TT st.fr st.hp f145.results.toList=some [Ab.bJ 0]:=by
 obtain⟨e1,e2⟩:=cL 28 (wh n [])
 generalize entry 29 [wh n []]=fr0 at *
 rw[show wh n [] = .agg [.sc (.bool n),aO []] from rfl] at e2
 simp[ic,f145,e1,e2,bP,partOf,cn,bm,uW,uD,sD,aD,wf0,wf1,aL,aX,aP,bq,bc,Ab.bJ]
set_option maxHeartbeats 1000000 in
theorem IK (L:Lst)(run:aw)(k:Nat)(n:Bool)(l:Ω)(a c:Nat)(hc:c=9*l.length)(hl:l.length<1000000) :
  ∃ f1 fr,ba (CC L) run k 3 ic ⟨entry 29 [wh n (l++[a])],[],[]⟩=some ⟨f1,[⟨.live,[.sc (.bool n),aO (l++[a])]⟩],[0]⟩∧af (CC L) run k rG ⟨f1,[⟨.live,[.sc (.bool n),aO (l++[a])]⟩],[0]⟩=some (.normal,⟨fr,[⟨.live,[.sc (.bool n),aO (l++[a])]⟩],[0]⟩)∧fr.length=29
   ∧ nth fr 3 = .sc (.int .i64 (c:Int))∧nth fr 4 = .sc (.int .u32 (a:Int)):=by
 obtain⟨e1,e2⟩:=cL 28 (wh n (l++[a]))
 generalize entry 29 [wh n (l++[a])]=fr0 at *
 have hd:(bq ((l++[a]).map dg) l.length).head?=some (.sc (.int .u32 a)):=by
  rw[eQ _ _ (by simp)];simp[dg]
 have hE:aO (l++[a]) = .imm (l.length+1) false ((l++[a]).map dg):=by simp[aO]
 rw[show wh n (l++[a]) = .agg [.sc (.bool n),aO (l++[a])] from rfl,hE] at e2
 rw[hE]
 obtain⟨m,hm⟩:∃ m,m=l.length:=⟨_,rfl⟩
 rw[← hm] at hd hc e2 hl ⊢
 have hw:bF .i64 (m:Int)=(m:Int):=cq .i64 m (hiI (by omega))
 have hw2:bF .i64 (9*(m:Int))=(c:Int):=by
  have e:(9*(m:Int))=(c:Int):=by omega
  rw[e];exact cq .i64 c (hiI (by omega))
 have hne:((m:Int)+1 == 0)=false:=by
  rw[beq_eq_false_iff_ne];omega
 have hlt:m<m+1:=by omega
 generalize (l++[a]).map dg=cs at *
 have p1:∃ f1,ba (CC L) run k 3 ic ⟨fr0,[],[]⟩=some ⟨f1,[⟨.live,[.sc (.bool n),.imm (m+1) false cs]⟩],[0]⟩∧f1.length=29∧nth f1 1 = .ptr 0 0∧nth f1 3 = .sc (.int .i64 (c:Int)):=by
  simp[ic,f145,ba,e1,e2,bP,partOf,cR,bm,uW,uD,sD,aD,wf0,wf1,aL,aX,aP,bq,hne,hw,hw2]
 obtain⟨f1,q1,q2,q3,q4⟩:=p1
 refine⟨f1,?_⟩
 rw[q1]
 have p2:∃ fr,af (CC L) run k rG ⟨f1,[⟨.live,[.sc (.bool n),.imm (m+1) false cs]⟩],[0]⟩=some (.normal,⟨fr,[⟨.live,[.sc (.bool n),.imm (m+1) false cs]⟩],[0]⟩)∧fr.length=29∧nth fr 3 = .sc (.int .i64 (c:Int))∧nth fr 4 = .sc (.int .u32 (a:Int)):=by
  simp[rG,ic,f145,ag,seq1,q2,q3,q4,aU,bP,bh,partOf,cR,uW,uD,sD,s32,aD,a32,wf0,wf1,aX,aP,bq,hw,hlt,hd]
 obtain⟨fr,r1,r2⟩:=p2
 exact⟨fr,rfl,r1,r2⟩
theorem Fy (L:Lst)(run:aw)(k:Nat)(fr:Ψ)(hp:Θ)(wr:Ω)(z:Int)(h29:fr.length=29)(h3:nth fr 3 = .sc (.int .i64 z)) :
  ∃ st,af (CC L) run k (ag 4 ic) ⟨fr,hp,wr⟩=some (.ret,st)∧bc TT st.fr st.hp f145.results.toList=some [Ab.bJ z]:=by
 simp[ic,f145,ag,h29,h3,bc,Ab.bJ]
def pU (l:Ω):Nat:=match l.getLast? with
 | none=>0
 | some a=>9*(l.length - 1)+nd 9 a
def kT:Ψ→Option Ψ
 | [.agg [.sc (.bool _),p]]=>match ia p with
  | some l=>some [Ab.bJ (Int.ofNat (pU l))]
  | none=>none
 | _=>none
theorem od:Ab.Spec base.P 145 kT:=Ab.Spec.bN (C:=CC []) (cP trivial) fun args rs h=>by
 unfold kT at h
 split at h
 ·split at h
  ·rename_i n p _ l hl
   obtain⟨rfl,hd,hlen⟩:=dz hl
   simp only[OiE] at h
   subst h
   by_cases h0:l=[]
   ·subst h0
    obtain⟨st,e1,e2⟩:=IL [] (runK (CC []) 1) 1 n
    exact⟨2,_,_,_,_,_,aV uH rfl e1 e2,eL _ _,Wk.refl rfl,trivial⟩
   ·obtain⟨m,a,rfl⟩:∃ m a,l=m++[a]:=⟨l.dropLast,l.getLast h0,(dropLast_concat_getLast h0).symm⟩
    have ha:a<1000000000:=hd a (by simp)
    have hm:m.length<1000000:=by simp at hlen;omega
    obtain⟨f1,f2,a1,a2,a3,a4,a5⟩:=IK [] (runK (CC []) 10) 10 n m a (9*m.length) rfl hm
    obtain⟨f3,b1,b2,b3⟩:=uz [] (runK (CC []) 10) 10 [⟨.live,[.sc (.bool n),aO (m++[a])]⟩] [0] 9 a (9*m.length) f2 (Nat.lt_of_lt_of_le ha (by decide)) (by omega) (Nat.le_trans (Nat.le_of_lt ha) (by decide)) a3 a4 a5
    obtain⟨st,e1,e2⟩:=Fy [] (runK (CC []) 10) 10 f3 _ _ _ b2 b3
    have hx:af (CC []) (runK (CC []) 10) 10 ic ⟨entry 29 [wh n (m++[a])],[],[]⟩=some (.ret,st):=by
     rw[aQ 3 a1,Cp,ar ((ar a2).trans (bK b1))]
     exact e1
    have hN:pU (m++[a])=9*m.length+nd 9 a:=by simp[pU]
    rw[hN]
    exact⟨11,_,_,_,_,_,aV uH rfl hx e2,eL _ (9*m.length+nd 9 a:Nat),Wk.refl rfl,trivial⟩
  ·cases h
 ·cases h
def L16:Lst:=[(145,kT)]
theorem o16:bt L16 145=fun a=>kT (aJ a):=rfl
theorem g16(n:Bool)(l:Ω)(hd:Dok l)(hl:l.length<1000000):az L16 run 145 [.agg [.sc (.bool n),aO l]] (Ab.bJ (Int.ofNat (pU l))):=fun dr hp =>
 bu (L:=L16) (f:=kT) ME o16 run dr hp _ [Ab.bJ (Int.ofNat (pU l))] rfl (by simp only[aJ,canon,jg,aO]) (by simp only[kT,cX hd hl])
theorem OB(n:Bool)(l:Ω)(c:Nat)(g1:az L run 145 [.agg [.sc (.bool n),aO l]] (Ab.bJ (Int.ofNat c))) :
  ∃ st,af (CC L) run k (f94.body.getD .skip) ⟨entry 6 [wh n l],[],[]⟩=some (.ret,st)∧bc TT st.fr st.hp f94.results.toList=some [.sc (.bool (decide (1000<c)))]:=by
 obtain⟨e1,e2⟩:=cL 5 (wh n l)
 generalize entry 6 [wh n l]=fr0 at *
 rw[show wh n l = .agg [.sc (.bool n),aO l] from rfl] at e2
 unfold az at g1
 simp only[Ab.bJ,Int.ofNat_eq_natCast] at g1
 have hc:((c:Int) > 1000)=(1000<c):=by apply propext;omega
 have hc2:((1000:Int)<c)=(1000<c):=by apply propext;omega
 simp[f94,e1,e2,aM,partOf,bm,g1,hc,sW,aW,aL,aX,aP,bq,bD,bc]
def xC:Ψ→Option Ψ
 | [.agg [.sc (.bool _),p]]=>match ia p with
  | some l=>some [.sc (.bool (decide (1000<pU l)))]
  | none=>none
 | _=>none
theorem sX:Ab.Spec base.P 94 xC:=Ab.Spec.bN (C:=CC L16) (cP ⟨od,trivial⟩) fun args rs h=>by
 unfold xC at h
 split at h
 ·split at h
  ·rename_i n p _ l hl
   obtain⟨rfl,hd,hlen⟩:=dz hl
   simp only[OiE] at h
   subst h
   obtain⟨st,e1,e2⟩:=OB L16 (runK (CC L16) 1) 1 n l _ (g16 _ n l hd hlen)
   exact⟨2,_,_,_,_,_,aV PY rfl e1 e2,xp _ _,Wk.refl rfl,trivial⟩
  ·cases h
 ·cases h
def L17:Lst:=[(94,xC)]
theorem o17:bt L17 94=fun a=>xC (aJ a):=rfl
theorem g17(z:Int)(hz:Sm z):az L17 run 94 [br z] (.sc (.bool (decide (1000<pU (aK z.natAbs))))):=fun dr hp =>
 bu (L:=L17) (f:=xC) YV o17 run dr hp _ [.sc (.bool (decide (1000<pU (aK z.natAbs))))] (mQ hp z) (jU z) (by
  show (match ia (aO (aK z.natAbs)) with | some l=>some [PV.sc (.bool (decide (1000<pU l)))] | none=>none)=_
  rw[cX (bS _) hz.lt])
theorem G9(a b:Int)(p q:Bool)(g1:az L run 94 [br a] (.sc (.bool p)))(g2:az L run 94 [br b] (.sc (.bool q))) :
  ∃ st,af (CC L) run k (f43.body.getD .skip) ⟨entry 11 [cf a b],[],[]⟩=some (.ret,st)∧bc TT st.fr st.hp f43.results.toList=some [.sc (.bool (p || q))]:=by
 obtain⟨h1,h2⟩:=cL 10 (cf a b)
 generalize entry 11 [cf a b]=fr0 at *
 unfold az at *
 simp only[whW,fG] at *
 cases p <;> simp[f43,h1,h2,aM,bP,partOf,bm,g1,g2,undef,uR,sW,aW,rf0,rf1,aL,aX,aP,bD,bq,bc]
def jM:Ψ→Option Ψ
 | [p]=>match gK p with
  | some (a,b)=>some [.sc (.bool (decide (1000<pU (aK a.natAbs)) || decide (1000<pU (aK b.natAbs))))]
  | none=>none
 | _=>none
theorem kj:Ab.Spec base.P 43 jM:=Ab.Spec.bN (C:=CC L17) (cP ⟨sX,trivial⟩) fun args rs h=>by
 unfold jM at h
 split at h
 ·split at h
  ·rename_i a b ex
   obtain⟨rfl,ha,hb⟩:=eC ex
   simp only[OiE] at h
   subst h
   obtain⟨st,e1,e2⟩:=G9 L17 (runK (CC L17) 1) 1 a b _ _ (g17 _ a ha) (g17 _ b hb)
   exact⟨2,_,_,_,_,_,aV JC rfl e1 e2,xp _ _,Wk.refl rfl,trivial⟩
  ·cases h
 ·cases h
theorem uL:und TT 24=some (.slice 3):=by kernel_rfl
theorem sI:de TT 3=some 1:=by kernel_rfl
theorem aI:fq TT 3=some false:=by kernel_rfl
theorem bI:fQ TT 3=some 8:=by kernel_rfl
theorem zI:eB TT 3=some [iv 0]:=by kernel_rfl
theorem uAR:und TT 27=some .string:=by kernel_rfl
theorem Gc:base.F.get 156=some f156:=by kernel_rfl
theorem lK:base.shared 156=false:=by kernel_rfl
theorem yT:base.F.get 115=some f115:=by kernel_rfl
theorem tH:base.shared 115=false:=by kernel_rfl
theorem uG:base.F.get 116=some f116:=by kernel_rfl
theorem kd:base.shared 116=false:=by kernel_rfl
theorem sd:base.F.get 113=some f113:=by kernel_rfl
theorem we:base.shared 113=false:=by kernel_rfl
theorem pA:base.F.get 114=some f114:=by kernel_rfl
theorem tI:base.shared 114=false:=by kernel_rfl
theorem oz:base.F.get 118=some f118:=by kernel_rfl
theorem zp:base.shared 118=false:=by kernel_rfl
theorem Jk:base.F.get 117=some f117:=by kernel_rfl
theorem Rl:base.shared 117=false:=by kernel_rfl
theorem Gd:base.F.get 119=some f119:=by kernel_rfl
theorem zq:base.shared 119=false:=by kernel_rfl
theorem Jn:base.F.get 120=some f120:=by kernel_rfl
theorem Dy:base.shared 120=false:=by kernel_rfl
theorem Jm:base.F.get 155=some f155:=by kernel_rfl
theorem Dx:base.shared 155=false:=by kernel_rfl
theorem Jp:base.F.get 69=some f69:=by kernel_rfl
theorem DB:base.shared 69=false:=by kernel_rfl
theorem Ge:base.F.get 66=some f66:=by kernel_rfl
theorem so:base.shared 66=false:=by kernel_rfl
theorem yU:base.F.get 147=some f147:=by kernel_rfl
theorem DA:base.shared 147=false:=by kernel_rfl
theorem Gf:base.F.get 100=some f100:=by kernel_rfl
theorem MD:base.shared 100=false:=by kernel_rfl
theorem jZ:base.F.get 111=some f111:=by kernel_rfl
theorem GS:base.shared 111=false:=by kernel_rfl
theorem CK:base.F.get 68=some f68:=by kernel_rfl
theorem GU:base.shared 68=false:=by kernel_rfl
theorem Jl:base.F.get 121=some f121:=by kernel_rfl
theorem Dw:base.shared 121=false:=by kernel_rfl
theorem Jo:base.F.get 112=some f112:=by kernel_rfl
theorem Dz:base.shared 112=false:=by kernel_rfl
theorem CM:base.F.get 157=some f157:=by kernel_rfl
theorem GV:base.shared 157=false:=by kernel_rfl
def kL:Code:=((f156.body).bind aA).getD .skip
theorem SX (l:Ω)(a:Nat)(hp:Θ):dh TT hp 24 (bx (l++[a])) none (some (.sc (.int .i64 (l.length:Int)))) none=some (bx l):=by
 have h:bx (l++[a]) = .imm (l.length+1) false ((l++[a]).map iv):=by simp[bx,mJ]
 rw[h]
 simp only[dh,uL,iy,sI,bnd,eD,gl,Option.map]
 simp[fz,bq]
 rw[dc (by simp)]
 simp[bx,mJ]
set_option maxHeartbeats 1000000 in
theorem Ed (L:Lst)(run:aw)(k:Nat)(fr:Ψ)(hp:Θ)(wr:Ω)(l:Ω)(a:Nat)(hl:l.length<10000000)(ha:a≠0)
  (h21:fr.length=21) (h0:nth fr 0=bx (l++[a])) :
  ∃ fr',af (CC L) run k kL ⟨fr,hp,wr⟩=some (.exit 0,⟨fr',hp,wr⟩)∧nth fr' 0=nth fr 0∧fr'.length=21:=by
 have hw:bF .i64 ((l.length+1:Nat) - 1:Int)=Int.ofNat l.length:=by
  have:=dx .i64 l.length (by simp[hiN];omega)
  rw[← this];congr 1;omega
 have hw':bF .i64 (l.length:Int)=Int.ofNat l.length:=dx .i64 l.length (by simp[hiN];omega)
 have h:bx (l++[a]) = .imm (l.length+1) false ((l++[a]).map iv):=by simp[bx,mJ]
 have hd:(bq ((l++[a]).map iv) l.length).head?=some (.sc (.int .i64 a)):=by
  rw[kr _ _ (by simp)];simp[iv]
 rw[h] at h0
 have ha':((a:Int) == 0)=false:=by simp;exact ha
 simp[kL,f156,aU,bh,partOf,cR,h21,h0,uL,sI,aI,hw',hd,ha',aX,-map_append]
set_option maxHeartbeats 1000000 in
theorem Hn (L:Lst)(run:aw)(k:Nat)(fr:Ψ)(hp:Θ)(wr:Ω)(h21:fr.length=21)(h0:nth fr 0=bx []) :
  ∃ fr',af (CC L) run k kL ⟨fr,hp,wr⟩=some (.exit 0,⟨fr',hp,wr⟩)∧nth fr' 0=nth fr 0∧fr'.length=21:=by
 have h:bx [] = .imm 0 false []:=rfl
 rw[h] at h0
 simp[kL,f156,cR,h21,h0,uL,-map_append]
set_option maxHeartbeats 1000000 in
theorem Np (L:Lst)(run:aw)(k:Nat)(fr:Ψ)(hp:Θ)(wr:Ω)(l:Ω)(hl:l.length<10000000)
  (h21:fr.length=21) (h0:nth fr 0=bx (l++[0])) :
  ∃ fr',af (CC L) run k kL ⟨fr,hp,wr⟩=some (.normal,⟨fr',hp,wr⟩)∧nth fr' 0=bx l∧fr'.length=21:=by
 have hw':bF .i64 (l.length:Int)=Int.ofNat l.length:=dx .i64 l.length (by simp[hiN];omega)
 have h:bx (l++[0]) = .imm (l.length+1) false ((l++[0]).map iv):=by simp[bx,mJ]
 have hd:(bq ((l++[0]).map iv) l.length).head?=some (.sc (.int .i64 0)):=by
  rw[kr _ _ (by simp)];simp[iv]
 have hs:=SX l 0
 rw[h] at h0 hs
 simp[kL,f156,aU,bh,partOf,cR,h21,h0,uL,sI,aI,hw',hd,hs,aX,-map_append]
theorem tU (L:Lst)(run:aw)(k:Nat):∀ (n:Nat) (l:Ω) (fr:Ψ) (hp:Θ) (wr:Ω),l.length=n→n<10000000→fr.length=21→nth fr 0=bx l →
  ∃ fr',ch (af (CC L) run k kL) (n+1) ⟨fr,hp,wr⟩=some (.exit 0,⟨fr',hp,wr⟩)∧nth fr' 0=bx (T.fj l)∧fr'.length=21
 | 0,l,fr,hp,wr,hl,hn,h21,h0=>by
  have:l=[]:=length_eq_zero_iff.1 hl
  subst this
  obtain⟨fr',h1,h2,h3⟩:=Hn L run k fr hp wr h21 h0
  exact⟨fr',bE h1,by rw[h2,h0];rfl,h3⟩
 | n+1,l,fr,hp,wr,hl,hn,h21,h0=>by
  obtain⟨l',a,rfl,hl'⟩:=Bv hl
  by_cases ha:a=0
  ·subst ha
   obtain⟨fr1,h1,h2,h3⟩:=Np L run k fr hp wr l' (by omega) h21 h0
   obtain⟨fr',g1,g2,g3⟩:=tU L run k n l' fr1 hp wr hl' (by omega) h3 h2
   exact⟨fr',by rw[ca h1];exact g1,by rw[g2,T.eI,if_pos rfl],g3⟩
  ·obtain⟨fr',h1,h2,h3⟩:=Ed L run k fr hp wr l' a (by omega) ha h21 h0
   exact⟨fr',bE h1,by rw[h2,h0,T.eI,if_neg ha],h3⟩
def ml:Code:=f156.body.getD .skip
theorem BR:ag 1 ml = .seq (.block 0 (.loop kL)) (ag 2 ml):=rfl
theorem Hm (L:Lst)(run:aw)(k:Nat)(p:PV):∃ fr,ba (CC L) run k 1 ml ⟨entry 21 [p],[],[]⟩=some ⟨fr,[],[]⟩∧fr.length=21∧nth fr 0=p:=by
 simp[ml,f156,ba,entry,nth,eY]
theorem Ee (L:Lst)(run:aw)(k:Nat)(fr:Ψ)(hp:Θ)(wr:Ω)(p:PV)(h21:fr.length=21)(h0:nth fr 0=p) :
  ∃ st,af (CC L) run k (ag 2 ml) ⟨fr,hp,wr⟩=some (.ret,st)∧bc TT st.fr st.hp f156.results.toList=some [p]:=by
 simp[ml,ag,f156,h21,h0,bc]
def iC:Ψ→Option Ψ
 | [p]=>match mY p with
  | some l=>some [bx (T.fj l)]
  | none=>none
 | _=>none
theorem pG (hp:Θ)(l:Ω):bj (snap hp bp) [bx l]=some ([bx l],[]):=rfl
theorem tT:Ab.Spec base.P 156 iC:=Ab.Spec.bN (C:=CC []) (cP trivial) fun args rs h=>by
 unfold iC at h
 split at h
 ·split at h
  ·rename_i l hl
   obtain⟨rfl,_,hlen⟩:=fZ hl
   simp only[OiE] at h
   subst h
   obtain⟨fr1,h1,h20,h0⟩:=Hm [] (runK (CC []) (l.length+1)) (l.length+1) (bx l)
   obtain⟨fr2,g1,g2,g3⟩:=tU [] (runK (CC []) (l.length+1)) (l.length+1) l.length l fr1 [] [] rfl (by omega) h20 h0
   obtain⟨st,e1,e2⟩:=Ee [] (runK (CC []) (l.length+1)) (l.length+1) fr2 [] [] _ g3 g2
   have hx:af (CC []) (runK (CC []) (l.length+1)) (l.length+1) ml ⟨entry 21 [bx l],[],[]⟩=some (.ret,st):=by
    rw[aQ 1 h1,BR,ar (bK g1)]
    exact e1
   exact⟨l.length+2,_,_,_,_,_,aV Gc rfl hx e2,pG _ _,Wk.refl rfl,trivial⟩
  ·cases h
 ·cases h
def jm:Code:=((f118.body).bind aA).getD .skip
def gC:Code:=f118.body.getD .skip
set_option maxHeartbeats 1000000 in
theorem Ht(h41:fr.length=41)(h5:nth fr 5 = .sc (.int .i64 (-1))) :
  ∃ fr',af (CC L) run k jm ⟨fr,[],[]⟩=some (.exit 0,⟨fr',[],[]⟩)∧fr'.length=41:=by
 simp[jm,f118,h41,h5]
set_option maxHeartbeats 1000000 in
theorem Nx(a b:Ω)(m:Nat)(hma:m<a.length)(hmb:m<b.length)(hl:a.length<10000000)
  (h41:fr.length=41) (h0:nth fr 0=bx a) (h1:nth fr 1=bx b) (h5:nth fr 5 = .sc (.int .i64 (m:Int))) (h:a[m]=b[m]) :
  ∃ fr',af (CC L) run k jm ⟨fr,[],[]⟩=some (.normal,⟨fr',[],[]⟩)∧fr'.length=41∧nth fr' 0=bx a∧nth fr' 1=bx b∧nth fr' 5 = .sc (.int .i64 ((m:Int) - 1)):=by
 have hw:bF .i64 ((m:Int) - 1)=(m:Int) - 1:=cM m (by omega)
 have hda:=kr (e:=iv) a m hma
 have hdb:=kr (e:=iv) b m hmb
 rw[h] at hda
 generalize b[m]=y at *
 have e1:bx a = .imm a.length false (a.map iv):=rfl
 have e2:bx b = .imm b.length false (b.map iv):=rfl
 have hdg:iv y = .sc (.int .i64 (y:Int)):=rfl
 rw[e1] at h0 ⊢;rw[e2] at h1 ⊢;rw[hdg] at hda hdb
 simp[jm,f118,aU,bh,partOf,h41,h0,h1,h5,uL,sI,aI,hma,hmb,hda,hdb,aX,number,FP.free,hw]
set_option maxHeartbeats 1000000 in
theorem Nw(a b:Ω)(m:Nat)(hma:m<a.length)(hmb:m<b.length)(hl:a.length<10000000)
  (h41:fr.length=41) (h0:nth fr 0=bx a) (h1:nth fr 1=bx b) (h5:nth fr 5 = .sc (.int .i64 (m:Int))) (h:a[m]≠b[m]) :
  ∃ fr',af (CC L) run k jm ⟨fr,[],[]⟩=some (.ret,⟨fr',[],[]⟩)∧fr'.length=41∧nth fr' 4 = .sc (.int .i64 (if a[m]<b[m] then -1 else 1)):=by
 have hda:=kr (e:=iv) a m hma
 have hdb:=kr (e:=iv) b m hmb
 generalize b[m]=y at *
 generalize a[m]=x at *
 have e1:bx a = .imm a.length false (a.map iv):=rfl
 have e2:bx b = .imm b.length false (b.map iv):=rfl
 have hdx:iv x = .sc (.int .i64 (x:Int)):=rfl
 have hdy:iv y = .sc (.int .i64 (y:Int)):=rfl
 rw[e1] at h0;rw[e2] at h1;rw[hdx] at hda;rw[hdy] at hdb
 by_cases hxy:x<y
 ·simp[jm,f118,aU,bh,partOf,h41,h0,h1,h5,uL,sI,aI,hma,hmb,hda,hdb,aX,number,FP.free,hxy]
 ·have hyx:y<x:=by omega
  simp[jm,f118,aU,bh,partOf,h41,h0,h1,h5,uL,sI,aI,hma,hmb,hda,hdb,aX,number,FP.free,hxy,hyx]
theorem tZ (L:Lst)(run:aw)(k:Nat)(a b:Ω)(hab:a.length=b.length)(hl:a.length<10000000)(ha:T.Dok a)(hb:T.Dok b):∀ (m:Nat) (fr:Ψ),m≤a.length →
  fr.length=41→nth fr 0=bx a→nth fr 1=bx b→nth fr 5 = .sc (.int .i64 ((m:Int) - 1))→a.drop m=b.drop m →
  (∃ fr',ch (af (CC L) run k jm) (m+1) ⟨fr,[],[]⟩=some (.exit 0,⟨fr',[],[]⟩)∧fr'.length=41∧dZ (T.val a) (T.val b)=0) ∨
  (∃ fr',ch (af (CC L) run k jm) (m+1) ⟨fr,[],[]⟩=some (.ret,⟨fr',[],[]⟩)∧nth fr' 4 = .sc (.int .i64 (dZ (T.val a) (T.val b))))
 | 0,fr,hm,h41,h0,h1,h5,hd=>by
  obtain⟨fr',g1,g2⟩:=Ht L run k fr h41 h5
  refine .inl ⟨fr',bE g1,g2,?_⟩
  simp at hd
  simp[dZ,hd]
 | m+1,fr,hm,h41,h0,h1,h5,hd=>by
  have h5':nth fr 5 = .sc (.int .i64 (m:Int)):=by rw[h5];simp
  have hmb:m<b.length:=by omega
  have hma:m<a.length:=by omega
  by_cases h:a[m]=b[m]
  ·obtain⟨fr1,g1,g2,g3,g4,g5⟩:=Nx L run k fr a b m hma hmb hl h41 h0 h1 h5' h
   have hd':a.drop m=b.drop m:=by rw[drop_eq_getElem_cons hma,drop_eq_getElem_cons hmb,hd,h]
   rw[ca g1]
   exact tZ L run k a b hab hl ha hb m fr1 (by omega) g2 g3 g4 g5 hd'
  ·obtain⟨fr1,g1,g2,g3⟩:=Nw L run k fr a b m hma hmb hl h41 h0 h1 h5' h
   refine .inr ⟨fr1,ez g1,?_⟩
   rw[g3]
   by_cases hxy:a[m]<b[m]
   ·have:=T.ly ha hma hmb hd hxy
    rw[if_pos hxy,dZ,if_pos this]
   ·have:=T.ly hb hmb hma hd.symm (by omega)
    rw[if_neg hxy,dZ,if_neg (by omega),if_neg (by omega)]
def kM (a b:Ω):Int:=if a.length<b.length then -1 else if b.length<a.length then 1 else dZ (T.val a) (T.val b)
theorem Ek(a b:Ω)(h:a.length≠b.length) :
  ∃ st,af (CC L) run k gC ⟨entry 41 [bx a,bx b],[],[]⟩=some (.ret,st)∧bc TT st.fr st.hp f118.results.toList=some [Ab.bJ (kM a b)]:=by
 by_cases hx:a.length<b.length
 ·simp[gC,f118,entry,nth,eY,FW,dV,uL,h,hx,bc,kM,Ab.bJ]
 ·have:b.length<a.length:=by omega
  simp[gC,f118,entry,nth,eY,FW,dV,uL,h,hx,this,bc,kM,Ab.bJ]
theorem Ej (L:Lst)(run:aw)(k:Nat)(a b:Ω)(h:a.length=b.length)(hl:a.length<10000000) :
  ∃ fr,ba (CC L) run k 2 gC ⟨entry 41 [bx a,bx b],[],[]⟩=some ⟨fr,[],[]⟩∧fr.length=41∧nth fr 0=bx a∧nth fr 1=bx b:=by
 simp[gC,f118,ba,entry,nth,eY,dV,uL,h]
def wR:Code:=seq1 (seq1 (ag 2 gC))
theorem qR:ag 2 gC = .seq (.seq wR (.block 0 (.loop jm))) (ag 3 gC):=rfl
theorem Nv(a b:Ω)(hl:a.length<10000000)(h41:fr.length=41)(h0:nth fr 0=bx a)(h1:nth fr 1=bx b) :
  ∃ fr',af (CC L) run k wR ⟨fr,[],[]⟩=some (.normal,⟨fr',[],[]⟩)∧fr'.length=41∧nth fr' 0=bx a∧nth fr' 1=bx b∧nth fr' 5 = .sc (.int .i64 ((a.length:Int) - 1)):=by
 have hw:bF .i64 ((a.length:Int) - 1)=(a.length:Int) - 1:=cM _ (by omega)
 simp[wR,gC,ag,seq1,f118,dV,uL,h41,h0,h1,hw]
theorem Em(h41:fr.length=41) :
  ∃ st,af (CC L) run k (ag 3 gC) ⟨fr,[],[]⟩=some (.ret,st)∧bc TT st.fr st.hp f118.results.toList=some [Ab.bJ 0]:=by
 simp[gC,ag,f118,h41,bc,Ab.bJ]
def kN:Ψ→Option Ψ
 | [p,q]=>match mY p,mY q with
  | some a,some b=>some [Ab.bJ (kM a b)]
  | _,_=>none
 | _=>none
theorem tY:Ab.Spec base.P 118 kN:=Ab.Spec.bN (C:=CC []) (cP trivial) fun args rs h=>by
 unfold kN at h
 split at h
 ·split at h
  ·rename_i a b ea eb
   obtain⟨rfl,ha,hla⟩:=fZ ea
   obtain⟨rfl,hb,hlb⟩:=fZ eb
   simp only[OiE] at h
   subst h
   by_cases hab:a.length=b.length
   ·obtain⟨fr1,h1,h2,h3,h4⟩:=Ej [] (runK (CC []) (a.length+1)) (a.length+1) a b hab hla
    obtain⟨fr2,g1,g2,g3,g4,g5⟩:=Nv [] (runK (CC []) (a.length+1)) (a.length+1) fr1 a b hla h2 h3 h4
    have hs:kM a b=dZ (T.val a) (T.val b):=by simp[kM,hab]
    rcases tZ [] (runK (CC []) (a.length+1)) (a.length+1) a b hab hla ha hb a.length fr2 (Nat.le_refl _) g2 g3 g4 g5 (by simp[hab]) with ⟨fr3,q1,q2,q3⟩| ⟨fr3,q1,q2⟩
    ·obtain⟨st,e1,e2⟩:=Em [] (runK (CC []) (a.length+1)) (a.length+1) fr3 q2
     have hx:af (CC []) (runK (CC []) (a.length+1)) (a.length+1) gC ⟨entry 41 [bx a,bx b],[],[]⟩=some (.ret,st):=by
      rw[aQ 2 h1,qR,ar ((ar g1).trans (bK q1))]
      exact e1
     rw[hs,q3]
     exact⟨a.length+2,_,_,_,_,_,aV oz rfl hx e2,eL _ _,Wk.refl rfl,trivial⟩
    ·have hx:af (CC []) (runK (CC []) (a.length+1)) (a.length+1) gC ⟨entry 41 [bx a,bx b],[],[]⟩=some (.ret,⟨fr3,[],[]⟩):=by
      rw[aQ 2 h1,qR,cj ((ar g1).trans (da q1))]
     have e2:bc TT fr3 [] f118.results.toList=some [Ab.bJ (dZ (T.val a) (T.val b))]:=by
      simp[f118,bc,q2,Ab.bJ]
     rw[hs]
     exact⟨a.length+2,_,_,_,_,_,aV oz rfl hx e2,eL _ _,Wk.refl rfl,trivial⟩
   ·obtain⟨st,e1,e2⟩:=Ek [] (runK (CC []) 1) 1 a b hab
    exact⟨2,_,_,_,_,_,aV oz rfl e1 e2,eL _ _,Wk.refl rfl,trivial⟩
  ·cases h
 ·cases h
theorem lW (n:Nat):eM TT 24 1 [(0,iv n)]=some (1,[iv n]):=afs uL sI zI n
def lj:Code:=((f117.body).bind aA).getD .skip
def mn:Code:=f117.body.getD .skip
theorem zV (L:Lst)(run:aw)(k:Nat)(fr:Ψ)(hp:Θ)(wr:Ω)(a b:Ω)(i:Nat)(h54:fr.length=54)(h0:nth fr 0=bx a)(h1:nth fr 1=bx b)(h6:nth fr 6=iv 0)(h7:nth fr 7=iv i)
  (ha:a.length≤i) (hb:b.length≤i) :
  ∃ fr',af (CC L) run k lj ⟨fr,hp,wr⟩=some (.exit 0,⟨fr',hp,wr⟩)∧fr'.length=54∧nth fr' 5=nth fr 5:=by
 have e1 : ¬ (i<a.length):=by omega
 have e2 : ¬ (i<b.length):=by omega
 simp only[iv] at h6 h7
 simp[lj,f117,dV,h54,h0,h1,h6,h7,uL,e1,e2]
set_option maxHeartbeats 4000000 in
theorem tX (L:Lst)(run:aw)(k:Nat)(fr:Ψ)(hp:Θ)(wr:Ω)(a b out:Ω)(i c s:Nat)(ha:T.Dok a)(hb:T.Dok b)(hc:c≤1)(hgo:i<a.length∨i<b.length∨0<c)(hi9:i<20000000)
  (h54:fr.length=54) (h0:nth fr 0=bx a) (h1:nth fr 1=bx b) (h6:nth fr 6=iv c) (h7:nth fr 7=iv i) (hO:dw iv 0 hp out (nth fr 5)) (ho:out.length=i) (hs:s=c+at0 a i+at0 b i) :
  ∃ fr' hp' wr',af (CC L) run k lj ⟨fr,hp,wr⟩=some (.normal,⟨fr',hp',wr'⟩)∧fr'.length=54∧nth fr' 0=bx a∧nth fr' 1=bx b∧nth fr' 6=iv (s / 10)∧nth fr' 7=iv (i+1)∧dw iv 0 hp' (out++[s % 10]) (nth fr' 5):=by
 have ha9:=T.cu ha i
 have hb9:=T.cu hb i
 obtain⟨s1,hs1⟩:∃ s1,s1=c+at0 a i:=⟨_,rfl⟩
 rw[← hs1] at hs
 obtain⟨q,hq⟩:∃ q,q=s / 10:=⟨_,rfl⟩
 obtain⟨r,hr⟩:∃ r,r=s % 10:=⟨_,rfl⟩
 obtain⟨p',hp',fp,g1,g2,-⟩:=hO.app r (by omega)
 have hw1:=dA .i64 c (at0 a i) s1 hs1 (hiI (by omega))
 have hw2:=dA .i64 s1 (at0 b i) s hs (hiI (by omega))
 have hw3:bF .i64 ((s:Int) / 10)=(q:Int):=T.jK .i64 s q hq (hiI (by omega))
 have hw4:=T.lG s r hr
 have hwi:=bA i (by omega)
 rw[← hq,← hr]
 have e1:bx a = .imm a.length false (a.map iv):=rfl
 have e2:bx b = .imm b.length false (b.map iv):=rfl
 rw[e1] at h0 ⊢;rw[e2] at h1 ⊢
 simp only[iv] at h6 h7 ⊢
 by_cases hia:i<a.length
 ·have hda:=fE a i hia
  by_cases hib:i<b.length
  ·have hdb:=fE b i hib
   generalize at0 a i=x at *
   generalize at0 b i=y at *
   simp[lj,f117,soft,eu,aU,bh,partOf,and_assoc,cR,bd,dW,h54,h0,h1,h6,h7,uL,sI,aI,bI,zI,aX,hia,hib,hda,hdb,hw1,hw2,hw3,hw4,hwi,qI r,lW,kn,iL,bQ,g1,g2]
  ·rw[jh (Nat.le_of_not_lt hib)] at hs
   have:s1=s:=by omega
   subst this
   generalize at0 a i=x at *
   simp[lj,f117,soft,eu,aU,bh,partOf,and_assoc,cR,bd,dW,h54,h0,h1,h6,h7,uL,sI,aI,bI,zI,aX,hia,hib,hda,hw1,hw3,hw4,hwi,qI r,lW,kn,iL,bQ,g1,g2]
 ·rw[jh (Nat.le_of_not_lt hia)] at hs1
  have:s1=c:=by omega
  subst this
  by_cases hib:i<b.length
  ·have hdb:=fE b i hib
   generalize at0 b i=y at *
   simp[lj,f117,soft,eu,aU,bh,partOf,and_assoc,cR,bd,dW,h54,h0,h1,h6,h7,uL,sI,aI,bI,zI,aX,hia,hib,hdb,hw2,hw3,hw4,hwi,qI r,lW,kn,iL,bQ,g1,g2]
  ·rw[jh (Nat.le_of_not_lt hib)] at hs
   have:s1=s:=by omega
   subst this
   have hc0:0<s1:=by omega
   simp[lj,f117,soft,eu,and_assoc,cR,bd,dW,h54,h0,h1,h6,h7,uL,sI,bI,zI,hia,hib,hc0,hw3,hw4,hwi,qI r,lW,kn,iL,bQ,g1,g2]
theorem wO {va vb vo x c y P s q r:Nat}(h:vo+c*P=va+vb)(hs:s=c+x+y)(hq:q=s / 10)(hr:r=s % 10) :
  vo+P*r+q*(P*10)=va+x*P+(vb+y*P):=by
 have e:s=r+10*q:=by omega
 have e2:s*P=(r+10*q)*P:=by rw[e]
 subst hs
 simp only[Nat.add_mul] at e2 ⊢
 have e3:10*q*P=q*(P*10):=by grind
 have e4:r*P=P*r:=Nat.mul_comm _ _
 omega
theorem wN (L:Lst)(run:aw)(k:Nat)(a b:Ω)(ha:T.Dok a)(hb:T.Dok b)(i n:Nat)(fr:Ψ)(hp:Θ)(wr:Ω)(out:Ω)(c:Nat)(hia:a.length≤i)(hib:b.length≤i)(hi:i<20000000)
  (h54:fr.length=54) (h0:nth fr 0=bx a) (h1:nth fr 1=bx b) (h6:nth fr 6=iv c) (h7:nth fr 7=iv i) (hO:dw iv 0 hp out (nth fr 5)) (ho:out.length=i) (hd:T.Dok out) (hc:c≤1) (hv:T.val out+c*10 ^ i=T.val (a.take i)+T.val (b.take i)) :
  ∃ (fr':Ψ) (hp':Θ) (wr':Ω) (out':Ω),ch (af (CC L) run k lj) (n+2) ⟨fr,hp,wr⟩=some (.exit 0,⟨fr',hp',wr'⟩)∧fr'.length=54∧dw iv 0 hp' out' (nth fr' 5)∧T.Dok out'∧T.val out'=T.val a+T.val b∧out'.length=i+c:=by
 by_cases hc0:c=0
 ·subst hc0
  obtain⟨fr',q1,q2,q3⟩:=zV L run k fr hp wr a b i h54 h0 h1 h6 h7 hia hib
  refine⟨fr',hp,wr,out,bE q1,q2,by rw[q3];exact hO,hd,?_,ho⟩
  rw[T.cH a _ hia,T.cH b _ hib] at hv
  omega
 ·obtain⟨fr1,hp1,wr1,g1,g2,g3,g4,g5,g6,g7⟩:=tX L run k fr hp wr a b out i c _ ha hb hc (.inr (.inr (by omega))) hi h54 h0 h1 h6 h7 hO ho rfl
  have hv':T.val (out++[(c+at0 a i+at0 b i) % 10])+(c+at0 a i+at0 b i) / 10*10 ^ (i+1)=T.val (a.take (i+1))+T.val (b.take (i+1)):=by
   rw[T.cB,T.cB,T.dL,ho,Nat.pow_succ]
   exact wO hv rfl rfl rfl
  have e1:at0 a i=0:=jh hia
  have e2:at0 b i=0:=jh hib
  have e3:(c+at0 a i+at0 b i) / 10=0:=by omega
  rw[e3] at g5 hv'
  obtain⟨fr',q1,q2,q3⟩:=zV L run k fr1 hp1 wr1 a b (i+1) g2 g3 g4 g5 g6 (by omega) (by omega)
  refine⟨fr',hp1,wr1,_,by rw[ca g1];exact bE q1,q2,by rw[q3];exact g7,hd.append (T.Dok.nil.cons (Nat.mod_lt _ (by omega))),?_,by simp;omega⟩
  rw[T.cH a _ (by omega),T.cH b _ (by omega)] at hv'
  omega
theorem ma (a b:Ω):Nat.max a.length b.length≤a.length+b.length∧a.length≤Nat.max a.length b.length∧b.length≤Nat.max a.length b.length∧(Nat.max a.length b.length=a.length∨Nat.max a.length b.length=b.length):=by
 rcases Nat.le_total a.length b.length with h | h
 ·have:Nat.max a.length b.length=b.length:=Nat.max_eq_right h
  omega
 ·have:Nat.max a.length b.length=a.length:=Nat.max_eq_left h
  omega
theorem JV {a b out:Ω}{i c:Nat}(hia:a.length≤i)(hib:b.length≤i)(hi:i≤Nat.max a.length b.length)(hd:T.Dok out)(ho:out.length=i)(hc:c≤1)(hv:T.val out+c*10 ^ i=T.val (a.take i)+T.val (b.take i)) :
  i+c=Nat.max a.length b.length+(if 10 ^ Nat.max a.length b.length≤T.val a+T.val b then 1 else 0):=by
 have hm:=ma a b
 have e:Nat.max a.length b.length=i:=by omega
 rw[e]
 rw[T.cH a _ hia,T.cH b _ hib] at hv
 have h1:=T.eX hd
 rw[ho] at h1
 have:c=0∨c=1:=by omega
 rcases this with h | h
 ·subst h
  rw[if_neg (by omega)]
 ·subst h
  rw[if_pos (by omega)]
theorem wP (L:Lst)(run:aw)(k:Nat)(a b:Ω)(ha:T.Dok a)(hb:T.Dok b)(hla:a.length<10000000)(hlb:b.length<10000000):∀ (n i:Nat) (fr:Ψ) (hp:Θ) (wr:Ω) (out:Ω) (c:Nat),a.length≤i+n→b.length≤i+n→i≤Nat.max a.length b.length →
  fr.length=54→nth fr 0=bx a→nth fr 1=bx b→nth fr 6=iv c→nth fr 7=iv i→dw iv 0 hp out (nth fr 5)→out.length=i→T.Dok out→c≤1→T.val out+c*10 ^ i=T.val (a.take i)+T.val (b.take i) →
  ∃ (fr':Ψ) (hp':Θ) (wr':Ω) (out':Ω),ch (af (CC L) run k lj) (n+2) ⟨fr,hp,wr⟩=some (.exit 0,⟨fr',hp',wr'⟩)∧fr'.length=54∧dw iv 0 hp' out' (nth fr' 5)∧T.Dok out'∧T.val out'=T.val a+T.val b∧out'.length=Nat.max a.length b.length+(if 10 ^ Nat.max a.length b.length≤T.val a+T.val b then 1 else 0)
 | 0,i,fr,hp,wr,out,c,hia,hib,hi,h54,h0,h1,h6,h7,hO,ho,hd,hc,hv=>by
  obtain⟨fr',hp',wr',out',q1,q2,q3,q4,q5,q6⟩:=wN L run k a b ha hb i 0 fr hp wr out c hia hib (by have:=ma a b;omega) h54 h0 h1 h6 h7 hO ho hd hc hv
  exact⟨fr',hp',wr',out',q1,q2,q3,q4,q5,q6.trans (JV hia hib hi hd ho hc hv)⟩
 | n+1,i,fr,hp,wr,out,c,hia,hib,hi,h54,h0,h1,h6,h7,hO,ho,hd,hc,hv=>by
  by_cases hgo:i<a.length∨i<b.length
  ·have hx:=T.cu ha i
   have hy:=T.cu hb i
   obtain⟨fr1,hp1,wr1,g1,g2,g3,g4,g5,g6,g7⟩:=tX L run k fr hp wr a b out i c _ ha hb hc (by omega) (by have:=ma a b;omega) h54 h0 h1 h6 h7 hO ho rfl
   have hv':T.val (out++[(c+at0 a i+at0 b i) % 10])+(c+at0 a i+at0 b i) / 10*10 ^ (i+1)=T.val (a.take (i+1))+T.val (b.take (i+1)):=by
    rw[T.cB,T.cB,T.dL,ho,Nat.pow_succ]
    exact wO hv rfl rfl rfl
   obtain⟨fr',hp',wr',out',q1,q2⟩:=wP L run k a b ha hb hla hlb n (i+1) fr1 hp1 wr1 _ _ (by omega) (by omega) (by have:=ma a b;omega) g2 g3 g4 g5 g6 g7 (by simp[ho]) (hd.append (T.Dok.nil.cons (Nat.mod_lt _ (by omega)))) (by omega) hv'
   exact⟨fr',hp',wr',out',by rw[ca g1];exact q1,q2⟩
  ·obtain⟨fr',hp',wr',out',q1,q2,q3,q4,q5,q6⟩:=wN L run k a b ha hb i (n+1) fr hp wr out c (by omega) (by omega) (by have:=ma a b;omega) h54 h0 h1 h6 h7 hO ho hd hc hv
   exact⟨fr',hp',wr',out',q1,q2,q3,q4,q5,q6.trans (JV (by omega) (by omega) hi hd ho hc hv)⟩
def Hs:Code:=seq1 (seq1 (ag 3 mn))
theorem Ei:ag 3 mn = .seq (.seq Hs (.block 0 (.loop lj))) (ag 4 mn):=rfl
theorem Nu (L:Lst)(run:aw)(k:Nat)(p q:PV) :
  ∃ fr,ba (CC L) run k 3 mn ⟨entry 54 [p,q],[],[]⟩=some ⟨fr,[],[]⟩∧fr.length=54∧nth fr 0=p∧nth fr 1=q∧nth fr 5 = .sc (.slice none 0 0)∧nth fr 6=iv 0:=by
 obtain⟨e1,e2,e3⟩:=cC 52 p q
 generalize entry 54 [p,q]=fr0 at *
 simp[mn,f117,ba,e1,e2,e3,iv]
theorem ZA (L:Lst)(run:aw)(k:Nat)(fr:Ψ)(hp:Θ)(wr:Ω)(h54:fr.length=54) :
  ∃ fr',af (CC L) run k Hs ⟨fr,hp,wr⟩=some (.normal,⟨fr',hp,wr⟩)∧fr'.length=54∧nth fr' 0=nth fr 0∧nth fr' 1=nth fr 1∧nth fr' 5=nth fr 5∧nth fr' 6=nth fr 6∧nth fr' 7=iv 0:=by
 simp[Hs,mn,ag,seq1,f117,h54,iv]
theorem Hr (L:Lst)(run:aw)(k:Nat)(fr:Ψ)(hp:Θ)(wr:Ω)(p:PV)(h54:fr.length=54)(h5:nth fr 5=p) :
  ∃ st,af (CC L) run k (ag 4 mn) ⟨fr,hp,wr⟩=some (.ret,st)∧bc TT st.fr st.hp f117.results.toList=some [p]∧st.hp=hp:=by
 simp[mn,ag,f117,h54,h5,bc]
def yB (a b:Ω):Ω:=T.db (Nat.max a.length b.length+(if 10 ^ Nat.max a.length b.length≤T.val a+T.val b then 1 else 0)) (T.val a+T.val b)
def wQ:Ψ→Option Ψ
 | [p,q]=>match mY p,mY q with
  | some a,some b=>some [bx (yB a b)]
  | _,_=>none
 | _=>none
theorem Hq:Ab.Spec base.P 117 wQ:=Ab.Spec.bN (C:=CC []) (cP trivial) fun args rs h=>by
 unfold wQ at h
 split at h
 ·split at h
  ·rename_i a b ea eb
   obtain⟨rfl,ha,hla⟩:=fZ ea
   obtain⟨rfl,hb,hlb⟩:=fZ eb
   simp only[OiE] at h
   subst h
   obtain⟨fr0,h1,h2,h3,h4,h5,h6⟩:=Nu [] (runK (CC []) (a.length+b.length+2)) (a.length+b.length+2) (bx a) (bx b)
   obtain⟨fr1,g1,g2,g3,g4,g5,g6,g7⟩:=ZA [] (runK (CC []) (a.length+b.length+2)) (a.length+b.length+2) fr0 [] [] h2
   obtain⟨fr2,hp2,wr2,out,q1,q2,q3,q4,q5,q6⟩:=wP [] (runK (CC []) (a.length+b.length+2)) (a.length+b.length+2) a b ha hb hla hlb (a.length+b.length) 0 fr1 [] [] [] 0 (by omega) (by omega) (by omega) g2 (by rw[g3,h3]) (by rw[g4,h4]) (by rw[g6,h6]) g7 (by rw[g5,h5];exact dw.nil (Nat.le_refl _)) rfl T.Dok.nil (by omega) (by simp[T.val])
   obtain⟨st,e1,e2,e3⟩:=Hr [] (runK (CC []) (a.length+b.length+2)) (a.length+b.length+2) fr2 hp2 wr2 _ q2 rfl
   have hx:af (CC []) (runK (CC []) (a.length+b.length+2)) (a.length+b.length+2) mn ⟨entry 54 [bx a,bx b],[],[]⟩=some (.ret,st):=by
    rw[aQ 3 h1,Ei,ar ((ar g1).trans (bK q1))]
    exact e1
   have hout:out=yB a b:=q4.pS q6 q5
   obtain⟨rs2,ids,r1,r2⟩:=q3.s.HY iY
   rw[hout] at r2
   exact⟨a.length+b.length+3,_,_,_,rs2,ids,aV Jk rfl hx e2,by rw[e3];exact r1,r2⟩
  ·cases h
 ·cases h
theorem tn {L:Lst}{g:Nat}{f:Ψ→Option Ψ}(hs:base.shared g=false)(ho:bt L g=fun a=>f (aJ a))(run:aw)(dr:Bool){α:Type}{e:α→PV}(he:Sc1 e){b:Nat}{hp:Θ}{l:List α}{p:PV}
  (hO:jY e b hp l p) (rs:Ψ) (h3:f [mJ e l]=some rs):∃ hp' fp,bU (CC L) run dr hp g [p]=some (ja rs,hp',fp)∧(∀ i,i<b→aP hp' i=aP hp i)∧hp'.length=hp.length:=by
 obtain⟨q,ids,h1,h2,h4⟩:=hO.arg he
 have h5:bj (snap hp bp) [p]=some ([q],ids++[]):=by
  show bj (snap hp 12) _=_
  simp only[bj,h1]
 have h6:(CC L).orc g [q]=some rs:=by
  show bt L g [q]=_
  rw[ho];show f (aJ [q])=_
  simp only[aJ,h2,h3]
 rw[append_nil] at h5
 by_cases h:rs.all ed=true
 ·exact⟨_,_,ke hs h5 h6 h,fun _ _=>rfl,rfl⟩
 ·exact⟨_,_,et hs h5 h6 (by simpa using h),h4,eK _ _⟩
theorem o9 {L:Lst}{g:Nat}{f:Ψ→Option Ψ}(hs:base.shared g=false)(ho:bt L g=fun a=>f (aJ a))(run:aw)(dr:Bool){α:Type}{e:α→PV}(he:Sc1 e){b:Nat}{hp:Θ}{l:List α}{p:PV}(x:Bool)
  (hO:jY e b hp l p) (rs:Ψ) (h3:f [.sc (.bool x),mJ e l]=some rs):∃ hp' fp,bU (CC L) run dr hp g [.sc (.bool x),p]=some (ja rs,hp',fp)∧∀ i,i<b→aP hp' i=aP hp i:=by
 obtain⟨q,ids,h1,h2,h4⟩:=hO.arg he
 have h5:bj (snap hp bp) [.sc (.bool x),p]=some ([.sc (.bool x),q],[]++(ids++[])):=by
  show bj (snap hp 12) _=_
  simp only[bj,h1]
  rfl
 have h6:(CC L).orc g [.sc (.bool x),q]=some rs:=by
  show bt L g [.sc (.bool x),q]=_
  rw[ho];show f (aJ [.sc (.bool x),q])=_
  simp only[aJ,h2]
  exact h3
 rw[append_nil,nil_append] at h5
 by_cases h:rs.all ed=true
 ·exact⟨_,_,ke hs h5 h6 h,fun _ _=>rfl⟩
 ·exact⟨_,_,et hs h5 h6 (by simpa using h),h4⟩
def LT1:Lst:=[(156,iC)]
theorem Jf:dt base.P LT1:=⟨tT,trivial⟩
theorem xt:bt LT1 156=fun a=>iC (aJ a):=rfl
def mq:Code:=((f119.body).bind aA).getD .skip
def mo:Code:=f119.body.getD .skip
theorem NP (L:Lst)(run:aw)(k:Nat)(fr:Ψ)(hp:Θ)(wr:Ω)(a:Ω)(h41:fr.length=41)(h0:nth fr 0=bx a)(h7:nth fr 7=iv a.length) :
  ∃ fr',af (CC L) run k mq ⟨fr,hp,wr⟩=some (.exit 0,⟨fr',hp,wr⟩)∧fr'.length=41∧nth fr' 5=nth fr 5:=by
 simp only[iv] at h7
 simp[mq,f119,dV,h41,h0,h7,uL]
set_option maxHeartbeats 4000000 in
theorem Ev (L:Lst)(run:aw)(k:Nat)(fr:Ψ)(hp:Θ)(wr:Ω)(a b out:Ω)(i c X c':Nat)(ha:T.Dok a)(hb:T.Dok b)(hc:c≤1)(hi:i<a.length)(hi9:i<20000000)
  (hX:(at0 b i+c≤at0 a i∧X=at0 a i - (at0 b i+c)∧c'=0)∨(at0 a i<at0 b i+c∧X=at0 a i+10 - (at0 b i+c)∧c'=1))
  (h41:fr.length=41) (h0:nth fr 0=bx a) (h1:nth fr 1=bx b) (h6:nth fr 6=iv c) (h7:nth fr 7=iv i) (hO:dw iv 0 hp out (nth fr 5)) (ho:out.length=i) :
  ∃ fr' hp' wr',af (CC L) run k mq ⟨fr,hp,wr⟩=some (.normal,⟨fr',hp',wr'⟩)∧fr'.length=41∧nth fr' 0=bx a∧nth fr' 1=bx b∧nth fr' 6=iv c'∧nth fr' 7=iv (i+1)∧dw iv 0 hp' (out++[X]) (nth fr' 5):=by
 have ha9:=T.cu ha i
 have hb9:=T.cu hb i
 obtain⟨p',hp',fp,g1,g2,-⟩:=hO.app X (by omega)
 have hlX:eM TT 24 1 [(0,.sc (.int .i64 (X:Int)))]=some (1,[iv X]):=lW X
 obtain⟨z1,hz1⟩:∃ z1,z1=(at0 a i:Int) - (c:Int):=⟨_,rfl⟩
 have hw1:bF .i64 ((at0 a i:Int) - (c:Int))=z1:=by rw[hz1];exact fA _ (by omega) (by omega)
 obtain⟨z,hz⟩:∃ z,z=z1 - (at0 b i:Int):=⟨_,rfl⟩
 have hw2:bF .i64 (z1 - (at0 b i:Int))=z:=by rw[hz];exact fA _ (by omega) (by omega)
 have hwi:=bA i (by omega)
 have e1:bx a = .imm a.length false (a.map iv):=rfl
 have e2:bx b = .imm b.length false (b.map iv):=rfl
 rw[e1] at h0 ⊢;rw[e2] at h1 ⊢
 have hda:=fE a i hi
 simp only[iv] at h6 h7 ⊢
 by_cases hib:i<b.length
 ·have hdb:=fE b i hib
  generalize at0 a i=x at *
  generalize at0 b i=y at *
  rcases hX with ⟨hA,hB,hC⟩| ⟨hA,hB,hC⟩
  ·have e3:z=(X:Int):=by omega
   have e4 : ¬ ((X:Int)<0):=by omega
   subst hC
   rw[e3] at hw2
   simp[mq,f119,soft,eu,aU,bh,partOf,and_assoc,cR,bd,dW,h41,h0,h1,h6,h7,uL,sI,aI,bI,zI,aX,hi,hib,hda,hdb,hw1,hw2,e4,hwi,hlX,kn,iL,bQ,g1,g2]
  ·have e3:z<0:=by omega
   have e4:bF .i64 (z+10)=(X:Int):=by rw[show z+10=(X:Int) by omega];exact cq .i64 X (hiI (by omega))
   subst hC
   simp[mq,f119,soft,eu,aU,bh,partOf,and_assoc,cR,bd,dW,h41,h0,h1,h6,h7,uL,sI,aI,bI,zI,aX,hi,hib,hda,hdb,hw1,hw2,e3,e4,hwi,hlX,kn,iL,bQ,g1,g2]
 ·rw[jh (Nat.le_of_not_lt hib)] at hX hz
  generalize at0 a i=x at *
  rcases hX with ⟨hA,hB,hC⟩| ⟨hA,hB,hC⟩
  ·have e3:z1=(X:Int):=by omega
   have e4 : ¬ ((X:Int)<0):=by omega
   subst hC
   rw[e3] at hw1
   simp[mq,f119,soft,eu,aU,bh,partOf,and_assoc,cR,bd,dW,h41,h0,h1,h6,h7,uL,sI,aI,bI,zI,aX,hi,hib,hda,hw1,e4,hwi,hlX,kn,iL,bQ,g1,g2]
  ·have e3:z1<0:=by omega
   have e4:bF .i64 (z1+10)=(X:Int):=by rw[show z1+10=(X:Int) by omega];exact cq .i64 X (hiI (by omega))
   subst hC
   simp[mq,f119,soft,eu,aU,bh,partOf,and_assoc,cR,bd,dW,h41,h0,h1,h6,h7,uL,sI,aI,bI,zI,aX,hi,hib,hda,hw1,e3,e4,hwi,hlX,kn,iL,bQ,g1,g2]
theorem HK {va vb vo c x y P X c':Nat}(h:vo+vb=va+c*P)(hX:(y+c≤x∧X=x - (y+c)∧c'=0)∨(x<y+c∧X=x+10 - (y+c)∧c'=1))(hb:y+c≤10) :
  vo+P*X+(vb+y*P)=va+x*P+c'*(P*10):=by
 have e:X+y+c=x+10*c':=by omega
 have e2:(X+y+c)*P=(x+10*c')*P:=by rw[e]
 simp only[Nat.add_mul] at e2
 have e3:10*c'*P=c'*(P*10):=by grind
 have e4:X*P=P*X:=Nat.mul_comm _ _
 omega
theorem wZ (L:Lst)(run:aw)(k:Nat)(a b:Ω)(ha:T.Dok a)(hb:T.Dok b)(hla:a.length<10000000):∀ (n i:Nat) (fr:Ψ) (hp:Θ) (wr:Ω) (out:Ω) (c:Nat),i+n=a.length →
  fr.length=41→nth fr 0=bx a→nth fr 1=bx b→nth fr 6=iv c→nth fr 7=iv i→dw iv 0 hp out (nth fr 5)→out.length=i→T.Dok out→c≤1→T.val out+T.val (b.take i)=T.val (a.take i)+c*10 ^ i →
  ∃ (fr':Ψ) (hp':Θ) (wr':Ω) (out':Ω) (c':Nat),ch (af (CC L) run k mq) (n+1) ⟨fr,hp,wr⟩=some (.exit 0,⟨fr',hp',wr'⟩)∧fr'.length=41∧dw iv 0 hp' out' (nth fr' 5)∧out'.length=a.length∧T.Dok out'∧c'≤1∧T.val out'+T.val (b.take a.length)=T.val a+c'*10 ^ a.length
 | 0,i,fr,hp,wr,out,c,hin,h41,h0,h1,h6,h7,hO,ho,hd,hc,hv=>by
  have:i=a.length:=by omega
  subst this
  obtain⟨fr',q1,q2,q3⟩:=NP L run k fr hp wr a h41 h0 h7
  exact⟨fr',hp,wr,out,c,bE q1,q2,by rw[q3];exact hO,ho,hd,hc,by rw[hv,take_length]⟩
 | n+1,i,fr,hp,wr,out,c,hin,h41,h0,h1,h6,h7,hO,ho,hd,hc,hv=>by
  have hx:=T.cu ha i
  have hy:=T.cu hb i
  obtain⟨X,c',hX⟩:∃ X c',(at0 b i+c≤at0 a i∧X=at0 a i - (at0 b i+c)∧c'=0)∨(at0 a i<at0 b i+c∧X=at0 a i+10 - (at0 b i+c)∧c'=1):=by
   rcases Nat.lt_or_ge (at0 a i) (at0 b i+c) with h | h
   ·exact⟨_,_,.inr ⟨h,rfl,rfl⟩⟩
   ·exact⟨_,_,.inl ⟨h,rfl,rfl⟩⟩
  obtain⟨fr1,hp1,wr1,g1,g2,g3,g4,g5,g6,g7⟩:=Ev L run k fr hp wr a b out i c X c' ha hb hc (by omega) (by omega) hX h41 h0 h1 h6 h7 hO ho
  obtain⟨fr',hp',wr',out',c'',q1,q2⟩:=wZ L run k a b ha hb hla n (i+1) fr1 hp1 wr1 _ _ (by omega) g2 g3 g4 g5 g6 g7 (by simp[ho]) (hd.append (T.Dok.nil.cons (by omega))) (by omega) (by
   rw[T.cB,T.cB,T.dL,ho,Nat.pow_succ]
   exact HK hv hX (by omega))
  exact⟨fr',hp',wr',out',c'',by rw[ca g1];exact q1,q2⟩
def HM:Code:=seq1 (seq1 (ag 3 mo))
theorem Eu:ag 3 mo = .seq (.seq HM (.block 0 (.loop mq))) (ag 4 mo):=rfl
theorem NO (L:Lst)(run:aw)(k:Nat)(p q:PV) :
  ∃ fr,ba (CC L) run k 3 mo ⟨entry 41 [p,q],[],[]⟩=some ⟨fr,[],[]⟩∧fr.length=41∧nth fr 0=p∧nth fr 1=q∧nth fr 5 = .sc (.slice none 0 0)∧nth fr 6=iv 0:=by
 obtain⟨e1,e2,e3⟩:=cC 39 p q
 generalize entry 41 [p,q]=fr0 at *
 simp[mo,f119,ba,e1,e2,e3,iv]
theorem ZN (L:Lst)(run:aw)(k:Nat)(fr:Ψ)(hp:Θ)(wr:Ω)(h41:fr.length=41) :
  ∃ fr',af (CC L) run k HM ⟨fr,hp,wr⟩=some (.normal,⟨fr',hp,wr⟩)∧fr'.length=41∧nth fr' 0=nth fr 0∧nth fr' 1=nth fr 1∧nth fr' 5=nth fr 5∧nth fr' 6=nth fr 6∧nth fr' 7=iv 0:=by
 simp[HM,mo,ag,seq1,f119,h41,iv]
theorem HL (run:aw)(k:Nat)(fr:Ψ)(hp hp':Θ)(wr:Ω)(p q:PV)(fp:FP)(h41:fr.length=41)(h5:nth fr 5=p)(hc:bU (CC LT1) run false hp 156 [p]=some (q,hp',fp)) :
  ∃ st,af (CC LT1) run k (ag 4 mo) ⟨fr,hp,wr⟩=some (.ret,st)∧bc TT st.fr st.hp f119.results.toList=some [q]:=by
 simp[mo,ag,f119,aM,h41,h5,hc,bc]
def nH:Ψ→Option Ψ
 | [p,q]=>match mY p,mY q with
  | some a,some b=>bif b.length.ble a.length && (T.val b).ble (T.val a) then some [bx (T.aK (T.val a - T.val b))] else none
  | _,_=>none
 | _=>none
theorem wY:Ab.Spec base.P 119 nH:=Ab.Spec.bN (C:=CC LT1) (cP Jf) fun args rs h=>by
 unfold nH at h
 split at h
 ·split at h
  ·rename_i a b ea eb
   obtain⟨rfl,ha,hla⟩:=fZ ea
   obtain⟨rfl,hb,hlb⟩:=fZ eb
   cases hg:b.length.ble a.length && (T.val b).ble (T.val a) with
   | false=>rw[hg] at h;cases h
   | true =>
    rw[hg] at h
    simp only[cond_true,OiE] at h
    subst h
    simp only[Bool.and_eq_true,Nat.ble_eq] at hg
    obtain⟨fr0,h1,h2,h3,h4,h5,h6⟩:=NO LT1 (runK (CC LT1) (a.length+1)) (a.length+1) (bx a) (bx b)
    obtain⟨fr1,g1,g2,g3,g4,g5,g6,g7⟩:=ZN LT1 (runK (CC LT1) (a.length+1)) (a.length+1) fr0 [] [] h2
    obtain⟨fr2,hp2,wr2,out,c,q1,q2,q3,q4,q5,q6,q7⟩:=wZ LT1 (runK (CC LT1) (a.length+1)) (a.length+1) a b ha hb hla a.length 0 fr1 [] [] [] 0 (by omega) g2 (by rw[g3,h3]) (by rw[g4,h4]) (by rw[g6,h6]) g7 (by rw[g5,h5];exact dw.nil (Nat.le_refl _)) rfl T.Dok.nil (by omega) (by simp[T.val])
    rw[T.cH b _ hg.1] at q7
    have hlt:=T.eX q5
    rw[q4] at hlt
    have hv:T.val out=T.val a - T.val b:=by
     have:c=0∨c=1:=by omega
     rcases this with h | h <;> subst h <;> omega
    obtain⟨hp3,fp,c1,-⟩:=tn lK xt (runK (CC LT1) (a.length+1)) false iY q3.s [bx (T.fj out)] (by
     have:=dY q5 (show out.length<10000000 by omega)
     simp only[bx] at this
     simp only[iC,this])
    rw[T.eJ q5,hv] at c1
    obtain⟨st,e1,e2⟩:=HL (runK (CC LT1) (a.length+1)) (a.length+1) fr2 hp2 hp3 wr2 _ _ fp q2 rfl c1
    have hx:af (CC LT1) (runK (CC LT1) (a.length+1)) (a.length+1) mo ⟨entry 41 [bx a,bx b],[],[]⟩=some (.ret,st):=by
     rw[aQ 3 h1,Eu,ar ((ar g1).trans (bK q1))]
     exact e1
    exact⟨a.length+2,_,_,_,_,_,aV Gd rfl hx e2,pG _ _,Wk.refl rfl,trivial⟩
  ·cases h
 ·cases h
def uj:Code:=((f115.body).bind aA).getD .skip
def qV:Code:=f115.body.getD .skip
theorem u8T:und TT 5=some (.int .u8):=by kernel_rfl
theorem Tu (L:Lst)(run:aw)(k:Nat)(fr:Ψ)(hp:Θ)(wr:Ω)(h37:fr.length=37)(h6:nth fr 6 = .sc (.int .i64 (-1))) :
  ∃ fr',af (CC L) run k uj ⟨fr,hp,wr⟩=some (.exit 0,⟨fr',hp,wr⟩)∧fr'.length=37∧nth fr' 4=nth fr 4∧nth fr' 5=nth fr 5:=by
 simp[uj,f115,h37,h6]
set_option maxHeartbeats 1000000 in
theorem NQ (L:Lst)(run:aw)(k:Nat)(fr:Ψ)(hp:Θ)(wr:Ω)(l:Ω)(i:Nat)(hl:Bok l)(hi:i<l.length)(hi9:i<20000000)(h45:at0 l i=45)(h37:fr.length=37)(h0:nth fr 0 = .sc (.string (tx l)))(h6:nth fr 6=iv i) :
  ∃ fr',af (CC L) run k uj ⟨fr,hp,wr⟩=some (.normal,⟨fr',hp,wr⟩)∧fr'.length=37∧nth fr' 0 = .sc (.string (tx l))∧nth fr' 4=nth fr 4∧nth fr' 5=nth fr 5∧nth fr' 6 = .sc (.int .i64 ((i:Int) - 1)):=by
 have hx:=fg uAI hl .i64 i hi
 have hw:=cM i (by omega)
 rw[h45] at hx
 simp only[iv] at h6
 simp[uj,f115,h37,h0,h6,hx,hw]
set_option maxHeartbeats 1000000 in
theorem ZO (L:Lst)(run:aw)(k:Nat)(fr:Ψ)(hp:Θ)(wr:Ω)(l out:Ω)(i:Nat)(hl:Bok l)(hi:i<l.length)(hi9:i<20000000)(h45:lZ (at0 l i)=true)(ho9:out.length<20000000)(h37:fr.length=37)(h0:nth fr 0 = .sc (.string (tx l)))(h6:nth fr 6=iv i)(hO:dw iv 0 hp out (nth fr 5)) :
  ∃ fr' hp' wr',af (CC L) run k uj ⟨fr,hp,wr⟩=some (.normal,⟨fr',hp',wr'⟩)∧fr'.length=37∧nth fr' 0 = .sc (.string (tx l))∧nth fr' 4=nth fr 4∧dw iv 0 hp' (out++[dv (at0 l i)]) (nth fr' 5)∧nth fr' 6 = .sc (.int .i64 ((i:Int) - 1)):=by
 have hx:=fg uAI hl .i64 i hi
 rw[dN] at h45
 generalize at0 l i=b at *
 obtain⟨d,hd⟩:∃ d,d=dv b:=⟨_,rfl⟩
 rw[← hd]
 have hd2:b=d+48:=by rw[hd];unfold dv;omega
 obtain⟨p',hp',fp,g1,g2,-⟩:=hO.app d (by omega)
 have hw:=cM i (by omega)
 have hw1:=cq .i64 b (hiI (by omega))
 have hw2:=A8 .i64 b d hd2 (hiI (by omega))
 have hne:((b:Int) == 45)=false:=by rw[beq_eq_false_iff_ne];omega
 have hne2 : ¬ ((b:Int)=45):=by omega
 have hlX:eM TT 24 1 [(0,.sc (.int .i64 (d:Int)))]=some (1,[iv d]):=lW d
 simp only[iv] at h6
 simp[uj,f115,soft,eu,and_assoc,bd,dW,h37,h0,h6,hx,hne,bne,u8T,uI,dI,hw,hw1,hw2,hlX,kn,iL,uL,sI,bI,zI,bQ,g1,g2]
theorem sM (L:Lst)(run:aw)(k:Nat)(m:Bool)(ds:Ω)(hd:eO ds=true)(hl9:ds.length<10000000):∀ (n:Nat) (fr:Ψ) (hp:Θ) (wr:Ω) (out:Ω),n≤((bif m then [45] else [])++ds).length →
  fr.length=37→nth fr 0 = .sc (.string (tx ((bif m then [45] else [])++ds)))→nth fr 6 = .sc (.int .i64 ((n:Int) - 1))→dw iv 0 hp out (nth fr 5)→out=dvs (ds.drop (n - (bif m then 1 else 0))) →
  ∃ (fr':Ψ) (hp':Θ) (wr':Ω),ch (af (CC L) run k uj) (n+1) ⟨fr,hp,wr⟩=some (.exit 0,⟨fr',hp',wr'⟩)∧fr'.length=37∧nth fr' 4=nth fr 4∧dw iv 0 hp' (dvs ds) (nth fr' 5)
 | 0,fr,hp,wr,out,hn,h37,h0,h6,hO,ho=>by
  obtain⟨fr',q1,q2,q3,q4⟩:=Tu L run k fr hp wr h37 (by rw[h6];rfl)
  refine⟨fr',hp,wr,bE q1,q2,q3,?_⟩
  rw[q4]
  simp only[Nat.zero_sub,drop_zero] at ho
  rw[← ho];exact hO
 | n+1,fr,hp,wr,out,hn,h37,h0,h6,hO,ho=>by
  have h6':nth fr 6=iv n:=by rw[h6];simp[iv]
  have hB:Bok ((bif m then [45] else [])++ds):=by
   refine Bok.append ?_ ?_
   ·cases m
    ·exact Bok.nil
    ·exact Bok.nil.cons (by omega)
   ·intro x hx
    have:=dN.1 (fS hd hx)
    omega
  have hlen:((bif m then [45] else [])++ds).length=(bif m then 1 else 0)+ds.length:=by cases m <;> simp;omega
  rw[hlen] at hn
  by_cases hs:m=true∧n=0
  ·obtain⟨rfl,rfl⟩:=hs
   obtain⟨fr1,g1,g2,g3,g4,g5,g6⟩:=NQ L run k fr hp wr _ 0 hB (by rw[hlen];simp;omega) (by omega) rfl h37 h0 h6'
   obtain⟨fr',hp',wr',q1,q2,q3,q4⟩:=sM L run k true ds hd hl9 0 fr1 hp wr out (by omega) g2 g3 g6 (by rw[g5];exact hO) (by simpa using ho)
   exact⟨fr',hp',wr',by rw[ca g1];exact q1,q2,by rw[q3,g4],q4⟩
  ·obtain⟨j,hj,hj2⟩:∃ j,n=(bif m then 1 else 0)+j∧j<ds.length:=by
    cases m with
    | false=>exact⟨n,by simp,by simp at hn;omega⟩
    | true =>
     have:n≠0:=fun h=>hs ⟨rfl,h⟩
     exact⟨n - 1,by simp;omega,by simp at hn;omega⟩
   have hat:at0 ((bif m then [45] else [])++ds) n=ds[j]:=by
    unfold at0
    cases m with
    | false=>simp only[cond_false,nil_append,Nat.zero_add] at hj ⊢;subst hj;simp[hj2]
    | true=>simp only[cond_true] at hj ⊢;subst hj;rw[Nat.add_comm];simp[hj2]
   have hdb:lZ (at0 ((bif m then [45] else [])++ds) n)=true:=by rw[hat];exact fS hd (getElem_mem hj2)
   have hdr:n+1 - (bif m then 1 else 0)=j+1:=by rw[hj];cases m <;> simp <;> omega
   have hdr2:n - (bif m then 1 else 0)=j:=by rw[hj];cases m <;> simp
   rw[hdr] at ho
   have hol:out.length<20000000:=by rw[ho,mK,length_drop];omega
   have hn9:n<20000000:=by cases m <;> simp at hn <;> omega
   obtain⟨fr1,hp1,wr1,g1,g2,g3,g4,g5,g6⟩:=ZO L run k fr hp wr _ out n hB (by rw[hlen];omega) hn9 hdb hol h37 h0 h6' hO
   rw[hat] at g5
   obtain⟨fr',hp',wr',q1,q2,q3,q4⟩:=sM L run k m ds hd hl9 n fr1 hp1 wr1 _ (by rw[hlen];omega) g2 g3 g6 g5 (by rw[hdr2,ho,← xX,← drop_eq_getElem_cons hj2])
   exact⟨fr',hp',wr',by rw[ca g1];exact q1,q2,by rw[q3,g4],q4⟩
def Tv:Code:=seq1 (seq1 (ag 3 qV))
theorem HN:ag 3 qV = .seq (.seq Tv (.block 0 (.loop uj))) (ag 4 qV):=rfl
set_option maxHeartbeats 1000000 in
theorem Tt (L:Lst)(run:aw)(k:Nat)(a:Nat)(l:Ω)(hl:Bok (a::l)) :
  ∃ fr,ba (CC L) run k 3 qV ⟨entry 37 [.sc (.string (tx (a::l)))],[],[]⟩=some ⟨fr,[],[]⟩∧fr.length=37∧nth fr 0 = .sc (.string (tx (a::l)))∧nth fr 4 = .sc (.bool (decide (a=45)))∧nth fr 5 = .sc (.slice none 0 0):=by
 obtain⟨e1,e2⟩:=cL 36 (.sc (.string (tx (a::l))))
 generalize entry 37 [.sc (.string (tx (a::l)))]=fr0 at *
 have hx:ig TT 94 (.sc (.string (tx (a::l)))) (.sc (.int .i64 0))=some (.sc (.int .u8 (a:Int))):=fg uAI hl .i64 0 (by simp)
 have hb:((a:Int) == 45)=decide (a=45):=by
  by_cases h:a=45
  ·subst h;rfl
  ·rw[decide_eq_false h,beq_eq_false_iff_ne];omega
 have hp:(0:Int)<(l.length:Int)+1:=by omega
 simp[qV,f115,ba,e1,e2,dT,uAI,hx,hb,hp]
theorem aee (L:Lst)(run:aw)(k:Nat)(fr:Ψ)(hp:Θ)(wr:Ω)(l:Ω)(hl:l.length<20000000)(h37:fr.length=37)(h0:nth fr 0 = .sc (.string (tx l))) :
  ∃ fr',af (CC L) run k Tv ⟨fr,hp,wr⟩=some (.normal,⟨fr',hp,wr⟩)∧fr'.length=37∧nth fr' 0 = .sc (.string (tx l))∧nth fr' 4=nth fr 4∧nth fr' 5=nth fr 5∧nth fr' 6 = .sc (.int .i64 ((l.length:Int) - 1)):=by
 have hw:=cM l.length (by omega)
 simp[Tv,qV,ag,seq1,f115,dT,h37,h0,uAI,hw]
theorem NR (run:aw)(k:Nat)(fr:Ψ)(hp hp':Θ)(wr:Ω)(p q:PV)(m:Bool)(fp:FP)(h37:fr.length=37)(h4:nth fr 4 = .sc (.bool m))(h5:nth fr 5=p)(hc:bU (CC LT1) run false hp 156 [p]=some (q,hp',fp)) :
  ∃ st,af (CC LT1) run k (ag 4 qV) ⟨fr,hp,wr⟩=some (.ret,st)∧bc TT st.fr st.hp f115.results.toList=some [.sc (.bool m),q]:=by
 simp[qV,ag,f115,aM,h37,h4,h5,hc,bc]
def ui:Ψ→Option Ψ
 | [.sc (.string s)]=>match yD (bys s) with
  | some (m,ds)=>bif ds.length.blt 9000000 then some [.sc (.bool m),bx (T.aK (dec 0 ds))] else none
  | none=>none
 | _=>none
theorem Ae:Ab.Spec base.P 115 ui:=Ab.Spec.bN (C:=CC LT1) (cP Jf) fun args rs h=>by
 unfold ui at h
 split at h
 ·rename_i s
  split at h
  ·rename_i m ds e
   cases hb:ds.length.blt 9000000 with
   | false=>rw[hb] at h;cases h
   | true =>
    rw[hb] at h
    simp only[cond_true,OiE] at h
    subst h
    rw[Nat.blt_eq] at hb
    obtain⟨e1,e2,e3⟩:=su e
    have hok:=mO s
    have hs:s=tx (bys s):=(iw s).symm
    obtain⟨a,l,hal⟩:∃ a l,bys s=a::l:=by
     cases h:bys s with
     | nil=>exact absurd h e3
     | cons a l=>exact⟨a,l,rfl⟩
    have hlen:(bys s).length<20000000:=by rw[e1];cases m <;> simp <;> omega
    have hm:decide (a=45)=m:=by
     rw[hal] at e1
     cases m with
     | true=>simp at e1;simp[e1.1]
     | false =>
      simp only[cond_false,nil_append] at e1
      subst e1
      have:=dN.1 (fS e2 (mem_cons_self ..))
      simp;omega
    rw[hs,hal]
    rw[hal] at hok hlen
    obtain⟨f1,p1,p2,p3,p4,p5⟩:=Tt LT1 (runK (CC LT1) ((a::l).length+1)) ((a::l).length+1) a l hok
    obtain⟨f2,q1,q2,q3,q4,q5,q6⟩:=aee LT1 (runK (CC LT1) ((a::l).length+1)) ((a::l).length+1) f1 [] [] (a::l) hlen p2 p3
    have e1':a::l=(bif m then [45] else [])++ds:=by rw[← hal];exact e1
    obtain⟨f3,hp3,wr3,r1,r2,r3,r4⟩:=sM LT1 (runK (CC LT1) ((a::l).length+1)) ((a::l).length+1) m ds e2 (by omega) (a::l).length f2 [] [] [] (by rw[e1'];exact Nat.le_refl _) q2 (by rw[q3,e1']) q6 (by rw[q5,p5];exact dw.nil (Nat.le_refl _)) (by rw[drop_eq_nil_of_le];rfl;rw[e1'];cases m <;> simp <;> omega)
    obtain⟨hp4,fp,c1,-⟩:=tn lK xt (runK (CC LT1) ((a::l).length+1)) false iY r4.s [bx (T.fj (dvs ds))] (by
     have:=dY (IH e2) (show (dvs ds).length<10000000 by rw[mK];omega)
     simp only[bx] at this
     simp only[iC,this])
    rw[T.eJ (IH e2),uX] at c1
    obtain⟨st,x1,x2⟩:=NR (runK (CC LT1) ((a::l).length+1)) ((a::l).length+1) f3 hp3 hp4 wr3 _ _ m fp r2 (by rw[r3,q4,p4,hm]) rfl c1
    have hx:af (CC LT1) (runK (CC LT1) ((a::l).length+1)) ((a::l).length+1) qV ⟨entry 37 [.sc (.string (tx (a::l)))],[],[]⟩=some (.ret,st):=by
     rw[aQ 3 p1,HN,ar ((ar q1).trans (bK r1))]
     exact x1
    exact⟨(a::l).length+2,_,_,_,_,_,aV yT rfl hx x2,rfl,Wk.refl rfl,Wk.refl rfl,trivial⟩
  ·cases h
 ·cases h
end Go.Proofs.YtjdmodeenbdfpaaGreat
end
