/- Contracts of num's integers, part 15; each lemma states its conditions. -/
import Derived.Test.YtjdmodeenbdfpaaGreatW14
set_option linter.unusedSimpArgs false
set_option linter.unusedVariables false
noncomputable section
namespace Go.Proofs.YtjdmodeenbdfpaaGreat
open Go Go.Ab Tryz
attribute [local simp] FzZ aC aF aG aH aM aP aW aX aZ aa ab ae af ag ah ai aj an and_assoc ao aq au av bD bc bf bg bq partOf sW
def L5:Lst:=[(166,lk),(152,fB),(101,jx),(97,ofF),(168,Gy),(139,tr)]
theorem ajc:dt base.P L5:=⟨xg,jw,kc,mw,vT,ou,trivial⟩
theorem Uf:bt L5 166=fun a=>lk (aJ a):=rfl
theorem N9:bt L5 152=fun a=>fB (aJ a):=rfl
theorem aar:bt L5 101=fun a=>jx (aJ a):=rfl
theorem ahO:bt L5 97=fun a=>ofF (aJ a):=rfl
theorem aeF:bt L5 168=fun a=>Gy (aJ a):=rfl
theorem aeG:bt L5 139=fun a=>tr (aJ a):=rfl
theorem FQ (run:aw)(dr:Bool)(x y:Nat)(hx:(aK x).length≤900000)(hy:(aK y).length≤900000)(hy0:y≠0) :
  ∃ q r,(∀ hp,bU (CC L5) run dr hp 166 [aO (aK x),aO (aK y)]=some (.tup [aO q,aO r],hp,⟨[],[],false,false⟩))∧Dok q∧val q=x / y∧q.length<1000000∧Dok r∧val r=x % y∧r.length<1000000:=by
 obtain⟨q,r,h1,h2⟩:=xi x y hx hy hy0
 exact⟨q,r,fun hp=>bu DC Uf run dr hp [aO (aK x),aO (aK y)] [aO q,aO r] (mR hp _ _) (kB _ _) h1,h2⟩
theorem rW (run:aw)(dr:Bool)(hp:Θ)(n:Bool)(l:Ω)(hd:Dok l)(hl:l.length<1000000) :
  bU (CC L5) run dr hp 152 [.sc (.bool n),aO l]=some (br (sgn n (val l)),hp,⟨[],[],false,false⟩) :=
 bu oG N9 run dr hp _ [br (sgn n (val l))] (LD hp n l) (FM n l) (by simp only[fB,cX hd hl])
theorem I1 (run:aw)(dr:Bool)(hp:Θ)(x:Int)(hx:Sm x):bU (CC L5) run dr hp 101 [br x]=some (Ab.bJ x.sign,hp,⟨[],[],false,false⟩) :=
 bu ve aar run dr hp _ [Ab.bJ x.sign] (mQ hp x) (jU x) (by simp only[jx,cJ hx])
theorem W1 (run:aw)(dr:Bool)(hp:Θ):bU (CC L5) run dr hp 97 [.sc (.int .i64 1)]=some (br 1,hp,⟨[],[],false,false⟩) :=
 bu zu ahO run dr hp _ [br 1] rfl rfl rfl
theorem Pq (run:aw)(dr:Bool)(hp:Θ)(x y:Int)(hx:Sm x)(hy:Sm y):bU (CC L5) run dr hp 168 [br x,br y]=some (br (x - y),hp,⟨[],[],false,false⟩) :=
 bu adP aeF run dr hp _ [br (x - y)] (gI hp x y) (fv x y) (by simp only[Gy,cJ hx,cJ hy])
theorem Pr (run:aw)(dr:Bool)(hp:Θ)(x y:Int)(hx:Sm x)(hy:Sm y):bU (CC L5) run dr hp 139 [br x,br y]=some (br (x+y),hp,⟨[],[],false,false⟩) :=
 bu G2 aeG run dr hp _ [br (x+y)] (gI hp x y) (fv x y) (by simp only[tr,cJ hx,cJ hy])
def divC:Code:=f151.body.getD .skip
def x7 (x y:Int):Bool := !(x.natAbs % y.natAbs).beq 0 && (bw x != bw y)
def mL (x y:Int):Int:=bif x7 x y then sgn (bw x != bw y) (x.natAbs / y.natAbs) - 1 else sgn (bw x != bw y) (x.natAbs / y.natAbs)
def Co (x y:Int):Int:=bif x7 x y then sgn (bw x) (x.natAbs % y.natAbs)+y else sgn (bw x) (x.natAbs % y.natAbs)
theorem Sm.of_le {x y:Int}(h:Sm y)(hl:x.natAbs≤y.natAbs):Sm x:=Nat.lt_of_le_of_lt (cG hl) h
theorem wi (n:Bool)(v:Nat):(sgn n v).natAbs=v:=by
 rw[ss];cases n <;> simp
set_option maxHeartbeats 4000000 in
theorem ab2 (run:aw)(k:Nat)(nx ny nq nr:Bool)(a b qd rd qq rr:Ω)
  (hc1:∀ hp,bU (CC L5) run false hp 166 [aO a,aO b]=some (.tup [aO qd,aO rd],hp,⟨[],[],false,false⟩))
  (hc2:∀ dr hp,bU (CC L5) run dr hp 152 [.sc (.bool (nx != ny)),aO qd]=some (.agg [.sc (.bool nq),aO qq],hp,⟨[],[],false,false⟩))
  (hc3:∀ dr hp,bU (CC L5) run dr hp 152 [.sc (.bool nx),aO rd]=some (.agg [.sc (.bool nr),aO rr],hp,⟨[],[],false,false⟩)) :
  ∃ fr wr,ba (CC L5) run k 3 divC ⟨entry 45 [wh nx a,wh ny b],[],[]⟩=some ⟨fr,[⟨.live,[.sc (.bool nx),aO a]⟩,⟨.live,[.sc (.bool ny),aO b]⟩,⟨.live,[.sc (.bool nq),aO qq]⟩,⟨.live,[.sc (.bool nr),aO rr]⟩],wr⟩∧fr.length=45∧nth fr 2 = .ptr 0 0∧nth fr 3 = .ptr 1 0∧nth fr 4 = .ptr 2 0∧nth fr 5 = .ptr 3 0:=by
 obtain⟨e1,e2,e3⟩:=cC 43 (wh nx a) (wh ny b)
 generalize entry 45 [wh nx a,wh ny b]=fr0 at *
 have e4:∀ n l,wh n l = .agg [.sc (.bool n),aO l]:=fun _ _=>rfl
 rw[e4] at e2 e3
 cases nx <;> cases ny <;> simp only[bne_self_eq_false,Bool.bne_true,Bool.bne_false,Bool.not_false] at hc2 <;>
 simp[divC,f151,ba,e1,e2,e3,dP,bP,bm,bX,bH,bd,hc1,hc2,hc3,uB,uW,sB,sD,zW,aB,aD,wf0,wf1,aL,bZ,cm,number,FP.free,cD,FP.apart]
def lh:Code→Array Oper
 | .region _ ops _=>ops
 | .cond _ a _=>lh a
 | _=>#[]
def rE:Code:=seq1 (ag 3 divC)
theorem AO:ag 3 divC = .seq rE (ag 4 divC):=rfl
set_option maxHeartbeats 4000000 in
theorem V8 (run:aw)(k:Nat)(fr:Ψ)(wr:Ω)(nx ny nq nr:Bool)(a b qq rr:Ω)(s:Int)(hne:s=0∨nx=ny)
  (hc4:∀ dr hp,bU (CC L5) run dr hp 101 [.agg [.sc (.bool nr),aO rr]]=some (.sc (.int .i64 s),hp,⟨[],[],false,false⟩))
  (h45:fr.length=45) (h2:nth fr 2 = .ptr 0 0) (h3:nth fr 3 = .ptr 1 0) (h4:nth fr 4 = .ptr 2 0) (h5:nth fr 5 = .ptr 3 0) :
  ∃ fr' wr',af (CC L5) run k rE ⟨fr,[⟨.live,[.sc (.bool nx),aO a]⟩,⟨.live,[.sc (.bool ny),aO b]⟩,⟨.live,[.sc (.bool nq),aO qq]⟩,⟨.live,[.sc (.bool nr),aO rr]⟩],wr⟩=some (.normal,⟨fr',[⟨.live,[.sc (.bool nx),aO a]⟩,⟨.live,[.sc (.bool ny),aO b]⟩,⟨.live,[.sc (.bool nq),aO qq]⟩,⟨.live,[.sc (.bool nr),aO rr]⟩],wr'⟩)∧fr'.length=45∧nth fr' 4 = .ptr 2 0∧nth fr' 5 = .ptr 3 0:=by
 by_cases hs:s=0
 ·subst hs
  simp[rE,divC,f151,seq1,h45,h4,h5,hc4]
 ·have hn:nx=ny:=by rcases hne with h | h;exact absurd h hs;exact h
  subst hn
  have hs2:(s != 0)=true:=by simpa using hs
  cases nx <;> simp[rE,divC,f151,seq1,h45,h2,h3,h4,h5,dP,bP,hc4,hs2,uB,uW,sB,aB,wf0,wf1]
theorem af8:((Region.before (lh (bn rE)))[6]?.getD 0).testBit 0=true:=by kernel_rfl
theorem af7:((Region.before (lh (bn rE)))[7]?.getD 0).testBit 3=true:=by kernel_rfl
theorem af6:((Region.before (lh (seq1 (ag 4 divC))))[2]?.getD 0).testBit 0=true:=by kernel_rfl
theorem af5:((Region.before (lh (seq1 (ag 4 divC))))[3]?.getD 0).testBit 1=true:=by kernel_rfl
set_option maxHeartbeats 4000000 in
theorem V7 (run:aw)(k:Nat)(fr:Ψ)(wr:Ω)(nx nq nr nq2 nr2:Bool)(a b qq rr qq2 rr2 one:Ω)(s:Int)(hs:s≠0)
  (hc4:∀ dr hp,bU (CC L5) run dr hp 101 [.agg [.sc (.bool nr),aO rr]]=some (.sc (.int .i64 s),hp,⟨[],[],false,false⟩))
  (hc5:∀ dr hp,bU (CC L5) run dr hp 97 [.sc (.int .i64 1)]=some (.agg [.sc (.bool false),aO one],hp,⟨[],[],false,false⟩))
  (hc6:∀ dr hp,bU (CC L5) run dr hp 168 [.agg [.sc (.bool nq),aO qq],.agg [.sc (.bool false),aO one]]=some (.agg [.sc (.bool nq2),aO qq2],hp,⟨[],[],false,false⟩))
  (hc7:∀ dr hp,bU (CC L5) run dr hp 139 [.agg [.sc (.bool nr),aO rr],.agg [.sc (.bool (!nx)),aO b]]=some (.agg [.sc (.bool nr2),aO rr2],hp,⟨[],[],false,false⟩))
  (h45:fr.length=45) (h2:nth fr 2 = .ptr 0 0) (h3:nth fr 3 = .ptr 1 0) (h4:nth fr 4 = .ptr 2 0) (h5:nth fr 5 = .ptr 3 0) :
  ∃ fr' wr',af (CC L5) run k rE ⟨fr,[⟨.live,[.sc (.bool nx),aO a]⟩,⟨.live,[.sc (.bool (!nx)),aO b]⟩,⟨.live,[.sc (.bool nq),aO qq]⟩,⟨.live,[.sc (.bool nr),aO rr]⟩],wr⟩=some (.normal,⟨fr',[⟨.live,[.sc (.bool nx),aO a]⟩,⟨.live,[.sc (.bool (!nx)),aO b]⟩,⟨.live,[.sc (.bool nq2),aO qq2]⟩,⟨.live,[.sc (.bool nr2),aO rr2]⟩],wr'⟩)∧fr'.length=45∧nth fr' 4 = .ptr 2 0∧nth fr' 5 = .ptr 3 0:=by
 have hs2:(s != 0)=true:=by simpa using hs
 have hb1:=af8
 have hb2:=af7
 simp only[rE,divC,f151,seq1,bn,ag,lh,Option.getD_some] at hb1 hb2
 cases nx <;> simp only[Bool.not_true,Bool.not_false] at hc7 ⊢ <;> simp[-Nat.testBit_zero,hb1,hb2,rE,divC,f151,seq1,h45,h2,h3,h4,h5,dP,bP,bm,bX,bH,bd,hc4,hc5,hc6,hc7,hs2,uB,uW,sB,aB,wf0,wf1,bZ,cm,number,FP.free,cD,FP.apart]
set_option maxHeartbeats 4000000 in
theorem Fx (L:Lst)(run:aw)(k:Nat)(fr:Ψ)(wr:Ω)(b0 b1:Blk)(nq nr:Bool)(qq rr:Ω)(h45:fr.length=45)(h4:nth fr 4 = .ptr 2 0)(h5:nth fr 5 = .ptr 3 0) :
  ∃ st,af (CC L) run k (ag 4 divC) ⟨fr,[b0,b1,⟨.live,[.sc (.bool nq),aO qq]⟩,⟨.live,[.sc (.bool nr),aO rr]⟩],wr⟩=some (.ret,st)∧bc TT st.fr st.hp f151.results.toList=some [.agg [.sc (.bool nq),aO qq],.agg [.sc (.bool nr),aO rr]]:=by
 have hb1:=af6
 have hb2:=af5
 simp only[divC,f151,seq1,ag,lh,Option.getD_some] at hb1 hb2
 simp[-Nat.testBit_zero,hb1,hb2,divC,f151,h45,h4,h5,bm,bX,bH,bd,bZ,cm,number,FP.free,cD,FP.apart]
theorem RS (n:Bool):sgn n 0=0:=by cases n <;> rfl
theorem Ri {n:Bool}{v:Nat}(h:v≠0):(sgn n v).sign≠0:=by
 intro h'
 have h2:=Int.sign_eq_zero_iff_zero.1 h'
 rw[ss] at h2
 cases n <;> simp at h2 <;> omega
theorem V9 (run:aw)(k:Nat)(x y:Int)(hx:Sm x)(hy:Sm y)(hy0:y.natAbs≠0) :
  ∃ st,af (CC L5) run k divC ⟨entry 45 [br x,br y],[],[]⟩=some (.ret,st)∧bc TT st.fr st.hp f151.results.toList=some [br (mL x y),br (Co x y)]:=by
 obtain⟨q,rd,hc1,hq1,hq2,hq3,hr1,hr2,hr3⟩:=FQ run false x.natAbs y.natAbs hx.le9 hy.le9 hy0
 have hm:=Nat.mod_lt x.natAbs (show 0<y.natAbs by omega)
 have hc2:=fun dr hp=>rW run dr hp (bw x != bw y) q hq1 hq3
 have hc3:=fun dr hp=>rW run dr hp (bw x) rd hr1 hr3
 rw[hq2] at hc2
 rw[hr2] at hc3
 have hRS:Sm (sgn (bw x) (x.natAbs % y.natAbs)):=hy.of_le (by rw[wi];omega)
 have hQS:Sm (sgn (bw x != bw y) (x.natAbs / y.natAbs)):=hx.of_le (by rw[wi];exact Nat.div_le_self _ _)
 have hc4:=fun dr hp=>I1 run dr hp _ hRS
 have hsg:x.natAbs % y.natAbs≠0→(sgn (bw x) (x.natAbs % y.natAbs)).sign≠0:=fun h=>Ri h
 have hsg0:x.natAbs % y.natAbs=0→(sgn (bw x) (x.natAbs % y.natAbs)).sign=0:=fun h=>by rw[h,RS];rfl
 obtain⟨Q,hQ⟩:∃ Q,Q=sgn (bw x != bw y) (x.natAbs / y.natAbs):=⟨_,rfl⟩
 obtain⟨R,hR⟩:∃ R,R=sgn (bw x) (x.natAbs % y.natAbs):=⟨_,rfl⟩
 have hdq:mL x y=bif x7 x y then Q - 1 else Q:=by rw[hQ];rfl
 have hdr:Co x y=bif x7 x y then R+y else R:=by rw[hR];rfl
 rw[hdq,hdr]
 rw[← hQ] at hc2 hQS
 rw[← hR] at hc3 hc4 hRS hsg hsg0
 simp only[whW,Ab.bJ] at hc2 hc3 hc4
 obtain⟨f1,wr1,p1,p2,p3,p4,p5,p6⟩:=ab2 run k (bw x) (bw y) (bw Q) (bw R) (aK x.natAbs) (aK y.natAbs) q rd (aK Q.natAbs) (aK R.natAbs) hc1 hc2 hc3
 by_cases hd:x.natAbs % y.natAbs≠0∧bw x≠bw y
 ·have hA:x7 x y=true:=by
   have h1:(x.natAbs % y.natAbs).beq 0=false:=by
    cases e:x.natAbs % y.natAbs with
    | zero=>exact absurd e hd.1
    | succ n=>rfl
   have h2:(bw x != bw y)=true:=by simpa using hd.2
   simp[x7,h1,h2]
  have hn:bw y = !bw x:=by
   revert hd;cases bw x <;> cases bw y <;> simp
  have hc5:=fun dr hp=>W1 run dr hp
  have hc6:=fun dr hp=>Pq run dr hp Q 1 hQS (show Sm 1 by unfold Sm;decide)
  have hc7:=fun dr hp=>Pr run dr hp R y hRS hy
  rw[hA]
  simp only[cond_true]
  simp only[whW] at hc5 hc6 hc7
  rw[show bw (1:Int)=false from rfl] at hc5 hc6
  rw[hn] at hc7 p1
  obtain⟨f2,wr2,q1,q2,q3,q4⟩:=V7 run k f1 wr1 (bw x) (bw Q) (bw R) (bw (Q - 1)) (bw (R+y)) (aK x.natAbs) (aK y.natAbs) (aK Q.natAbs) (aK R.natAbs) (aK (Q - 1).natAbs) (aK (R+y).natAbs) (aK (1:Int).natAbs) R.sign (hsg hd.1) hc4 hc5 hc6 hc7 p2 p3 p4 p5 p6
  obtain⟨st,e1,e2⟩:=Fx L5 run k f2 wr2 ⟨.live,[.sc (.bool (bw x)),aO (aK x.natAbs)]⟩ ⟨.live,[.sc (.bool (!bw x)),aO (aK y.natAbs)]⟩ (bw (Q - 1)) (bw (R+y)) (aK (Q - 1).natAbs) (aK (R+y).natAbs) q2 q3 q4
  refine⟨st,?_,e2⟩
  rw[br,br,hn,aQ 3 p1,AO,ar q1]
  exact e1
 ·have hA:x7 x y=false:=by
   by_cases h0:x.natAbs % y.natAbs=0
   ·simp[x7,h0]
   ·have h2:bw x=bw y:=by
     refine Classical.byContradiction fun h3=>hd ⟨h0,h3⟩
    simp[x7,h2]
  have hne:R.sign=0∨bw x=bw y:=by
   by_cases h0:x.natAbs % y.natAbs=0
   ·exact .inl (hsg0 h0)
   ·exact .inr (Classical.byContradiction fun h3=>hd ⟨h0,h3⟩)
  rw[hA]
  simp only[cond_false]
  obtain⟨f2,wr2,q1,q2,q3,q4⟩:=V8 run k f1 wr1 (bw x) (bw y) (bw Q) (bw R) (aK x.natAbs) (aK y.natAbs) (aK Q.natAbs) (aK R.natAbs) R.sign hne hc4 p2 p3 p4 p5 p6
  obtain⟨st,e1,e2⟩:=Fx L5 run k f2 wr2 ⟨.live,[.sc (.bool (bw x)),aO (aK x.natAbs)]⟩ ⟨.live,[.sc (.bool (bw y)),aO (aK y.natAbs)]⟩ (bw Q) (bw R) (aK Q.natAbs) (aK R.natAbs) q2 q3 q4
  refine⟨st,?_,e2⟩
  rw[br,br,aQ 3 p1,AO,ar q1]
  exact e1
def Wj:Ψ→Option Ψ
 | [p,q]=>match fM p,fM q with
  | some x,some y=>bif !(y.natAbs.beq 0) then some [br (mL x y),br (Co x y)] else none
  | _,_=>none
 | _=>none
theorem aet (hp:Θ)(x y:Int):bj (snap hp bp) [br x,br y]=some ([br x,br y],[]):=rfl
theorem V6:Ab.Spec base.P 151 Wj:=Ab.Spec.bN (C:=CC L5) (cP ajc) fun args rs h=>by
 unfold Wj at h
 split at h
 ·split at h
  ·rename_i x y ex ey
   obtain⟨rfl,hx⟩:=eh ex
   obtain⟨rfl,hy⟩:=eh ey
   by_cases hy0:y.natAbs=0
   ·rw[hy0] at h;simp at h
   ·rw[kF hy0] at h
    simp only[Bool.not_false,cond_true,OiE] at h
    subst h
    obtain⟨st,e1,e2⟩:=V9 (runK (CC L5) 1) 1 x y hx hy hy0
    exact⟨2,_,_,_,_,_,aV Gm rfl e1 e2,aet _ _ _,Wk.refl rfl,Wk.refl rfl,trivial⟩
  ·cases h
 ·cases h
theorem uS:und TT 9=some .string:=by kernel_rfl
theorem uAI:und TT 94=some .string:=by kernel_rfl
theorem u8:und TT 5=some (.int .u8):=by kernel_rfl
theorem uBs:und TT 43=some (.slice 5):=by kernel_rfl
theorem s8:de TT 5=some 1:=by kernel_rfl
theorem a8:fq TT 5=some false:=by kernel_rfl
theorem Gk:base.F.get 142=some f142:=by kernel_rfl
theorem CP:base.F.get 184=some f184:=by kernel_rfl
theorem Gn:base.F.get 170=some f170:=by kernel_rfl
theorem tw:base.F.get 154=some f154:=by kernel_rfl
theorem MK:base.shared 142=false:=by kernel_rfl
theorem G0:base.shared 184=false:=by kernel_rfl
theorem MM:base.shared 170=false:=by kernel_rfl
theorem YT:base.shared 154=false:=by kernel_rfl
def iR (p s:List UInt8):Bool:=p.length.ble s.length && eqL (s.take p.length) p
theorem Fg (L:Lst)(run:aw)(k:Nat)(s p:ByteArray) :
  ∃ st,af (CC L) run k (f142.body.getD .skip) ⟨entry 18 [.sc (.string s),.sc (.string p)],[],[]⟩=some (.ret,st)∧bc TT st.fr st.hp f142.results.toList=some [.sc (.bool (iR (bO p) (bO s)))]:=by
 obtain⟨e1,e2,e3⟩:=cC 16 (.sc (.string s)) (.sc (.string p))
 generalize entry 18 [.sc (.string s),.sc (.string p)]=fr0 at *
 by_cases h:(bO p).length≤(bO s).length
 ·have hs:ef s none (some (.sc (.int .i64 ((bO p).length:Int)))) none=some (.sc (.string (mkStr ((bO s).take (bO p).length)))):=by
   simp[ef,bnd,eD,bh,h]
  have hb:(bO p).length.ble (bO s).length=true:=by rw[Nat.ble_eq];exact h
  have hb2:(bO p).length≤(bO s).length:=h
  simp[f142,e1,e2,e3,bL,uS,h,dh,hs,fc,fm,iR,hb]
 ·have hb:(bO p).length.ble (bO s).length=false:=by
   cases e:(bO p).length.ble (bO s).length with
   | false=>rfl
   | true=>rw[Nat.ble_eq] at e;exact absurd e h
  simp[f142,e1,e2,e3,bL,uS,h,iR,hb]
def vp:Ψ→Option Ψ
 | [.sc (.string s),.sc (.string p)]=>some [.sc (.bool (iR (bO p) (bO s)))]
 | _=>none
theorem xp (hp:Θ)(b:Bool):bj (snap hp bp) [.sc (.bool b)]=some ([.sc (.bool b)],[]):=rfl
theorem Ff:Ab.Spec base.P 142 vp:=Ab.Spec.bN (C:=CC []) (cP trivial) fun args rs h=>by
 unfold vp at h
 split at h
 ·rename_i s p
  simp only[OiE] at h
  subst h
  obtain⟨st,e1,e2⟩:=Fg [] (runK (CC []) 1) 1 s p
  exact⟨2,_,_,_,_,_,aV Gk rfl e1 e2,xp _ _,Wk.refl rfl,trivial⟩
 ·cases h
def L6:Lst:=[(142,vp)]
theorem o6:bt L6 142=fun a=>vp (aJ a):=rfl
theorem call6 (run:aw)(dr:Bool)(hp:Θ)(s p:ByteArray):bU (CC L6) run dr hp 142 [.sc (.string s),.sc (.string p)]=some (.sc (.bool (iR (bO p) (bO s))),hp,⟨[],[],false,false⟩) :=
 bu MK o6 run dr hp _ [.sc (.bool (iR (bO p) (bO s)))] rfl rfl rfl
def gQ (s p:ByteArray):Ψ:=bif iR (bO p) (bO s) then [.sc (.string (mkStr ((bO s).drop (bO p).length))),.sc (.bool true)] else [.sc (.string s),.sc (.bool false)]
theorem OL (run:aw)(k:Nat)(s p:ByteArray) :
  ∃ st,af (CC L6) run k (f184.body.getD .skip) ⟨entry 15 [.sc (.string s),.sc (.string p)],[],[]⟩=some (.ret,st)∧bc TT st.fr st.hp f184.results.toList=some (gQ s p):=by
 obtain⟨e1,e2,e3⟩:=cC 13 (.sc (.string s)) (.sc (.string p))
 generalize entry 15 [.sc (.string s),.sc (.string p)]=fr0 at *
 have hc:=fun dr hp=>call6 run dr hp s p
 unfold gQ
 cases h:iR (bO p) (bO s) with
 | false =>
  rw[h] at hc
  simp[f184,e1,e2,e3,unP,hc]
 | true =>
  rw[h] at hc
  have hl:(bO p).length≤(bO s).length:=by
   simp only[iR,Bool.and_eq_true,Nat.ble_eq] at h
   exact h.1
  have hs:ef s (some (.sc (.int .i64 ((bO p).length:Int)))) none none=some (.sc (.string (mkStr ((bO s).drop (bO p).length)))):=by
   simp[ef,bnd,eD,bh,hl]
  simp[f184,e1,e2,e3,bL,unP,hc,uS,dh,hs]
def kU:Ψ→Option Ψ
 | [.sc (.string s),.sc (.string p)]=>some (gQ s p)
 | _=>none
theorem KI (hp:Θ)(s p:ByteArray):bj (snap hp bp) (gQ s p)=some (gQ s p,[]):=by
 unfold gQ;cases iR (bO p) (bO s) <;> rfl
theorem QC (s p:ByteArray):WkL (gQ s p) (gQ s p):=WkL.refl (by unfold gQ;cases iR (bO p) (bO s) <;> rfl)
theorem OK:Ab.Spec base.P 184 kU:=Ab.Spec.bN (C:=CC L6) (cP ⟨Ff,trivial⟩) fun args rs h=>by
 unfold kU at h
 split at h
 ·rename_i s p
  simp only[OiE] at h
  subst h
  obtain⟨st,e1,e2⟩:=OL (runK (CC L6) 1) 1 s p
  exact⟨2,_,_,_,_,_,aV CP rfl e1 e2,KI _ _ _,QC _ _⟩
 ·cases h
def L7:Lst:=[(184,kU)]
theorem o7:bt L7 184=fun a=>kU (aJ a):=rfl
theorem call7 (run:aw)(dr:Bool)(hp:Θ)(s p:ByteArray):bU (CC L7) run dr hp 184 [.sc (.string s),.sc (.string p)]=some (ja (gQ s p),hp,⟨[],[],false,false⟩) :=
 bu G0 o7 run dr hp _ (gQ s p) rfl rfl rfl
theorem Wy (run:aw)(k:Nat)(s p:ByteArray) :
  ∃ st,af (CC L7) run k (f170.body.getD .skip) ⟨entry 11 [.sc (.string s),.sc (.string p)],[],[]⟩=some (.ret,st)∧bc TT st.fr st.hp f170.results.toList=some (gQ s p):=by
 obtain⟨e1,e2,e3⟩:=cC 9 (.sc (.string s)) (.sc (.string p))
 generalize entry 11 [.sc (.string s),.sc (.string p)]=fr0 at *
 have hc:=fun dr hp=>call7 run dr hp s p
 unfold gQ at hc ⊢
 cases h:iR (bO p) (bO s) <;> rw[h] at hc <;> simp only[cond_true,cond_false,ja] at hc ⊢ <;> simp[f170,e1,e2,e3,hc]
theorem Wx:Ab.Spec base.P 170 kU:=Ab.Spec.bN (C:=CC L7) (cP ⟨OK,trivial⟩) fun args rs h=>by
 unfold kU at h
 split at h
 ·rename_i s p
  simp only[OiE] at h
  subst h
  obtain⟨st,e1,e2⟩:=Wy (runK (CC L7) 1) 1 s p
  exact⟨2,_,_,_,_,_,aV Gn rfl e1 e2,KI _ _ _,QC _ _⟩
 ·cases h
end Go.Proofs.YtjdmodeenbdfpaaGreat
end
