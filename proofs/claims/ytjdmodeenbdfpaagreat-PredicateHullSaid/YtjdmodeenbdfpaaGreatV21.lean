/- Contracts of fractions, clouds and predicates, part 21; each lemma states its conditions. -/
import Derived.Test.YtjdmodeenbdfpaaGreatV20
set_option linter.unusedSimpArgs false
set_option linter.unusedVariables false
noncomputable section
namespace Go.Proofs.YtjdmodeenbdfpaaGreat
open Go Go.Ab List Tryz
attribute [local simp] FzZ aA aC aF aG aH aQ aU aX aZ aa ab ae af ag ah aj an ao aq au av bL bc bf iv partOf seq1
variable(L:Lst)(run:aw)(k:Nat)(fr:Ψ)(hp:Θ)(wr:Ω)
theorem aeP:∀ (k x:Nat),x<10 ^ k→x<10 ^ nd k x
 | 0,x,h=>by simpa [nd] using h
 | k+1,x,h=>by
  by_cases h0:x=0
  ·subst h0;simp[nd]
  ·have:=aeP k (x / 10) (by rw[Nat.pow_succ] at h;omega)
   rw[nd,qw h0,cond_false,Nat.pow_succ]
   omega
theorem aeO:∀ (k x:Nat),x≠0→x<10 ^ k→∃ e,nd k x=e+1∧10 ^ e≤x
 | 0,x,h0,h=>by simp at h;exact absurd h h0
 | k+1,x,h0,h=>by
  rw[nd,qw h0,cond_false]
  by_cases h1:x / 10=0
  ·refine⟨0,?_,by omega⟩
   rw[h1]
   cases k <;> simp[nd]
  ·obtain⟨e,he,hl⟩:=aeO k (x / 10) h1 (by rw[Nat.pow_succ] at h;omega)
   refine⟨e+1,by rw[he],?_⟩
   rw[Nat.pow_succ]
   omega
theorem XG (m:Nat){j:Nat}(hj:0<j):qk (aJ m)≤j ↔ m<10 ^ j:=by
 have hok:=bU m
 have ht:=jI m
 have hv:=bX m
 unfold qk
 cases hl:(aJ m).getLast? with
 | none =>
  have:aJ m=[]:=by simpa using hl
  have:=yr this
  subst this
  simp
  exact Nat.pow_pos (by omega)
 | some a =>
  obtain⟨l,e⟩:∃ l,aJ m=l++[a]:=⟨(aJ m).dropLast,by rw[getLast?_eq_some_iff] at hl;obtain⟨ys,h⟩:=hl;rw[h];simp⟩
  rw[e] at hok hv ⊢
  have ha0:=ht l a e
  have ha9:a<10 ^ 9:=Nat.lt_of_lt_of_le (hok a (by simp)) (by decide)
  have h1:=aeP 9 a ha9
  obtain⟨q,h2,h3⟩:=aeO 9 a ha0 ha9
  rw[dF] at hv
  have hvl:=eW hok.left
  have e9:(1000000000:Nat) ^ l.length=10 ^ (9*l.length):=by
   have:(1000000000:Nat)=10 ^ 9:=by decide
   rw[this,← Nat.pow_mul]
  rw[e9] at hv hvl
  have hp:0<10 ^ (9*l.length):=Nat.pow_pos (by omega)
  simp only[length_append,length_cons,length_nil,Nat.zero_add,Nat.add_sub_cancel]
  have hup:m<10 ^ (9*l.length+nd 9 a):=by
   rw[Nat.pow_add,← hv]
   calc val l+10 ^ (9*l.length)*a<10 ^ (9*l.length)+10 ^ (9*l.length)*a:=by omega
    _=10 ^ (9*l.length)*(a+1):=by rw[Nat.mul_succ];omega
    _≤_:=Nat.mul_le_mul_left _ h1
  have hlo:10 ^ (9*l.length+q)≤m:=by
   rw[Nat.pow_add,← hv]
   exact Nat.le_trans (Nat.mul_le_mul_left _ h3) (by omega)
  constructor
  ·intro h
   exact Nat.lt_of_lt_of_le hup (Nat.pow_le_pow_right (by omega) h)
  ·intro h
   have h4:=Nat.lt_of_le_of_lt hlo h
   have:=(Nat.pow_lt_pow_iff_right (by omega:1<10)).1 h4
   omega
theorem XI (z:Int):decide (1000<qk (aJ z.natAbs)) = !pB (Nb 1000 z):=by
 have h:=XG z.natAbs (j:=1000) (by omega)
 by_cases hn:Nb 1000 z
 ·have:=h.2 hn
  rw[iy hn,decide_eq_false (by omega)];rfl
 ·have : ¬ qk (aJ z.natAbs)≤1000:=fun e=>hn (h.1 e)
  rw[iV hn,decide_eq_true (by omega)];rfl
theorem YW {k:Nat} : Nb (k+1) 1:=Nat.one_lt_pow (by omega) (by omega)
theorem vT {k:Nat} : Nb k 0:=Nat.pow_pos (by omega)
theorem NR {u:Option Rat}{j:Nat}(hu:Rb j (vv u))(h:j≤1000000):mz [rv u]=some [.sc (.bool (!pB (Rb 1000 (vv u))))]:=by
 obtain⟨b,b1,b2,b3,b4⟩:=nA hu (by omega)
 simp only[mz,b3,XI]
 have hb:Nb 1000 b ↔ Nb 1000 (vv u).den:=by
  rw[← b2]
  unfold dB
  split
  ·rename_i e
   subst e
   exact⟨fun _=>YW,fun _=>vT⟩
  ·exact Iff.rfl
 by_cases h1:Nb 1000 (vv u).num
 ·by_cases h2:Nb 1000 b
  ·rw[iy h1,iy h2,iy ⟨h1,hb.1 h2⟩];rfl
  ·rw[iy h1,iV h2,iV fun e=>h2 (hb.2 e.2)];rfl
 ·have h3 : ¬ Rb 1000 (vv u):=fun e=>h1 e.1
  rw[iV h1,iV h3];simp
theorem sV {s:ByteArray}{z:Int}(h:bys s=ztx z):eZ s=z∧iM s=true:=by
 unfold eZ iM
 rw[HD h]
 exact⟨rfl,rfl⟩
theorem mB {s:ByteArray}(h:iM s=true):bys s=ztx (eZ s):=by
 unfold iM at h
 cases e:gN s with
 | none=>rw[e] at h;cases h
 | some z=>rw[tX e];unfold eZ;rw[e]
theorem JY {l:Ω}{z:Int}{k:Nat}(h:l=ztx z)(h9:l.length≤k):Nb k z:=by
 rw[h,gr] at h9
 have:=vV z
 unfold Ab.dT at h9 this
 exact (tv (by omega)).1 (by omega)
theorem Gr (s:ByteArray){k:Nat}(h9:(bys s).length≤k):Nb k (eZ s):=by
 unfold eZ
 cases e:gN s with
 | none=>exact vT
 | some z=>exact JY (tX e) h9
theorem Nb.gcd {k:Nat}{d:Int}(h:Nb k d)(n:Int)(h0:d≠0):Nb k (Int.ofNat (Nat.gcd n.natAbs d.natAbs)):=by
 unfold Nb at *
 refine Nat.lt_of_le_of_lt ?_ h
 exact Nat.le_of_dvd (by omega) (Nat.gcd_dvd_right _ _)
theorem Nb.alk {k:Nat}{n:Int}(h:Nb k n)(d:Int)(h0:n≠0):Nb k (Int.ofNat (Nat.gcd n.natAbs d.natAbs)):=by
 unfold Nb at *
 refine Nat.lt_of_le_of_lt ?_ h
 exact Nat.le_of_dvd (by omega) (Nat.gcd_dvd_left _ _)
theorem Nb.alj {k:Nat}{n d:Int}(h:Nb k n)(h':Nb k d):Nb k (Int.ofNat (Nat.gcd n.natAbs d.natAbs)):=by
 by_cases h0:n=0
 ·by_cases h1:d=0
  ·subst h0;subst h1;exact h
  ·exact h'.gcd n h1
 ·exact h.alk d h0
theorem ai7 (s:ByteArray)(h9:(bys s).length≤1000000):∃ n d,rrF [.sc (.string s)]=some [cf n d,.sc (.bool (pB (IsQ s)))]∧(∀ x,s=qb x→cf n d=rv (some x))∧Nb 1000000 n∧Nb 1000000 d:=by
 obtain⟨c1,c2,c3,c4⟩:=adY s (by omega)
 have hl:=vr (bys s)
 have hb:(bys s).length.blt 3000000=true:=by rw[Nat.blt_eq];omega
 have hnA:Nb 1000000 (eZ (jM s)):=Gr _ (by rw[c2];omega)
 simp only[rrF,hb,c1,Bool.and_self,cond_true]
 cases hk:iM (jM s) && vg s with
 | false =>
  rw[cond_false]
  refine⟨eZ (jM s),1,?_,?_,hnA,(YW (k:=0)).mono (by omega)⟩
  ·have e:iM (jM s)=pB (IsQ s):=by
    cases hA:iM (jM s) with
    | false =>
     rw[iV]
     rintro⟨x,hx⟩
     have h1:=lu x
     rw[← hx] at h1
     have h2:=(sV (s:=jM s) (z:=x.num) (by rw[c2,h1])).2
     rw[hA] at h2;cases h2
    | true =>
     rw[hA,Bool.true_and] at hk
     rw[iy]
     exact⟨_,LZ (by rw[← c3,hk]) (by rw[← c2];exact mB hA)⟩
   rw[e]
  ·intro x hx
   have h1:=lu x
   rw[← hx] at h1
   have h2:=sV (s:=jM s) (z:=x.num) (by rw[c2,h1])
   rw[h2.2,Bool.true_and,c3,h1] at hk
   have h3:(x.den:Int)=1:=by simpa using hk
   rw[h2.1,oW,h3]
 | true =>
  rw[cond_true]
  simp only[Bool.and_eq_true] at hk
  have hB:=c4 hk.2
  have hzA:=mB hk.1
  rw[c2] at hzA
  have hs2:(spl (bys s)).2.2=true:=by rw[← c3];exact hk.2
  have hnB:Nb 1000000 (eZ (jL s)):=by
   refine Gr _ ?_
   rw[hB]
   unfold spl at hs2 ⊢
   cases e:fN (bys s) with
   | none=>rw[e] at hs2;cases hs2
   | some j=>simp only[length_drop];omega
  generalize eZ (jM s)=n at *
  unfold afE
  rw[hnA.smB (by omega),hnB.smB (by omega),(hnA.alj hnB).smB (by omega)]
  simp only[Bool.and_self,cond_true]
  cases hbad:wL (iM (jL s)) n.sign (fI (eZ (jL s)) 1) (fI (Int.ofNat (Nat.gcd n.natAbs (eZ (jL s)).natAbs)) 1) with
  | true =>
   rw[cond_true]
   have hno : ¬ IsQ s:=by
    intro hq
    cases hkB:iM (jL s) with
    | false =>
     obtain⟨x,hx⟩:=hq
     have h1:=lu x
     rw[← hx] at h1
     have:=(sV (s:=jL s) (z:=x.den) (by rw[hB,h1])).2
     rw[hkB] at this;cases this
    | true =>
     have hzB:=mB hkB
     rw[hB] at hzB
     obtain⟨q1,q2,q3⟩:=Fo hs2 hzA hzB hq
     rw[hkB,q3] at hbad
     have e1:(n.sign == 0)=false:=by rw[beq_eq_false_iff_ne];exact fun e=>q1 (Int.sign_eq_zero_iff_zero.1 e)
     have e2:decide (fI (eZ (jL s)) 1≤0)=false:=by
      rw[decide_eq_false_iff_not]
      unfold fI
      rw[if_neg (by omega),if_neg (by omega)];decide
     unfold wL at hbad
     rw[e1,e2] at hbad
     revert hbad
     decide
   refine⟨0,0,by rw[iV hno],fun x hx=>absurd ⟨x,hx⟩ hno,vT,vT⟩
  | false =>
   rw[cond_false]
   unfold wL at hbad
   simp only[Bool.or_eq_false_iff,Bool.not_eq_false',beq_eq_false_iff_ne,decide_eq_false_iff_not,bne_eq_false_iff_eq] at hbad
   obtain⟨hkB,-,h2,h3⟩:=hbad
   have hzB:=mB hkB
   rw[hB] at hzB
   have hd:2≤eZ (jL s):=by
    unfold fI at h2
    by_cases h4:eZ (jL s)<1
    ·rw[if_pos h4] at h2;exact absurd (by decide) h2
    ·rw[if_neg h4] at h2
     by_cases h5:eZ (jL s)=1
     ·rw[if_pos h5] at h2;exact absurd (by decide) h2
     ·omega
   have hg:Nat.gcd n.natAbs (eZ (jL s)).natAbs=1:=by
    unfold fI at h3
    generalize Nat.gcd n.natAbs (eZ (jL s)).natAbs=g at *
    by_cases h4:Int.ofNat g<1
    ·rw[if_pos h4] at h3;exact absurd h3 (by decide)
    ·rw[if_neg h4] at h3
     by_cases h5:Int.ofNat g=1
     ·exact Int.ofNat.inj h5
     ·rw[if_neg h5] at h3;exact absurd h3 (by decide)
   obtain⟨x,hx,e1,e2⟩:=Fm hs2 hzA hzB hd hg
   refine⟨n,eZ (jL s),by rw[iy ⟨x,hx⟩],fun y hy => ?_,hnA,hnB⟩
   have:x=y:=tf (by rw[← hx,← hy])
   subst this
   rw[oW,e1,e2]
theorem yR:base.F.get 44=some f44:=by kernel_rfl
theorem Rv:base.F.get 110=some f110:=by kernel_rfl
theorem aax:base.shared 110=false:=by kernel_rfl
theorem yQ:base.F.get 133=some f133:=by kernel_rfl
theorem SC:base.shared 133=false:=by kernel_rfl
theorem GC:base.F.get 77=some f77:=by kernel_rfl
theorem Nz:base.shared 77=false:=by kernel_rfl
theorem Hk:base.shared 108=false:=by kernel_rfl
theorem SD:base.shared 43=false:=by kernel_rfl
def LQ2:Lst:=[(95,zi),(97,ofF),(96,sa),(98,RW),(105,EY),(104,pK),(108,rrF),(43,mz)]
theorem CK:dE base.P LQ2:=⟨rV,mM,oC,M6,rD,pe,vC,mw,trivial⟩
theorem NL(a b e1 o:Int)(s:ByteArray)(g1:az L run 95 [cf a b] (br e1))(g2:az L run 97 [.sc (.int .i64 1)] (br o))(g3:az L run 96 [br e1,br o] (Ab.bN 0))(g4:az L run 98 [br a] (.sc (.string s))) :
  ∃ st,ae (CC L) run k (f44.body.getD .skip) ⟨entry 20 [cf a b],[],[]⟩=some (.ret,st)∧aX TT st.fr st.hp f44.results.toList=some [.sc (.string s)]:=by
 obtain⟨h1,h2⟩:=cO 19 (cf a b)
 generalize entry 20 [cf a b]=fr0 at *
 unfold az at *
 simp only[whW,fH,Ab.bN] at *
 simp[f44,h1,h2,aM,bM,bm,bZ,bG,bg,g1,g2,g3,g4,uR,sR,sW,aR,aW,zW,rf0,rf1,aO,aL,cg,ca,bF,bp,number,FP.free,cw,FP.apart,undef]
theorem Hs(a b e1 c o:Int)(s t r1 r2:ByteArray)(hc:c≠0)(h1:fw .add s { data:=#[47] } = some (.string r1))(h2:fw .add r1 t=some (.string r2))(g1:az L run 95 [cf a b] (br e1))(g2:az L run 97 [.sc (.int .i64 1)] (br o))(g3:az L run 96 [br e1,br o] (Ab.bN c))(g4:az L run 98 [br a] (.sc (.string s)))(g5:az L run 98 [br e1] (.sc (.string t))) :
  ∃ st,ae (CC L) run k (f44.body.getD .skip) ⟨entry 20 [cf a b],[],[]⟩=some (.ret,st)∧aX TT st.fr st.hp f44.results.toList=some [.sc (.string r2)]:=by
 obtain⟨e1,e2⟩:=cO 19 (cf a b)
 generalize entry 20 [cf a b]=fr0 at *
 unfold az at *
 simp only[whW,fH,Ab.bN] at *
 have hc2:(c != 0)=true:=by simp[hc]
 simp[f44,e1,e2,aM,bM,bm,bZ,bG,bg,g1,g2,g3,g4,g5,h1,h2,hc2,uR,sR,sW,aR,aW,zW,rf0,rf1,aO,aL,cg,ca,bF,bp,number,FP.free,cw,FP.apart,undef]
theorem akN {L:Lst}(hL:bx L 95=fun a=>zi (aK a))(run:aw){u:Option Rat}{j:Nat}(hu:Rb j (vv u))(h:j≤2000000):az L run 95 [rv u] (br (vv u).den):=by
 obtain⟨b,b1,b2,b3,b4⟩:=nA hu h
 intro dr hp
 rw[b1]
 exact bt SI hL run dr hp _ [br (vv u).den] (uJ hp _ _) (yB _ _) (by
  rw[b1] at b3
  simp only[zi,b3,b2])
theorem akM {L:Lst}(hL:bx L 97=fun a=>ofF (aK a))(run:aw):az L run 97 [.sc (.int .i64 1)] (br 1):=fun dr hp =>
 bt zU hL run dr hp _ [br 1] rfl rfl rfl
theorem air {L:Lst}(hL:bx L 96=fun a=>sa (aK a))(run:aw)(x y:Int)(hx:Sm x)(hy:Sm y):az L run 96 [br x,br y] (Ab.bN (fI x y)):=fun dr hp =>
 bt Hn hL run dr hp _ [Ab.bN (fI x y)] (gI hp x y) (ft x y) (by simp only[sa,cK hx,cK hy])
theorem aiy {L:Lst}(hL:bx L 104=fun a=>pK (aK a))(run:aw)(x y:Int)(hx:Sm x)(hy:Sm y)(h0:y≠0):az L run 104 [br x,br y] (rv (some (Rat.divInt x y))):=fun dr hp =>
 bt Li hL run dr hp _ [rv (some (Rat.divInt x y))] (gI hp x y) (ft x y) (by
  have h:(!(y.natAbs.beq 0))=true:=by rw[qw (by omega)];rfl
  simp only[pK,cK hx,cK hy,h,cond_true,oW,(uH x y h0).1,(uH x y h0).2])
theorem afz {u v:Option Rat}{j:Nat}(hu:Rb j (vv u))(hv:Rb j (vv v))(h9:j≤2000000)(h:rv u=rv v):u=v:=by
 cases u with
 | none =>
  cases v with
  | none=>rfl
  | some y =>
   have h1:gL (cf 0 0)=some (0,0):=gZ (by unfold Sm;decide) (by unfold Sm;decide)
   have h2:gL (cf y.num y.den)=some (y.num,(y.den:Int)):=gZ (hv.1.sm h9) (hv.2.sm h9)
   have h3:cf 0 0=cf y.num y.den:=h
   rw[h3,h2] at h1
   simp only[OiE,PiE] at h1
   exact absurd h1.2 (Jz y)
 | some x =>
  have h2:gL (cf x.num x.den)=some (x.num,(x.den:Int)):=gZ (hu.1.sm h9) (hu.2.sm h9)
  cases v with
  | none =>
   have h1:gL (cf 0 0)=some (0,0):=gZ (by unfold Sm;decide) (by unfold Sm;decide)
   have h3:cf x.num x.den=cf 0 0:=h
   rw[← h3,h2] at h1
   simp only[OiE,PiE] at h1
   exact absurd h1.2 (Jz x)
  | some y =>
   have h1:gL (cf y.num y.den)=some (y.num,(y.den:Int)):=gZ (hv.1.sm h9) (hv.2.sm h9)
   have h3:cf x.num x.den=cf y.num y.den:=h
   rw[← h3,h2] at h1
   simp only[OiE,PiE] at h1
   congr 1
   exact Rat.ext h1.1 (by omega)
def rtF:Ψ→Option Ψ:=ctr (fun u:Option Rat=>[rv u]) (fun u=>Rb 1000000 (vv u)) fun u=>[qt (vv u)]
theorem aaG:Ab.Spec base.P 44 rtF:=Ab.Spec.bS (C:=CC LQ2) (cR CK) fun args rs h=>by
 obtain⟨u,hu,rfl,rfl⟩:=db h
 obtain⟨b,b1,b2,b3,b4⟩:=nA hu (by omega)
 have gd:=akN (L:=LQ2) rfl (runK (CC LQ2) 1) hu (by omega)
 have go:=akM (L:=LQ2) rfl (runK (CC LQ2) 1)
 have gn:=Y5 (L:=LQ2) rfl (runK (CC LQ2) 1) (vv u).num hu.1 (by omega)
 have gt:=Y5 (L:=LQ2) rfl (runK (CC LQ2) 1) (vv u).den hu.2 (by omega)
 have gc:=air (L:=LQ2) rfl (runK (CC LQ2) 1) (vv u).den 1 (hu.2.sm (by omega)) CJ
 have hp:=(vv u).den_pos
 show ∃ k rs1 hp1 wr rs2 ids,runK (CC LQ2) k 44 [rv u] []=_∧_∧WkL rs2 [qt (vv u)]
 rw[b1] at gd ⊢
 generalize vv u=x at *
 by_cases h1:(x.den:Int)=1
 ·rw[h1] at gd gc
  obtain⟨st,x1,x2⟩:=NL LQ2 (runK (CC LQ2) 1) 1 x.num b 1 1 _ gd go gc gn
  refine⟨2,_,_,_,_,_,ba yR rfl x1 x2,rfl,?_,trivial⟩
  have:qt x = .sc (.string (tx (ztx x.num))):=by unfold qt qb qtx;rw[if_pos h1]
  rw[this]
  exact Wk.refl rfl
 ·have hc:fI x.den 1≠0:=by
   unfold fI
   rw[if_neg (by omega),if_neg h1];decide
  have l1:=hu.1.dT
  have l2:=hu.2.dT
  have hl:∀ z:Int,(ztx z).length≤Ab.dT z+1:=fun z=>by rw[gr];cases bz z <;> simp <;> omega
  have m1:=hl x.num
  have m2:=hl x.den
  obtain⟨st,x1,x2⟩:=Hs LQ2 (runK (CC LQ2) 1) 1 x.num b x.den _ 1 _ _ _ _ hc (QT (ztx x.num) [47] (by simp;omega)) (QT (ztx x.num++[47]) (ztx x.den) (by simp;omega)) gd go gc gn gt
  refine⟨2,_,_,_,_,_,ba yR rfl x1 x2,rfl,?_,trivial⟩
  have:qt x = .sc (.string (tx (ztx x.num++[47]++ztx x.den))):=by unfold qt qb qtx;rw[if_neg h1];simp
  rw[this]
  exact Wk.refl rfl
theorem PJ(a b x y n m:Int)(g1:az L run 97 [.sc (.int .i64 a)] (br x))(g2:az L run 97 [.sc (.int .i64 b)] (br y))(g3:az L run 104 [br x,br y] (cf n m)) :
  ∃ st,ae (CC L) run k (f110.body.getD .skip) ⟨entry 10 [.sc (.int .i64 a),.sc (.int .i64 b)],[],[]⟩=some (.ret,st)∧aX TT st.fr st.hp f110.results.toList=some [cf n m]:=by
 obtain⟨h1,h2,h3⟩:=cl 8 (.sc (.int .i64 a)) (.sc (.int .i64 b))
 generalize entry 10 [.sc (.int .i64 a),.sc (.int .i64 b)]=fr0 at *
 unfold az at *
 simp only[whW,fH] at *
 simp[f110,h1,h2,h3,aM,bm,bZ,bG,bg,g1,g2,g3,sR,aR,zR,aO,aL,cg,ca,bF,bp,number,FP.free]
def FB:Ψ→Option Ψ
 | [.sc (.int .i64 1),.sc (.int .i64 1)]=>some [rv (some 1)]
 | [.sc (.int .i64 1),.sc (.int .i64 2)]=>some [rv (some (1 / 2))]
 | [.sc (.int .i64 2),.sc (.int .i64 1)]=>some [rv (some 2)]
 | _=>none
theorem ye (a b:Nat)(h0:b≠0)(ha:(a:Int)=1∨(a:Int)=2)(hb:(b:Int)=1∨(b:Int)=2):∃ k rs1 hp1 wr rs2 ids,runK (CC LQ2) k 110 [.sc (.int .i64 (a:Int)),.sc (.int .i64 (b:Int))] []=some (rs1,hp1,wr)∧bw (snap hp1 bq) rs1=some (rs2,ids)∧WkL rs2 [rv (some (Rat.divInt a b))]:=by
 have go:∀ z:Int,z=1∨z=2→az LQ2 (runK (CC LQ2) 1) 97 [.sc (.int .i64 z)] (br z):=fun z hz dr hp =>
  bt (L:=LQ2) (f:=ofF) zU rfl _ dr hp _ [br z] rfl rfl (by rcases hz with rfl | rfl <;> rfl)
 have gv:=aiy (L:=LQ2) rfl (runK (CC LQ2) 1) a b (by rcases ha with h | h <;> rw[h] <;> unfold Sm <;> decide) (by rcases hb with h | h <;> rw[h] <;> unfold Sm <;> decide) (by omega)
 obtain⟨st,x1,x2⟩:=PJ LQ2 (runK (CC LQ2) 1) 1 a b a b _ _ (go _ ha) (go _ hb) gv
 exact⟨2,_,_,_,_,_,ba Rv rfl x1 x2,rfl,Wk.refl rfl,trivial⟩
theorem PI:Ab.Spec base.P 110 FB:=Ab.Spec.bS (C:=CC LQ2) (cR CK) fun args rs h=>by
 unfold FB at h
 split at h
 ·simp only[OiE] at h
  subst h
  exact ye 1 1 (by omega) (.inl rfl) (.inl rfl)
 ·simp only[OiE] at h
  subst h
  have e:(1 / 2:Rat)=Rat.divInt (1:Nat) (2:Nat):=by rw[yo];rfl
  rw[e]
  exact ye 1 2 (by omega) (.inl rfl) (.inr rfl)
 ·simp only[OiE] at h
  subst h
  exact ye 2 1 (by omega) (.inr rfl) (.inl rfl)
 ·cases h
theorem aiA {L:Lst}(hL:bx L 110=fun a=>FB (aK a))(run:aw):az L run 110 [.sc (.int .i64 1),.sc (.int .i64 1)] (rv (some 1)):=fun dr hp =>
 bt aax hL run dr hp _ [rv (some 1)] rfl rfl rfl
def IsV (s:ByteArray):Prop:=∃ x:Rat,s=qb x∧Rb 1000 x
def rrP (s:ByteArray):Int × Int:=@Classical.epsilon (Int × Int) ⟨(0,0)⟩ fun p=>rrF [.sc (.string s)]=some [cf p.1 p.2,.sc (.bool (pB (IsQ s)))]
theorem Hu (s:ByteArray)(h9:(bys s).length≤1000000):rrF [.sc (.string s)]=some [cf (rrP s).1 (rrP s).2,.sc (.bool (pB (IsQ s)))]∧∀ x,s=qb x→cf (rrP s).1 (rrP s).2=rv (some x):=by
 obtain⟨n,d,h1,h2,-⟩:=ai7 s h9
 have h3:rrF [.sc (.string s)]=some [cf (rrP s).1 (rrP s).2,.sc (.bool (pB (IsQ s)))]:=Classical.epsilon_spec (p:=fun p:Int × Int=>rrF [.sc (.string s)]=some [cf p.1 p.2,.sc (.bool (pB (IsQ s)))]) ⟨(n,d),h1⟩
 refine⟨h3,fun x hx => ?_⟩
 rw[h1] at h3
 simp only[OiE,List.cons.injEq,and_true] at h3
 rw[← h3]
 exact h2 x hx
theorem akH {L:Lst}(hL:bx L 108=fun a=>rrF (aK a))(run:aw)(s:ByteArray)(h9:(bys s).length≤1000000):az L run 108 [.sc (.string s)] (.tup [cf (rrP s).1 (rrP s).2,.sc (.bool (pB (IsQ s)))]):=fun dr hp =>
 bt Hk hL run dr hp _ [cf (rrP s).1 (rrP s).2,.sc (.bool (pB (IsQ s)))] rfl rfl (Hu s h9).1
theorem Ir {x:Rat}{k:Nat}(h:Rb k x):(bys (qb x)).length≤2*k+5:=by
 rw[YK]
 unfold qtx
 have l1:=h.1.dT
 have l2:=h.2.dT
 have hl:∀ z:Int,(ztx z).length≤Ab.dT z+1:=fun z=>by rw[gr];cases bz z <;> simp <;> omega
 have m1:=hl x.num
 have m2:=hl x.den
 split
 ·omega
 ·simp;omega
theorem akG {L:Lst}(hL:bx L 108=fun a=>rrF (aK a))(run:aw){x:Rat}{k:Nat}(hx:Rb k x)(hk:k≤400000):az L run 108 [qt x] (.tup [rv (some x),.sc (.bool true)]):=by
 have h9:(bys (qb x)).length≤1000000:=Nat.le_trans (Ir hx) (by omega)
 have h:=akH hL run (qb x) h9
 rw[(Hu (qb x) h9).2 x rfl,iy ⟨x,rfl⟩] at h
 exact h
theorem aes {L:Lst}(hL:bx L 43=fun a=>mz (aK a))(run:aw){u:Option Rat}{j:Nat}(hu:Rb j (vv u))(h:j≤1000000):az L run 43 [rv u] (.sc (.bool (!pB (Rb 1000 (vv u))))):=fun dr hp =>
 bt SD hL run dr hp _ [.sc (.bool (!pB (Rb 1000 (vv u))))] (wq hp u) (Bh u) (NR hu h)
theorem aaU(s:ByteArray)(n d:Int)(g1:az L run 108 [.sc (.string s)] (.tup [cf n d,.sc (.bool false)])) :
  ∃ st,ae (CC L) run k (f133.body.getD .skip) ⟨entry 18 [.sc (.string s)],[],[]⟩=some (.ret,st)∧aX TT st.fr st.hp f133.results.toList=some [cf n d,.sc (.bool false)]:=by
 obtain⟨h1,h2⟩:=cO 17 (.sc (.string s))
 generalize entry 18 [.sc (.string s)]=fr0 at *
 unfold az at *
 simp only[fH] at *
 simp[f133,h1,h2,aM,bm,bZ,bG,bg,g1,sR,aR,zR,aO,aL,cg,ca,bF,bp,number,FP.free,cw,FP.apart,undef]
theorem Tp(s:ByteArray)(n d:Int)(lg:Bool)(g1:az L run 108 [.sc (.string s)] (.tup [cf n d,.sc (.bool true)]))(g2:az L run 43 [cf n d] (.sc (.bool lg))) :
  ∃ st,ae (CC L) run k (f133.body.getD .skip) ⟨entry 18 [.sc (.string s)],[],[]⟩=some (.ret,st)∧aX TT st.fr st.hp f133.results.toList=some [cf n d,.sc (.bool (!lg))]:=by
 obtain⟨h1,h2⟩:=cO 17 (.sc (.string s))
 generalize entry 18 [.sc (.string s)]=fr0 at *
 unfold az at *
 simp only[fH] at *
 simp[f133,h1,h2,aM,unP,bm,bZ,bG,bg,g1,g2,sR,aR,zR,aO,aL,cg,ca,bF,bp,number,FP.free,cw,FP.apart,undef]
def aeD:Ψ→Option Ψ:=ctr (fun s:ByteArray=>[.sc (.string s)]) (fun s=>(bys s).length≤100000) fun s=>[cf (rrP s).1 (rrP s).2,.sc (.bool (pB (IsV s)))]
theorem aeI {x:Rat}{k:Nat}(h:(bys (qb x)).length≤k):Rb (k+1) x:=by
 have h2:=vr (bys (qb x))
 rw[lu] at h2
 dsimp only at h2
 exact⟨JY rfl (by omega),JY rfl (by omega)⟩
theorem GV:Ab.Spec base.P 133 aeD:=Ab.Spec.bS (C:=CC LQ2) (cR CK) fun args rs h=>by
 obtain⟨s,h9,rfl,rfl⟩:=db h
 have g1:=akH (L:=LQ2) rfl (runK (CC LQ2) 1) s (by omega)
 show ∃ k rs1 hp1 wr rs2 ids,_∧_∧WkL rs2 [cf (rrP s).1 (rrP s).2,.sc (.bool (pB (IsV s)))]
 by_cases hq:IsQ s
 ·rw[iy hq] at g1
  obtain⟨x,hx⟩:=hq
  have hb:Rb 100001 x:=aeI (by rw[← hx];exact h9)
  have g2:=aes (L:=LQ2) rfl (runK (CC LQ2) 1) (u:=some x) hb (by omega)
  have e:=(Hu s (by omega)).2 x hx
  rw[← e] at g2
  obtain⟨st,x1,x2⟩:=Tp LQ2 (runK (CC LQ2) 1) 1 s _ _ _ g1 g2
  refine⟨2,_,_,_,_,_,ba yQ rfl x1 x2,rfl,Wk.refl rfl,?_,trivial⟩
  have:pB (IsV s)=pB (Rb 1000 x):=by
   by_cases h1:Rb 1000 x
   ·rw[iy h1,iy ⟨x,hx,h1⟩]
   ·rw[iV h1,iV]
    rintro⟨y,hy,h2⟩
    have:=tf (hx.symm.trans hy)
    subst this
    exact h1 h2
  rw[this,Bool.not_not]
  exact Wk.refl rfl
 ·rw[iV hq] at g1
  have : ¬ IsV s:=fun ⟨x,hx,_⟩=>hq ⟨x,hx⟩
  rw[iV this]
  obtain⟨st,x1,x2⟩:=aaU LQ2 (runK (CC LQ2) 1) 1 s _ _ g1
  exact⟨2,_,_,_,_,_,ba yQ rfl x1 x2,rfl,Wk.refl rfl,Wk.refl rfl,trivial⟩
def LQ3:Lst:=(133,aeD)::LQ2
theorem aij:dE base.P LQ3:=⟨GV,CK⟩
theorem RM(s:ByteArray)(n d:Int)(v:Bool)(g1:az L run 133 [.sc (.string s)] (.tup [cf n d,.sc (.bool v)])) :
  ∃ st,ae (CC L) run k (f77.body.getD .skip) ⟨entry 11 [.sc (.string s)],[],[]⟩=some (.ret,st)∧aX TT st.fr st.hp f77.results.toList=some [.sc (.bool v)]:=by
 obtain⟨h1,h2⟩:=cO 10 (.sc (.string s))
 generalize entry 11 [.sc (.string s)]=fr0 at *
 unfold az at *
 simp only[fH] at *
 simp[f77,h1,h2,aM,bm,bZ,bG,bg,g1,sR,zR,aO,aL,cg,ca,undef]
def Bw:Ψ→Option Ψ:=ctr (fun s:ByteArray=>[.sc (.string s)]) (fun s=>(bys s).length≤100000) fun s=>[.sc (.bool (pB (IsV s)))]
theorem qQ {s t:ByteArray}(h:[PV.sc (.string s)]=[PV.sc (.string t)]):s=t:=by simpa using h
theorem wa:Ab.Spec base.P 77 Bw:=Ab.Spec.bS (C:=CC LQ3) (cR aij) fun args rs h=>by
 obtain⟨s,h9,rfl,rfl⟩:=db h
 have g1:az LQ3 (runK (CC LQ3) 1) 133 [.sc (.string s)] (.tup [cf (rrP s).1 (rrP s).2,.sc (.bool (pB (IsV s)))]) :=
  ji SC (L:=LQ3) (e:=fun s:ByteArray=>[.sc (.string s)]) (f:=fun s=>[cf (rrP s).1 (rrP s).2,.sc (.bool (pB (IsV s)))]) (ok:=fun s=>(bys s).length≤100000) rfl (fun x y _ _ h=>by rw[qQ h]) _ s h9 (fun _=>rfl) rfl
 obtain⟨st,x1,x2⟩:=RM LQ3 (runK (CC LQ3) 1) 1 s _ _ _ g1
 exact⟨2,_,_,_,_,_,ba GC rfl x1 x2,rfl,Wk.refl rfl,trivial⟩
theorem CM {L:Lst}(hL:bx L 77=fun a=>Bw (aK a))(run:aw)(s:ByteArray)(h9:(bys s).length≤100000):az L run 77 [.sc (.string s)] (.sc (.bool (pB (IsV s)))) :=
 ji Nz (e:=fun s:ByteArray=>[.sc (.string s)]) hL (fun x y _ _ h=>by rw[qQ h]) run s h9 (fun _=>rfl) rfl
def LQ4:Lst:=[(48,o9),(64,isF)]
theorem aii:dE base.P LQ4:=⟨ub,ac1,trivial⟩
theorem NK(s:ByteArray)(lg v:Bool)(g1:az L run 48 [.sc (.string s)] (.sc (.bool lg)))(g2:az L run 64 [.sc (.string s)] (.sc (.bool v))) :
  ∃ st,ae (CC L) run k (f23.body.getD .skip) ⟨entry 10 [.sc (.string s)],[],[]⟩=some (.ret,st)∧aX TT st.fr st.hp f23.results.toList=some [.sc (.bool (!lg && v))]:=by
 obtain⟨h1,h2⟩:=cO 9 (.sc (.string s))
 generalize entry 10 [.sc (.string s)]=fr0 at *
 unfold az at *
 cases lg <;> simp[f23,h1,h2,aM,unP,g1,g2,undef]
theorem Jx (z:Int):eY (ztx z)=Ab.dT z:=by
 have h3:ztx z=(bif bz z then [45] else [])++dtx z.natAbs:=vU z
 rw[h3]
 unfold Ab.dT
 have hd:=rU z.natAbs
 cases bz z with
 | true=>rfl
 | false =>
  rw[cond_false,nil_append]
  cases e:dtx z.natAbs with
  | nil=>rfl
  | cons a l =>
   rw[e] at hd
   have ha:=dI.1 (fT hd mem_cons_self)
   show (bif a.beq 45 then l.length else (a::l).length)=_
   rw[qw (show a≠45 by omega)];rfl
theorem E9 (z:Int):decide (1000<eY (ztx z)) = !pB (Nb 1000 z):=by
 rw[Jx]
 unfold Ab.dT
 have h:=tv (n:=z.natAbs) (k:=1000) (by omega)
 by_cases hn:Nb 1000 z
 ·rw[iy hn,decide_eq_false (by have:=h.2 hn;omega)];rfl
 ·rw[iV hn,decide_eq_true (by
   have : ¬ (dtx z.natAbs).length≤1000:=fun e=>hn (h.1 e)
   omega)];rfl
theorem V8 (x:Rat):AM (bys (qb x)) = !pB (Rb 1000 x):=by
 unfold AM
 rw[lu,E9,E9]
 by_cases h1:Nb 1000 x.num
 ·by_cases h2:Nb 1000 x.den
  ·rw[iy h1,iy h2,iy (show Rb 1000 x from ⟨h1,h2⟩)];rfl
  ·rw[iy h1,iV h2,iV (show ¬ Rb 1000 x from fun e=>h2 e.2)];rfl
 ·rw[iV h1,iV (show ¬ Rb 1000 x from fun e=>h1 e.1)];simp
def SZ:Ψ→Option Ψ:=ctr (fun s:ByteArray=>[.sc (.string s)]) (fun s=>(bys s).length≤100000) fun s=>[.sc (.bool (pB (IsV s)))]
theorem NJ:Ab.Spec base.P 23 SZ:=Ab.Spec.bS (C:=CC LQ4) (cR aii) fun args rs h=>by
 obtain⟨s,h9,rfl,rfl⟩:=db h
 have g1:az LQ4 (runK (CC LQ4) 1) 48 [.sc (.string s)] (.sc (.bool (AM (bys s)))):=fun dr hp =>
  bt (L:=LQ4) (f:=o9) Nu rfl _ dr hp _ [.sc (.bool (AM (bys s)))] rfl rfl (by
   have:(bys s).length.blt 20000000=true:=by rw[Nat.blt_eq];omega
   simp only[o9,this,cond_true])
 have g2:az LQ4 (runK (CC LQ4) 1) 64 [.sc (.string s)] (.sc (.bool (pB (IsQ s)))) :=
  ji aaf (L:=LQ4) (e:=fun s:ByteArray=>[.sc (.string s)]) (ok:=fun s=>(bys s).length<1000000) (f:=fun s=>[.sc (.bool (pB (IsQ s)))]) rfl (fun x y _ _ h=>by rw[qQ h]) _ s (show (bys s).length<1000000 by omega) (fun _=>rfl) rfl
 obtain⟨st,x1,x2⟩:=NK LQ4 (runK (CC LQ4) 1) 1 s _ _ g1 g2
 refine⟨2,_,_,_,_,_,ba CO rfl x1 x2,rfl,?_,trivial⟩
 have:pB (IsV s)=(!AM (bys s) && pB (IsQ s)):=by
  by_cases hq:IsQ s
  ·obtain⟨x,hx⟩:=hq
   subst hx
   rw[V8,Bool.not_not,iy (show IsQ (qb x) from ⟨x,rfl⟩),Bool.and_true]
   by_cases h1:Rb 1000 x
   ·rw[iy h1,iy ⟨x,rfl,h1⟩]
   ·rw[iV h1,iV]
    rintro⟨y,hy,h2⟩
    have:=tf hy
    subst this
    exact h1 h2
  ·rw[iV hq,Bool.and_false,iV fun ⟨x,hx,_⟩=>hq ⟨x,hx⟩]
 rw[this]
 exact Wk.refl rfl
theorem ais {L:Lst}(hL:bx L 23=fun a=>SZ (aK a))(run:aw)(s:ByteArray)(h9:(bys s).length≤100000):az L run 23 [.sc (.string s)] (.sc (.bool (pB (IsV s)))) :=
 ji Hg (e:=fun s:ByteArray=>[.sc (.string s)]) hL (fun x y _ _ h=>by rw[qQ h]) run s h9 (fun _=>rfl) rfl
def es (s:ByteArray):Ψ:=[.sc (.string s)]
theorem adJ:Ec 1 es where
 len:=fun _=>rfl
 okc:=fun _=>rfl
 can:=fun _=>rfl
 idf:=fun _=>rfl
 sn:=fun _ _ _=>rfl
def pE (p:List ByteArray):PV:=iz es p
def ep (p:List ByteArray):Ψ:=[pE p]
theorem ahs:Ec 1 ep:=adJ.list
def cE (c:List (List ByteArray)):PV:=iz ep c
theorem uPt:und TT 39=some (.slice 27):=by kernel_rfl
theorem uCl:und TT 23=some (.slice 39):=by kernel_rfl
theorem uRs:und TT 38=some (.slice 27):=by kernel_rfl
theorem nt:de TT 27=some 1:=by kernel_rfl
theorem pP:fR TT 27=some false:=by kernel_rfl
theorem sPt:de TT 39=some 1:=by kernel_rfl
theorem sCl:de TT 23=some 1:=by kernel_rfl
theorem aCl:fR TT 23=some false:=by kernel_rfl
theorem aPt:fR TT 39=some false:=by kernel_rfl
theorem eF (p:List ByteArray):cX (pE p)=some p.length:=rfl
theorem eG (c:List (List ByteArray)):cX (cE c)=some c.length:=rfl
theorem se (c:List (List ByteArray)):(cE c).cells?=some [cE c]:=rfl
theorem F4 (p:List ByteArray):canon (pE p)=pE p:=adJ.JH p
theorem iY (c:List (List ByteArray)):canon (cE c)=cE c:=ahs.JH c
theorem AQ {t:Nat}(hu:und TT t=some (.slice 27))(p:List ByteArray)(i:Nat)(hi:i<p.length):∃ r,bd TT t (pE p) (.sc (.int .i64 (i:Int)))=some (.iptr r)∧r.head?=some (.sc (.string p[i])):=by
 have h:=mZ adJ.toEl p i hi
 refine⟨bp (p.flatMap es) (i*1),?_,by rw[h];rfl⟩
 unfold pE iz
 simp only[bd,hu,bn,nt,hi,if_true]
theorem jH {t:Nat}(hu:und TT t=some (.slice 39))(c:List (List ByteArray))(i:Nat)(hi:i<c.length):∃ r,bd TT t (cE c) (.sc (.int .i64 (i:Int)))=some (.iptr r)∧r.head?=some (pE c[i]):=by
 have h:=mZ ahs.toEl c i hi
 refine⟨bp (c.flatMap ep) (i*1),?_,by rw[h];rfl⟩
 unfold cE iz
 simp only[bd,hu,bn,sPt,hi,if_true]
theorem IB:∀ {p q:List ByteArray},pE p=pE q→p=q
 | p,q,h=>by
  unfold pE iz at h
  simp only[PV.imm.injEq,true_and] at h
  have:∀ (p q:List ByteArray),p.flatMap es=q.flatMap es→p=q:=by
   intro p
   induction p with
   | nil=>intro q h;cases q with
    | nil=>rfl
    | cons a q=>simp[es] at h
   | cons a p ih=>intro q h;cases q with
    | nil=>simp[es] at h
    | cons b q =>
     simp only[flatMap_cons,es,cons_append,nil_append,List.cons.injEq,PV.sc.injEq,Value.string.injEq] at h
     rw[h.1,ih q h.2]
  exact this p q h.2
theorem CD {c d:List (List ByteArray)}(h:cE c=cE d):c=d:=by
 unfold cE iz at h
 simp only[PV.imm.injEq,true_and] at h
 have:∀ (p q:List (List ByteArray)),p.flatMap ep=q.flatMap ep→p=q:=by
  intro p
  induction p with
  | nil=>intro q h;cases q with
   | nil=>rfl
   | cons a q=>simp[ep] at h
  | cons a p ih=>intro q h;cases q with
   | nil=>simp[ep] at h
   | cons b q =>
    simp only[flatMap_cons,ep,cons_append,nil_append,List.cons.injEq] at h
    rw[IB h.1,ih q h.2]
 exact this c d h.2
def sb (m:Nat)(p:List ByteArray):Nat:=if p.length=0∨3<p.length∨p.length≠m then 10 else bif p.all (fun s=>pB (IsV s)) then 0 else 1
def jV (m:Nat):List (List ByteArray)→Nat
 | []=>0
 | p::r=>if sb m p=0 then jV m r else sb m p
def hdL (c:List (List ByteArray)):Nat:=match c with
 | []=>0
 | p::_=>p.length
def chk (c:List (List ByteArray)):Nat:=if 64<c.length then 3 else jV (hdL c) c
def Fit (c:List (List ByteArray)):Prop:=c.length≤100∧∀ p ∈ c,p.length≤100∧∀ s ∈ p,(bys s).length≤100000
theorem GL:base.F.get 80=some f80:=by kernel_rfl
theorem NG:base.shared 80=false:=by kernel_rfl
def ckC:Code:=f80.body.getD .skip
def ckO:Code:=(aA ckC).getD .skip
def ckI:Code:=(aA ckO).getD .skip
def CF (fr:Ψ)(c:List (List ByteArray))(j:Nat):Prop:=fr.length=44∧nth fr 0=cE c∧nth fr 10=cE c∧nth fr 11=iv c.length∧nth fr 12=iv j
theorem ad9(c:List (List ByteArray))(j:Nat)(n:Nat)(h:CF fr c j)(h34:nth fr 34=iv n)(h35:nth fr 35=iv n) :
  ∃ fr',ae (CC L) run k ckI ⟨fr,[],[]⟩=some (.exit 2,⟨fr',[],[]⟩)∧CF fr' c j:=by
 obtain⟨h0,h1,h10,h11,h12⟩:=h
 simp only[iv] at h34 h35 h11 h12
 simp[CF,ckI,ckO,ckC,f80,h0,h1,h10,h11,h12,h34,h35]
theorem P3(c:List (List ByteArray))(j:Nat)(p:List ByteArray)(i:Nat)(hi:i<p.length)(h9:p.length≤100)(v:Bool)(g:az L run 77 [.sc (.string p[i])] (.sc (.bool v)))(h:CF fr c j)(h33:nth fr 33=pE p)(h34:nth fr 34=iv p.length)(h35:nth fr 35=iv i) :
  ∃ fr',ae (CC L) run k ckI ⟨fr,[],[]⟩=some (bif v then .normal else .ret,⟨fr',[],[]⟩)∧(v=true→CF fr' c j∧nth fr' 33=pE p∧nth fr' 34=iv p.length∧nth fr' 35=iv (i+1))∧(v=false→nth fr' 2=iv 1):=by
 obtain⟨h0,h1,h10,h11,h12⟩:=h
 obtain⟨r,x1,x2⟩:=AQ uPt p i hi
 have hw:=bD i (by omega)
 unfold az at g
 generalize p[i]=s at *
 simp only[iv] at h34 h35 h11 h12
 cases v <;> simp[CF,ckI,ckO,ckC,f80,aM,unP,and_assoc,h0,h1,h10,h11,h12,h33,h34,h35,hi,x1,x2,g,hw,pP,nt]
theorem FX (L:Lst)(run:aw)(k:Nat)(c:List (List ByteArray))(j:Nat)(p:List ByteArray)(h9:p.length≤100)(g:∀ s ∈ p,az L run 77 [.sc (.string s)] (.sc (.bool (pB (IsV s))))):∀ (n i:Nat) (fr:Ψ),i+n=p.length→CF fr c j→nth fr 33=pE p→nth fr 34=iv p.length→nth fr 35=iv i →
  ∃ fr',cb (ae (CC L) run k ckI) (n+1) ⟨fr,[],[]⟩=some (bif (p.drop i).all (fun s=>pB (IsV s)) then .exit 2 else .ret,⟨fr',[],[]⟩)∧((p.drop i).all (fun s=>pB (IsV s))=true→CF fr' c j)∧((p.drop i).all (fun s=>pB (IsV s))=false→nth fr' 2=iv 1)
 | 0,i,fr,hin,h,h33,h34,h35=>by
  have e:i=p.length:=by omega
  subst e
  obtain⟨fr',q1,q2⟩:=ad9 L run k fr c j p.length h h34 h35
  rw[drop_length]
  exact⟨fr',bu q1,fun _=>q2,nofun⟩
 | n+1,i,fr,hin,h,h33,h34,h35=>by
  have hi:i<p.length:=by omega
  obtain⟨fr1,q1,q2,q3⟩:=P3 L run k fr c j p i hi h9 _ (g _ (getElem_mem hi)) h h33 h34 h35
  rw[drop_eq_getElem_cons hi,all_cons]
  cases hv:pB (IsV p[i]) with
  | false =>
   rw[hv] at q1 q3
   exact⟨fr1,du q1,nofun,fun _=>q3 rfl⟩
  | true =>
   rw[hv] at q1 q2
   obtain⟨a1,a2,a3,a4⟩:=q2 rfl
   obtain⟨fr',s1,s2⟩:=FX L run k c j p h9 g n (i+1) fr1 (by omega) a1 a2 a3 a4
   rw[Bool.true_and]
   exact⟨fr',by rw[bT q1];exact s1,s2⟩
def ahO:Code:=seq1 ckO
def ahN:Code:=seq1 (aQ ckO)
def ckB:Code:=blk (seq1 (aQ (aQ ckO)))
def Yq:Code:=seq1 ckB
def zj:Code:=seq1 (aQ ckB)
def Yp:Code:=seq1 (aQ (aQ ckB))
def Yo:Code:=aQ (aQ (aQ ckO))
theorem Yn:ckO = .seq ahO (.seq ahN (.seq (.block 1 (.seq Yq (.seq zj (.seq Yp (.block 2 (.loop ckI)))))) Yo)):=rfl
theorem ad8(c:List (List ByteArray))(h:CF fr c c.length) :
  ∃ fr',ae (CC L) run k ckO ⟨fr,[],[]⟩=some (.exit 0,⟨fr',[],[]⟩)∧fr'.length=44:=by
 obtain⟨h0,h1,h10,h11,h12⟩:=h
 simp only[iv] at h11 h12
 simp[ckO,ckC,f80,h0,h11,h12]
theorem akr(c:List (List ByteArray))(j:Nat)(hj:j<c.length)(h:CF fr c j) :
  ∃ fr1 fr2,ae (CC L) run k ahO ⟨fr,[],[]⟩=some (.normal,⟨fr1,[],[]⟩)∧ae (CC L) run k ahN ⟨fr1,[],[]⟩=some (.normal,⟨fr1,[],[]⟩)∧ae (CC L) run k Yq ⟨fr1,[],[]⟩=some (.normal,⟨fr2,[],[]⟩)∧CF fr2 c j∧nth fr2 4=pE c[j]:=by
 obtain⟨h0,h1,h10,h11,h12⟩:=h
 obtain⟨r,x1,x2⟩:=jH uCl c j hj
 generalize c[j]=p at *
 simp only[iv] at h11 h12
 refine⟨eX fr 13 (.sc (.bool true)),?_⟩
 simp[CF,ahO,ahN,Yq,ckB,blk,ckO,ckC,f80,and_assoc,h0,h1,h10,h11,h12,hj,x1,x2,aPt,sPt]
theorem ahq (m:Nat):((m:Int) == 0)=decide (m=0):=by
 by_cases h:m=0
 ·subst h;rfl
 ·rw[decide_eq_false h,beq_eq_false_iff_ne];omega
theorem gt3 (m:Nat):((m:Int) > 3)=(3<m):=by apply propext;omega
set_option maxHeartbeats 1000000 in
theorem aea(c:List (List ByteArray))(j:Nat)(p:List ByteArray)(hc:0<c.length)(hb:p.length=0∨3<p.length∨p.length≠c[0].length)(h:CF fr c j)(h4:nth fr 4=pE p) :
  ∃ fr',ae (CC L) run k zj ⟨fr,[],[]⟩=some (.ret,⟨fr',[],[]⟩)∧nth fr' 2=iv 10:=by
 obtain⟨h0,h1,h10,h11,h12⟩:=h
 obtain⟨r,x1,x2⟩:=jH uCl c 0 hc
 rw[show (((0:Nat):Int))=(0:Int) from rfl] at x1
 generalize c[0]=q at *
 have hl:=eF p
 have hl2:=eF q
 generalize p.length=m at *
 generalize q.length=m0 at *
 by_cases b1:m=0
 ·subst b1
  simp[zj,ckB,blk,ckO,ckC,f80,h0,h4,hl,uPt,undef]
 ·by_cases b2:3<m
  ·simp[zj,ckB,blk,ckO,ckC,f80,h0,h4,hl,uPt,undef,b1,b2,ahq,gt3]
  ·have b3:m≠m0:=by rcases hb with hb | hb | hb <;> first | exact absurd hb b1 | exact absurd hb b2 | exact hb
   simp[zj,ckB,blk,ckO,ckC,f80,Gh,h0,h1,h4,hl,hl2,uPt,x1,x2,aPt,sPt,b1,b2,b3,ahq,gt3]
set_option maxHeartbeats 1000000 in
theorem ahP(c:List (List ByteArray))(j:Nat)(p:List ByteArray)(hc:0<c.length)(b1:p.length≠0)(b2 : ¬ 3<p.length)(b3:p.length=c[0].length)(h:CF fr c j)(h4:nth fr 4=pE p) :
  ∃ fr1 fr',ae (CC L) run k zj ⟨fr,[],[]⟩=some (.normal,⟨fr1,[],[]⟩)∧ae (CC L) run k Yp ⟨fr1,[],[]⟩=some (.normal,⟨fr',[],[]⟩)∧CF fr' c j∧nth fr' 33=pE p∧nth fr' 34=iv p.length∧nth fr' 35=iv 0:=by
 obtain⟨h0,h1,h10,h11,h12⟩:=h
 obtain⟨r,x1,x2⟩:=jH uCl c 0 hc
 rw[show (((0:Nat):Int))=(0:Int) from rfl] at x1
 generalize c[0]=q at *
 have hl:=eF p
 have hl2:=eF q
 rw[← b3] at hl2
 clear b3
 generalize p.length=m at *
 obtain⟨fr1,g1,g2,g3,g4⟩:∃ fr1,ae (CC L) run k zj ⟨fr,[],[]⟩=some (.normal,⟨fr1,[],[]⟩)∧CF fr1 c j∧nth fr1 4=pE p∧True:=by
  simp only[CF]
  simp[h10,h11,h12,zj,ckB,blk,ckO,ckC,f80,and_assoc,h0,h1,h4,hl,hl2,uPt,x1,x2,aPt,sPt,b1,b2,ahq,gt3]
 obtain⟨k0,k1,k10,k11,k12⟩:=g2
 refine⟨fr1,?_⟩
 rw[g1]
 simp[CF,Yp,ckB,blk,ckO,ckC,f80,and_assoc,k0,k1,k10,k11,k12,g3,hl,uPt]
theorem akq(c:List (List ByteArray))(j:Nat)(hj:j<1000)(h:CF fr c j) :
  ∃ fr',ae (CC L) run k Yo ⟨fr,[],[]⟩=some (.normal,⟨fr',[],[]⟩)∧CF fr' c (j+1):=by
 obtain⟨h0,h1,h10,h11,h12⟩:=h
 have hw:=bD j (by omega)
 simp only[iv] at h11 h12
 simp[CF,Yo,ckO,ckC,f80,h0,h1,h10,h11,h12,hw]
theorem FW (L:Lst)(run:aw)(k:Nat)(hk:200≤k)(c:List (List ByteArray))(hF:Fit c)(g:∀ s:ByteArray,(bys s).length≤100000→az L run 77 [.sc (.string s)] (.sc (.bool (pB (IsV s))))):∀ (n j:Nat) (fr:Ψ),j+n=c.length→CF fr c j →
  (∃ fr',jV (hdL c) (c.drop j)=0∧cb (ae (CC L) run k ckO) (n+1) ⟨fr,[],[]⟩=some (.exit 0,⟨fr',[],[]⟩)∧fr'.length=44)∨∃ fr',jV (hdL c) (c.drop j)≠0∧cb (ae (CC L) run k ckO) (n+1) ⟨fr,[],[]⟩=some (.ret,⟨fr',[],[]⟩)∧nth fr' 2=iv (jV (hdL c) (c.drop j))
 | 0,j,fr,hjn,h=>by
  have e:j=c.length:=by omega
  subst e
  obtain⟨fr',q1,q2⟩:=ad8 L run k fr c h
  rw[drop_length]
  exact .inl ⟨fr',rfl,bu q1,q2⟩
 | n+1,j,fr,hjn,h=>by
  have hj:j<c.length:=by omega
  have hc:0<c.length:=by omega
  have hh:hdL c=c[0].length:=by
   cases c with
   | nil=>simp at hc
   | cons p r=>rfl
  obtain⟨fr1,fr2,a1,a2,a3,a4,a5⟩:=akr L run k fr c j hj h
  have hFp:=hF.2 c[j] (getElem_mem hj)
  have hFc:=hF.1
  rw[drop_eq_getElem_cons hj]
  have run_ret:∀ {fr'},ae (CC L) run k (.seq Yq (.seq zj (.seq Yp (.block 2 (.loop ckI))))) ⟨fr1,[],[]⟩=some (.ret,⟨fr',[],[]⟩)→cb (ae (CC L) run k ckO) (n+1+1) ⟨fr,[],[]⟩=some (.ret,⟨fr',[],[]⟩):=by
   intro fr' hr
   refine du ?_
   rw[Yn,ar a1,ar a2]
   exact bO (kC hr)
  by_cases hb:c[j].length=0∨3<c[j].length∨c[j].length≠c[0].length
  ·obtain⟨fr',b1,b2⟩:=aea L run k fr2 c j c[j] hc hb a4 a5
   have hcp:sb (hdL c) c[j]=10:=by unfold sb;rw[hh,if_pos hb]
   refine .inr ⟨fr',?_,run_ret ?_,?_⟩
   ·rw[jV,hcp];simp
   ·rw[ar a3,bO b1]
   ·rw[jV,hcp];exact b2
  ·have n1:c[j].length≠0:=fun e=>hb (.inl e)
   have n2 : ¬ 3<c[j].length:=fun e=>hb (.inr (.inl e))
   have n3:c[j].length=c[0].length:=Classical.byContradiction fun e=>hb (.inr (.inr e))
   obtain⟨fr3,fr4,b1,b2,b3,b4,b5,b6⟩:=ahP L run k fr2 c j c[j] hc n1 n2 n3 a4 a5
   obtain⟨fr5,d1,d2,d3⟩:=FX L run k c j c[j] hFp.1 (fun s hs=>g s (hFp.2 s hs)) c[j].length 0 fr4 (by omega) b3 b4 b5 b6
   rw[drop_zero] at d1 d2 d3
   have hcp:sb (hdL c) c[j]=bif c[j].all (fun s=>pB (IsV s)) then 0 else 1:=by unfold sb;rw[hh,if_neg hb]
   cases hv:c[j].all (fun s=>pB (IsV s)) with
   | false =>
    rw[hv] at d1 hcp
    have d4:=d3 hv
    refine .inr ⟨fr5,?_,run_ret ?_,?_⟩
    ·rw[jV,hcp];simp
    ·rw[ar a3,ar b1,ar b2]
     exact cJ (bK d1 (by omega))
    ·rw[jV,hcp];exact d4
   | true =>
    rw[hv] at d1 hcp
    have d4:=d2 hv
    obtain⟨fr6,e1,e2⟩:=akq L run k fr5 c j (by omega) d4
    have hgo:ae (CC L) run k ckO ⟨fr,[],[]⟩=some (.normal,⟨fr6,[],[]⟩):=by
     rw[Yn,ar a1,ar a2]
     have:ae (CC L) run k (.seq Yq (.seq zj (.seq Yp (.block 2 (.loop ckI))))) ⟨fr1,[],[]⟩=some (.normal,⟨fr5,[],[]⟩):=by
      rw[ar a3,ar b1,ar b2]
      exact bE (bK d1 (by omega))
     rw[ar (fF this)]
     exact e1
    have hce:jV (hdL c) (c[j]::c.drop (j+1))=jV (hdL c) (c.drop (j+1)):=by rw[jV,hcp];rfl
    rw[hce,bT hgo]
    exact FW L run k hk c hF g n (j+1) fr6 (by omega) e2
def X9:Code:=seq1 (seq1 (ai 2 ckC))
theorem ahK:ai 2 ckC = .seq (.seq X9 (.block 0 (.loop ckO))) (ai 3 ckC):=rfl
theorem ad6(c:List (List ByteArray))(h:64<c.length):∃ st,ae (CC L) run k ckC ⟨entry 44 [cE c],[],[]⟩=some (.ret,st)∧aX TT st.fr st.hp f80.results.toList=some [iv 3]:=by
 obtain⟨e1,e2⟩:=cO 43 (cE c)
 generalize entry 44 [cE c]=fr0 at *
 have hl:=eG c
 generalize c.length=m at *
 have h2:((m:Int) > 64)=True:=by simp;omega
 have h3:((64:Int)<m)=True:=by simp;omega
 simp[ckC,f80,e1,e2,hl,uCl,h2]
theorem ahM (L:Lst)(run:aw)(k:Nat)(c:List (List ByteArray))(h : ¬ 64<c.length):∃ fr fr',bh (CC L) run k 2 ckC ⟨entry 44 [cE c],[],[]⟩=some ⟨fr,[],[]⟩∧ae (CC L) run k X9 ⟨fr,[],[]⟩=some (.normal,⟨fr',[],[]⟩)∧CF fr' c 0:=by
 obtain⟨e1,e2⟩:=cO 43 (cE c)
 generalize entry 44 [cE c]=fr0 at *
 have hl:=eG c
 have h2:((c.length:Int) > 64)=False:=by simp;omega
 have h3:((64:Int)<c.length)=False:=by simp;omega
 obtain⟨fr,a1,a2,a3⟩:∃ fr,bh (CC L) run k 2 ckC ⟨fr0,[],[]⟩=some ⟨fr,[],[]⟩∧fr.length=44∧nth fr 0=cE c:=by
  simp[ckC,f80,bh,e1,e2,hl,uCl,h2]
 refine⟨fr,?_⟩
 rw[a1]
 simp[CF,X9,ai,ckC,f80,a2,a3,hl,uCl]
theorem ad5(h0:fr.length=44):∃ st,ae (CC L) run k (ai 3 ckC) ⟨fr,[],[]⟩=some (.ret,st)∧aX TT st.fr st.hp f80.results.toList=some [iv 0]:=by
 simp[ckC,ai,f80,h0]
theorem ahL(n:Nat)(h:nth fr 2=iv n):aX TT fr [] f80.results.toList=some [iv n]:=by
 simp[f80,h]
def Cy:Ψ→Option Ψ:=ctr (fun c=>[cE c]) Fit fun c=>[iv (chk c)]
theorem ad7(hk:200≤k)(c:List (List ByteArray))(hF:Fit c)(g:∀ s:ByteArray,(bys s).length≤100000→az L run 77 [.sc (.string s)] (.sc (.bool (pB (IsV s))))) :
  ∃ st,ae (CC L) run k ckC ⟨entry 44 [cE c],[],[]⟩=some (.ret,st)∧aX TT st.fr st.hp f80.results.toList=some [iv (chk c)]:=by
 unfold chk
 by_cases h:64<c.length
 ·rw[if_pos h];exact ad6 L run k c h
 ·rw[if_neg h]
  obtain⟨fr,fr1,a1,a2,a3⟩:=ahM L run k c h
  rw[aY 2 a1,ahK]
  have hl:=FW L run k hk c hF g c.length 0 fr1 (by omega) a3
  rw[drop_zero] at hl
  rcases hl with ⟨fr2,h0,b1,b2⟩| ⟨fr3,b0,b1,b2⟩
  ·have:ae (CC L) run k (.seq X9 (.block 0 (.loop ckO))) ⟨fr,[],[]⟩=some (.normal,⟨fr2,[],[]⟩):=by
    rw[ar a2];exact bE (bK b1 (by have:=hF.1;omega))
   rw[ar this,h0]
   exact ad5 L run k fr2 b2
  ·have:ae (CC L) run k (.seq X9 (.block 0 (.loop ckO))) ⟨fr,[],[]⟩=some (.ret,⟨fr3,[],[]⟩):=by
    rw[ar a2];exact cJ (bK b1 (by have:=hF.1;omega))
   rw[bO this]
   exact⟨_,rfl,ahL fr3 _ b2⟩
theorem zv:base.F.get 22=some f22:=by kernel_rfl
theorem Dz:base.shared 22=false:=by kernel_rfl
def rkC:Code:=f22.body.getD .skip
def rkO:Code:=(aA rkC).getD .skip
def rkI:Code:=(aA rkO).getD .skip
def RF (fr:Ψ)(c:List (List ByteArray))(j:Nat):Prop:=fr.length=58∧nth fr 0=cE c∧nth fr 3=iv j
theorem aaN(c:List (List ByteArray))(j:Nat)(hj:j<c.length)(h:RF fr c j)(h4:nth fr 4=iv c[j].length) :
  ∃ fr',ae (CC L) run k rkI ⟨fr,[],[]⟩=some (.exit 2,⟨fr',[],[]⟩)∧RF fr' c j:=by
 obtain⟨h0,h1,h3⟩:=h
 obtain⟨r,x1,x2⟩:=jH uCl c j hj
 have hl:=eF c[j]
 generalize c[j]=p at *
 generalize p.length=m at *
 simp only[iv] at h3 h4
 simp[RF,rkI,rkO,rkC,f22,h0,h1,h3,h4,x1,x2,hl,uPt,aPt,sPt]
theorem NS(c:List (List ByteArray))(j:Nat)(hj:j<c.length)(i:Nat)(hi:i<c[j].length)(h9:c[j].length≤100)(v:Bool)(g:az L run 23 [.sc (.string c[j][i])] (.sc (.bool v)))(h:RF fr c j)(h4:nth fr 4=iv i) :
  ∃ fr',ae (CC L) run k rkI ⟨fr,[],[]⟩=some (bif v then .normal else .ret,⟨fr',[],[]⟩)∧(v=true→RF fr' c j∧nth fr' 4=iv (i+1))∧(v=false→nth fr' 2=iv 1):=by
 obtain⟨h0,h1,h3⟩:=h
 obtain⟨r,x1,x2⟩:=jH uCl c j hj
 obtain⟨r',y1,y2⟩:=AQ uPt c[j] i hi
 have hl:=eF c[j]
 have hw:=bD i (by omega)
 unfold az at g
 generalize c[j][i]=s at *
 generalize c[j]=p at *
 simp only[iv] at h3 h4
 cases v <;> simp[RF,rkI,rkO,rkC,f22,aM,unP,and_assoc,h0,h1,h3,h4,x1,x2,y1,y2,hl,hi,g,hw,uPt,aPt,sPt,pP,nt]
theorem DQ (L:Lst)(run:aw)(k:Nat)(c:List (List ByteArray))(j:Nat)(hj:j<c.length)(h9:c[j].length≤100)(g:∀ s ∈ c[j],az L run 23 [.sc (.string s)] (.sc (.bool (pB (IsV s))))):∀ (n i:Nat) (fr:Ψ),i+n=c[j].length→RF fr c j→nth fr 4=iv i →
  ∃ fr',cb (ae (CC L) run k rkI) (n+1) ⟨fr,[],[]⟩=some (bif (c[j].drop i).all (fun s=>pB (IsV s)) then .exit 2 else .ret,⟨fr',[],[]⟩)∧((c[j].drop i).all (fun s=>pB (IsV s))=true→RF fr' c j)∧((c[j].drop i).all (fun s=>pB (IsV s))=false→nth fr' 2=iv 1)
 | 0,i,fr,hin,h,h4=>by
  have e:i=c[j].length:=by omega
  subst e
  obtain⟨fr',q1,q2⟩:=aaN L run k fr c j hj h h4
  rw[drop_length]
  exact⟨fr',bu q1,fun _=>q2,nofun⟩
 | n+1,i,fr,hin,h,h4=>by
  have hi:i<c[j].length:=by omega
  obtain⟨fr1,q1,q2,q3⟩:=NS L run k fr c j hj i hi h9 _ (g _ (getElem_mem hi)) h h4
  rw[drop_eq_getElem_cons hi,all_cons]
  cases hv:pB (IsV c[j][i]) with
  | false =>
   rw[hv] at q1 q3
   exact⟨fr1,du q1,nofun,fun _=>q3 rfl⟩
  | true =>
   rw[hv] at q1 q2
   obtain⟨a1,a2⟩:=q2 rfl
   obtain⟨fr',s1,s2⟩:=DQ L run k c j hj h9 g n (i+1) fr1 (by omega) a1 a2
   rw[Bool.true_and]
   exact⟨fr',by rw[bT q1];exact s1,s2⟩
def afK:Code:=seq1 rkO
def rkB:Code:=blk (seq1 (aQ rkO))
def yX:Code:=seq1 rkB
def Th:Code:=seq1 (aQ rkB)
def afJ:Code:=aQ (aQ rkO)
theorem Tg:rkO = .seq afK (.seq (.block 1 (.seq yX (.seq Th (.block 2 (.loop rkI))))) afJ):=rfl
theorem aaM(c:List (List ByteArray))(h:RF fr c c.length) :
  ∃ fr',ae (CC L) run k rkO ⟨fr,[],[]⟩=some (.exit 0,⟨fr',[],[]⟩)∧fr'.length=58:=by
 obtain⟨h0,h1,h3⟩:=h
 simp only[iv] at h3
 simp[rkO,rkC,f22,eG,h0,h1,h3,uCl]
theorem ai9(c:List (List ByteArray))(j:Nat)(hj:j<c.length)(h:RF fr c j) :
  ∃ fr1,ae (CC L) run k afK ⟨fr,[],[]⟩=some (.normal,⟨fr1,[],[]⟩)∧RF fr1 c j:=by
 obtain⟨h0,h1,h3⟩:=h
 simp only[iv] at h3
 simp[RF,afK,rkO,rkC,f22,eG,h0,h1,h3,uCl,hj]
theorem lt1 (m:Nat):((m:Int)<1)=(m=0):=by apply propext;omega
set_option maxHeartbeats 1000000 in
theorem aaO(c:List (List ByteArray))(j:Nat)(hj:j<c.length)(hc:0<c.length)(hb:c[j].length=0∨3<c[j].length∨c[j].length≠c[0].length)(h:RF fr c j) :
  ∃ fr',ae (CC L) run k yX ⟨fr,[],[]⟩=some (.ret,⟨fr',[],[]⟩)∧nth fr' 2=iv 10:=by
 obtain⟨h0,h1,h3⟩:=h
 obtain⟨r,x1,x2⟩:=jH uCl c 0 hc
 obtain⟨r',y1,y2⟩:=jH uCl c j hj
 rw[show (((0:Nat):Int))=(0:Int) from rfl] at x1
 have hl:=eF c[j]
 have hl2:=eF c[0]
 generalize c[0]=q at *
 generalize c[j]=p at *
 generalize p.length=m at *
 generalize q.length=m0 at *
 simp only[iv] at h3
 by_cases b1:m=0
 ·subst b1
  simp[yX,rkB,blk,rkO,rkC,f22,h0,h1,h3,hl,uPt,y1,y2,aPt,sPt,undef,number,FP.free]
 ·by_cases b2:3<m
  ·simp[yX,rkB,blk,rkO,rkC,f22,h0,h1,h3,hl,uPt,y1,y2,aPt,sPt,undef,b1,b2,gt3,lt1,number,FP.free]
  ·have b3:m≠m0:=by rcases hb with hb | hb | hb <;> first | exact absurd hb b1 | exact absurd hb b2 | exact hb
   simp[yX,rkB,blk,rkO,rkC,f22,Gh,h0,h1,h3,hl,hl2,uPt,x1,x2,y1,y2,aPt,sPt,b1,b2,b3,gt3,lt1,number,FP.free]
set_option maxHeartbeats 1000000 in
theorem afL(c:List (List ByteArray))(j:Nat)(hj:j<c.length)(hc:0<c.length)(b1:c[j].length≠0)(b2 : ¬ 3<c[j].length)(b3:c[j].length=c[0].length)(h:RF fr c j) :
  ∃ fr1 fr',ae (CC L) run k yX ⟨fr,[],[]⟩=some (.normal,⟨fr1,[],[]⟩)∧ae (CC L) run k Th ⟨fr1,[],[]⟩=some (.normal,⟨fr',[],[]⟩)∧RF fr' c j∧nth fr' 4=iv 0:=by
 obtain⟨h0,h1,h3⟩:=h
 obtain⟨r,x1,x2⟩:=jH uCl c 0 hc
 obtain⟨r',y1,y2⟩:=jH uCl c j hj
 rw[show (((0:Nat):Int))=(0:Int) from rfl] at x1
 have hl:=eF c[j]
 have hl2:=eF c[0]
 rw[← b3] at hl2
 clear b3
 generalize c[0]=q at *
 generalize c[j]=p at *
 generalize p.length=m at *
 simp only[iv] at h3
 obtain⟨fr1,g1,g2,g3,g4⟩:∃ fr1,ae (CC L) run k yX ⟨fr,[],[]⟩=some (.normal,⟨fr1,[],[]⟩)∧fr1.length=58∧nth fr1 0=cE c∧nth fr1 3 = .sc (.int .i64 (j:Int)):=by
  simp[yX,rkB,blk,rkO,rkC,f22,h0,h1,h3,hl,hl2,uPt,x1,x2,y1,y2,aPt,sPt,b1,b2,gt3,lt1,number,FP.free]
 refine⟨fr1,?_⟩
 rw[g1]
 simp[RF,Th,rkB,blk,rkO,rkC,f22,and_assoc,g2,g3,g4]
theorem ai8(c:List (List ByteArray))(j:Nat)(hj:j<1000)(h:RF fr c j) :
  ∃ fr',ae (CC L) run k afJ ⟨fr,[],[]⟩=some (.normal,⟨fr',[],[]⟩)∧RF fr' c (j+1):=by
 obtain⟨h0,h1,h3⟩:=h
 have hw:=bD j (by omega)
 simp only[iv] at h3
 simp[RF,afJ,rkO,rkC,f22,h0,h1,h3,hw]
theorem DP (L:Lst)(run:aw)(k:Nat)(hk:200≤k)(c:List (List ByteArray))(hF:Fit c)(g:∀ s:ByteArray,(bys s).length≤100000→az L run 23 [.sc (.string s)] (.sc (.bool (pB (IsV s))))):∀ (n j:Nat) (fr:Ψ),j+n=c.length→RF fr c j →
  (∃ fr',jV (hdL c) (c.drop j)=0∧cb (ae (CC L) run k rkO) (n+1) ⟨fr,[],[]⟩=some (.exit 0,⟨fr',[],[]⟩)∧fr'.length=58)∨∃ fr',jV (hdL c) (c.drop j)≠0∧cb (ae (CC L) run k rkO) (n+1) ⟨fr,[],[]⟩=some (.ret,⟨fr',[],[]⟩)∧nth fr' 2=iv (jV (hdL c) (c.drop j))
 | 0,j,fr,hjn,h=>by
  have e:j=c.length:=by omega
  subst e
  obtain⟨fr',q1,q2⟩:=aaM L run k fr c h
  rw[drop_length]
  exact .inl ⟨fr',rfl,bu q1,q2⟩
 | n+1,j,fr,hjn,h=>by
  have hj:j<c.length:=by omega
  have hc:0<c.length:=by omega
  have hh:hdL c=c[0].length:=by
   cases c with
   | nil=>simp at hc
   | cons p r=>rfl
  obtain⟨fr1,a1,a4⟩:=ai9 L run k fr c j hj h
  have hFp:=hF.2 c[j] (getElem_mem hj)
  have hFc:=hF.1
  rw[drop_eq_getElem_cons hj]
  have run_ret:∀ {fr'},ae (CC L) run k (.seq yX (.seq Th (.block 2 (.loop rkI)))) ⟨fr1,[],[]⟩=some (.ret,⟨fr',[],[]⟩)→cb (ae (CC L) run k rkO) (n+1+1) ⟨fr,[],[]⟩=some (.ret,⟨fr',[],[]⟩):=by
   intro fr' hr
   refine du ?_
   rw[Tg,ar a1]
   exact bO (kC hr)
  by_cases hb:c[j].length=0∨3<c[j].length∨c[j].length≠c[0].length
  ·obtain⟨fr',b1,b2⟩:=aaO L run k fr1 c j hj hc hb a4
   have hcp:sb (hdL c) c[j]=10:=by unfold sb;rw[hh,if_pos hb]
   refine .inr ⟨fr',?_,run_ret ?_,?_⟩
   ·rw[jV,hcp];simp
   ·rw[bO b1]
   ·rw[jV,hcp];exact b2
  ·have n1:c[j].length≠0:=fun e=>hb (.inl e)
   have n2 : ¬ 3<c[j].length:=fun e=>hb (.inr (.inl e))
   have n3:c[j].length=c[0].length:=Classical.byContradiction fun e=>hb (.inr (.inr e))
   obtain⟨fr3,fr4,b1,b2,b3,b6⟩:=afL L run k fr1 c j hj hc n1 n2 n3 a4
   obtain⟨fr5,d1,d2,d3⟩:=DQ L run k c j hj hFp.1 (fun s hs=>g s (hFp.2 s hs)) c[j].length 0 fr4 (by omega) b3 b6
   rw[drop_zero] at d1 d2 d3
   have hcp:sb (hdL c) c[j]=bif c[j].all (fun s=>pB (IsV s)) then 0 else 1:=by unfold sb;rw[hh,if_neg hb]
   cases hv:c[j].all (fun s=>pB (IsV s)) with
   | false =>
    rw[hv] at d1 hcp
    have d4:=d3 hv
    refine .inr ⟨fr5,?_,run_ret ?_,?_⟩
    ·rw[jV,hcp];simp
    ·rw[ar b1,ar b2]
     exact cJ (bK d1 (by omega))
    ·rw[jV,hcp];exact d4
   | true =>
    rw[hv] at d1 hcp
    have d4:=d2 hv
    obtain⟨fr6,e1,e2⟩:=ai8 L run k fr5 c j (by omega) d4
    have hgo:ae (CC L) run k rkO ⟨fr,[],[]⟩=some (.normal,⟨fr6,[],[]⟩):=by
     rw[Tg,ar a1]
     have:ae (CC L) run k (.seq yX (.seq Th (.block 2 (.loop rkI)))) ⟨fr1,[],[]⟩=some (.normal,⟨fr5,[],[]⟩):=by
      rw[ar b1,ar b2]
      exact bE (bK d1 (by omega))
     rw[ar (fF this)]
     exact e1
    have hce:jV (hdL c) (c[j]::c.drop (j+1))=jV (hdL c) (c.drop (j+1)):=by rw[jV,hcp];rfl
    rw[hce,bT hgo]
    exact DP L run k hk c hF g n (j+1) fr6 (by omega) e2
def Tf:Code:=seq1 (seq1 (ai 2 rkC))
theorem afF:ai 2 rkC = .seq (.seq Tf (.block 0 (.loop rkO))) (ai 3 rkC):=rfl
theorem aaK(c:List (List ByteArray))(h:64<c.length):∃ st,ae (CC L) run k rkC ⟨entry 58 [cE c],[],[]⟩=some (.ret,st)∧aX TT st.fr st.hp f22.results.toList=some [iv 3]:=by
 obtain⟨e1,e2⟩:=cO 57 (cE c)
 generalize entry 58 [cE c]=fr0 at *
 have hl:=eG c
 generalize c.length=m at *
 have h2:((m:Int) > 64)=True:=by simp;omega
 have h3:((64:Int)<m)=True:=by simp;omega
 simp[rkC,f22,e1,e2,hl,uCl,h2]
theorem afH (L:Lst)(run:aw)(k:Nat)(c:List (List ByteArray))(h : ¬ 64<c.length):∃ fr fr',bh (CC L) run k 2 rkC ⟨entry 58 [cE c],[],[]⟩=some ⟨fr,[],[]⟩∧ae (CC L) run k Tf ⟨fr,[],[]⟩=some (.normal,⟨fr',[],[]⟩)∧RF fr' c 0:=by
 obtain⟨e1,e2⟩:=cO 57 (cE c)
 generalize entry 58 [cE c]=fr0 at *
 have hl:=eG c
 have h2:((c.length:Int) > 64)=False:=by simp;omega
 have h3:((64:Int)<c.length)=False:=by simp;omega
 obtain⟨fr,a1,a2,a3⟩:∃ fr,bh (CC L) run k 2 rkC ⟨fr0,[],[]⟩=some ⟨fr,[],[]⟩∧fr.length=58∧nth fr 0=cE c:=by
  simp[rkC,f22,bh,e1,e2,hl,uCl,h2]
 refine⟨fr,?_⟩
 rw[a1]
 simp[RF,Tf,ai,rkC,f22,a2,a3]
theorem aaJ(h0:fr.length=58):∃ st,ae (CC L) run k (ai 3 rkC) ⟨fr,[],[]⟩=some (.ret,st)∧aX TT st.fr st.hp f22.results.toList=some [iv 0]:=by
 simp[rkC,ai,f22,h0]
theorem afG(n:Nat)(h:nth fr 2=iv n):aX TT fr [] f22.results.toList=some [iv n]:=by
 simp[f22,h]
theorem aaL(hk:200≤k)(c:List (List ByteArray))(hF:Fit c)(g:∀ s:ByteArray,(bys s).length≤100000→az L run 23 [.sc (.string s)] (.sc (.bool (pB (IsV s))))) :
  ∃ st,ae (CC L) run k rkC ⟨entry 58 [cE c],[],[]⟩=some (.ret,st)∧aX TT st.fr st.hp f22.results.toList=some [iv (chk c)]:=by
 unfold chk
 by_cases h:64<c.length
 ·rw[if_pos h];exact aaK L run k c h
 ·rw[if_neg h]
  obtain⟨fr,fr1,a1,a2,a3⟩:=afH L run k c h
  rw[aY 2 a1,afF]
  have hl:=DP L run k hk c hF g c.length 0 fr1 (by omega) a3
  rw[drop_zero] at hl
  rcases hl with ⟨fr2,h0,b1,b2⟩| ⟨fr3,b0,b1,b2⟩
  ·have:ae (CC L) run k (.seq Tf (.block 0 (.loop rkO))) ⟨fr,[],[]⟩=some (.normal,⟨fr2,[],[]⟩):=by
    rw[ar a2];exact bE (bK b1 (by have:=hF.1;omega))
   rw[ar this,h0]
   exact aaJ L run k fr2 b2
  ·have:ae (CC L) run k (.seq Tf (.block 0 (.loop rkO))) ⟨fr,[],[]⟩=some (.ret,⟨fr3,[],[]⟩):=by
    rw[ar a2];exact cJ (bK b1 (by have:=hF.1;omega))
   rw[bO this]
   exact⟨_,rfl,afG fr3 _ b2⟩
def LQ5:Lst:=[(77,Bw),(23,SZ)]
theorem Y1:dE base.P LQ5:=⟨wa,NJ,trivial⟩
theorem ll {c d:List (List ByteArray)}(h:[cE c]=[cE d]):c=d:=CD (by simpa using h)
theorem FY:Ab.Spec base.P 80 Cy:=Ab.Spec.bS (C:=CC LQ5) (cR Y1) fun args rs h=>by
 obtain⟨c,hF,rfl,rfl⟩:=db h
 obtain⟨st,x1,x2⟩:=ad7 LQ5 (runK (CC LQ5) 200) 200 (by omega) c hF (fun s h9=>CM rfl _ s h9)
 exact⟨201,_,_,_,_,_,ba GL rfl x1 x2,rfl,Wk.refl rfl,trivial⟩
theorem sX:Ab.Spec base.P 22 Cy:=Ab.Spec.bS (C:=CC LQ5) (cR Y1) fun args rs h=>by
 obtain⟨c,hF,rfl,rfl⟩:=db h
 obtain⟨st,x1,x2⟩:=aaL LQ5 (runK (CC LQ5) 200) 200 (by omega) c hF (fun s h9=>ais rfl _ s h9)
 exact⟨201,_,_,_,_,_,ba zv rfl x1 x2,rfl,Wk.refl rfl,trivial⟩
theorem qR(c:List (List ByteArray)):bw (snap hp bq) [cE c]=some ([cE c],[]):=rfl
theorem px (c:List (List ByteArray)):aK [cE c]=[cE c]:=by simp only[aK,iY]
theorem Y9 {L:Lst}(hL:bx L 80=fun a=>Cy (aK a))(run:aw)(c:List (List ByteArray))(hF:Fit c):az L run 80 [cE c] (iv (chk c)) :=
 ji NG (e:=fun c=>[cE c]) (f:=fun c=>[iv (chk c)]) hL (fun x y _ _ h=>by rw[ll h]) run c hF (qR · c) (px c)
theorem aiu {L:Lst}(hL:bx L 22=fun a=>Cy (aK a))(run:aw)(c:List (List ByteArray))(hF:Fit c):az L run 22 [cE c] (iv (chk c)) :=
 ji Dz (e:=fun c=>[cE c]) (f:=fun c=>[iv (chk c)]) hL (fun x y _ _ h=>by rw[ll h]) run c hF (qR · c) (px c)
def rc:Option Rat→Ψ
 | none=>[.sc (.bool (bz 0)),aP (aJ (Int.natAbs 0)),.sc (.bool (bz 0)),aP (aJ (Int.natAbs 0))]
 | some x=>[.sc (.bool (bz x.num)),aP (aJ x.num.natAbs),.sc (.bool (bz x.den)),aP (aJ (x.den:Int).natAbs)]
theorem zX (u:Option Rat):rv u = .agg (rc u):=by cases u <;> rfl
def rz:Ψ:=[.sc (.bool false),.sc (.slice none 0 0),.sc (.bool false),.sc (.slice none 0 0)]
theorem BU (u:Option Rat):(rc u).length=4:=by cases u <;> rfl
theorem rP:Ec 4 rc where
 len:=BU
 okc:=fun u=>by cases u <;> rfl
 can:=fun u=>by
  have h:=sh u
  rw[zX,canon] at h
  simpa using h
 idf:=fun u=>by cases u <;> rfl
 sn:=fun hp d u=>by cases u <;> rfl
def rcs (x:Rat):Ψ:=rc (some x)
theorem cB:Ec 4 rcs where
 len:=fun x=>rP.len _
 okc:=fun x=>rP.okc _
 can:=fun x=>rP.can _
 idf:=fun x=>rP.idf _
 sn:=fun hp d x=>rP.sn hp d _
theorem jR (x:Rat):rv (some x) = .agg (rcs x):=rfl
def Rp (p:PV)(u:Option Rat):Prop:=p=rv u∨(u=none∧p = .agg rz)
def Rc (cs:Ψ)(u:Option Rat):Prop:=cs=rc u∨(u=none∧cs=rz)
theorem Rc.p {cs:Ψ}{u:Option Rat}(h:Rc cs u):Rp (.agg cs) u:=by
 rcases h with rfl | ⟨rfl,rfl⟩
 ·exact .inl (zX u).symm
 ·exact .inr ⟨rfl,rfl⟩
theorem Rc.len {cs:Ψ}{u:Option Rat}(h:Rc cs u):cs.length=4:=by
 rcases h with rfl | ⟨rfl,rfl⟩
 ·exact BU u
 ·rfl
theorem Rp.snap {p:PV}{u:Option Rat}(h:Rp p u)(hp:Θ)(d:Nat):Ab.snap hp (d+2) p=some (p,[]):=by
 rcases h with rfl | ⟨rfl,rfl⟩
 ·exact Z9 hp d u
 ·rfl
theorem Rp.canon {p:PV}{u:Option Rat}(h:Rp p u):Ab.canon p=rv u:=by
 rcases h with rfl | ⟨rfl,rfl⟩
 ·exact sh u
 ·rfl
theorem Rp.wk {p:PV}{u:Option Rat}(h:Rp p u):Wk p (rv u):=by
 rcases h with rfl | ⟨rfl,rfl⟩
 ·exact Wk.refl (by cases u <;> rfl)
 ·exact Wk.agg ⟨Wk.refl rfl,Wk.nil false,Wk.refl rfl,Wk.nil false,trivial⟩
theorem Rp.KZ {p:PV}{u:Option Rat}(h:Rp p u)(hp:Θ):bw (Ab.snap hp bq) [p]=some ([p],[]):=by
 have:=h.snap hp 10
 show bw (Ab.snap hp 12) [p]=_
 simp only[bw,this];rfl
theorem Rp.aeG {p q:PV}{u v:Option Rat}(h:Rp p u)(h':Rp q v)(hp:Θ):bw (Ab.snap hp bq) [p,q]=some ([p,q],[]):=by
 have h1:=h.snap hp 10
 have h2:=h'.snap hp 10
 show bw (Ab.snap hp 12) [p,q]=_
 simp only[bw,h1,h2];rfl
theorem ic {L:Lst}{g:Nat}{f:Ψ→Option Ψ}(hs:base.shared g=false)(ho:bx L g=fun a=>f (aK a))(run:aw)(dr:Bool)(hp:Θ)(args args' rs:Ψ)
  (h1:bw (snap hp bq) args=some (args,[])) (h2:aK args=args') (h3:f args'=some rs):bP (CC L) run dr hp g args=some (jm rs,hp,⟨[],[],false,false⟩):=by
 have h4:(CC L).orc g args=some rs:=by
  show bx L g args=_
  rw[ho];show f (aK args)=_;rw[h2,h3]
 by_cases h:rs.all eh=true
 ·exact pA hs h1 h4 h
 ·exact eJ hs h1 h4 (by simpa using h)
theorem Y4 {L:Lst}(hL:bx L 87=fun a=>je (aK a))(run:aw){p q:PV}{u v:Option Rat}(hp:Rp p u)(hq:Rp q v){j k:Nat}(hu:Rb j (vv u))(hv:Rb k (vv v))(h:j+k≤1000000):az L run 87 [p,q] (rv (some (vv u+vv v))):=fun dr hh =>
 ic Lh hL run dr hh _ _ [rv (some (vv u+vv v))] (hp.aeG hq hh) (by simp only[aK,hp.canon,hq.canon]) (DY hu hv h)
theorem Y3 {L:Lst}(hL:bx L 56=fun a=>kR (aK a))(run:aw){p q:PV}{u v:Option Rat}(hp:Rp p u)(hq:Rp q v){j k:Nat}(hu:Rb j (vv u))(hv:Rb k (vv v))(h:j+k≤1000000):az L run 56 [p,q] (rv (some (vv u*vv v))):=fun dr hh =>
 ic Lg hL run dr hh _ _ [rv (some (vv u*vv v))] (hp.aeG hq hh) (by simp only[aK,hp.canon,hq.canon]) (DN hu hv h)
theorem aip {L:Lst}(hL:bx L 106=fun a=>kp (aK a))(run:aw){p:PV}{u:Option Rat}(hp:Rp p u){j:Nat}(hu:Rb j (vv u))(h:j≤1000000):az L run 106 [p] (rv (Hv u)):=fun dr hh =>
 ic Lf hL run dr hh _ _ [rv (Hv u)] (hp.KZ hh) (by simp only[aK,hp.canon]) (DM hu h)
theorem aeq {L:Lst}(hL:bx L 49=fun a=>jS (aK a))(run:aw){p:PV}{u:Option Rat}(hp:Rp p u){j:Nat}(hu:Rb j (vv u))(h:j≤1000000):az L run 49 [p] (Ab.bN (ko (vv u))):=fun dr hh =>
 ic DC hL run dr hh _ _ [Ab.bN (ko (vv u))] (hp.KZ hh) (by simp only[aK,hp.canon]) (zY hu h)
def dz (x:Bool)(X:List Rat):PV:=.imm X.length x (X.flatMap rcs)
def vR (X:List Rat):PV:=dz false X
theorem pw (x:Bool)(X:List Rat):canon (dz x X)=vR X:=cB.Yz _ x X rfl
theorem BA:und TT 84=some (.slice 72):=by kernel_rfl
theorem bR:ja TT 72=some 64:=by kernel_rfl
theorem zRz:dU TT 72=some rz:=by kernel_rfl
theorem DI:de TT 84=some 1:=by kernel_rfl
theorem YU:fR TT 84=some false:=by kernel_rfl
theorem Bg (x:Bool)(X:List Rat):(dz x X).cells?=some [dz x X]:=rfl
theorem II (x:Bool)(X:List Rat):eo (dz x X)=true:=rfl
theorem Jd (id n i:Nat)(x:Bool)(hi:i<n):bd TT 84 (.own id 4 0 n x) (.sc (.int .i64 (i:Int)))=some (.ptr id (i*4)):=by
 simp only[bd,BA,bn,sR,hi,and_self,if_true,Nat.zero_add]
theorem aeE (cs rest:Ψ)(h:cs.length=4):bF (cs++rest) 4=some cs:=by
 rw[dh (by simp;omega),← h,take_left]
theorem jT (x:Bool)(X:List Rat)(i:Nat)(hi:i<X.length):∃ r,bd TT 84 (dz x X) (.sc (.int .i64 (i:Int)))=some (.iptr r)∧bF r 4=some (rcs X[i]):=by
 refine⟨bp (X.flatMap rcs) (i*4),?_,?_⟩
 ·unfold dz
  simp only[bd,BA,bn,sR,hi,if_true]
 ·rw[mZ cB.toEl X i hi,aeE _ _ (cB.len _)]
theorem AE (A:Ψ)(m:Nat)(cs:Ψ)(h:cs.length=4)(i:Nat)(hi:A.length=i*4):ca (A++rep (m+1) rz) (i*4) cs=some ((A++cs)++rep m rz):=by
 have:=pf A (rep (m+1) rz) cs (cs++rep m rz) 0 (nZ rz cs (rep m rz) (by rw[h];rfl))
 rw[show A.length+0=i*4 by omega] at this
 rw[this,append_assoc]
theorem kh (X:List Rat):(X.flatMap rcs).length=X.length*4:=cB.length X
theorem Kx:base.F.get 59=some f59:=by kernel_rfl
theorem Sl:base.shared 59=false:=by kernel_rfl
def prC:Code:=f59.body.getD .skip
def prB:Code:=(aA prC).getD .skip
def PF (fr:Ψ)(P:List ByteArray)(i:Nat):Prop:=fr.length=26∧nth fr 3 = .own 0 4 0 P.length true∧nth fr 9=pE P∧nth fr 10=iv P.length∧nth fr 11=iv i
theorem af0(P:List ByteArray)(h:PF fr P P.length) :
  ∃ fr',ae (CC L) run k prB ⟨fr,hp,wr⟩=some (.exit 0,⟨fr',hp,wr⟩)∧fr'.length=26∧nth fr' 3 = .own 0 4 0 P.length true:=by
 obtain⟨h0,h3,h9,h10,h11⟩:=h
 simp only[iv] at h10 h11
 simp[prB,prC,f59,h0,h3,h10,h11]
set_option maxHeartbeats 1000000 in
theorem Uz(P:List ByteArray)(i m:Nat)(A:Ψ)(x:Rat)(hi:i<P.length)(h9':P.length≤1000)(hA:A.length=i*4)(g:az L run 108 [.sc (.string P[i])] (.tup [rv (some x),.sc (.bool true)]))(h:PF fr P i) :
  ∃ fr' wr',ae (CC L) run k prB ⟨fr,[⟨.live,A++rep (m+1) rz⟩],wr⟩=some (.normal,⟨fr',[⟨.live,(A++rcs x)++rep m rz⟩],wr'⟩)∧PF fr' P (i+1):=by
 obtain⟨h0,h3,h9,h10,h11⟩:=h
 obtain⟨r,x1,x2⟩:=AQ uPt P i hi
 have x3:=Jd 0 P.length i true hi
 have ho:=AE A m (rcs x) (cB.len x) i hA
 have hw:=bD i (by omega)
 have hok:=cB.okc x
 have hlen:=cB.len x
 rw[jR] at g
 unfold az at g
 generalize P[i]=s at *
 generalize rcs x=cs at *
 generalize A++rep (m+1) rz=Z at *
 simp only[iv] at h10 h11
 simp[PF,prB,prC,f59,aM,and_assoc,bm,h0,h3,h9,h10,h11,hi,x1,x2,x3,g,ho,hok,hlen,hw,pP,nt,sR,aL,cg,bm]
theorem Lt (L:Lst)(run:aw)(k:Nat)(X:List Rat)(h9:X.length≤1000)(g:∀ x ∈ X,az L run 108 [.sc (.string (qb x))] (.tup [rv (some x),.sc (.bool true)])):∀ (n i:Nat) (fr:Ψ) (wr:Ω),i+n=X.length→PF fr (X.map qb) i →
  ∃ fr' wr',cb (ae (CC L) run k prB) (n+1) ⟨fr,[⟨.live,(X.take i).flatMap rcs++rep n rz⟩],wr⟩=some (.exit 0,⟨fr',[⟨.live,X.flatMap rcs⟩],wr'⟩)∧fr'.length=26∧nth fr' 3 = .own 0 4 0 X.length true
 | 0,i,fr,wr,hin,h=>by
  have e:i=(X.map qb).length:=by simpa using hin
  rw[e] at h
  obtain⟨fr',q1,q2,q3⟩:=af0 L run k fr [⟨.live,(X.take i).flatMap rcs++rep 0 rz⟩] wr (X.map qb) h
  have e2:(X.take i).flatMap rcs++rep 0 rz=X.flatMap rcs:=by
   rw[take_of_length_le (by omega)];simp[rep]
  rw[e2] at q1 ⊢
  exact⟨fr',wr,bu q1,q2,by rw[q3];simp⟩
 | n+1,i,fr,wr,hin,h=>by
  have hi:i<X.length:=by omega
  have hi':i<(X.map qb).length:=by simpa using hi
  have hg:=g X[i] (getElem_mem hi)
  obtain⟨fr1,wr1,q1,q2⟩:=Uz L run k fr wr (X.map qb) i n ((X.take i).flatMap rcs) X[i] hi' (by simpa using h9) (by rw[kh,length_take,Nat.min_eq_left (by omega)]) (by rw[getElem_map];exact hg) h
  obtain⟨fr',wr',s1,s2⟩:=Lt L run k X h9 g n (i+1) fr1 wr1 (by omega) q2
  refine⟨fr',wr',?_,s2⟩
  rw[bT q1]
  have e:(X.take i).flatMap rcs++rcs X[i]=(X.take (i+1)).flatMap rcs:=by
   rw[take_succ_eq_append_getElem hi,flatMap_append];simp
  rw[e]
  exact s1
def abw:Code:=seq1 (seq1 (ai 2 prC))
theorem afY:ai 2 prC = .seq (.seq abw (.block 0 (.loop prB))) (ai 3 prC):=rfl
theorem afZ (L:Lst)(run:aw)(k:Nat)(P:List ByteArray)(h9:P.length≤1000) :
  ∃ fr fr' wr,bh (CC L) run k 2 prC ⟨entry 26 [pE P],[],[]⟩=some ⟨fr,[⟨.live,rep P.length rz⟩],wr⟩∧ae (CC L) run k abw ⟨fr,[⟨.live,rep P.length rz⟩],wr⟩=some (.normal,⟨fr',[⟨.live,rep P.length rz⟩],wr⟩)∧PF fr' P 0:=by
 obtain⟨e1,e2⟩:=cO 25 (pE P)
 generalize entry 26 [pE P]=fr0 at *
 have hm:P.length≤cS:=Nat.le_trans h9 (by decide)
 obtain⟨fr,wr,a1,a2,a3,a4⟩:∃ fr wr,bh (CC L) run k 2 prC ⟨fr0,[],[]⟩=some ⟨fr,[⟨.live,rep P.length rz⟩],wr⟩∧fr.length=26∧nth fr 0=pE P∧nth fr 3 = .own 0 4 0 P.length true:=by
  have hrz:rz.length=4:=rfl
  simp[prC,f59,bh,e1,e2,bn,and_assoc,eF,uPt,BA,sR,bR,zRz,hm,hrz,ch,aO]
 refine⟨fr,?_⟩
 simp only[a1]
 simp[PF,abw,ai,prC,f59,a2,a3,a4,eF,uPt]
theorem abv(p:PV)(h0:fr.length=26)(h3:nth fr 3=p):∃ st,ae (CC L) run k (ai 3 prC) ⟨fr,hp,wr⟩=some (.ret,st)∧st.hp=hp∧aX TT st.fr st.hp f59.results.toList=some [p]:=by
 simp[prC,ai,f59,h0,h3]
theorem KU(id:Nat)(x:Bool)(X:List Rat)(h:aL hp id=some ⟨.live,X.flatMap rcs⟩):bw (snap hp bq) [.own id 4 0 X.length x]=some ([dz x X],[id]):=by
 have ht:bF (bp (X.flatMap rcs) 0) (X.length*4)=some (X.flatMap rcs):=by
  have:=sE cB.toEl X []
  rw[append_nil] at this
  rw[cF,drop_zero,this]
 have h1:Ab.snap hp (11+1) (.own id 4 0 X.length x)=some (dz x X,[id]):=by
  rw[Ab.snap]
  simp only[h]
  rw[if_neg (by simp),ht]
  simp only[cB.sns hp 10 X]
  rfl
 show bw (snap hp 12) _=_
 simp only[bw,h1]
 rfl
def LR1:Lst:=[(108,rrF),(55,tU),(56,kR),(87,je),(106,kp),(49,jS),(110,FB)]
theorem yL:dE base.P LR1:=⟨vC,sQ,oY,oZ,oX,mv,PI,trivial⟩
def RbL (k:Nat)(X:List Rat):Prop:=∀ x ∈ X,Rb k x
def qL (X:List Rat):PV:=pE (X.map qb)
theorem Ux {X Y:List Rat}(h:qL X=qL Y):X=Y:=by
 have h1:=IB h
 clear h
 induction X generalizing Y with
 | nil=>cases Y with
  | nil=>rfl
  | cons b Y=>simp at h1
 | cons a X ih=>cases Y with
  | nil=>simp at h1
  | cons b Y =>
   simp only[map_cons,List.cons.injEq] at h1
   rw[tf h1.1,ih h1.2]
def xt:Ψ→Option Ψ:=ctr (fun X:List Rat=>[qL X]) (fun X=>RbL 1000 X∧X.length≤1000) fun X=>[dz true X]
theorem pY:Ab.Spec base.P 59 xt:=Ab.Spec.bS (C:=CC LR1) (cR yL) fun args rs h=>by
 obtain⟨X,⟨hb,h9⟩,rfl,rfl⟩:=db h
 have hX:(X.map qb).length=X.length:=length_map _
 obtain⟨fr,fr1,wr,a1,a2,a3⟩:=afZ LR1 (runK (CC LR1) (X.length+1)) (X.length+1) (X.map qb) (by omega)
 obtain⟨fr2,wr2,b1,b2,b3⟩:=Lt LR1 (runK (CC LR1) (X.length+1)) (X.length+1) X h9 (fun x hx=>akG rfl _ (hb x hx) (by omega)) X.length 0 fr1 wr (by omega) a3
 rw[hX] at a1 a2
 have hl:ae (CC LR1) (runK (CC LR1) (X.length+1)) (X.length+1) (.seq abw (.block 0 (.loop prB))) ⟨fr,[⟨.live,rep X.length rz⟩],wr⟩=some (.normal,⟨fr2,[⟨.live,X.flatMap rcs⟩],wr2⟩):=by
  rw[ar a2];exact bE b1
 obtain⟨st,c1,c2,c3⟩:=abv LR1 (runK (CC LR1) (X.length+1)) (X.length+1) fr2 [⟨.live,X.flatMap rcs⟩] wr2 _ b2 b3
 have hx:ae (CC LR1) (runK (CC LR1) (X.length+1)) (X.length+1) prC ⟨entry 26 [pE (X.map qb)],[],[]⟩=some (.ret,st):=by
  rw[aY 2 a1,afY,ar hl,c1]
 exact⟨_,_,_,_,[dz true X],[0],ba Kx rfl hx c3,by rw[c2];exact KU _ 0 true X rfl,Wk.refl rfl,trivial⟩
theorem sv {L:Lst}(hL:bx L 59=fun a=>xt (aK a))(run:aw)(X:List Rat)(hb:RbL 1000 X)(h9:X.length≤1000):az L run 59 [qL X] (dz true X) :=
 ji Sl (e:=fun X=>[qL X]) (f:=fun X=>[dz true X]) hL (fun x y _ _ h=>by rw[Ux (X:=x) (Y:=y) (by simpa using h)]) run X ⟨hb,h9⟩ (fun _=>rfl) (by simp only[aK,qL,F4])
end Go.Proofs.YtjdmodeenbdfpaaGreat
end
