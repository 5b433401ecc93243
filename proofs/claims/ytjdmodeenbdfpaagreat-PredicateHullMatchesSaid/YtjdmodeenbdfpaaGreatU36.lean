/- Contracts of fractions, clouds and predicates, part 36; each lemma states its conditions. -/
import Derived.Test.YtjdmodeenbdfpaaGreatU35
set_option linter.unusedSimpArgs false
set_option linter.unusedVariables false
noncomputable section
namespace Go.Proofs.YtjdmodeenbdfpaaGreat
open Go Go.Ab List Tryz
attribute [local simp] FzZ aC aF aG aH aM aV aY aa ab ae af ag ah ai aj an and_assoc aq ar au aw az ba bf bg partOf seq1 unP
variable(L:Lst)(run:av)(k:Nat)(fr:Ψ)(hp:Θ)(wr:Ω)
theorem TL {x y:Rat}(h:qt x=qt y):x=y:=by
 unfold qt at h
 simp only[PV.sc.injEq,Value.string.injEq] at h
 exact pL h
abbrev RR:=Rat × Rat
def e2q (p:RR):Ψ:=[qt p.1,qt p.2]
def ok2 (p:RR):Prop:=Rb 400000 p.1∧Rb 400000 p.2
theorem LM {p q:RR}(h:e2q p=e2q q):p=q:=by
 simp only[e2q,List.cons.injEq,and_true] at h
 exact Prod.ext (TL h.1) (TL h.2)
def LQ1:Lst:=[(65,kx),(68,tX),(69,mf),(67,zS),(122,pI),(24,wL),(111,SY),(112,ui),(48,oL)]
theorem JH:dt base.P LQ1:=⟨oK,zX,pK,zP,wM,zT,SV,Ad,tS,trivial⟩
theorem abG(s t a b:ByteArray)(g1:aA L run 122 [.sc (.string t)] (.sc (.string a)))(g2:aA L run 24 [.sc (.string s),.sc (.string a)] (.sc (.string b))) :
  ∃ st,ae (CC L) run k (f70.body.getD .skip) ⟨entry 9 [.sc (.string s),.sc (.string t)],[],[]⟩=some (.ret,st)∧aY TT st.fr st.hp f70.results.toList=some [.sc (.string b)]:=by
 obtain⟨e1,e2,e3⟩:=cb 7 (.sc (.string s)) (.sc (.string t))
 generalize entry 9 [.sc (.string s),.sc (.string t)]=fr0 at *
 unfold aA at *
 simp[f70,e1,e2,e3,g1,g2]
def mnF:Ψ→Option Ψ:=ctr e2q ok2 fun p=>[qt (p.1 - p.2)]
theorem Lf:Ab.Spec base.P 70 mnF:=Ab.Spec.bL (C:=CC LQ1) (cP JH) fun args rs h=>by
 obtain⟨⟨x,y⟩,⟨hx,hy⟩,rfl,rfl⟩:=cX h
 obtain⟨st,x1,x2⟩:=abG LQ1 (runK (CC LQ1) 1) 1 _ _ _ _ (ajI rfl _ hy (by omega)) (ajH rfl _ hx hy.neg (by omega))
 refine⟨2,_,_,_,_,_,aZ Cy rfl x1 x2,rfl,?_,trivial⟩
 show Wk (qt (x + -y)) (qt (x - y))
 rw[← Rat.sub_eq_add_neg]
 exact Wk.refl rfl
theorem XZ {L:Lst}(hL:bC L 70=fun a=>mnF (aK a))(run:av){x y:Rat}{j k:Nat}(hx:Rb j x)(hy:Rb k y)(hj:j≤400000)(hk:k≤400000):aA L run 70 [qt x,qt y] (qt (x - y)) :=
 gi G5 hL (fun p q _ _ h=>by rw[LM h]) run (x,y) ⟨hx.mono hj,hy.mono hk⟩ (fun _=>rfl) rfl
theorem WU(s t a b c d:ByteArray)(u v:Bool)(r:Int)(hs:eo .eql s { data:=#[105,110,102] } = some (.bool false))(ht:eo .eql t { data:=#[105,110,102] } = some (.bool false))(hb:eo .eql b { data:=#[49] } = some (.bool true))(hd:eo .eql d { data:=#[49] } = some (.bool true))(g1:aA L run 65 [.sc (.string s)] (.tup [.sc (.string a),.sc (.string b),.sc (.bool u)]))(g2:aA L run 65 [.sc (.string t)] (.tup [.sc (.string c),.sc (.string d),.sc (.bool v)]))
  (g3:aA L run 69 [.sc (.string a),.sc (.string c)] (Ab.bJ r)) :
  ∃ st,ae (CC L) run k (f26.body.getD .skip) ⟨entry 49 [.sc (.string s),.sc (.string t)],[],[]⟩=some (.ret,st)∧aY TT st.fr st.hp f26.results.toList=some [Ab.bJ r]:=by
 obtain⟨e1,e2,e3⟩:=cb 47 (.sc (.string s)) (.sc (.string t))
 generalize entry 49 [.sc (.string s),.sc (.string t)]=fr0 at *
 unfold aA at *
 simp only[Ab.bJ] at *
 simp[f26,e1,e2,e3,g1,g2,g3,hs,ht,hb,hd,undef]
theorem WT(s t a b c d e f:ByteArray)(u v w1 w2:Bool)(r:Int)(hs:eo .eql s { data:=#[105,110,102] } = some (.bool false))(ht:eo .eql t { data:=#[105,110,102] } = some (.bool false))(hw:(w1 && w2)=false)(hb:eo .eql b { data:=#[49] } = some (.bool w1))(hd:eo .eql d { data:=#[49] } = some (.bool w2))(g1:aA L run 65 [.sc (.string s)] (.tup [.sc (.string a),.sc (.string b),.sc (.bool u)]))(g2:aA L run 65 [.sc (.string t)] (.tup [.sc (.string c),.sc (.string d),.sc (.bool v)]))
  (g3:aA L run 68 [.sc (.string a),.sc (.string d)] (.sc (.string e))) (g4:aA L run 68 [.sc (.string c),.sc (.string b)] (.sc (.string f))) (g5:aA L run 69 [.sc (.string e),.sc (.string f)] (Ab.bJ r)) :
  ∃ st,ae (CC L) run k (f26.body.getD .skip) ⟨entry 49 [.sc (.string s),.sc (.string t)],[],[]⟩=some (.ret,st)∧aY TT st.fr st.hp f26.results.toList=some [Ab.bJ r]:=by
 obtain⟨e1,e2,e3⟩:=cb 47 (.sc (.string s)) (.sc (.string t))
 generalize entry 49 [.sc (.string s),.sc (.string t)]=fr0 at *
 unfold aA at *
 simp only[Ab.bJ] at *
 cases w1 <;> cases w2 <;> simp only[Bool.and_true,Bool.and_false,Bool.and_self,Bool.true_eq_false] at hw <;> simp[f26,e1,e2,e3,g1,g2,g3,g4,g5,hs,ht,hb,hd,undef]
def cmF:Ψ→Option Ψ:=ctr e2q ok2 fun p=>[Ab.bJ (fI p.1 p.2)]
theorem Cj:Ab.Spec base.P 26 cmF:=Ab.Spec.bL (C:=CC LQ1) (cP JH) fun args rs h=>by
 obtain⟨⟨x,y⟩,⟨hx,hy⟩,rfl,rfl⟩:=cX h
 have gx:=Mg (L:=LQ1) rfl (runK (CC LQ1) 1) hx (by omega)
 have gy:=Mg (L:=LQ1) rfl (runK (CC LQ1) 1) hy (by omega)
 have m1:=XX (L:=LQ1) rfl (runK (CC LQ1) 1) x.num y.den (hx.1.zm (by omega)) (hy.2.zm (by omega))
 have m2:=XX (L:=LQ1) rfl (runK (CC LQ1) 1) y.num x.den (hy.1.zm (by omega)) (hx.2.zm (by omega))
 cases hw:decide ((x.den:Int)=1) && decide ((y.den:Int)=1) with
 | true =>
  simp only[Bool.and_eq_true,decide_eq_true_eq] at hw
  have e:=yn x y
  rw[hw.1,hw.2,Int.mul_one,Int.mul_one] at e
  have g:=Cs (L:=LQ1) rfl (runK (CC LQ1) 1) x.num y.num (hx.1.zm (by omega)) (hy.1.zm (by omega))
  obtain⟨st,x1,x2⟩:=WU LQ1 (runK (CC LQ1) 1) 1 _ _ _ _ _ _ _ _ _ (vH x) (vH y) ((jl x.den).trans (by rw[hw.1];rfl)) ((jl y.den).trans (by rw[hw.2];rfl)) gx gy g
  refine⟨2,_,_,_,_,_,aZ yG rfl x1 x2,rfl,?_,trivial⟩
  rw[e]
  exact Wk.refl rfl
 | false =>
  have e:=yn x y
  have g:=Cs (L:=LQ1) rfl (runK (CC LQ1) 1) (x.num*y.den) (y.num*x.den) ((hx.1.mul hy.2).zm (by omega)) ((hy.1.mul hx.2).zm (by omega))
  obtain⟨st,x1,x2⟩:=WT LQ1 (runK (CC LQ1) 1) 1 _ _ _ _ _ _ _ _ _ _ _ _ _ (vH x) (vH y) hw (jl x.den) (jl y.den) gx gy m1 m2 g
  refine⟨2,_,_,_,_,_,aZ yG rfl x1 x2,rfl,?_,trivial⟩
  rw[e]
  exact Wk.refl rfl
theorem ads {L:Lst}(hL:bC L 26=fun a=>cmF (aK a))(run:av){x y:Rat}{j k:Nat}(hx:Rb j x)(hy:Rb k y)(hj:j≤400000)(hk:k≤400000):aA L run 26 [qt x,qt y] (Ab.bJ (fI x y)) :=
 gi RA hL (fun p q _ _ h=>by rw[LM h]) run (x,y) ⟨hx.mono hj,hy.mono hk⟩ (fun _=>rfl) rfl
def pB (p:Prop):Bool:=@decide p (Classical.propDecidable p)
theorem gF {p:Prop}(h:p):pB p=true:=by unfold pB;exact @decide_eq_true _ (Classical.propDecidable p) h
theorem fT {p:Prop}(h : ¬ p):pB p=false:=by unfold pB;exact @decide_eq_false _ (Classical.propDecidable p) h
theorem BS {p:Prop} : pB p=true ↔ p:=by
 constructor
 ·intro h
  by_cases hp:p
  ·exact hp
  ·rw[fT hp] at h;cases h
 ·exact gF
theorem aj8(s a b:ByteArray)(sl:Bool)(g1:aA L run 65 [.sc (.string s)] (.tup [.sc (.string a),.sc (.string b),.sc (.bool sl)]))(g2:aA L run 111 [.sc (.string a)] (.sc (.bool false))) :
  ∃ st,ae (CC L) run k (f64.body.getD .skip) ⟨entry 34 [.sc (.string s)],[],[]⟩=some (.ret,st)∧aY TT st.fr st.hp f64.results.toList=some [.sc (.bool false)]:=by
 obtain⟨e1,e2⟩:=cV 33 (.sc (.string s))
 generalize entry 34 [.sc (.string s)]=fr0 at *
 unfold aA at *
 simp[f64,e1,e2,g1,g2]
theorem aj7(s a b:ByteArray)(g1:aA L run 65 [.sc (.string s)] (.tup [.sc (.string a),.sc (.string b),.sc (.bool false)]))(g2:aA L run 111 [.sc (.string a)] (.sc (.bool true))) :
  ∃ st,ae (CC L) run k (f64.body.getD .skip) ⟨entry 34 [.sc (.string s)],[],[]⟩=some (.ret,st)∧aY TT st.fr st.hp f64.results.toList=some [.sc (.bool true)]:=by
 obtain⟨e1,e2⟩:=cV 33 (.sc (.string s))
 generalize entry 34 [.sc (.string s)]=fr0 at *
 unfold aA at *
 simp[f64,e1,e2,g1,g2]
theorem aj6(s a b:ByteArray)(g1:aA L run 65 [.sc (.string s)] (.tup [.sc (.string a),.sc (.string b),.sc (.bool true)]))(g2:aA L run 111 [.sc (.string a)] (.sc (.bool true)))(g3:aA L run 111 [.sc (.string b)] (.sc (.bool false))) :
  ∃ st,ae (CC L) run k (f64.body.getD .skip) ⟨entry 34 [.sc (.string s)],[],[]⟩=some (.ret,st)∧aY TT st.fr st.hp f64.results.toList=some [.sc (.bool false)]:=by
 obtain⟨e1,e2⟩:=cV 33 (.sc (.string s))
 generalize entry 34 [.sc (.string s)]=fr0 at *
 unfold aA at *
 simp[f64,e1,e2,g1,g2,g3,undef]
theorem aj5(s a b g:ByteArray)(c:Int)(w1 w2:Bool)(h1:eo .neq a { data:=#[48] } = some (.bool w1))(h2:eo .eql g { data:=#[49] } = some (.bool w2))(g1:aA L run 65 [.sc (.string s)] (.tup [.sc (.string a),.sc (.string b),.sc (.bool true)]))(g2:aA L run 111 [.sc (.string a)] (.sc (.bool true)))(g3:aA L run 111 [.sc (.string b)] (.sc (.bool true)))
  (g4:aA L run 69 [.sc (.string b),.sc (.string { data:=#[50] })] (Ab.bJ c)) (g5:aA L run 112 [.sc (.string a),.sc (.string b)] (.sc (.string g))) :
  ∃ st,ae (CC L) run k (f64.body.getD .skip) ⟨entry 34 [.sc (.string s)],[],[]⟩=some (.ret,st)∧aY TT st.fr st.hp f64.results.toList=some [.sc (.bool (w1 && (decide (0≤c) && w2)))]:=by
 obtain⟨e1,e2⟩:=cV 33 (.sc (.string s))
 generalize entry 34 [.sc (.string s)]=fr0 at *
 unfold aA at *
 simp only[Ab.bJ] at *
 cases w1 with
 | false=>simp[f64,e1,e2,g1,g2,g3,h1,undef]
 | true =>
  by_cases hc:0≤c
  ·have hc2:(c ≥ 0)=True:=by simp[hc]
   simp[f64,e1,e2,g1,g2,g3,g4,g5,h1,h2,hc]
  ·have hc2:(c ≥ 0)=False:=by simp only[ge_iff_le,hc]
   simp[f64,e1,e2,g1,g2,g3,g4,h1,hc,undef]
theorem XV {L:Lst}(hL:bC L 65=fun a=>kx (aK a))(run:av)(s:ByteArray)(h9:(bys s).length<20000000):aA L run 65 [.sc (.string s)] (.tup [.sc (.string (tx (spl (bys s)).1)),.sc (.string (tx (spl (bys s)).2.1)),.sc (.bool (spl (bys s)).2.2)]):=fun dr hp =>
 bq jZ hL run dr hp _ [.sc (.string (tx (spl (bys s)).1)),.sc (.string (tx (spl (bys s)).2.1)),.sc (.bool (spl (bys s)).2.2)] rfl rfl (by have:=GK (bys s) (mK s) h9;rwa [im] at this)
theorem ad1 {L:Lst}(hL:bC L 111=fun a=>SY (aK a))(run:av)(l:Ω)(hl:Bok l)(h9:l.length<20000000):aA L run 111 [.sc (.string (tx l))] (.sc (.bool (lh l))):=fun dr hp =>
 bq G6 hL run dr hp _ [.sc (.bool (lh l))] rfl rfl (by
  have:l.length.blt 20000000=true:=by rw[Nat.blt_eq];exact h9
  simp only[SY,jH hl,this,cond_true])
theorem ahi {L:Lst}(hL:bC L 112=fun a=>ui (aK a))(run:av)(x y:Int)(hx:Zm x)(hy:Zm y):aA L run 112 [zs x,zs y] (zs ((Nat.gcd x.natAbs y.natAbs:Nat):Int)):=fun dr hp =>
 bq Di hL run dr hp _ [zs ((Nat.gcd x.natAbs y.natAbs:Nat):Int)] rfl rfl (by simp only[ui,cJ x hx,cJ y hy])
def IsQ (s:ByteArray):Prop:=∃ x:Rat,s=qb x
theorem x7:∀ {l:Ω} {j:Nat},fK l=some j→l=l.take j++47::l.drop (j+1)
 | a::l,j,h=>by
  simp only[fK] at h
  cases e:a.beq 47 with
  | true =>
   rw[e] at h
   simp at h
   subst h
   rw[agK e];rfl
  | false =>
   rw[e] at h
   simp only[cond_false,Option.map_eq_some_iff] at h
   obtain⟨i,hi,rfl⟩:=h
   have:=x7 hi
   rw[take_succ_cons,drop_succ_cons,cons_append,← this]
theorem af5 {s:ByteArray}(h:lh (spl (bys s)).1=false) : ¬ IsQ s:=by
 rintro⟨x,rfl⟩
 rw[kQ,CU] at h
 cases h
theorem acd {s:ByteArray}(h0:(spl (bys s)).2.2=true)(h:lh (spl (bys s)).2.1=false) : ¬ IsQ s:=by
 rintro⟨x,rfl⟩
 rw[kQ,CU] at h
 cases h
theorem Lo {s:ByteArray}{z:Int}(h0:(spl (bys s)).2.2=false)(h:(spl (bys s)).1=ztx z):s=qb (z:Rat):=by
 unfold spl at h h0
 cases e:fK (bys s) with
 | some j=>rw[e] at h0;cases h0
 | none =>
  rw[e] at h
  simp only at h
  rw[← im s,h,qb,Rat.num_intCast,Rat.den_intCast]
  rfl
theorem EZ {s:ByteArray}{n d:Int}(h0:(spl (bys s)).2.2=true)(h1:(spl (bys s)).1=ztx n)(h2:(spl (bys s)).2.1=ztx d)(h3:2≤d)(h4:Nat.gcd n.natAbs d.natAbs=1):∃ x:Rat,s=qb x∧x.num=n∧(x.den:Int)=d:=by
 obtain⟨m,rfl⟩:=Int.eq_ofNat_of_zero_le (show 0≤d by omega)
 refine⟨⟨n,m,by omega,h4⟩,?_,rfl,rfl⟩
 unfold spl at h0 h1 h2
 cases e:fK (bys s) with
 | none=>rw[e] at h0;cases h0
 | some j =>
  rw[e] at h1 h2
  simp only at h1 h2
  rw[← im s,x7 e,h1,h2,qb,qtx,if_neg (show ¬ ((m:Nat):Int)=1 by have:(2:Int)≤(m:Int):=h3;omega)]
theorem E0 {s:ByteArray}{n d:Int}(h0:(spl (bys s)).2.2=true)(h1:(spl (bys s)).1=ztx n)(h2:(spl (bys s)).2.1=ztx d)(h:IsQ s):n≠0∧2≤d∧Nat.gcd n.natAbs d.natAbs=1:=by
 obtain⟨x,rfl⟩:=h
 rw[kQ] at h0 h1 h2
 simp only[Bool.not_eq_true',decide_eq_false_iff_not] at h0
 have e1:=qi h1
 have e2:=qi h2
 have h3:=x.den_pos
 have h4:=x.reduced
 subst e1
 rw[← e2]
 refine⟨fun e => ?_,by omega,by simpa using h4⟩
 rw[e] at h4
 simp at h4
 omega
theorem J6 {l:Ω}{z:Int}(h:l=ztx z)(h9:l.length<2000000):Zm z:=by
 unfold Zm fO
 rw[← h];omega
def isF:Ψ→Option Ψ:=ctr (fun s:ByteArray=>[.sc (.string s)]) (fun s=>(bys s).length<1000000) fun s=>[.sc (.bool (pB (IsQ s)))]
theorem afB (z:Int):eo .neq (tx (ztx z)) { data:=#[48] } = some (.bool (!decide (z=0))):=by
 have e:({ data:=#[48] } : ByteArray)=tx (ztx 0):=rfl
 rw[e,abC]
 by_cases h:z=0
 ·subst h;simp
 ·rw[decide_eq_false h,decide_eq_false fun e2=>h (qi (IH (kO z) (kO 0) e2))]
theorem aca:Ab.Spec base.P 64 isF:=Ab.Spec.bL (C:=CC LQ1) (cP JH) fun args rs h=>by
 obtain⟨s,h9,rfl,rfl⟩:=cX h
 have hl:=ve (bys s)
 have hB:=Q8 (mK s)
 have gs:=XV (L:=LQ1) rfl (runK (CC LQ1) 1) s (by omega)
 have ga:=ad1 (L:=LQ1) rfl (runK (CC LQ1) 1) (spl (bys s)).1 hB.1 (by omega)
 have gb:=ad1 (L:=LQ1) rfl (runK (CC LQ1) 1) (spl (bys s)).2.1 hB.2 (by omega)
 show ∃ k rs1 hp1 wr rs2 ids,_∧_∧WkL rs2 [.sc (.bool (pB (IsQ s)))]
 cases va:lh (spl (bys s)).1 with
 | false =>
  rw[va] at ga
  rw[fT (af5 va)]
  obtain⟨st,x1,x2⟩:=aj8 LQ1 (runK (CC LQ1) 1) 1 _ _ _ _ gs ga
  exact⟨2,_,_,_,_,_,aZ pe rfl x1 x2,rfl,Wk.refl rfl,trivial⟩
 | true =>
  rw[va] at ga
  obtain⟨n,hn⟩:=zi va
  cases hs:(spl (bys s)).2.2 with
  | false =>
   rw[hs] at gs
   rw[gF ⟨_,Lo hs hn⟩]
   obtain⟨st,x1,x2⟩:=aj7 LQ1 (runK (CC LQ1) 1) 1 _ _ _ gs ga
   exact⟨2,_,_,_,_,_,aZ pe rfl x1 x2,rfl,Wk.refl rfl,trivial⟩
  | true =>
   rw[hs] at gs
   cases vb:lh (spl (bys s)).2.1 with
   | false =>
    rw[vb] at gb
    rw[fT (acd hs vb)]
    obtain⟨st,x1,x2⟩:=aj6 LQ1 (runK (CC LQ1) 1) 1 _ _ _ gs ga gb
    exact⟨2,_,_,_,_,_,aZ pe rfl x1 x2,rfl,Wk.refl rfl,trivial⟩
   | true =>
    rw[vb] at gb
    obtain⟨d,hd⟩:=zi vb
    have zn:=J6 hn (by omega)
    have zd:=J6 hd (by omega)
    have gc:=Cs (L:=LQ1) rfl (runK (CC LQ1) 1) d 2 zd (by unfold Zm;decide)
    have gg:=ahi (L:=LQ1) rfl (runK (CC LQ1) 1) n d zn zd
    rw[hn] at gs ga
    rw[hd] at gs gb
    obtain⟨st,x1,x2⟩:=aj5 LQ1 (runK (CC LQ1) 1) 1 _ _ _ _ _ _ _ (afB n) (jl _) gs ga gb gc gg
    refine⟨2,_,_,_,_,_,aZ pe rfl x1 x2,rfl,?_,trivial⟩
    have e:pB (IsQ s)=(!decide (n=0) && (decide (0≤fX d 2) && decide (((Nat.gcd n.natAbs d.natAbs:Nat):Int)=1))):=by
     have hc:0≤fX d 2 ↔ 2≤d:=by
      unfold fX
      by_cases h1:d<2
      ·rw[if_pos h1];omega
      ·rw[if_neg h1];split <;> omega
     by_cases hq:IsQ s
     ·obtain⟨q1,q2,q3⟩:=E0 hs hn hd hq
      rw[gF hq,decide_eq_false q1,decide_eq_true (hc.2 q2),q3];rfl
     ·rw[fT hq]
      by_cases q2:2≤d
      ·by_cases q3:Nat.gcd n.natAbs d.natAbs=1
       ·obtain⟨x,hx,-⟩:=EZ hs hn hd q2 q3
        exact absurd ⟨x,hx⟩ hq
       ·have : ¬ (((Nat.gcd n.natAbs d.natAbs:Nat):Int)=1):=by omega
        rw[decide_eq_false this];simp
      ·rw[decide_eq_false fun e=>q2 (hc.1 e)];simp
    rw[e]
    exact Wk.refl rfl
theorem Bc:base.F.get 98=some f98:=by kernel_rfl
def wxC:Code:=f98.body.getD .skip
def wxO:Code:=(az (seq1 (ai 3 wxC))).getD .skip
def wxI:Code:=(az wxO).getD .skip
def blk:Code→Code
 | .block _ c=>c
 | c=>c
def aed:Code:=seq1 wxO
def aec:Code:=seq1 (aO wxO)
def Yv:Code:=seq1 (blk (seq1 (aO (aO wxO))))
def Yu:Code:=seq1 (aO (blk (seq1 (aO (aO wxO)))))
def P9:Code:=aO (aO (aO wxO))
theorem aeb:wxO = .seq aed (.seq aec (.seq (.block 1 (.seq Yv (.seq Yu (.block 2 (.loop wxI))))) P9)):=rfl
def WF (fr:Ψ)(l:Ω)(i:Nat):Prop:=fr.length=81∧nth fr 1 = .ptr 0 0∧nth fr 19=aL l∧nth fr 20=iv l.length∧nth fr 21=iv i
theorem Yw(l:Ω)(i:Nat)(h:WF fr l i)(h25:nth fr 25=iv 9) :
  ∃ fr',ae (CC L) run k wxI ⟨fr,hp,wr⟩=some (.exit 2,⟨fr',hp,wr⟩)∧WF fr' l i∧nth fr' 3=nth fr 3:=by
 obtain⟨h0,h1,h19,h20,h21⟩:=h
 simp only[iv] at h25
 simp[WF,wxI,wxO,wxC,f98,h0,h1,h19,h20,h21,h25]
set_option maxHeartbeats 1000000 in
theorem Mk(l out:Ω)(i c x:Nat)(hx:x≤4294967295)(hc:c<9)(h9:out.length<90000000)(h:WF fr l i)(h25:nth fr 25=iv c)(h5:nth fr 5 = .sc (.int .u32 (x:Int)))(hO:dw u8v 1 hp out (nth fr 3)) :
  ∃ fr' hp' wr',ae (CC L) run k wxI ⟨fr,hp,wr⟩=some (.normal,⟨fr',hp',wr'⟩)∧WF fr' l i∧nth fr' 25=iv (c+1)∧nth fr' 5 = .sc (.int .u32 ((x / 10:Nat):Int))∧dw u8v 1 hp' (out++[x % 10+48]) (nth fr' 3)∧aX hp' 0=aX hp 0:=by
 obtain⟨h0,h1,h19,h20,h21⟩:=h
 obtain⟨d,hd⟩:∃ d,d=x % 10:=⟨_,rfl⟩
 obtain⟨q,hq⟩:∃ q,q=x / 10:=⟨_,rfl⟩
 rw[← hd,← hq]
 have hd9:d<10:=by rw[hd];exact Nat.mod_lt _ (by decide)
 have hq9:q≤4294967295:=by rw[hq];exact Nat.le_trans (Nat.div_le_self _ _) hx
 have hw3:bB .u32 (q:Int)=(q:Int):=cp .u32 q (iC hq9)
 clear hx hq9
 obtain⟨b,hb⟩:∃ b,b=d+48:=⟨_,rfl⟩
 have hb9:b≤255:=by clear hd hq;omega
 rw[← hb]
 obtain⟨p',hp',fp,g1,g2,g3⟩:=hO.app b (by clear hd hq;omega)
 have g4:=g3 0 (by decide)
 have hw1:bB .u32 (48+(d:Int))=(b:Int):=by rw[show (48+(d:Int))=(b:Int) by clear hd hq;omega];exact cp .u32 b (iC (Nat.le_trans hb9 (by decide)))
 have hw2:bB .u8 (b:Int)=(b:Int):=cp .u8 b hb9
 have hw4:=bE c (Nat.lt_trans hc (by decide))
 have hc2:(c:Int)<9:=by clear hd hq;omega
 have htm:(x:Int).tmod 10=(d:Int):=by rw[hd];rfl
 have htq:(x:Int) / 10=(q:Int):=by rw[hq];rfl
 clear hd hq
 have hlX:=Lu b
 simp only[iv] at h25 ⊢
 simp[WF,wxI,wxO,wxC,f98,bj,lD,h0,h1,h19,h20,h21,h25,h5,hc2,htm,htq,u32,u8T,dF,hw1,hw2,hw3,hw4,hlX,KN,td,qp,sU8,bU8,zU8,bZ,g1,g2,g4]
theorem CK (L:Lst)(run:av)(k:Nat)(l:Ω)(i:Nat):∀ (n c x:Nat) (fr:Ψ) (hp:Θ) (wr out:Ω),c+n=9→x≤4294967295→out.length+n<90000000→WF fr l i→nth fr 25=iv c→nth fr 5 = .sc (.int .u32 (x:Int))→dw u8v 1 hp out (nth fr 3) →
  ∃ (fr':Ψ) (hp':Θ) (wr':Ω),cg (ae (CC L) run k wxI) (n+1) ⟨fr,hp,wr⟩=some (.exit 2,⟨fr',hp',wr'⟩)∧WF fr' l i∧dw u8v 1 hp' (out++(T.db n x).map (· + 48)) (nth fr' 3)∧aX hp' 0=aX hp 0
 | 0,c,x,fr,hp,wr,out,hc,hx,h9,h,h25,h5,hO=>by
  have:c=9:=by omega
  subst this
  obtain⟨fr',q1,q2,q3⟩:=Yw L run k fr hp wr l i h h25
  refine⟨fr',hp,wr,br q1,q2,?_,rfl⟩
  rw[q3]
  simpa [T.db] using hO
 | n+1,c,x,fr,hp,wr,out,hc,hx,h9,h,h25,h5,hO=>by
  obtain⟨fr1,hp1,wr1,q1,q2,q3,q4,q5,q6⟩:=Mk L run k fr hp wr l out i c x hx (by omega) (by omega) h h25 h5 hO
  obtain⟨fr',hp',wr',s1,s2,s3,s4⟩:=CK L run k l i n (c+1) (x / 10) fr1 hp1 wr1 _ (by omega) (Nat.le_trans (Nat.div_le_self _ _) hx) (by simp;omega) q2 q3 q4 q5
  refine⟨fr',hp',wr',by rw[bU q1];exact s1,s2,?_,by rw[s4,q6]⟩
  rw[append_assoc] at s3
  exact s3
theorem Pa {C:Cfg}{run:av}{k:Nat}{a b c:Code}{st st':St}(h:ae C run k (.seq a b) st=some (.normal,st')):ae C run k (.seq a (.seq b c)) st=ae C run k c st':=by
 simp only[ae] at h ⊢
 cases e:ae C run k a st with
 | none=>rw[e] at h;cases h
 | some r =>
  obtain⟨x,s⟩:=r
  rw[e] at h
  cases x with
  | normal=>simp only at h ⊢;rw[h]
  | _=>simp at h
theorem Yt(l:Ω)(h:WF fr l l.length) :
  ∃ fr',ae (CC L) run k wxO ⟨fr,hp,wr⟩=some (.exit 0,⟨fr',hp,wr⟩)∧WF fr' l l.length∧nth fr' 3=nth fr 3:=by
 obtain⟨h0,h1,h19,h20,h21⟩:=h
 simp only[iv] at h20 h21
 simp[WF,iv,wxO,wxC,f98,h0,h1,h19,h20,h21]
theorem ahx(l:Ω)(i:Nat)(hi:i<l.length)(h:WF fr l i) :
  ∃ fr1 fr',ae (CC L) run k aed ⟨fr,hp,wr⟩=some (.normal,⟨fr1,hp,wr⟩)∧ae (CC L) run k aec ⟨fr1,hp,wr⟩=some (.normal,⟨fr1,hp,wr⟩)∧ae (CC L) run k (.seq Yv Yu) ⟨fr1,hp,wr⟩=some (.normal,⟨fr',hp,wr⟩)∧WF fr' l i∧nth fr' 25=iv 0∧nth fr' 5 = .sc (.int .u32 (l[i]:Int))∧nth fr' 3=nth fr 3:=by
 obtain⟨h0,h1,h19,h20,h21⟩:=h
 have hd:=eJ l i hi
 have e1:aL l = .imm l.length false (l.map dg):=rfl
 have e2:dg l[i] = .sc (.int .u32 (l[i]:Int)):=rfl
 rw[e1] at h19
 rw[e2] at hd
 generalize l[i]=d at *
 simp only[iv] at h20 h21
 refine⟨eS fr 22 (.sc (.bool true)),?_⟩
 simp[WF,e1,iv,aed,aec,Yv,Yu,blk,aO,wxO,wxC,f98,bc,bm,h0,h1,h19,h20,h21,hi,hd,uD,s32,a32]
theorem ahw(l:Ω)(i:Nat)(hi:i<1000000)(h:WF fr l i) :
  ∃ fr',ae (CC L) run k P9 ⟨fr,hp,wr⟩=some (.normal,⟨fr',hp,wr⟩)∧WF fr' l (i+1)∧nth fr' 3=nth fr 3:=by
 obtain⟨h0,h1,h19,h20,h21⟩:=h
 have hw:=bE i (by omega)
 simp only[iv] at h20 h21
 simp[WF,iv,P9,aO,wxO,wxC,f98,h0,h1,h19,h20,h21,hw]
theorem CJ (L:Lst)(run:av)(k:Nat)(hk:10≤k)(l:Ω)(hl:Dok l)(h9:l.length<1000000):∀ (n i:Nat) (fr:Ψ) (hp:Θ) (wr out:Ω),i+n=l.length→out.length=9*i→WF fr l i→dw u8v 1 hp out (nth fr 3) →
  ∃ (fr':Ψ) (hp':Θ) (wr':Ω),cg (ae (CC L) run k wxO) (n+1) ⟨fr,hp,wr⟩=some (.exit 0,⟨fr',hp',wr'⟩)∧WF fr' l l.length∧dw u8v 1 hp' (out++((l.drop i).flatMap (T.db 9)).map (· + 48)) (nth fr' 3)∧aX hp' 0=aX hp 0
 | 0,i,fr,hp,wr,out,hin,ho,h,hO=>by
  have:i=l.length:=by omega
  subst this
  obtain⟨fr',q1,q2,q3⟩:=Yt L run k fr hp wr l h
  refine⟨fr',hp,wr,br q1,q2,?_,rfl⟩
  rw[q3]
  simpa using hO
 | n+1,i,fr,hp,wr,out,hin,ho,h,hO=>by
  have hi:i<l.length:=by omega
  obtain⟨fr1,fr2,a1,a2,a3,a4,a5,a6,a7⟩:=ahx L run k fr hp wr l i hi h
  have hd:=hl.get hi
  obtain⟨fr3,hp3,wr3,b1,b2,b3,b4⟩:=CK L run k l i 9 0 l[i] fr2 hp wr out (by omega) (by omega) (by omega) a4 a5 a6 (by rw[a7];exact hO)
  obtain⟨fr4,c1,c2,c3⟩:=ahw L run k fr3 hp3 wr3 l i (by omega) b2
  have hgo:ae (CC L) run k wxO ⟨fr,hp,wr⟩=some (.normal,⟨fr4,hp3,wr3⟩):=by
   rw[aeb,ao a1,ao a2]
   have hb1:=bD (i:=2) (bG b1 hk)
   have hb2:ae (CC L) run k (.seq Yv (.seq Yu (.block 2 (.loop wxI)))) ⟨fr1,hp,wr⟩=some (.normal,⟨fr3,hp3,wr3⟩):=by
    rw[Pa a3];exact hb1
   rw[ao (fC hb2)]
   exact c1
  obtain⟨fr',hp',wr',s1,s2,s3,s4⟩:=CJ L run k hk l hl h9 n (i+1) fr4 hp3 wr3 (out++(T.db 9 l[i]).map (· + 48)) (by omega) (by rw[length_append,length_map,T.dq];omega) c2 (by rw[c3];exact b3)
  refine⟨fr',hp',wr',by rw[bU hgo];exact s1,s2,?_,by rw[s4,b4]⟩
  rw[append_assoc] at s3
  rw[drop_eq_getElem_cons hi,flatMap_cons,map_append]
  exact s3
def wxT:Code:=(az (seq1 (ai 4 wxC))).getD .skip
theorem vB (l:Ω)(i:Nat)(h:i<l.length):(bz (l.map u8v) i).head?=some (.sc (.int .u8 (at0 l i:Int))):=by
 rw[nT l i h,de h];rfl
theorem Yq(lz:Ω)(id n:Nat)(hn:n+1≤lz.length)(hn9:n<100000000)(hz:at0 lz n≠48)(h0:fr.length=81)(h1:nth fr 1 = .ptr 0 0)(h3:nth fr 3 = .own id 1 0 (n+1) false)(hb:aX hp id=some ⟨.live,lz.map u8v⟩) :
  ∃ fr',ae (CC L) run k wxT ⟨fr,hp,wr⟩=some (.exit 4,⟨fr',hp,wr⟩)∧fr'.length=81∧nth fr' 1 = .ptr 0 0∧nth fr' 3 = .own id 1 0 (n+1) false:=by
 have hd:=vB lz n (by omega)
 have hw:bB .i64 (n:Int)=(n:Int):=cp .i64 n (hiI (by omega))
 have hz1:((at0 lz n:Int) == 48)=false:=by rw[beq_eq_false_iff_ne];omega
 generalize at0 lz n=a at *
 have hz2 : ¬ ((a:Int)=48):=by omega
 simp[wxT,wxC,f98,bM,bc,bm,jb,h0,h1,h3,hb,hd,hw,hz1,qp,sU8,a8]
theorem Mh(lz:Ω)(id n:Nat)(hn:n+1≤lz.length)(hn9:n<100000000)(hz:at0 lz n=48)(h0:fr.length=81)(h1:nth fr 1 = .ptr 0 0)(h3:nth fr 3 = .own id 1 0 (n+1) false)(hb:aX hp id=some ⟨.live,lz.map u8v⟩) :
  ∃ fr',ae (CC L) run k wxT ⟨fr,hp,wr⟩=some (.normal,⟨fr',hp,wr⟩)∧fr'.length=81∧nth fr' 1 = .ptr 0 0∧nth fr' 3 = .own id 1 0 n false:=by
 have hd:=vB lz n (by omega)
 have hw:bB .i64 (n:Int)=(n:Int):=cp .i64 n (hiI (by omega))
 rw[hz] at hd
 simp[wxT,wxC,f98,bM,bc,bm,jb,h0,h1,h3,hb,hd,hw,qp,sU8,a8,dH,jg,bnd,fG,gS]
theorem CH (L:Lst)(run:av)(k:Nat)(hp:Θ)(wr:Ω)(lz:Ω)(id:Nat)(hb:aX hp id=some ⟨.live,lz.map u8v⟩):∀ (n:Nat) (fr:Ψ),n+1≤lz.length→n<100000000→(∃ m,m<n+1∧at0 lz m≠48)→fr.length=81→nth fr 1 = .ptr 0 0→nth fr 3 = .own id 1 0 (n+1) false →
  ∃ fr' c,cg (ae (CC L) run k wxT) (n+1) ⟨fr,hp,wr⟩=some (.exit 4,⟨fr',hp,wr⟩)∧fr'.length=81∧nth fr' 1 = .ptr 0 0∧nth fr' 3 = .own id 1 0 (c+1) false∧c≤n∧at0 lz c≠48∧∀ j,c<j→j<n+1→at0 lz j=48
 | n,fr,hn,hn9,hm,h0,h1,h3=>by
  by_cases hz:at0 lz n=48
  ·obtain⟨m,hm1,hm2⟩:=hm
   cases n with
   | zero =>
    have:m=0:=by omega
    subst this
    exact absurd hz hm2
   | succ n =>
    have hmn:m≠n+1:=fun e=>hm2 (by rw[e];exact hz)
    obtain⟨fr1,q1,q2,q3,q4⟩:=Mh L run k fr hp wr lz id (n+1) hn hn9 hz h0 h1 h3 hb
    obtain⟨fr',c,s1,s2,s3,s4,s5,s6,s7⟩:=CH L run k hp wr lz id hb n fr1 (by omega) (by omega) ⟨m,by omega,hm2⟩ q2 q3 q4
    refine⟨fr',c,by rw[bU q1];exact s1,s2,s3,s4,by omega,s6,fun j hj hj2 => ?_⟩
    by_cases e:j=n+1
    ·rw[e];exact hz
    ·exact s7 j hj (by omega)
  ·obtain⟨fr',q1,q2,q3,q4⟩:=Yq L run k fr hp wr lz id n hn hn9 hz h0 h1 h3 hb
   exact⟨fr',n,br q1,q2,q3,q4,Nat.le_refl _,hz,fun j h1 h2=>by omega⟩
def wxN:Code:=seq1 (ai 5 wxC)
theorem QA(m:Bool)(l dd:Ω)(h9:l.length<90000000)(h0:fr.length=81)(h1:nth fr 1 = .ptr 0 0)(hb:aX hp 0=some ⟨.live,[.sc (.bool m),aL dd]⟩)(hO:dw u8v 1 hp l (nth fr 3)) :
  ∃ fr' hp' wr',ae (CC L) run k wxN ⟨fr,hp,wr⟩=some (.normal,⟨fr',hp',wr'⟩)∧fr'.length=81∧dw u8v 1 hp' (l++(bif m then [45] else [])) (nth fr' 3):=by
 cases m with
 | false =>
  simp[wxN,wxC,f98,bN,h0,h1,hb,hO,bz,uW,wf0,wf1,sB,aB]
 | true =>
  obtain⟨p',hp',fp,g1,g2,g3⟩:=hO.app 45 (by omega)
  have hlX:fP TT 43 1 [(0,.sc (.int .u8 45))]=some (1,[u8v 45]):=Lu 45
  simp[wxN,wxC,f98,bN,bj,lD,h0,h1,hb,hlX,KN,td,qp,sU8,bU8,zU8,bZ,g1,g2,bz,uW,wf0,wf1,sB,aB]
def wxS:Code:=(az (seq1 (ai 6 wxC))).getD .skip
def Mi:Code:=blk (seq1 (aO wxS))
theorem ahv:((Region.before (iE Mi))[13]?.getD 0).testBit 7=true:=by kernel_rfl
theorem ahu:((Region.before (iE Mi))[13]?.getD 0).testBit 11=true:=by kernel_rfl
theorem aht:((Region.before (iE Mi))[15]?.getD 0).testBit 7=true:=by kernel_rfl
theorem ahs:((Region.before (iE Mi))[15]?.getD 0).testBit 11=true:=by kernel_rfl
theorem ahr:((Region.before (iE Mi))[15]?.getD 0).testBit 13=true:=by kernel_rfl
theorem Yr(i j:Nat)(hij:j≤i+1)(h0:fr.length=81)(h6:nth fr 6=iv i)(h7:nth fr 7 = .sc (.int .i64 ((j:Int) - 1))) :
  ∃ fr',ae (CC L) run k wxS ⟨fr,hp,wr⟩=some (.exit 6,⟨fr',hp,wr⟩)∧fr'.length=81∧nth fr' 3=nth fr 3:=by
 have hlt : ¬ ((i:Int)<(j:Int) - 1):=by omega
 simp only[iv] at h6
 simp[wxS,wxC,f98,h0,h6,h7,hlt]
set_option maxHeartbeats 8000000 in
theorem Mj(lz:Ω)(id n i j:Nat)(hn9:n<100000000)(hn:n≤lz.length)(hb:aX hp id=some ⟨.live,lz.map u8v⟩)(hij:i<j)(hj:j<n)(h0:fr.length=81)(h3:nth fr 3 = .own id 1 0 n false)(h6:nth fr 6=iv i)(h7:nth fr 7 = .sc (.int .i64 (j:Int))) :
  ∃ fr' wr',ae (CC L) run k wxS ⟨fr,hp,wr⟩=some (.normal,⟨fr',cF (cF hp id ⟨.live,(lz.set i (at0 lz j)).map u8v⟩) id ⟨.live,((lz.set i (at0 lz j)).set j (at0 lz i)).map u8v⟩,wr'⟩)∧fr'.length=81∧nth fr' 3 = .own id 1 0 n false∧nth fr' 6=iv (i+1)∧nth fr' 7 = .sc (.int .i64 ((j:Int) - 1)):=by
 have hin:i<n:=by omega
 have hil:i<lz.length:=by omega
 have hjl:j<lz.length:=by omega
 have hw1:=cM j (Nat.lt_trans (Nat.lt_trans hj hn9) (by decide))
 have hwi:=bE i (Nat.lt_trans (Nat.lt_trans hin hn9) (by decide))
 have hd1:=vB lz i hil
 have hd2:=vB lz j hjl
 have hov:=nF (e:=u8v) lz i (at0 lz j) hil
 have hov2:=nF (e:=u8v) (lz.set i (at0 lz j)) j (at0 lz i) (by rw[length_set];exact hjl)
 have hsb:aX (cF hp id ⟨.live,(lz.set i (at0 lz j)).map u8v⟩) id=some ⟨.live,(lz.set i (at0 lz j)).map u8v⟩:=by rw[cN hb,if_pos rfl]
 generalize at0 lz i=a at *
 generalize at0 lz j=c at *
 have hb1:=ahv
 have hb2:=ahu
 have hb3:=aht
 have hb4:=ahs
 have hb5:=ahr
 simp[-Nat.testBit_zero,Mi,wxS,wxC,blk,f98,aO,iE] at hb1 hb2 hb3 hb4 hb5
 simp only[iv] at h6 ⊢
 simp[-Nat.testBit_zero,-map_set,hb1,hb2,hb3,hb4,hb5,wxS,wxC,f98,bc,bm,bj,FH,lD,h0,h3,h6,h7,qp,sU8,a8,hb,hsb,hij,hin,hj,hw1,hwi,hd1,hd2,hov,hov2,adD a,adD c,number,FP.free,cC,FP.apart]
end Go.Proofs.YtjdmodeenbdfpaaGreat
end
