/- Contracts of the two hulls, of the program and of the reference, part 26; each lemma states its conditions. -/
import Derived.Test.YtjdmodeenbdfpaaGreatV25
set_option linter.unusedSimpArgs false
set_option linter.unusedVariables false
noncomputable section
namespace Go.Proofs.YtjdmodeenbdfpaaGreat
open Go Go.Ab List Tryz
attribute [local simp] FzZ aF aG aH aZ ae ag ah aj an ao aq au av bf
variable(L:Lst)(run:aw)(k:Nat)(fr:Ψ)(hp:Θ)(wr:Ω)
def oE (a b:VN):Int:=if gP a.1.1 b.1.1≠0 then gP a.1.1 b.1.1 else if gP a.1.2 b.1.2≠0 then gP a.1.2 b.1.2 else (a.2:Int) - (b.2:Int)
theorem mD (x y:Rat):(x<y∧gP x y = -1)∨(x=y∧gP x y=0)∨(y<x∧gP x y=1):=by
 unfold gP
 by_cases h:x<y
 ·exact .inl ⟨h,if_pos h⟩
 ·by_cases e:x=y
  ·exact .inr (.inl ⟨e,by rw[if_neg h,if_pos e]⟩)
  ·exact .inr (.inr ⟨by grind,by rw[if_neg h,if_neg e]⟩)
theorem DX (x y:Rat):gP x y=0 ↔ x=y:=by
 rcases mD x y with ⟨h,e⟩| ⟨h,e⟩| ⟨h,e⟩ <;> rw[e] <;> constructor <;> intro k <;> first | grind | omega | rfl
theorem aeh (a b:VN):oE a b<0 ↔ lxn a b:=by
 obtain⟨⟨a1,a2⟩,n⟩:=a
 obtain⟨⟨b1,b2⟩,m⟩:=b
 unfold oE lxn lx
 simp only[PiE]
 rcases mD a1 b1 with ⟨h,e⟩| ⟨h,e⟩| ⟨h,e⟩
 ·rw[e];simp[h]
 ·rw[e]
  rcases mD a2 b2 with ⟨k,f⟩| ⟨k,f⟩| ⟨k,f⟩
  ·rw[f];simp[h,k]
  ·rw[f]
   have h1 : ¬ a1<b1:=by grind
   have h2 : ¬ a2<b2:=by grind
   simp[h,k]
   omega
  ·rw[f]
   have h1 : ¬ a1<b1:=by grind
   have h2 : ¬ a2<b2:=by grind
   have h3 : ¬ a2=b2:=by grind
   simp[h,h2,h3]
 ·rw[e]
  have h1 : ¬ a1<b1:=by grind
  have h3 : ¬ a1=b1:=by grind
  simp[h1,h3]
theorem JT:bfC = .seq (seq1 bfC) (.seq (.seq (seq1 (seq1 (aQ bfC))) (.block 0 (.loop bfB))) (aQ (aQ bfC))):=rfl
theorem ahT (L:Lst)(run:aw)(k:Nat)(X Y:PV)(i j:PV)(hX:cX X=some 2)(hcX:X.cells?=some [X]):∃ fr fr' wr,ae (CC L) run k (seq1 bfC) ⟨entry 32 [.agg [X,i],.agg [Y,j]],[],[]⟩=some (.normal,⟨fr,[⟨.live,[X,i]⟩,⟨.live,[Y,j]⟩],wr⟩)∧ae (CC L) run k (seq1 (seq1 (aQ bfC))) ⟨fr,[⟨.live,[X,i]⟩,⟨.live,[Y,j]⟩],wr⟩=some (.normal,⟨fr',[⟨.live,[X,i]⟩,⟨.live,[Y,j]⟩],wr⟩)∧fr'.length=32∧nth fr' 2 = .ptr 0 0∧nth fr' 3 = .ptr 1 0∧nth fr' 9=X∧nth fr' 10=iv 2∧nth fr' 11=iv 0:=by
 obtain⟨e1,e2,e3⟩:=cl 30 (.agg [X,i]) (.agg [Y,j])
 generalize entry 32 [.agg [X,i],.agg [Y,j]]=fr0 at *
 obtain⟨fr,wr,a1,a2,a3,a4⟩:∃ fr wr,ae (CC L) run k (seq1 bfC) ⟨fr0,[],[]⟩=some (.normal,⟨fr,[⟨.live,[X,i]⟩,⟨.live,[Y,j]⟩],wr⟩)∧fr.length=32∧nth fr 2 = .ptr 0 0∧nth fr 3 = .ptr 1 0:=by
  simp[bfC,f124,seq1,aC,aa,af,ab,and_assoc,bm,e1,e2,e3,aO]
 refine⟨fr,?_⟩
 have hb:aL [⟨.live,[X,i]⟩,⟨.live,[Y,j]⟩] 0=some ⟨.live,[X,i]⟩:=rfl
 generalize ([⟨.live,[X,i]⟩,⟨.live,[Y,j]⟩]:Θ)=hp at *
 obtain⟨fr',b1,b2,b3,b4,b5,b6,b7⟩:∃ fr',ae (CC L) run k (seq1 (seq1 (aQ bfC))) ⟨fr,hp,wr⟩=some (.normal,⟨fr',hp,wr⟩)∧fr'.length=32∧nth fr' 2 = .ptr 0 0∧nth fr' 3 = .ptr 1 0∧nth fr' 9=X∧nth fr' 10=iv 2∧nth fr' 11=iv 0:=by
  simp[iv,bfC,f124,seq1,aQ,aC,bL,partOf,aa,af,ab,bc,a2,a3,a4,hb,hX,fa0,YU,DI,BA,bp,aU]
 exact⟨fr',wr,a1,b1,b2,b3,b4,b5,b6,b7⟩
theorem aeg(X Y:PV)(m n:Nat)(hm:m<1000)(hn:n<1000)(h0:fr.length=32)(h2:nth fr 2 = .ptr 0 0)(h3:nth fr 3 = .ptr 1 0)(hb0:aL hp 0=some ⟨.live,[X,iv m]⟩)(hb1:aL hp 1=some ⟨.live,[Y,iv n]⟩):∃ st,ae (CC L) run k (aQ (aQ bfC)) ⟨fr,hp,wr⟩=some (.ret,st)∧aX TT st.fr st.hp f124.results.toList=some [.sc (.int .i64 ((m:Int) - (n:Int)))]:=by
 have hw:bA .i64 ((m:Int) - (n:Int))=(m:Int) - (n:Int):=fm _ (by omega) (by omega)
 simp only[iv] at hb0 hb1
 simp[bfC,f124,aQ,aC,partOf,aa,af,ab,bc,h0,h2,h3,hb0,hb1,hw,fa1,aI,sI,bp,aU,aX]
theorem ahU(h0:fr.length=32)(h10:nth fr 10=iv 2)(h11:nth fr 11=iv 2):∃ fr',ae (CC L) run k bfB ⟨fr,hp,wr⟩=some (.exit 0,⟨fr',hp,wr⟩):=by
 simp only[iv] at h10 h11
 simp[bfB,bfC,f124,aA,aC,aa,h0,h10,h11]
def cA (x:Bool)(z:VN):PV:=.agg (eC x z)
abbrev VN2:=VN × VN
def ajp (p:VN2):Prop:=(Rb2 1000 p.1.1∧p.1.2<1000)∧Rb2 1000 p.2.1∧p.2.2<1000
def LZv:Lst:=[(129,lU)]
theorem ah6:dE base.P LZv:=⟨ki,trivial⟩
def YP:Ψ→Option Ψ:=ctr (fun p:VN2=>[cA false p.1,cA false p.2]) ajp fun p=>[.sc (.int .i64 (oE p.1 p.2))]
theorem Gl:Ab.Spec base.P 124 YP:=Ab.Spec.bS (C:=CC LZv) (cR ah6) fun args rs h=>by
 obtain⟨⟨⟨a,m⟩,b,n⟩,⟨⟨ha,hm⟩,hb,hn⟩,rfl,rfl⟩:=db h
 dsimp only at ha hm hb hn
 obtain⟨fr,fr1,wr,a1,a2,a3,a4,a5,a6,a7,a8⟩:=ahT LZv (runK (CC LZv) 20) 20 (v2 false a) (v2 false b) (iv m) (iv n) rfl rfl
 have g0:=CN (L:=LZv) rfl (runK (CC LZv) 20) (u:=some a.1) (v:=some b.1) ha.1 hb.1 (by omega)
 have g1:=CN (L:=LZv) rfl (runK (CC LZv) 20) (u:=some a.2) (v:=some b.2) ha.2 hb.2 (by omega)
 obtain⟨fr2,hp2,wr2,b1,b2,b3,b4,b5,b6⟩:=Gj LZv (runK (CC LZv) 20) 20 fr1 [⟨.live,[v2 false a,iv m]⟩,⟨.live,[v2 false b,iv n]⟩] wr [a.1,a.2] [b.1,b.2] m n 0 (gP a.1 b.1) (by simp) (by omega) (by simp) ⟨a3,a4,a5,a6,a7,a8⟩ (by simp) rfl rfl g0
 have fin:∀ {st:St},ae (CC LZv) (runK (CC LZv) 20) 20 bfC ⟨entry 32 [cA false (a,m),cA false (b,n)],[],[]⟩=some (.ret,st)→aX TT st.fr st.hp f124.results.toList=some [.sc (.int .i64 (oE (a,m) (b,n)))]→∃ k rs1 hp1 wr rs2 ids,runK (CC LZv) k 124 [cA false (a,m),cA false (b,n)] []=some (rs1,hp1,wr)∧bw (snap hp1 bq) rs1=some (rs2,ids)∧WkL rs2 [.sc (.int .i64 (oE (a,m) (b,n)))]:=fun hx hr =>
  ⟨_,_,_,_,_,_,ba QZ rfl hx hr,rfl,Wk.refl rfl,trivial⟩
 by_cases h0:gP a.1 b.1≠0
 ·have hb0:(gP a.1 b.1 != 0)=true:=by simpa using h0
  rw[hb0,cond_true] at b1
  have hl:ae (CC LZv) (runK (CC LZv) 20) 20 (.seq (seq1 (seq1 (aQ bfC))) (.block 0 (.loop bfB))) ⟨fr,[⟨.live,[v2 false a,iv m]⟩,⟨.live,[v2 false b,iv n]⟩],wr⟩=some (.ret,⟨fr2,hp2,wr2⟩):=by
   rw[ar a2];exact cJ (du (n:=19) b1)
  refine fin (by rw[JT];exact (ar a1).trans (bO hl)) ?_
  have:oE (a,m) (b,n)=gP a.1 b.1:=by unfold oE;rw[if_pos h0]
  rw[this]
  simp[f124,aX,b2 hb0]
 ·have hb0:(gP a.1 b.1 != 0)=false:=by simpa using h0
  rw[hb0,cond_false] at b1
  obtain⟨c0,c2,c3,c9,c10,c11⟩:=b3 hb0
  obtain⟨fr3,hp3,wr3,d1,d2,d3,d4,d5,d6⟩:=Gj LZv (runK (CC LZv) 20) 20 fr2 hp2 wr2 [a.1,a.2] [b.1,b.2] m n 1 (gP a.2 b.2) (by simp) (by omega) (by simp) ⟨c0,c2,c3,c9,c10,c11⟩ b4 b5 b6 g1
  by_cases h1:gP a.2 b.2≠0
  ·have hb1:(gP a.2 b.2 != 0)=true:=by simpa using h1
   rw[hb1,cond_true] at d1
   have hl:ae (CC LZv) (runK (CC LZv) 20) 20 (.seq (seq1 (seq1 (aQ bfC))) (.block 0 (.loop bfB))) ⟨fr,[⟨.live,[v2 false a,iv m]⟩,⟨.live,[v2 false b,iv n]⟩],wr⟩=some (.ret,⟨fr3,hp3,wr3⟩):=by
    rw[ar a2];exact cJ (by rw[show (20:Nat)=18+1+1 from rfl,bT b1];exact du d1)
   refine fin (by rw[JT];exact (ar a1).trans (bO hl)) ?_
   have:oE (a,m) (b,n)=gP a.2 b.2:=by unfold oE;rw[if_neg h0,if_pos h1]
   rw[this]
   simp[f124,aX,d2 hb1]
  ·have hb1:(gP a.2 b.2 != 0)=false:=by simpa using h1
   rw[hb1,cond_false] at d1
   obtain⟨e0,e2,e3,e9,e10,e11⟩:=d3 hb1
   obtain⟨fr4,f1⟩:=ahU LZv (runK (CC LZv) 20) 20 fr3 hp3 wr3 e0 e10 e11
   have K:=bj _ f1
   have hl:ae (CC LZv) (runK (CC LZv) 20) 20 (.seq (seq1 (seq1 (aQ bfC))) (.block 0 (.loop bfB))) ⟨fr,[⟨.live,[v2 false a,iv m]⟩,⟨.live,[v2 false b,iv n]⟩],wr⟩=some (.normal,⟨fr4,hp3,wr3⟩):=by
    rw[ar a2];exact bE (by rw[show (20:Nat)=17+1+1+1 from rfl,bT b1,bT d1];exact bu f1)
   obtain⟨st,g1,g2⟩:=aeg LZv (runK (CC LZv) 20) 20 fr4 hp3 wr3 _ _ m n hm hn (K.len e0) (K.at e2) (K.at e3) d5 d6
   refine fin (by rw[JT];exact (ar a1).trans ((ar hl).trans g1)) ?_
   have:oE (a,m) (b,n)=(m:Int) - (n:Int):=by unfold oE;rw[if_neg h0,if_neg h1]
   rw[this];exact g2
theorem Yx (x:Bool)(z:VN):canon (cA x z)=cA false z:=by
 simp only[cA,eC,canon,aK,v2,pw]
 rfl
theorem YI {a b:VN}(ha:Rb2 1000 a.1)(hb:Rb2 1000 b.1)(h:cA false a=cA false b):a=b:=by
 simp only[cA,eC,PV.agg.injEq,List.cons.injEq,and_true,iv,PV.sc.injEq,Value.int.injEq,true_and] at h
 exact Prod.ext (Bz ha hb h.1) (Int.ofNat.inj h.2)
theorem akO {L:Lst}(hL:bx L 124=fun a=>YP (aK a))(run:aw)(a b:VN)(h:ajp (a,b)):az L run 124 [cA true a,cA true b] (.sc (.int .i64 (oE a b))):=fun dr hp =>
 ic aak hL run dr hp _ [cA false a,cA false b] [.sc (.int .i64 (oE a b))] rfl (by simp only[aK,Yx])
  (oB (e:=fun p:VN2=>[cA false p.1,cA false p.2]) (f:=fun p=>[.sc (.int .i64 (oE p.1 p.2))]) (fun x y hx hy h=>by
   simp only[List.cons.injEq,and_true] at h
   rw[YI hx.1.1 hy.1.1 h.1,YI hx.2.1 hy.2.1 h.2]) (x:=(a,b)) h)
def okV (z:VN):Prop:=Rb2 1000 z.1∧z.2<1000
theorem aeX {L:Lst}(hL:bx L 124=fun a=>YP (aK a))(run:aw):Bef L run okV oE:=⟨fun a b ha hb=>akO hL run a b ⟨ha,hb⟩,aeh⟩
theorem RP (a b z:P2):0<iE a b z ↔ 0<cr a b z:=by
 unfold iE cr
 rcases mD ((b.1 - a.1)*(z.2 - a.2)) ((b.2 - a.2)*(z.1 - a.1)) with ⟨h,e⟩| ⟨h,e⟩| ⟨h,e⟩ <;> rw[e] <;> constructor <;> intro k <;> first | grind | omega
theorem aiV {L:Lst}(hL:bx L 130=fun a=>abo (aK a))(run:aw):TnG L run okV fun a b z=>iE a.1 b.1 z.1:=⟨fun a b z ha hb hz dr hp =>
 ic Sj hL run dr hp _ (e3v (a.1,b.1,z.1)) [Ab.bN (iE a.1 b.1 z.1)] rfl (by simp only[aK,v2,pw];rfl)
  (oB (e:=e3v) (f:=fun p=>[Ab.bN (iE p.1 p.2.1 p.2.2)]) (fun x y hx hy h=>by
   simp only[e3v,List.cons.injEq,and_true] at h
   rw[Bz hx.1 hy.1 h.1,Bz hx.2.1 hy.2.1 h.2.1,Bz hx.2.2 hy.2.2 h.2.2]) (x:=(a.1,b.1,z.1)) ⟨ha.1,hb.1,hz.1⟩),fun a b z=>RP _ _ _⟩
theorem Jr:eqC = .seq (seq1 eqC) (.seq (seq1 (aQ eqC)) (.seq (.seq (seq1 (seq1 (aQ (aQ eqC)))) (.block 0 (.loop eqB))) (aQ (aQ (aQ eqC))))):=rfl
section
variable (L:Lst) (run:aw) (k:Nat) (fr:Ψ) (hp:Θ) (wr:Ω) (X Y:PV)
theorem alo (hX:cX X=some 2)(hY:cX Y=some 2):∃ fr fr1 fr2,ae (CC L) run k (seq1 eqC) ⟨entry 32 [X,Y,.sc (.func (.func 128) ⟨[]⟩ ⟨[]⟩)],hp,[]⟩=some (.normal,⟨fr,hp,[]⟩)∧ae (CC L) run k (seq1 (aQ eqC)) ⟨fr,hp,[]⟩=some (.normal,⟨fr1,hp,[]⟩)∧ae (CC L) run k (seq1 (seq1 (aQ (aQ eqC)))) ⟨fr1,hp,[]⟩=some (.normal,⟨fr2,hp,[]⟩)∧fr2.length=32∧nth fr2 1=Y∧nth fr2 2 = .sc (.func (.func 128) ⟨[]⟩ ⟨[]⟩)∧nth fr2 15=X∧nth fr2 16=iv 2∧nth fr2 17=iv 0:=by
 obtain⟨e1,e2,e3,e4⟩:=yh 29 X Y (.sc (.func (.func 128) ⟨[]⟩ ⟨[]⟩))
 generalize entry 32 [X,Y,.sc (.func (.func 128) ⟨[]⟩ ⟨[]⟩)]=fr0 at *
 obtain⟨fr,a1,a2,a3,a4,a5⟩:∃ fr,ae (CC L) run k (seq1 eqC) ⟨fr0,hp,[]⟩=some (.normal,⟨fr,hp,[]⟩)∧fr.length=32∧nth fr 0=X∧nth fr 1=Y∧nth fr 2 = .sc (.func (.func 128) ⟨[]⟩ ⟨[]⟩):=by
  simp[eqC,f127,seq1,aC,af,ab,e1,e2,e3,e4]
 obtain⟨fr1,b1,b2,b3,b4,b5⟩:∃ fr1,ae (CC L) run k (seq1 (aQ eqC)) ⟨fr,hp,[]⟩=some (.normal,⟨fr1,hp,[]⟩)∧fr1.length=32∧nth fr1 0=X∧nth fr1 1=Y∧nth fr1 2 = .sc (.func (.func 128) ⟨[]⟩ ⟨[]⟩):=by
  simp[eqC,f127,seq1,aQ,aC,bL,aa,af,ab,bc,a2,a3,a4,a5,hX,hY,BA]
 refine⟨fr,fr1,?_⟩
 simp only[a1,b1,true_and]
 simp[iv,eqC,f127,seq1,aQ,aC,bL,aa,af,ab,bc,b2,b3,b4,b5,hX,BA]
theorem ahp (h0:fr.length=32)(h16:nth fr 16=iv 2)(h17:nth fr 17=iv 2):∃ fr',ae (CC L) run k eqB ⟨fr,hp,wr⟩=some (.exit 0,⟨fr',hp,wr⟩):=by
 simp only[iv] at h16 h17
 simp[eqB,eqC,f127,aA,aC,aa,h0,h16,h17]
theorem eq_10 (h0:fr.length=32):∃ fr',ae (CC L) run k (aQ (aQ (aQ eqC))) ⟨fr,hp,wr⟩=some (.ret,⟨fr',hp,wr⟩)∧nth fr' 6 = .sc (.bool true):=by
 simp[eqC,f127,aQ,aC,aa,h0]
end
theorem adI {L:Lst}(hL:bx L 129=fun a=>lU (aK a))(k:Nat)(hk:3≤k)(a b:P2)(ha:Rb2 1000 a)(hb:Rb2 1000 b)(hp:Θ)(dr:Bool):bP (CC L) (runK (CC L) (k+2)) dr hp 127 [v2 true a,v2 true b,.sc (.func (.func 128) ⟨[]⟩ ⟨[]⟩)]=some (.sc (.bool (decide (a=b))),hp,⟨[],[],true,true⟩):=by
 obtain⟨fr,fr1,fr2,a1,a2,a3,a4,a5,a6,a7,a8,a9⟩:=alo L (runK (CC L) (k+1)) (k+1) hp (v2 true a) (v2 true b) rfl rfl
 have cmp:∀ (x y:Rat),Rb 1000 x→Rb 1000 y→∀ dr hp,bP (CC L) (runK (CC L) (k+1)) dr hp 128 [rv (some x),rv (some y)]=some (.sc (.bool (decide (x=y))),hp,⟨[],[],true,true⟩):=fun x y hx hy dr hp=>by
  have:=Xt L k x y (gP x y) (CN hL _ (u:=some x) (v:=some y) hx hy (by omega)) dr hp
  have e:(gP x y == 0)=decide (x=y):=by
   by_cases h:x=y
   ·rw[decide_eq_true h,(DX x y).2 h];rfl
   ·rw[decide_eq_false h]
    have:gP x y≠0:=fun k=>h ((DX x y).1 k)
    simpa using this
  rw[e] at this;exact this
 obtain⟨fr3,hp3,wr3,b1,b2,b3,b4,b5⟩:=FH L (runK (CC L) (k+1)) (k+1) fr2 hp [] true true [a.1,a.2] [b.1,b.2] 0 hp.length (decide (a.1=b.1)) (by simp) (by omega) (by simp) ⟨a4,a5,a6,a7,a8,a9⟩ (Nat.le_refl _) (Cq _) (cmp a.1 b.1 ha.1 hb.1)
 have fin:∀ {fr':Ψ} {hp':Θ} {wr':Ω},ae (CC L) (runK (CC L) (k+1)) (k+1) eqC ⟨entry 32 [v2 true a,v2 true b,.sc (.func (.func 128) ⟨[]⟩ ⟨[]⟩)],hp,[]⟩=some (.ret,⟨fr',hp',wr'⟩)→nth fr' 6 = .sc (.bool (decide (a=b)))→Hgr hp hp'→Fr hp.length wr'→bP (CC L) (runK (CC L) (k+2)) dr hp 127 [v2 true a,v2 true b,.sc (.func (.func 128) ⟨[]⟩ ⟨[]⟩)]=some (.sc (.bool (decide (a=b))),hp,⟨[],[],true,true⟩):=fun {fr' hp' wr'} hx hr hg hw =>
  qT afr (ez Zb rfl hx (show aX TT fr' hp' f127.results.toList=some [.sc (.bool (decide (a=b)))] by simp[f127,aX,hr])) rfl hg hw dr
 have e:(a=b) ↔ a.1=b.1∧a.2=b.2:=⟨fun h=>by rw[h];exact⟨rfl,rfl⟩,fun h=>Prod.ext h.1 h.2⟩
 by_cases h1:a.1=b.1
 ·rw[decide_eq_true h1,cond_true] at b1
  obtain⟨c0,c1,c2,c15,c16,c17⟩:=b3 (decide_eq_true h1)
  obtain⟨fr4,hp4,wr4,d1,d2,d3,d4,d5⟩:=FH L (runK (CC L) (k+1)) (k+1) fr3 hp3 wr3 true true [a.1,a.2] [b.1,b.2] 1 hp.length (decide (a.2=b.2)) (by simp) (by omega) (by simp) ⟨c0,c1,c2,c15,c16,c17⟩ b4.1 b5 (cmp a.2 b.2 ha.2 hb.2)
  by_cases h2:a.2=b.2
  ·rw[decide_eq_true h2,cond_true] at d1
   obtain⟨g0,g1,g2,g15,g16,g17⟩:=d3 (decide_eq_true h2)
   obtain⟨fr5,m1⟩:=ahp L (runK (CC L) (k+1)) (k+1) fr4 hp4 wr4 g0 g16 g17
   have K:=bj _ m1
   obtain⟨fr6,n1,n2⟩:=eq_10 L (runK (CC L) (k+1)) (k+1) fr5 hp4 wr4 (K.len g0)
   have hl:ae (CC L) (runK (CC L) (k+1)) (k+1) (.seq (seq1 (seq1 (aQ (aQ eqC)))) (.block 0 (.loop eqB))) ⟨fr1,hp,[]⟩=some (.normal,⟨fr5,hp4,wr4⟩):=by
    rw[ar a3]
    exact bE (bK (n:=0+1+1+1) (by rw[bT b1,bT d1];exact bu m1) (by omega))
   refine fin (by rw[Jr];exact (ar a1).trans ((ar a2).trans ((ar hl).trans n1))) ?_ (b4.trans d4) d5
   rw[n2,decide_eq_true (e.2 ⟨h1,h2⟩)]
  ·rw[decide_eq_false h2,cond_false] at d1
   have hl:ae (CC L) (runK (CC L) (k+1)) (k+1) (.seq (seq1 (seq1 (aQ (aQ eqC)))) (.block 0 (.loop eqB))) ⟨fr1,hp,[]⟩=some (.ret,⟨fr4,hp4,wr4⟩):=by
    rw[ar a3]
    exact cJ (bK (n:=0+1+1) (by rw[bT b1];exact du d1) (by omega))
   refine fin (by rw[Jr];exact (ar a1).trans ((ar a2).trans (bO hl))) ?_ (b4.trans d4) d5
   rw[d2 (decide_eq_false h2),decide_eq_false (fun h=>h2 (e.1 h).2)]
 ·rw[decide_eq_false h1,cond_false] at b1
  have hl:ae (CC L) (runK (CC L) (k+1)) (k+1) (.seq (seq1 (seq1 (aQ (aQ eqC)))) (.block 0 (.loop eqB))) ⟨fr1,hp,[]⟩=some (.ret,⟨fr3,hp3,wr3⟩):=by
   rw[ar a3]
   exact cJ (bK (n:=0+1) (du b1) (by omega))
  refine fin (by rw[Jr];exact (ar a1).trans ((ar a2).trans (bO hl))) ?_ b4 b5
  rw[b2 (decide_eq_false h1),decide_eq_false (fun h=>h1 (e.1 h).1)]
theorem aca(X Y i j:PV)(u:Bool)(hc:∀ hp,bP (CC L) run false hp 127 [X,Y,.sc (.func (.func 128) ⟨[]⟩ ⟨[]⟩)]=some (.sc (.bool u),hp,⟨[],[],true,true⟩)) :
  ∃ st,ae (CC L) run k (f126.body.getD .skip) ⟨entry 10 [.agg [X,i],.agg [Y,j]],hp,[]⟩=some (.ret,st)∧Hgr hp st.hp∧Fr hp.length st.wr∧aX TT st.fr st.hp f126.results.toList=some [.sc (.bool u)]:=by
 obtain⟨e1,e2,e3⟩:=cl 8 (.agg [X,i]) (.agg [Y,j])
 generalize entry 10 [.agg [X,i],.agg [Y,j]]=fr0 at *
 have b1:=al5 hp [X,i] [Y,j]
 have b2:=al1 (aO hp [X,i]) [Y,j]
 have b3:=Hgr.two hp [X,i] [Y,j]
 have b4:=aeY hp [X,i]
 simp[f126,aM,partOf,aa,af,ab,bc,bm,dJ,e1,e2,e3,b1,b2,b3,b4,hc,po,Cq,aU,fa0,bp,YU,DI,aX]
theorem ake {L:Lst}(hL:bx L 129=fun a=>lU (aK a))(k:Nat)(hk:3≤k):EqG L (runK (CC L) (k+3)) okV:=fun a b ha hb dr hp=>by
 obtain⟨st,x1,x2,x3,x4⟩:=aca L (runK (CC L) (k+2)) (k+2) hp (v2 true a.1) (v2 true b.1) (iv a.2) (iv b.2) (decide (a.1=b.1)) fun hp=>adI hL k hk a.1 b.1 ha.1 hb.1 hp false
 exact qT Sn (ez Ky rfl x1 x4) rfl x2 x3 dr
theorem Fj (s t:ByteArray):∃ r q,bd TT 39 (pE [s,t]) (.sc (.int .i64 0))=some (.iptr r)∧r.head?=some (.sc (.string s))∧bd TT 39 (pE [s,t]) (.sc (.int .i64 1))=some (.iptr q)∧q.head?=some (.sc (.string t)):=by
 obtain⟨r,a,b⟩:=AQ uPt [s,t] 0 (by simp)
 obtain⟨q,c,d⟩:=AQ uPt [s,t] 1 (by simp)
 exact⟨r,q,a,b,c,d⟩
def jz (p:List ByteArray):P2:=(rq (p.getD 0 ⟨#[]⟩),rq (p.getD 1 ⟨#[]⟩))
def toP (c:List (List ByteArray)):List P2:=c.map jz
theorem kB {c:List (List ByteArray)}(h:fO c=0)(hF:qz c):cE c=qP (toP c)∧(∀ i,i<(toP c).length→Rb2 61 (at2 (toP c) i))∧(toP c).length=c.length∧c.length≤64∧chk c=0∧∀ p ∈ c,p.length=2∧p=[qb (jz p).1,qb (jz p).2]∧Rb2 61 (jz p):=by
 have h0:chk c=0:=by
  unfold fO yf at h
  by_cases hc:chk c=0
  ·exact hc
  ·rw[if_neg hc] at h;exact absurd h hc
 obtain⟨e1,e2,e3,e4,e5⟩:=JE h0 hF
 have hd:c≠[]→hdL c=2:=fun hne=>by
  unfold fO yf at h
  rw[if_pos h0] at h
  cases c with
  | nil=>exact absurd rfl hne
  | cons p c =>
   dsimp only at h
   by_cases h2:p.length=2
   ·exact h2
   ·rw[if_neg h2] at h;cases h
 have hp:∀ p ∈ c,p.length=2∧p=[qb (jz p).1,qb (jz p).2]∧Rb2 61 (jz p):=fun p hp=>by
  have hne:c≠[]:=fun h=>by rw[h] at hp;cases hp
  have hc0:jV (hdL c) c=0:=by
   have:=h0
   unfold chk at this
   rw[if_neg (by omega)] at this
   exact this
  obtain⟨a1,-,-,a4,a5⟩:=MG (Cx hc0 p hp) ((hF.2 p hp).2)
  rw[hd hne] at a1
  obtain⟨x,y,rfl⟩:∃ x y,p=[x,y]:=by
   match p,a1 with
   | [x,y],_=>exact⟨x,y,rfl⟩
  refine⟨rfl,a4,a5 _ (by simp[jz]),a5 _ (by simp[jz])⟩
 refine⟨?_,fun i hi => ?_,by simp[toP],e4,h0,hp⟩
 ·unfold qP qC toP
  rw[map_map,map_map]
  congr 1
  rw[eq_comm]
  conv=>rhs;rw[← map_id c]
  refine map_congr_left fun p hp' => ?_
  exact (hp p hp').2.1.symm
 ·have hi':i<c.length:=by simpa [toP] using hi
  rw[fK hi]
  simp only[toP,getElem_map]
  exact (hp c[i] (getElem_mem _)).2.2
abbrev CPt:=List (List ByteArray) × List ByteArray
def jd (c:List (List ByteArray))(p:List ByteArray):Bool × Nat :=
 bif !decide (fO c=0) then (false,fO c) else bif !decide (p.length=2) then (false,10) else bif !(pB (IsV (p.getD 0 ⟨#[]⟩)) && pB (IsV (p.getD 1 ⟨#[]⟩))) then (false,1) else (Jf (toP c) (jz p),0)
def cpE (a:CPt):Ψ:=[cE a.1,pE a.2]
theorem WA {s:ByteArray}(h:IsV s):s=qb (rq s)∧Rb 1000 (rq s):=by
 obtain⟨x,rfl,hx⟩:=h
 rw[Ll]
 exact⟨rfl,hx⟩
theorem kN (a b p:P2):(iE a b p=0∧cr a b p=0)∨(iE a b p=1∧0<cr a b p)∨(iE a b p = -1∧cr a b p<0):=by
 unfold iE gP cr
 split
 ·refine .inr (.inr ⟨rfl,?_⟩);grind
 ·split
  ·refine .inl ⟨rfl,?_⟩;grind
  ·refine .inr (.inl ⟨rfl,?_⟩);grind
theorem yF (a b p:P2):ahV a b p=true ↔ sO a b p:=by
 have h:=kN a b p
 have hs:ko (SX a b p)≤0 ↔ SX a b p≤0:=by
  rw[← afN]
  unfold gP
  generalize SX a b p=z
  by_cases h1:z<0
  ·rw[if_pos h1];grind
  ·rw[if_neg h1]
   by_cases h2:z=0
   ·rw[if_pos h2];grind
   ·rw[if_neg h2];grind
 unfold ahV sO
 rw[Bool.and_eq_true,decide_eq_true_iff,decide_eq_true_iff,hs]
 unfold SX
 rcases h with ⟨h1,h2⟩| ⟨h1,h2⟩| ⟨h1,h2⟩
 ·simp[h1,h2]
 ·simp[h1];grind
 ·simp[h1];grind
theorem C9 (a b c p:P2):afm (iE a b p) (iE b c p) (iE c a p)=true ↔ pR a b c p:=by
 have h1:=kN a b p
 have h2:=kN b c p
 have h3:=kN c a p
 unfold pR afm
 rcases h1 with ⟨h1,k1⟩| ⟨h1,k1⟩| ⟨h1,k1⟩ <;> rcases h2 with ⟨h2,k2⟩| ⟨h2,k2⟩| ⟨h2,k2⟩ <;> rcases h3 with ⟨h3,k3⟩| ⟨h3,k3⟩| ⟨h3,k3⟩ <;> rw[h1,h2,h3] <;> simp <;> grind
theorem nL {a b c p:P2}(h:pR a b c p):pR b c a p:=by
 unfold pR at *
 grind
theorem sC {a b c p:P2}(h:pR a b c p):pR b a c p:=by
 unfold pR cr at *
 grind
theorem BC {a b c p:P2}(h:pR a b c p):a≠b:=fun e=>by
 subst e
 unfold pR cr at h
 grind
theorem xW {X:List P2}{p:P2} : aio X p ↔ InV (fun q=>q ∈ X) p:=by
 constructor
 ·rintro⟨i,j,hij,hj,h⟩
  have hi:i<X.length:=by omega
  have mi:at2 X i ∈ X:=by rw[fK hi];exact getElem_mem hi
  have mj:at2 X j ∈ X:=by rw[fK hj];exact getElem_mem hj
  rcases h with h | ⟨n,hn,hn',h⟩
  ·exact⟨_,_,mi,mj,.inl ((yF _ _ _).1 h)⟩
  ·have mn:at2 X n ∈ X:=by rw[fK hn'];exact getElem_mem hn'
   exact⟨_,_,mi,mj,.inr ⟨_,mn,(C9 _ _ _ _).1 h⟩⟩
 ·rintro⟨a,b,ha,hb,h⟩
  obtain⟨i,hi,rfl⟩:=getElem_of_mem ha
  obtain⟨j,hj,rfl⟩:=getElem_of_mem hb
  rcases h with h | ⟨c,hc,h⟩
  ·by_cases hij:i≤j
   ·exact⟨i,j,hij,hj,.inl ((yF _ _ _).2 (by rw[fK hi,fK hj];exact h))⟩
   ·exact⟨j,i,by omega,hi,.inl ((yF _ _ _).2 (by rw[fK hi,fK hj];exact h.symm))⟩
  ·obtain⟨n,hn,rfl⟩:=getElem_of_mem hc
   have n1:i≠j:=fun e=>by subst e;exact BC h rfl
   have n2:j≠n:=fun e=>by subst e;exact BC (nL h) rfl
   have n3:n≠i:=fun e=>by subst e;exact BC (nL (nL h)) rfl
   have mk:∀ {i j n:Nat} (hi:i<X.length) (hj:j<X.length) (hn:n<X.length),i<j→j<n→pR X[i] X[j] X[n] p→aio X p:=fun {i j n} hi hj hn h1 h2 h=>⟨i,j,by omega,hj,.inr ⟨n,h2,hn,(C9 _ _ _ _).2 (by rw[fK hi,fK hj,fK hn];exact h)⟩⟩
   have r1:=nL h
   have r2:=nL r1
   rcases Nat.lt_or_ge i j with l1 | l1
   ·rcases Nat.lt_or_ge j n with l2 | l2
    ·exact mk hi hj hn l1 l2 h
    ·rcases Nat.lt_or_ge i n with l3 | l3
     ·exact mk hi hn hj l3 (by omega) (sC r2)
     ·exact mk hn hi hj (by omega) l1 r2
   ·rcases Nat.lt_or_ge i n with l2 | l2
    ·exact mk hj hi hn (by omega) l2 (sC h)
    ·rcases Nat.lt_or_ge j n with l3 | l3
     ·exact mk hj hn hi l3 (by omega) r1
     ·exact mk hn hj hi (by omega) (by omega) (sC r1)
theorem yP:base.F.get 28=some f28:=by kernel_rfl
theorem Sv:base.shared 28=false:=by kernel_rfl
theorem ahX (x:Bool)(z:VN):eK TT 102 [(0,v2 x z.1),(1,.sc (.int .i64 (z.2:Int)))]=some (.agg (eC x z)):=by
 obtain⟨⟨a,b⟩,n⟩:=z
 unfold eC iv v2 dz
 dsimp only
 generalize ([a,b]:List Rat).flatMap rcs=cs
 generalize ([a,b]:List Rat).length=m
 generalize (n:Int)=z
 kernel_rfl
def hlC:Code:=f28.body.getD .skip
def hlT:Code:=aQ (aQ hlC)
def hlB:Code:=(aA hlC).getD .skip
def hlU:Code:=aQ (aQ hlT)
def hlD:Code:=(aA hlU).getD .skip
def hlX:Code:=blk (seq1 (aQ (aQ hlB)))
def hlY:Code:=blk (seq1 (aQ (aQ hlD)))
theorem WL:hlC = .seq (seq1 hlC) (.seq (seq1 (aQ hlC)) (.seq (seq1 hlT) (.seq (.seq (seq1 (seq1 (aQ hlT))) (.block 0 (.loop hlB))) (.seq (seq1 hlU) (.seq (.seq (seq1 (seq1 (aQ hlU))) (.block 2 (.loop hlD))) (aQ (aQ hlU))))))):=rfl
theorem WM:hlB = .seq (seq1 hlB) (.seq (.cond (.tmp 19) .skip (.exit 0)) (.seq (.block 1 hlX) (aQ (aQ (aQ hlB))))):=rfl
theorem WK:hlD = .seq (seq1 hlD) (.seq (.cond (.tmp 35) .skip (.exit 2)) (.seq (.block 3 hlY) (aQ (aQ (aQ hlD))))):=rfl
section
variable (L:Lst) (run:aw) (k:Nat) (fr:Ψ) (hp:Θ) (wr:Ω)
theorem ag8 (c:List (List ByteArray))(e:Nat)(g:az L run 71 [cE c] (iv e)) :
  (e≠0→∃ st,ae (CC L) run k hlC ⟨entry 45 [cE c],[],[]⟩=some (.ret,st)∧aX TT st.fr st.hp f28.results.toList=some [.sc (.slice none 0 0),iv e]) ∧
  (e=0→∃ fr0 fr1 fr2,ae (CC L) run k (seq1 hlC) ⟨entry 45 [cE c],[],[]⟩=some (.normal,⟨fr0,[],[]⟩)∧ae (CC L) run k (seq1 (aQ hlC)) ⟨fr0,[],[]⟩=some (.normal,⟨fr1,[],[]⟩)∧ae (CC L) run k (seq1 hlT) ⟨fr1,[],[]⟩=some (.normal,⟨fr2,[],[]⟩)∧fr2.length=45∧nth fr2 0=cE c∧nth fr2 5 = .sc (.slice none 0 0)):=by
 obtain⟨e1,e2⟩:=cO 44 (cE c)
 generalize entry 45 [cE c]=fr0 at *
 generalize cE c=C at *
 obtain⟨fr1,a1,a2,a3⟩:∃ fr1,ae (CC L) run k (seq1 hlC) ⟨fr0,[],[]⟩=some (.normal,⟨fr1,[],[]⟩)∧fr1.length=45∧nth fr1 0=C:=by
  simp[hlC,f28,seq1,aC,af,ab,e1,e2]
 unfold az at g
 simp only[iv] at g
 constructor
 ·intro he
  have hb:(((e:Nat):Int) != 0)=true:=by simpa using he
  obtain⟨st,b1,b2⟩:∃ st,ae (CC L) run k (seq1 (aQ hlC)) ⟨fr1,[],[]⟩=some (.ret,st)∧aX TT st.fr st.hp f28.results.toList=some [.sc (.slice none 0 0),iv e]:=by
   simp[iv,hlC,f28,seq1,aQ,aM,aC,aa,af,ab,a2,a3,g,hb,aX]
  exact⟨st,by rw[WL];exact (ar a1).trans (bO b1),b2⟩
 ·rintro rfl
  obtain⟨fr2,b1,b2,b3⟩:∃ fr2,ae (CC L) run k (seq1 (aQ hlC)) ⟨fr1,[],[]⟩=some (.normal,⟨fr2,[],[]⟩)∧fr2.length=45∧nth fr2 0=C:=by
   simp[hlC,f28,seq1,aQ,aM,aC,aa,af,ab,a2,a3,g]
  refine⟨fr1,fr2,?_⟩
  simp only[a1,b1,true_and]
  simp[hlT,hlC,f28,seq1,aQ,aC,aa,af,ab,b2,b3]
theorem ali (p:PV)(n:Nat)(hl:cX p=some n)(h0:fr.length=45)(h00:nth fr 0=p):∃ fr',ae (CC L) run k (seq1 (seq1 (aQ hlT))) ⟨fr,hp,wr⟩=some (.normal,⟨fr',hp,wr⟩)∧nth fr' 16=p∧nth fr' 17=iv n∧nth fr' 18=iv 0:=by
 simp[iv,hlT,hlC,f28,seq1,aQ,aC,bL,aa,af,ab,bc,h0,h00,hl,uCl]
theorem aj0 (i n:Nat)(h0:fr.length=45)(h17:nth fr 17=iv n)(h18:nth fr 18=iv i):∃ fr',ae (CC L) run k (seq1 hlB) ⟨fr,hp,wr⟩=some (.normal,⟨fr',hp,wr⟩)∧nth fr' 19 = .sc (.bool (decide (i<n))):=by
 obtain⟨u,hu⟩:∃ u,decide (i<n)=u:=⟨_,rfl⟩
 rw[hu]
 simp only[iv] at h17 h18
 cases u <;> simp only[decide_eq_true_eq,decide_eq_false_iff_not] at hu <;> simp[hlB,hlC,f28,aA,seq1,aC,aa,h0,h17,h18,hu]
theorem alh (i:Nat)(h9:i<1000)(h0:fr.length=45)(h18:nth fr 18=iv i):∃ fr',ae (CC L) run k (aQ (aQ (aQ hlB))) ⟨fr,hp,wr⟩=some (.normal,⟨fr',hp,wr⟩)∧nth fr' 18=iv (i+1):=by
 have hw:=bD i (by omega)
 simp only[iv] at h18
 simp[iv,hlB,hlC,f28,aA,aQ,aC,aa,ab,h0,h18,hw]
theorem aj4 (h0:fr.length=45):∃ fr',ae (CC L) run k (seq1 hlU) ⟨fr,hp,wr⟩=some (.normal,⟨fr',hp,wr⟩)∧nth fr' 8 = .sc (.slice none 0 0):=by
 simp[hlU,hlT,hlC,f28,seq1,aQ,aC,aa,h0]
theorem aj3 (p r:PV)(n:Nat)(hp':Θ)(fp:FP)(hc:bP (CC L) run false hp 72 [p]=some (r,hp',fp))(hl:cX r=some n)(h0:fr.length=45)(h5:nth fr 5=p):∃ fr' wr',ae (CC L) run k (seq1 (seq1 (aQ hlU))) ⟨fr,hp,wr⟩=some (.normal,⟨fr',hp',wr'⟩)∧nth fr' 32=r∧nth fr' 33=iv n∧nth fr' 34=iv 0:=by
 simp[iv,hlU,hlT,hlC,f28,seq1,aQ,aM,aC,bL,aa,af,ab,bc,and_assoc,h0,h5,hc,hl,kK]
theorem aeT (i n:Nat)(h0:fr.length=45)(h33:nth fr 33=iv n)(h34:nth fr 34=iv i):∃ fr',ae (CC L) run k (seq1 hlD) ⟨fr,hp,wr⟩=some (.normal,⟨fr',hp,wr⟩)∧nth fr' 35 = .sc (.bool (decide (i<n))):=by
 obtain⟨u,hu⟩:∃ u,decide (i<n)=u:=⟨_,rfl⟩
 rw[hu]
 simp only[iv] at h33 h34
 cases u <;> simp only[decide_eq_true_eq,decide_eq_false_iff_not] at hu <;> simp[hlD,hlU,hlT,hlC,f28,aA,seq1,aQ,aC,aa,h0,h33,h34,hu]
theorem aj2 (i:Nat)(h9:i<1000)(h0:fr.length=45)(h34:nth fr 34=iv i):∃ fr',ae (CC L) run k (aQ (aQ (aQ hlD))) ⟨fr,hp,wr⟩=some (.normal,⟨fr',hp,wr⟩)∧nth fr' 34=iv (i+1):=by
 have hw:=bD i (by omega)
 simp only[iv] at h34
 simp[iv,hlD,hlU,hlT,hlC,f28,aA,aQ,aC,aa,ab,h0,h34,hw]
theorem aj1 (q:PV)(h0:fr.length=45)(h8:nth fr 8=q):∃ st,ae (CC L) run k (aQ (aQ hlU)) ⟨fr,hp,wr⟩=some (.ret,st)∧st.hp=hp∧aX TT st.fr st.hp f28.results.toList=some [q,iv 0]:=by
 simp[iv,hlU,hlT,hlC,f28,aQ,aC,aa,af,ab,h0,h8,aX]
end
def CrA (b:Nat)(hp:Θ)(l:List VN)(q:PV):Prop:=da 2 (eC true) b hp l q∨∃ z,l=[z]∧q = .imm 1 true (eC true z)∧b≤hp.length
theorem CrA.app {b:Nat}{hp:Θ}{l:List VN}{q:PV}(h:CrA b hp l q)(z:VN)(h9:l.length<1000):∃ p' hp' fp,cU hp 2 q 1 (eC true z)=some (p',hp',fp)∧da 2 (eC true) b hp' (l++[z]) p'∧(∀ i,i<b→aL hp' i=aL hp i)∧hp.length≤hp'.length:=by
 rcases h with h | ⟨y,rfl,rfl,hb⟩
 ·have:=h.app (Cs true) [z] (by simp) (by simp;omega)
  simpa using this
 ·refine⟨.own hp.length 2 0 2 false,aO hp (eC true y++eC true z),_,rfl,⟨by simp[aO];omega,.inr ⟨hp.length,[],false,hb,by simp[aO],rfl,nofun,?_⟩⟩,fun i hi => ?_,by simp[aO]⟩
  ·rw[bH,if_pos rfl];simp
  ·rw[bH,if_neg (by omega)]
theorem alg(b:Nat)(X:List P2)(i:Nat)(l:List VN)(q:PV)(hi:i<X.length)(h9:l.length<1000)(hO:CrA b hp l q)(g:az L run 59 [q2 (at2 X i)] (v2 true (at2 X i)))(h0:fr.length=45)(h5:nth fr 5=q)(h16:nth fr 16=qP X)(h18:nth fr 18=iv i):∃ fr' hp' wr',ae (CC L) run k hlX ⟨fr,hp,wr⟩=some (.normal,⟨fr',hp',wr'⟩)∧da 2 (eC true) b hp' (l++[(at2 X i,i)]) (nth fr' 5)∧(∀ j,j<b→aL hp' j=aL hp j):=by
 obtain⟨r,x1,x2⟩:=LW uCl X i hi
 obtain⟨p',hp',fp,a1,a2,a3,-⟩:=hO.app (at2 X i,i) h9
 have hbd:=ahX true (at2 X i,i)
 have l1:=LQ (at2 X i,i)
 have r1:=fun hp=>afM hp (at2 X i,i)
 have k1:bg (eC true (at2 X i,i))=true:=rfl
 have i1:bV (eC true (at2 X i,i))=true:=rfl
 have zz:dU TT 102=some zC:=GN
 have hz:zC.length=2:=rfl
 dsimp only at hbd
 generalize eC true (at2 X i,i)=cz at *
 unfold az at g
 generalize v2 true (at2 X i)=V at *
 generalize q2 (at2 X i)=Q at *
 simp only[iv] at h18
 simp[hlX,blk,hlB,hlC,f28,aA,seq1,aQ,aM,aC,partOf,aa,af,ab,bc,and_assoc,h0,h5,h16,h18,x1,x2,g,hbd,l1,r1,k1,i1,zz,hz,a1,a2,kK,nI,aPt,sPt,ahZ,ch,aU]
 exact a3
theorem alf(b oid:Nat)(x:Bool)(O:List VN)(M:Ψ)(l:List Int)(q:PV)(i:Nat)(hi:i<O.length)(h9:l.length<1000)(hO:da 1 ei b hp l q)(hob:oid<b)(hb:aL hp oid=some ⟨.live,cells O M⟩)(h0:fr.length=45)(h8:nth fr 8=q)(h32:nth fr 32 = .own oid 2 0 O.length x)(h34:nth fr 34=iv i):∃ fr' hp' wr',ae (CC L) run k hlY ⟨fr,hp,wr⟩=some (.normal,⟨fr',hp',wr'⟩)∧da 1 ei b hp' (l++[Int.ofNat O[i].2]) (nth fr' 8)∧(∀ j,j<b→aL hp' j=aL hp j):=by
 have q1:=kH O M i hi
 have x1:=rI oid O.length i x hi
 have a1:=al1 hp zC
 have o1:ca zC 0 (eC true O[i])=some (eC true O[i]):=rfl
 have l1:(eC true O[i]).length=2:=rfl
 have k1:bg (eC true O[i])=true:=rfl
 have zz:dU TT 102=some zC:=GN
 have n1:=al2 hp zC ⟨.live,eC true O[i]⟩
 have hG:=Hgr.acp hp zC ⟨.live,eC true O[i]⟩
 obtain⟨hp1,e1⟩:∃ h,cg (aO hp zC) hp.length ⟨.live,eC true O[i]⟩=h:=⟨_,rfl⟩
 rw[e1] at n1 hG
 have hO1:=da.gr2 hO hG
 obtain⟨p',hp',fp,y1,y2,y3,-⟩:=hO1.app PQ.toEl [Int.ofNat O[i].2] (by simp) (by simp;omega)
 have hbl:=hO.1
 have e2:[Int.ofNat O[i].2].flatMap ei=[iv O[i].2]:=rfl
 rw[e2,show [Int.ofNat O[i].2].length=1 from rfl] at y1
 have hlit:=nG O[i].2
 have hrd:∀ hp v,fW hp 1 (.imm 1 true [v])=some (1,[v],[]):=ajb
 have hd:(bp (eC true O[i]) 1).head?=some (iv O[i].2):=rfl
 have hok:eo (iv O[i].2)=true:=rfl
 have hid:(iv O[i].2).cH=true:=rfl
 generalize iv O[i].2=N at *
 generalize eC true O[i]=ci at *
 generalize Int.ofNat O[i].2=Z at *
 simp only[iv] at h34
 simp[hlY,blk,hlD,hlU,hlT,hlC,f28,aA,seq1,aQ,aC,partOf,aa,af,ab,bc,and_assoc,bm,bg,h0,h8,h32,h34,x1,hb,q1,a1,o1,l1,k1,zz,e1,n1,y1,y2,hlit,hrd,hd,hok,hid,fa1,kM,bI,zI,zp,nI,aI,sI,ch,bV,aU]
 exact fun j hj=>(y3 j hj).trans (hG.2 j (by omega))
theorem ajZ {L:Lst}{run:aw}{k:Nat}(X:List P2)(hX:X.length<900)(hk:X.length<k)(g:∀ i,i<X.length→az L run 59 [q2 (at2 X i)] (v2 true (at2 X i)))(fr:Ψ)(wr:Ω)(h0:fr.length=45)(h5:nth fr 5 = .sc (.slice none 0 0))(h16:nth fr 16=qP X)(h17:nth fr 17=iv X.length)(h18:nth fr 18=iv 0) :
  ∃ st,ae (CC L) run k (.block 0 (.loop hlB)) ⟨fr,[],wr⟩=some (.normal,st)∧da 2 (eC true) 0 st.hp X.zipIdx (nth st.fr 5)∧(X=[]→nth st.fr 5 = .sc (.slice none 0 0)):=by
 have zt:∀ i,i<X.length→X.zipIdx.take (i+1)=X.zipIdx.take i++[(at2 X i,i)]:=fun i hi=>by
  rw[take_succ_eq_append_getElem (by simpa using hi),getElem_zipIdx,fK hi,Nat.zero_add]
 obtain⟨st,a1,a2⟩:=ow (C:=CC L) (run:=run) (k:=k) (e:=0) (b:=hlB) (n:=X.length) (st:=⟨fr,[],wr⟩)
  (Inv:=fun i st=>eL (dp hlB) fr st.fr∧nth st.fr 18=iv i∧da 2 (eC true) 0 st.hp (X.zipIdx.take i) (nth st.fr 5)∧(i=0→nth st.fr 5 = .sc (.slice none 0 0)))
  (Q:=fun st=>da 2 (eC true) 0 st.hp X.zipIdx (nth st.fr 5)∧(X=[]→nth st.fr 5 = .sc (.slice none 0 0))) hk
  (fun i st hi ⟨iK,i18,iO,iZ⟩=>by
   obtain⟨fr0,hp0,wr0⟩:=st
   dsimp only at iK i18 iO iZ
   have l0:=iK.len h0
   obtain⟨fr1,b1,b2⟩:=aj0 L run k fr0 hp0 wr0 i X.length l0 (iK.at h17) i18
   rw[decide_eq_true hi] at b2
   have K1:=bj _ b1
   have e5:nth fr1 5=nth fr0 5:=K1.at rfl
   rw[← e5] at iO
   obtain⟨fr2,hp2,wr2,c1,c2,-⟩:=alg L run k fr1 hp0 wr0 0 X i _ _ hi (by rw[length_take];omega) (.inl iO) (g i hi) (K1.len l0) rfl (K1.at (iK.at h16)) (K1.at i18)
   have K2:=bj _ c1
   have c1':ae (CC L) run k (.block 1 hlX) ⟨fr1,hp0,wr0⟩=some (.normal,⟨fr2,hp2,wr2⟩):=by simp only[ae,c1]
   obtain⟨fr3,d1,d2⟩:=alh L run k fr2 hp2 wr2 i (by omega) (K2.len (K1.len l0)) (K2.at (K1.at i18))
   have K3:=bj _ d1
   have x3:ae (CC L) run k (.cond (.tmp 19) .skip (.exit 0)) ⟨fr1,hp0,wr0⟩=some (.normal,⟨fr1,hp0,wr0⟩):=by simp[b2]
   have hr:ae (CC L) run k hlB ⟨fr0,hp0,wr0⟩=some (.normal,⟨fr3,hp2,wr2⟩):=by
    rw[WM,ar b1,ar x3,ar c1',d1]
   exact⟨_,hr,iK.trans (bj _ hr),d2,by
    show da 2 (eC true) 0 hp2 _ (nth fr3 5)
    rw[zt i hi,K3.at rfl];exact c2,fun h=>by omega⟩)
  (fun st ⟨iK,i18,iO,iZ⟩=>by
   obtain⟨fr0,hp0,wr0⟩:=st
   dsimp only at iK i18 iO iZ
   obtain⟨fr1,b1,b2⟩:=aj0 L run k fr0 hp0 wr0 X.length X.length (iK.len h0) (iK.at h17) i18
   rw[decide_eq_false (by omega)] at b2
   have K1:=bj _ b1
   refine⟨⟨fr1,hp0,wr0⟩,?_,?_,fun h=>(K1.at rfl:nth fr1 5=nth fr0 5).trans (iZ (by rw[h];rfl))⟩
   ·have x3:ae (CC L) run k (.cond (.tmp 19) .skip (.exit 0)) ⟨fr1,hp0,wr0⟩=some (.exit 0,⟨fr1,hp0,wr0⟩):=by simp[b2]
    rw[WM,ar b1,ae,x3]
   ·rw[take_of_length_le (by simp)] at iO
    show da 2 (eC true) 0 hp0 _ (nth fr1 5)
    rw[K1.at rfl]
    exact iO)
  ⟨eL.refl _ _,h18,by
   show da 2 (eC true) 0 [] [] (nth fr 5)
   rw[h5];exact da.nil (Nat.le_refl _),fun _=>h5⟩
 exact⟨st,a1,a2⟩
theorem ajY {L:Lst}{run:aw}{k:Nat}(O:List VN)(hO:O.length<900)(hk:O.length<k)(r:PV)(hp:Θ)(hC:CrO hp O r)(fr:Ψ)(wr:Ω)(h0:fr.length=45)(h8:nth fr 8 = .sc (.slice none 0 0))(h32:nth fr 32=r)(h33:nth fr 33=iv O.length)(h34:nth fr 34=iv 0) :
  ∃ st,ae (CC L) run k (.block 2 (.loop hlD)) ⟨fr,hp,wr⟩=some (.normal,st)∧da 1 ei hp.length st.hp (O.map fun y=>Int.ofNat y.2) (nth st.fr 8)∧st.fr.length=45:=by
 obtain⟨st,a1,a2⟩:=ow (C:=CC L) (run:=run) (k:=k) (e:=2) (b:=hlD) (n:=O.length) (st:=⟨fr,hp,wr⟩)
  (Inv:=fun i st=>eL (dp hlD) fr st.fr∧nth st.fr 34=iv i∧da 1 ei hp.length st.hp ((O.take i).map fun y=>Int.ofNat y.2) (nth st.fr 8)∧∀ j,j<hp.length→aL st.hp j=aL hp j)
  (Q:=fun st=>da 1 ei hp.length st.hp (O.map fun y=>Int.ofNat y.2) (nth st.fr 8)∧st.fr.length=45) hk
  (fun i st hi ⟨iK,i34,iO,iH⟩=>by
   obtain⟨fr0,hp0,wr0⟩:=st
   dsimp only at iK i34 iO iH
   have l0:=iK.len h0
   obtain⟨fr1,b1,b2⟩:=aeT L run k fr0 hp0 wr0 i O.length l0 (iK.at h33) i34
   rw[decide_eq_true hi] at b2
   have K1:=bj _ b1
   have e8:nth fr1 8=nth fr0 8:=K1.at rfl
   rw[← e8] at iO
   obtain⟨oid,M,x,rfl,hb⟩:∃ oid M x,r = .own oid 2 0 O.length x∧aL hp oid=some ⟨.live,cells O M⟩:=by
    rcases hC with ⟨rfl,-⟩| h
    ·simp at hi
    ·exact h
   have hol:=ig hb
   obtain⟨fr2,hp2,wr2,c1,c2,c3⟩:=alf L run k fr1 hp0 wr0 hp.length oid x O M _ _ i hi (by simp;omega) iO hol ((iH oid hol).trans hb) (K1.len l0) rfl (K1.at (iK.at h32)) (K1.at i34)
   have K2:=bj _ c1
   have c1':ae (CC L) run k (.block 3 hlY) ⟨fr1,hp0,wr0⟩=some (.normal,⟨fr2,hp2,wr2⟩):=by simp only[ae,c1]
   obtain⟨fr3,d1,d2⟩:=aj2 L run k fr2 hp2 wr2 i (by omega) (K2.len (K1.len l0)) (K2.at (K1.at i34))
   have K3:=bj _ d1
   have x3:ae (CC L) run k (.cond (.tmp 35) .skip (.exit 2)) ⟨fr1,hp0,wr0⟩=some (.normal,⟨fr1,hp0,wr0⟩):=by simp[b2]
   have hr:ae (CC L) run k hlD ⟨fr0,hp0,wr0⟩=some (.normal,⟨fr3,hp2,wr2⟩):=by
    rw[WK,ar b1,ar x3,ar c1',d1]
   exact⟨_,hr,iK.trans (bj _ hr),d2,by
    show da 1 ei hp.length hp2 _ (nth fr3 8)
    rw[take_succ_eq_append_getElem hi,map_append,K3.at rfl];exact c2,fun j hj=>(c3 j hj).trans (iH j hj)⟩)
  (fun st ⟨iK,i34,iO,iH⟩=>by
   obtain⟨fr0,hp0,wr0⟩:=st
   dsimp only at iK i34 iO iH
   obtain⟨fr1,b1,b2⟩:=aeT L run k fr0 hp0 wr0 O.length O.length (iK.len h0) (iK.at h33) i34
   rw[decide_eq_false (by omega)] at b2
   have K1:=bj _ b1
   refine⟨⟨fr1,hp0,wr0⟩,?_,?_,K1.len (iK.len h0)⟩
   ·have x3:ae (CC L) run k (.cond (.tmp 35) .skip (.exit 2)) ⟨fr1,hp0,wr0⟩=some (.exit 2,⟨fr1,hp0,wr0⟩):=by simp[b2]
    rw[WK,ar b1,ae,x3]
   ·rw[take_length] at iO
    show da 1 ei hp.length hp0 _ (nth fr1 8)
    rw[K1.at rfl]
    exact iO)
  ⟨eL.refl _ _,h34,by
   show da 1 ei hp.length hp [] (nth fr 8)
   rw[h8];exact da.nil (Nat.le_refl _),fun _ _=>rfl⟩
 exact⟨st,a1,a2⟩
theorem EI (l:List VN):(ku l).length≤2*l.length:=by
 unfold ku Mf
 split
 ·omega
 ·have h1:=kj l []
  have h2:=kj l.reverse []
  simp only[length_append,length_reverse,length_tail,length_nil] at *
  omega
def rK (c:List (List ByteArray)):Ω:=bif decide (fO c=0) then lb (toP c) else []
def ajr (c:List (List ByteArray)):Prop:=qz c∧(fO c=0→c.length≤11)
def WJ:Ψ→Option Ψ:=ctr (fun c=>[cE c]) ajr fun c=>[aN (rK c),iv (fO c)]
def LZw:Lst:=[(71,Mp),(59,xt),(124,YP),(159,Bm),(129,lU),(130,abo)]
theorem ah5:dE base.P LZw:=⟨A3,pY,Gl,Bk,ki,Ey,trivial⟩
theorem U1 {X:List P2}(h:∀ i,i<X.length→Rb2 61 (at2 X i))(h9:X.length<1000):∀ z ∈ X.zipIdx,okV z:=fun z hz=>by
 have h1:=jY.1 hz
 have hl:z.2<X.length:=by
  rcases Nat.lt_or_ge z.2 X.length with h | h
  ·exact h
  ·rw[getElem?_eq_none h] at h1;cases h1
 have h2:=h z.2 hl
 rw[fK hl] at h2
 rw[List.getElem?_eq_getElem hl] at h1
 rw[Option.some.inj h1] at h2
 exact⟨⟨h2.1.mono (by omega),h2.2.mono (by omega)⟩,by omega⟩
theorem ak1 {b:Nat}{hp:Θ}{l:List Int}{p:PV}(h:da 1 ei b hp l p)(e:PV)(he:∀ hp d,snap hp (d+1) e=some (e,[]))(hw:Wk e e):∃ rs ids,bw (snap hp bq) [p,e]=some (rs,ids)∧WkL rs [aE l,e]:=by
 obtain⟨q,ids,h1,h2,-⟩:=h.snap PQ
 refine⟨[q,e],ids++([]++[]),?_,h2,hw,trivial⟩
 simp only[bq,bw,h1 10,he]
theorem Iw:Ab.Spec base.P 28 WJ:=Ab.Spec.bS (C:=CC LZw) (cR ah5) fun args rs h=>by
 obtain⟨c,⟨hF,hc⟩,rfl,rfl⟩:=db h
 obtain⟨hp1,hp2⟩:=ag8 LZw (runK (CC LZw) 34) 34 c (fO c) (J1 rfl _ c hF.fit)
 by_cases he:fO c=0
 ·obtain⟨x1,x2,x3,x4,x5,x6⟩:=kB he hF
  obtain⟨fr0,fr1,fr2,a1,a2,a3,a4,a5,a6⟩:=hp2 he
  have hc:=hc he
  have hXl:(toP c).length≤11:=by omega
  rw[x1] at a5
  obtain⟨fr3,b1,b2,b3,b4⟩:=ali LZw (runK (CC LZw) 34) 34 fr2 [] [] _ _ (agV (toP c)) a4 a5
  have K3:=bj _ b1
  obtain⟨⟨fr4,hp4,wr4⟩,c1,c2,c3⟩:=ajZ (L:=LZw) (run:=runK (CC LZw) 34) (k:=34) (toP c) (by omega) (by omega) (fun i hi=>sv rfl _ _ (BV (by
   have:=x2 i hi
   exact⟨this.1.mono (by omega),this.2.mono (by omega)⟩)) (by simp)) fr3 [] (K3.len a4) (K3.at a6) b2 b3 b4
  dsimp only at c2 c3
  have K4:=bj _ c1
  have l4:=K4.len (K3.len a4)
  obtain⟨fr5,d1,d2⟩:=aj4 LZw (runK (CC LZw) 34) 34 fr4 hp4 wr4 l4
  have K5:=bj _ d1
  have hzl:(toP c).zipIdx.length=(toP c).length:=by simp
  obtain⟨id,hE⟩:∃ id,(toP c).zipIdx=[]∧nth fr4 5 = .sc (.slice none 0 0)∨(toP c).zipIdx≠[]∧∃ x rest,nth fr4 5 = .own id 2 0 (toP c).zipIdx.length x∧aL hp4 id=some ⟨.live,cells (toP c).zipIdx rest⟩:=by
   by_cases hne:(toP c).zipIdx=[]
   ·exact⟨0,.inl ⟨hne,c3 (length_eq_zero_iff.1 (by rw[← hzl,hne];rfl))⟩⟩
   ·obtain⟨oid,M,x,h1,h2⟩:=Ca c2 hne
    exact⟨oid,.inr ⟨hne,x,M,h1,h2⟩⟩
  obtain⟨hp5,r,fp,S,m1,m2,m3,m4,-⟩:=UT (L:=LZw) (k:=30) (ok:=okV) (bI:=oE) (tI:=fun a b z=>iE a.1 b.1 z.1) (aeX rfl _) rfl (ake rfl 29 (by omega)) (aiV rfl _) (toP c).zipIdx (by omega) (by omega) (nth fr4 5) hp4 id hE (U1 x2 (by omega)) false
  have e5:nth fr5 5=nth fr4 5:=K5.at rfl
  obtain⟨fr6,wr6,n1,n2,n3,n4⟩:=aj3 LZw (runK (CC LZw) 34) 34 fr5 hp4 wr4 _ r _ hp5 fp m1 m4.len (K5.len l4) e5
  have K6:=bj _ n1
  have l6:=K6.len (K5.len l4)
  have hOl:(ku (ddp none S)).length≤22:=by
   have h1:=EI (ddp none S)
   have h2:=vS none S
   have h3:=m2.length_eq
   omega
  obtain⟨⟨fr7,hp7,wr7⟩,o1,o2,o3⟩:=ajY (L:=LZw) (run:=runK (CC LZw) 34) (k:=34) _ (by omega) (by omega) r hp5 m4 fr6 wr6 l6 (K6.at d2) n2 n3 n4
  dsimp only at o2 o3
  obtain⟨st,q1,q2',q3⟩:=aj1 LZw (runK (CC LZw) 34) 34 fr7 hp7 wr7 _ o3 rfl
  have s1:ae (CC LZw) (runK (CC LZw) 34) 34 (.seq (seq1 (seq1 (aQ hlT))) (.block 0 (.loop hlB))) ⟨fr2,[],[]⟩=some (.normal,⟨fr4,hp4,wr4⟩):=by rw[ar b1];exact c1
  have s2:ae (CC LZw) (runK (CC LZw) 34) 34 (.seq (seq1 (seq1 (aQ hlU))) (.block 2 (.loop hlD))) ⟨fr5,hp4,wr4⟩=some (.normal,⟨fr7,hp7,wr7⟩):=by rw[ar n1];exact o1
  have hx:ae (CC LZw) (runK (CC LZw) 34) 34 hlC ⟨entry 45 [cE c],[],[]⟩=some (.ret,st):=by
   rw[WL,ar a1,ar a2,ar a3,ar s1,ar d1,ar s2];exact q1
  have hm:((ku (ddp none S)).map fun y=>Int.ofNat y.2)=(rK c).map Int.ofNat:=by
   unfold rK
   rw[decide_eq_true he,cond_true,← PC m2 m3,map_map];rfl
  rw[hm] at o2
  obtain⟨rs,ids,t1,t2⟩:=ak1 o2 (iv 0) (fun _ _=>rfl) (Wk.refl rfl)
  refine⟨_,_,_,_,rs,ids,ba yP rfl hx q3,by rw[q2'];exact t1,?_⟩
  rw[he];exact t2
 ·obtain⟨st,b1,b2⟩:=hp1 he
  refine⟨_,_,_,_,[.sc (.slice none 0 0),iv (fO c)],[],ba yP rfl b1 b2,rfl,?_⟩
  have:rK c=[]:=by unfold rK;rw[decide_eq_false he];rfl
  rw[this]
  exact⟨Wk.nil false,Wk.refl rfl,trivial⟩
abbrev Pl:=List (List ByteArray)
def Pln (c:Pl):Prop:=∀ p ∈ c,p=[qb (jz p).1,qb (jz p).2]
theorem Pln.eq {c:Pl}(h:Pln c):cE c=qP (toP c):=by
 unfold qP qC toP
 rw[map_map,map_map]
 congr 1
 rw[eq_comm]
 conv=>rhs;rw[← map_id c]
 refine map_congr_left fun p hp' => ?_
 exact (h p hp').symm
theorem ael (c:Pl)(j:Nat)(hj:j<c.length):at2 (toP c) j=jz c[j]:=by
 rw[fK (by simpa [toP] using hj)];simp[toP]
theorem da.low {α:Type}{s:Nat}{e:α→Ψ}{b b':Nat}{hp:Θ}{l:List α}{p:PV}(h:da s e b hp l p)(hb:b'≤b):da s e b' hp l p:=by
 obtain⟨h0,h⟩:=h
 refine⟨Nat.le_trans hb h0,?_⟩
 rcases h with h | ⟨id,m,x,h1,h2⟩
 ·exact .inl h
 ·exact .inr ⟨id,m,x,Nat.le_trans hb h1,h2⟩
theorem KD:base.F.get 30=some f30:=by kernel_rfl
theorem Su:base.shared 30=false:=by kernel_rfl
theorem GB:base.F.get 79=some f79:=by kernel_rfl
theorem Nx:base.shared 79=true:=by kernel_rfl
theorem KG:base.F.get 78=some f78:=by kernel_rfl
theorem Sy:base.shared 78=true:=by kernel_rfl
theorem Bs:base.F.get 134=some f134:=by kernel_rfl
theorem aap:base.shared 134=true:=by kernel_rfl
theorem ZX(c:Pl)(z:VN)(hb:aL hp 0=some ⟨.live,[cE c]⟩) :
  ∃ st,ae (CC L) run k (f79.body.getD .skip) ⟨entry 9 [.agg (eC true z),.ptr 0 0],hp,[]⟩=some (.ret,st)∧Hgr hp st.hp∧Fr hp.length st.wr∧aX TT st.fr st.hp f79.results.toList=some [.sc (.bool (decide (z.2=c.length)))]:=by
 obtain⟨e1,e2,e3⟩:=cl 7 (.agg (eC true z)) (.ptr 0 0)
 generalize entry 9 [.agg (eC true z),.ptr 0 0]=fr0 at *
 have b1:=al1 hp (eC true z)
 have b2:=Hgr.new hp (eC true z)
 have b3:=(b2.2 0 (ig hb)).trans hb
 have hd:(bp (eC true z) 1).head?=some (.sc (.int .i64 (z.2:Int))):=rfl
 have hl:=eG c
 have hcc:(PV.agg (eC true z)).cells?=some (eC true z):=rfl
 obtain⟨u,hu⟩:∃ u,decide (z.2=c.length)=u:=⟨_,rfl⟩
 have hu':((z.2:Int) == (c.length:Int))=u:=by
  rw[← hu]
  by_cases h:z.2=c.length
  ·rw[h];simp
  ·rw[decide_eq_false h]
   have:(z.2:Int)≠(c.length:Int):=by omega
   simpa using this
 rw[hu]
 generalize eC true z=cz at *
 generalize cE c=C at *
 simp[f79,bL,partOf,aa,af,ab,bc,dJ,e1,e2,e3,hcc,b1,b2,b3,hd,hl,hu',po,Cq,fa1,uCl,aI,sI,aCl,sCl,bp,aU,aX]
theorem ZY(c:Pl)(z:VN)(hb:aL hp 0=some ⟨.live,[cE c]⟩)(dr:Bool):bP (CC L) (runK (CC L) (k+1)) dr hp 79 [.agg (eC true z),.ptr 0 0]=some (.sc (.bool (decide (z.2=c.length))),hp,⟨[],[],true,true⟩):=by
 obtain⟨st,x1,x2,x3,x4⟩:=ZX L (runK (CC L) k) k hp c z hb
 exact qT Nx (ez GB rfl x1 x4) rfl x2 x3 dr
def rG:Code:=f134.body.getD .skip
def Ci:Code:=(aA rG).getD .skip
def KxF (fr:Ψ)(p f:PV)(n i:Nat):Prop:=fr.length=19∧nth fr 0=p∧nth fr 1=f∧nth fr 7=iv n∧nth fr 8=iv i
theorem acX(p f:PV)(n:Nat)(h:KxF fr p f n n) :
  ∃ fr',ae (CC L) run k Ci ⟨fr,hp,[]⟩=some (.exit 0,⟨fr',hp,[]⟩)∧fr'.length=19:=by
 obtain⟨h0,h1,h2,h7,h8⟩:=h
 simp only[iv] at h7 h8
 simp[Ci,rG,f134,aA,aC,aa,ab,h0,h7,h8]
theorem Px(oid:Nat)(x:Bool)(O:List VN)(M:Ψ)(g:Nat)(caps:Ψ)(i:Nat)(v:Bool)(hi:i<O.length)(h9:O.length<1000000)(hm:aL hp oid=some ⟨.live,cells O M⟩)(hc:∀ dr,bP (CC L) run dr hp g ([.agg (eC true O[i])]++caps)=some (.sc (.bool v),hp,⟨[],[],true,true⟩))(h:KxF fr (.own oid 2 0 O.length x) (.clos g caps) O.length i) :
  ∃ fr',ae (CC L) run k Ci ⟨fr,hp,[]⟩=some (bif v then .ret else .normal,⟨fr',hp,[]⟩)∧(v=true→nth fr' 4=iv i)∧(v=false→KxF fr' (.own oid 2 0 O.length x) (.clos g caps) O.length (i+1)):=by
 obtain⟨h0,h1,h2,h7,h8⟩:=h
 have q1:=kH O M i hi
 have x1:=rI oid O.length i x hi
 have hw:=bD i (by omega)
 simp only[iv] at h7 h8
 simp only[cons_append,nil_append] at hc
 generalize eC true O[i]=cz at *
 cases v <;> simp[KxF,iv,Ci,rG,f134,aA,aM,aC,partOf,aa,af,ab,bc,h0,h1,h2,h7,h8,hi,x1,hm,q1,hc,hw,zp,nI,aU]
theorem Fh (L:Lst)(run:aw)(k:Nat)(hp:Θ)(oid:Nat)(x:Bool)(O:List VN)(M:Ψ)(g:Nat)(caps:Ψ)(b:VN→Bool)(h9:O.length<1000000)(hm:aL hp oid=some ⟨.live,cells O M⟩)(hc:∀ z dr,bP (CC L) run dr hp g ([.agg (eC true z)]++caps)=some (.sc (.bool (b z)),hp,⟨[],[],true,true⟩)):∀ (n i:Nat) (fr:Ψ),i+n=O.length→KxF fr (.own oid 2 0 O.length x) (.clos g caps) O.length i →
  ((∀ z ∈ O.drop i,b z=false)∧∃ fr',cb (ae (CC L) run k Ci) (n+1) ⟨fr,hp,[]⟩=some (.exit 0,⟨fr',hp,[]⟩)∧fr'.length=19)∨∃ fr' j,(∃ z ∈ O.drop i,b z=true)∧cb (ae (CC L) run k Ci) (n+1) ⟨fr,hp,[]⟩=some (.ret,⟨fr',hp,[]⟩)∧nth fr' 4=iv j
 | 0,i,fr,hin,h=>by
  have e:i=O.length:=by omega
  subst e
  obtain⟨fr',q1,q2⟩:=acX L run k fr hp _ _ _ h
  exact .inl ⟨fun z hz=>by simp at hz,fr',bu q1,q2⟩
 | n+1,i,fr,hin,h=>by
  have hi:i<O.length:=by omega
  obtain⟨fr1,q1,q2,q3⟩:=Px L run k fr hp oid x O M g caps i (b O[i]) hi h9 hm (hc _) h
  have hdr:=drop_eq_getElem_cons hi
  cases hv:b O[i] with
  | true =>
   rw[hv] at q1 q2
   exact .inr ⟨fr1,i,⟨O[i],by rw[hdr];exact mem_cons_self,hv⟩,du q1,q2 rfl⟩
  | false =>
   rw[hv] at q1 q3
   rw[bT q1]
   rcases Fh L run k hp oid x O M g caps b h9 hm hc n (i+1) fr1 (by omega) (q3 rfl) with ⟨r1,r2⟩| ⟨fr',j,⟨z,hz,hb⟩,r2⟩
   ·exact .inl ⟨fun z hz=>by
     rw[hdr] at hz
     rcases mem_cons.1 hz with rfl | hz
     ·exact hv
     ·exact r1 z hz,r2⟩
   ·exact .inr ⟨fr',j,⟨z,by rw[hdr];exact mem_cons_of_mem _ hz,hb⟩,r2⟩
def Fi:Code:=seq1 (seq1 (ai 1 rG))
theorem LU:ai 1 rG = .seq (.seq Fi (.block 0 (.loop Ci))) (ai 2 rG):=rfl
theorem acW (L:Lst)(run:aw)(k:Nat)(p f:PV)(n:Nat)(hl:cX p=some n)(hp:Θ):∃ fr fr',bh (CC L) run k 1 rG ⟨entry 19 [p,f],hp,[]⟩=some ⟨fr,hp,[]⟩∧ae (CC L) run k Fi ⟨fr,hp,[]⟩=some (.normal,⟨fr',hp,[]⟩)∧KxF fr' p f n 0:=by
 obtain⟨e1,e2,e3⟩:=cl 17 p f
 generalize entry 19 [p,f]=fr0 at *
 obtain⟨fr,a1,a2,a3,a4⟩:∃ fr,bh (CC L) run k 1 rG ⟨fr0,hp,[]⟩=some ⟨fr,hp,[]⟩∧fr.length=19∧nth fr 0=p∧nth fr 1=f:=by
  simp[rG,f134,bh,e1,e2,e3,aC,af,ab]
 refine⟨fr,?_⟩
 rw[a1]
 simp[KxF,iv,Fi,seq1,ai,rG,f134,a2,a3,a4,aC,bL,aa,af,ab,bc,hl,kK]
theorem Wt(h0:fr.length=19):∃ st,ae (CC L) run k (ai 2 rG) ⟨fr,hp,[]⟩=some (.ret,st)∧st.hp=hp∧st.wr=[]∧aX TT st.fr st.hp f134.results.toList=some [.sc (.int .i64 (-1))]:=by
 simp[rG,ai,f134,h0,aC,aa,aX]
theorem acV(oid:Nat)(x:Bool)(O:List VN)(M:Ψ)(g:Nat)(caps:Ψ)(b:VN→Bool)(hk:O.length<k)(h9:O.length<1000000)(hm:aL hp oid=some ⟨.live,cells O M⟩)(hc:∀ z dr,bP (CC L) (runK (CC L) k) dr hp g ([.agg (eC true z)]++caps)=some (.sc (.bool (b z)),hp,⟨[],[],true,true⟩)) :
  ∃ r:Int,runK (CC L) (k+1) 134 [.own oid 2 0 O.length x,.clos g caps] hp=some ([.sc (.int .i64 r)],hp,[])∧decide (0≤r)=O.any b:=by
 obtain⟨fr,fr1,a1,a2,a3⟩:=acW L (runK (CC L) k) k (.own oid 2 0 O.length x) (.clos g caps) O.length rfl hp
 rcases Fh L (runK (CC L) k) k hp oid x O M g caps b h9 hm hc O.length 0 fr1 (by omega) a3 with ⟨h0,fr2,b1,b2⟩| ⟨fr2,j,h0,b1,b2⟩
 ·have:ae (CC L) (runK (CC L) k) k (.seq Fi (.block 0 (.loop Ci))) ⟨fr,hp,[]⟩=some (.normal,⟨fr2,hp,[]⟩):=by
   rw[ar a2];exact bE (bK b1 (by omega))
  obtain⟨st,c1,c2,c3,c4⟩:=Wt L (runK (CC L) k) k fr2 hp b2
  have hx:ae (CC L) (runK (CC L) k) k rG ⟨entry 19 [.own oid 2 0 O.length x,.clos g caps],hp,[]⟩=some (.ret,st):=by
   rw[aY 1 a1,LU,ar this,c1]
  have:=ez Bs rfl hx c4
  rw[c2,c3] at this
  refine⟨-1,this,?_⟩
  have:O.any b=false:=by
   rw[any_eq_false]
   intro z hz
   rw[h0 z (by simpa using hz)];simp
  rw[this];rfl
 ·have:ae (CC L) (runK (CC L) k) k (.seq Fi (.block 0 (.loop Ci))) ⟨fr,hp,[]⟩=some (.ret,⟨fr2,hp,[]⟩):=by
   rw[ar a2];exact cJ (bK b1 (by omega))
  have hx:ae (CC L) (runK (CC L) k) k rG ⟨entry 19 [.own oid 2 0 O.length x,.clos g caps],hp,[]⟩=some (.ret,⟨fr2,hp,[]⟩):=by
   rw[aY 1 a1,LU,bO this]
  refine⟨j,ez Bs rfl hx (show aX TT fr2 hp f134.results.toList=some [iv j] by simp[f134,aX,b2]),?_⟩
  obtain⟨z,hz,hb⟩:=h0
  have:O.any b=true:=any_eq_true.2 ⟨z,by simpa using hz,hb⟩
  rw[this];simp
theorem ad1(p f:PV)(r:Int)(hc:∀ dr,bP (CC L) run dr hp 134 [p,f]=some (.sc (.int .i64 r),hp,⟨[],[],true,true⟩)) :
  ∃ st,ae (CC L) run k (f78.body.getD .skip) ⟨entry 9 [p,f],hp,[]⟩=some (.ret,st)∧st.hp=hp∧st.wr=[]∧aX TT st.fr st.hp f78.results.toList=some [.sc (.bool (decide (0≤r)))]:=by
 obtain⟨e1,e2,e3⟩:=cl 7 p f
 generalize entry 9 [p,f]=fr0 at *
 obtain⟨u,hu⟩:∃ u,decide (0≤r)=u:=⟨_,rfl⟩
 rw[hu]
 cases u <;> simp only[decide_eq_true_eq,decide_eq_false_iff_not] at hu <;> simp[f78,aM,aC,aa,af,ab,e1,e2,e3,hc,hu,aX]
theorem ad2(oid:Nat)(x:Bool)(O:List VN)(M:Ψ)(c:Pl)(hk:O.length<k+1)(h9:O.length<1000000)(hm:aL hp oid=some ⟨.live,cells O M⟩)(hb:aL hp 0=some ⟨.live,[cE c]⟩)(dr:Bool):bP (CC L) (runK (CC L) (k+3)) dr hp 78 [.own oid 2 0 O.length x,.clos 79 [.ptr 0 0]]=some (.sc (.bool (O.any fun z=>decide (z.2=c.length))),hp,⟨[],[],true,true⟩):=by
 obtain⟨r,a1,a2⟩:=acV L (k+1) hp oid x O M 79 [.ptr 0 0] (fun z=>decide (z.2=c.length)) hk h9 hm (fun z dr=>ZY L k hp c z hb dr)
 have b1:=fun dr=>qU (L:=L) aap a1 rfl dr
 obtain⟨st,c1,c2,c3,c4⟩:=ad1 L (runK (CC L) (k+2)) (k+2) hp _ _ r b1
 have:=ez KG rfl c1 c4
 rw[c2,c3,a2] at this
 exact qU Sy this rfl dr
def wpC:Code:=f30.body.getD .skip
def wpT:Code:=ai 6 wpC
def wpB:Code:=(aA wpC).getD .skip
def wpX:Code:=blk (seq1 (aQ (aQ wpB)))
theorem afh:wpT = .seq (.seq (seq1 (seq1 wpT)) (.block 0 (.loop wpB))) (aQ wpT):=rfl
theorem RB:wpB = .seq (seq1 wpB) (.seq (.cond (.tmp 42) .skip (.exit 0)) (.seq (.block 1 wpX) (aQ (aQ (aQ wpB))))):=rfl
section
variable (L:Lst) (run:aw) (k:Nat)
theorem ZW (C P:PV)(e:Nat)(he:e≠0)(hC:C.cells?=some [C])(g:az L run 71 [C] (iv e)) :
  ∃ st,ae (CC L) run k wpC ⟨entry 59 [C,P],[],[]⟩=some (.ret,st)∧aX TT st.fr st.hp f30.results.toList=some [.sc (.bool false),iv e]:=by
 obtain⟨e1,e2,e3⟩:=cl 57 C P
 unfold az iv at *
 generalize entry 59 [C,P]=fr0 at *
 have hb:(((e:Nat):Int) != 0)=true:=by simpa using he
 have h0:aL (aO [] [C]) 0=some ⟨.live,[C]⟩:=rfl
 simp[wpC,f30,aM,aC,partOf,aa,af,ab,bc,e1,e2,g,hb,hC,h0,aCl,sCl,bp,aU,aX]
theorem ZV (C:PV)(p:List ByteArray)(hp:p.length≠2)(hC:C.cells?=some [C])(g:az L run 71 [C] (iv 0)) :
  ∃ st,ae (CC L) run k wpC ⟨entry 59 [C,pE p],[],[]⟩=some (.ret,st)∧aX TT st.fr st.hp f30.results.toList=some [.sc (.bool false),iv 10]:=by
 obtain⟨e1,e2,e3⟩:=cl 57 C (pE p)
 unfold az iv at *
 generalize entry 59 [C,pE p]=fr0 at *
 have hl:=eF p
 generalize pE p=P at *
 have hb:(((p.length:Nat):Int) != 2)=true:=by
  have:((p.length:Nat):Int)≠2:=by omega
  simpa using this
 generalize p.length=n at *
 have h0:aL (aO [] [C]) 0=some ⟨.live,[C]⟩:=rfl
 simp[wpC,f30,aM,aC,bL,partOf,aa,af,ab,bc,e1,e2,e3,g,hl,hb,hC,h0,uPt,aCl,sCl,bp,aU,aX]
theorem KS (C:PV)(s t:ByteArray)(a b:Bool)(hab:a=false∨b=false)(hC:C.cells?=some [C])(g:az L run 71 [C] (iv 0))(g1:az L run 77 [.sc (.string s)] (.sc (.bool a)))(g2:az L run 77 [.sc (.string t)] (.sc (.bool b))) :
  ∃ st,ae (CC L) run k wpC ⟨entry 59 [C,pE [s,t]],[],[]⟩=some (.ret,st)∧aX TT st.fr st.hp f30.results.toList=some [.sc (.bool false),iv 1]:=by
 obtain⟨e1,e2,e3⟩:=cl 57 C (pE [s,t])
 obtain⟨r,q,x1,x2,y1,y2⟩:=Fj s t
 unfold az iv at *
 generalize entry 59 [C,pE [s,t]]=fr0 at *
 have hl:=eF [s,t]
 generalize pE [s,t]=P at *
 have h0:aL (aO [] [C]) 0=some ⟨.live,[C]⟩:=rfl
 cases a
 ·simp[wpC,f30,aM,aC,bL,partOf,unP,aa,af,ab,bc,e1,e2,e3,g,g1,hl,x1,x2,hC,h0,uPt,aCl,sCl,pP,nt,bp,aU,undef,aX]
 ·obtain rfl:b=false:=by
   rcases hab with h | h
   ·cases h
   ·exact h
  simp[wpC,f30,aM,aC,bL,partOf,unP,aa,af,ab,bc,e1,e2,e3,g,g1,g2,hl,x1,x2,y1,y2,hC,h0,uPt,aCl,sCl,pP,nt,bp,aU,aX]
theorem afg (s t:ByteArray)(g:az L run 71 [cE []] (iv 0))(g1:az L run 77 [.sc (.string s)] (.sc (.bool true)))(g2:az L run 77 [.sc (.string t)] (.sc (.bool true))) :
  ∃ st,ae (CC L) run k wpC ⟨entry 59 [cE [],pE [s,t]],[],[]⟩=some (.ret,st)∧aX TT st.fr st.hp f30.results.toList=some [.sc (.bool false),iv 0]:=by
 obtain⟨e1,e2,e3⟩:=cl 57 (cE []) (pE [s,t])
 obtain⟨r,q,x1,x2,y1,y2⟩:=Fj s t
 unfold az iv at *
 generalize entry 59 [cE [],pE [s,t]]=fr0 at *
 have hl:=eF [s,t]
 have hl0:cX (cE [])=some 0:=eG []
 have hC:(cE []).cells?=some [cE []]:=rfl
 generalize pE [s,t]=P at *
 generalize cE []=C at *
 have h0:aL (aO [] [C]) 0=some ⟨.live,[C]⟩:=rfl
 simp[wpC,f30,aM,aC,bL,partOf,unP,aa,af,ab,bc,e1,e2,e3,g,g1,g2,hl,hl0,x1,x2,y1,y2,hC,h0,uPt,uCl,aCl,sCl,pP,nt,bp,aU,aX]
theorem aff (C:PV)(n:Nat)(hn:n≠0)(hlC:cX C=some n)(s t:ByteArray)(z:VN)(hz:z.2=n)(hC:C.cells?=some [C])(g:az L run 71 [C] (iv 0))(g1:az L run 77 [.sc (.string s)] (.sc (.bool true)))(g2:az L run 77 [.sc (.string t)] (.sc (.bool true)))(g3:az L run 59 [pE [s,t]] (v2 true z.1)) :
  ∃ fr wr,bh (CC L) run k 6 wpC ⟨entry 59 [C,pE [s,t]],[],[]⟩=some ⟨fr,[⟨.live,[C]⟩],wr⟩∧fr.length=59∧nth fr 2 = .ptr 0 0∧nth fr 7 = .imm 1 true (eC true z):=by
 obtain⟨e1,e2,e3⟩:=cl 57 C (pE [s,t])
 obtain⟨r,q,x1,x2,y1,y2⟩:=Fj s t
 unfold az iv at *
 generalize entry 59 [C,pE [s,t]]=fr0 at *
 have hl:=eF [s,t]
 generalize pE [s,t]=P at *
 have h0:aL (aO [] [C]) 0=some ⟨.live,[C]⟩:=rfl
 have ha:aO [] [C]=[⟨.live,[C]⟩]:=rfl
 have hb:(((n:Nat):Int) == 0)=false:=by
  have:((n:Nat):Int)≠0:=by omega
  simpa using this
 have hbd:=ahX true z
 rw[hz] at hbd
 have l1:=LQ z
 have i1:bV (eC true z)=true:=rfl
 generalize eC true z=cz at *
 generalize v2 true z.1=V at *
 generalize hN:((n:Nat):Int)=N at *
 simp[wpC,f30,bh,aM,aC,bL,partOf,unP,aa,af,ab,bc,and_assoc,e1,e2,e3,g,g1,g2,g3,hl,hlC,hN,hb,x1,x2,y1,y2,hC,h0,hbd,l1,i1,uPt,uCl,aCl,sCl,pP,nt,bp,aU,number,FP.free]
 exact ha
end
section
variable (L:Lst) (run:aw) (k:Nat) (fr:Ψ) (hp:Θ) (wr:Ω)
theorem aiS (C:PV)(n:Nat)(hl:cX C=some n)(hb:aL hp 0=some ⟨.live,[C]⟩)(h0:fr.length=59)(h2:nth fr 2 = .ptr 0 0):∃ fr',ae (CC L) run k (seq1 (seq1 wpT)) ⟨fr,hp,wr⟩=some (.normal,⟨fr',hp,wr⟩)∧nth fr' 39=C∧nth fr' 40=iv n∧nth fr' 41=iv 0:=by
 simp[iv,wpT,wpC,f30,ai,seq1,aC,bL,partOf,aa,af,ab,bc,h0,h2,hb,hl,uCl,aCl,sCl,bp,aU]
theorem aeB (i n:Nat)(h0:fr.length=59)(h40:nth fr 40=iv n)(h41:nth fr 41=iv i):∃ fr',ae (CC L) run k (seq1 wpB) ⟨fr,hp,wr⟩=some (.normal,⟨fr',hp,wr⟩)∧nth fr' 42 = .sc (.bool (decide (i<n))):=by
 obtain⟨u,hu⟩:∃ u,decide (i<n)=u:=⟨_,rfl⟩
 rw[hu]
 simp only[iv] at h40 h41
 cases u <;> simp only[decide_eq_true_eq,decide_eq_false_iff_not] at hu <;> simp[wpB,wpC,f30,aA,seq1,aC,aa,h0,h40,h41,hu]
theorem aiR (i:Nat)(h9:i<1000)(h0:fr.length=59)(h41:nth fr 41=iv i):∃ fr',ae (CC L) run k (aQ (aQ (aQ wpB))) ⟨fr,hp,wr⟩=some (.normal,⟨fr',hp,wr⟩)∧nth fr' 41=iv (i+1):=by
 have hw:=bD i (by omega)
 simp only[iv] at h41
 simp[iv,wpB,wpC,f30,aA,aQ,aC,aa,ab,h0,h41,hw]
theorem akP (b:Nat)(X:List P2)(i:Nat)(l:List VN)(q:PV)(hi:i<X.length)(h9:l.length<1000)(hO:CrA b hp l q)(g:az L run 59 [q2 (at2 X i)] (v2 true (at2 X i)))(h0:fr.length=59)(h7:nth fr 7=q)(h39:nth fr 39=qP X)(h41:nth fr 41=iv i):∃ fr' hp' wr',ae (CC L) run k wpX ⟨fr,hp,wr⟩=some (.normal,⟨fr',hp',wr'⟩)∧da 2 (eC true) b hp' (l++[(at2 X i,i)]) (nth fr' 7)∧(∀ j,j<b→aL hp' j=aL hp j):=by
 obtain⟨r,x1,x2⟩:=LW uCl X i hi
 obtain⟨p',hp',fp,a1,a2,a3,-⟩:=hO.app (at2 X i,i) h9
 have hbd:=ahX true (at2 X i,i)
 have l1:=LQ (at2 X i,i)
 have r1:=fun hp=>afM hp (at2 X i,i)
 have k1:bg (eC true (at2 X i,i))=true:=rfl
 have i1:bV (eC true (at2 X i,i))=true:=rfl
 have zz:dU TT 102=some zC:=GN
 have hz:zC.length=2:=rfl
 dsimp only at hbd
 generalize eC true (at2 X i,i)=cz at *
 unfold az at g
 generalize v2 true (at2 X i)=V at *
 generalize q2 (at2 X i)=Q at *
 simp only[iv] at h41
 simp[wpX,blk,wpB,wpC,f30,aA,seq1,aQ,aM,aC,partOf,aa,af,ab,bc,and_assoc,h0,h7,h39,h41,x1,x2,g,hbd,l1,r1,k1,i1,zz,hz,a1,a2,kK,nI,aPt,sPt,ahZ,ch,aU]
 exact a3
theorem aiQ (p r:PV)(u:Bool)(hp':Θ)(fp:FP)(hc:bP (CC L) run false hp 72 [p]=some (r,hp',fp))(hd:bP (CC L) run false hp' 78 [r,.clos 79 [.ptr 0 0]]=some (.sc (.bool u),hp',⟨[],[],true,true⟩))(h0:fr.length=59)(h2:nth fr 2 = .ptr 0 0)(h7:nth fr 7=p):∃ st,ae (CC L) run k (aQ wpT) ⟨fr,hp,wr⟩=some (.ret,st)∧aX TT st.fr st.hp f30.results.toList=some [.sc (.bool !u),iv 0]:=by
 simp[iv,wpT,wpC,f30,ai,aQ,aM,aC,unP,aa,af,ab,h0,h2,h7,hc,hd,aX]
end
theorem abB {b:Nat}{hp:Θ}{O:List VN}{q:PV}(h:da 2 (eC true) b hp O q)(hne:O≠[]):∃ oid M x,b≤oid∧q = .own oid 2 0 O.length x∧aL hp oid=some ⟨.live,cells O M⟩:=by
 rcases h.2 with ⟨h,-⟩| ⟨id,m,x,h1,h2,h3,h4,h5⟩
 ·exact absurd h hne
 ·exact⟨id,m.flatMap (eC true),x,h1,h3,by rw[h5,flatMap_append];rfl⟩
theorem wp_loop {L:Lst}{run:aw}{k:Nat}(X:List P2)(hX:X.length<900)(hX1:X≠[])(hk:X.length<k)(g:∀ i,i<X.length→az L run 59 [q2 (at2 X i)] (v2 true (at2 X i)))(z:VN)(C:PV)(fr:Ψ)(wr:Ω)(h0:fr.length=59)(h7:nth fr 7 = .imm 1 true (eC true z))(h39:nth fr 39=qP X)(h40:nth fr 40=iv X.length)(h41:nth fr 41=iv 0) :
  ∃ st,ae (CC L) run k (.block 0 (.loop wpB)) ⟨fr,[⟨.live,[C]⟩],wr⟩=some (.normal,st)∧da 2 (eC true) 1 st.hp (z::X.zipIdx) (nth st.fr 7)∧aL st.hp 0=some ⟨.live,[C]⟩:=by
 have zt:∀ i,i<X.length→X.zipIdx.take (i+1)=X.zipIdx.take i++[(at2 X i,i)]:=fun i hi=>by
  rw[take_succ_eq_append_getElem (by simpa using hi),getElem_zipIdx,fK hi,Nat.zero_add]
 obtain⟨st,a1,a2⟩:=ow (C:=CC L) (run:=run) (k:=k) (e:=0) (b:=wpB) (n:=X.length) (st:=⟨fr,[⟨.live,[C]⟩],wr⟩)
  (Inv:=fun i st=>eL (dp wpB) fr st.fr∧nth st.fr 41=iv i∧CrA 1 st.hp (z::X.zipIdx.take i) (nth st.fr 7)∧aL st.hp 0=some ⟨.live,[C]⟩)
  (Q:=fun st=>da 2 (eC true) 1 st.hp (z::X.zipIdx) (nth st.fr 7)∧aL st.hp 0=some ⟨.live,[C]⟩) hk
  (fun i st hi ⟨iK,i41,iO,iB⟩=>by
   obtain⟨fr0,hp0,wr0⟩:=st
   dsimp only at iK i41 iO iB
   have l0:=iK.len h0
   obtain⟨fr1,b1,b2⟩:=aeB L run k fr0 hp0 wr0 i X.length l0 (iK.at h40) i41
   rw[decide_eq_true hi] at b2
   have K1:=bj _ b1
   have e7:nth fr1 7=nth fr0 7:=K1.at rfl
   rw[← e7] at iO
   obtain⟨fr2,hp2,wr2,c1,c2,c3⟩:=akP L run k fr1 hp0 wr0 1 X i _ _ hi (by simp[length_take];omega) iO (g i hi) (K1.len l0) rfl (K1.at (iK.at h39)) (K1.at i41)
   have K2:=bj _ c1
   have c1':ae (CC L) run k (.block 1 wpX) ⟨fr1,hp0,wr0⟩=some (.normal,⟨fr2,hp2,wr2⟩):=by simp only[ae,c1]
   obtain⟨fr3,d1,d2⟩:=aiR L run k fr2 hp2 wr2 i (by omega) (K2.len (K1.len l0)) (K2.at (K1.at i41))
   have K3:=bj _ d1
   have x3:ae (CC L) run k (.cond (.tmp 42) .skip (.exit 0)) ⟨fr1,hp0,wr0⟩=some (.normal,⟨fr1,hp0,wr0⟩):=by simp[b2]
   have hr:ae (CC L) run k wpB ⟨fr0,hp0,wr0⟩=some (.normal,⟨fr3,hp2,wr2⟩):=by
    rw[RB,ar b1,ar x3,ar c1',d1]
   exact⟨_,hr,iK.trans (bj _ hr),d2,by
    show CrA 1 hp2 _ (nth fr3 7)
    rw[zt i hi,K3.at rfl];exact .inl c2,(c3 0 (by omega)).trans iB⟩)
  (fun st ⟨iK,i41,iO,iB⟩=>by
   obtain⟨fr0,hp0,wr0⟩:=st
   dsimp only at iK i41 iO iB
   obtain⟨fr1,b1,b2⟩:=aeB L run k fr0 hp0 wr0 X.length X.length (iK.len h0) (iK.at h40) i41
   rw[decide_eq_false (by omega)] at b2
   have K1:=bj _ b1
   refine⟨⟨fr1,hp0,wr0⟩,?_,?_,iB⟩
   ·have x3:ae (CC L) run k (.cond (.tmp 42) .skip (.exit 0)) ⟨fr1,hp0,wr0⟩=some (.exit 0,⟨fr1,hp0,wr0⟩):=by simp[b2]
    rw[RB,ar b1,ae,x3]
   ·rw[take_of_length_le (by simp)] at iO
    show da 2 (eC true) 1 hp0 _ (nth fr1 7)
    rw[K1.at rfl]
    rcases iO with h | ⟨y,h,-⟩
    ·exact h
    ·exfalso
     have:(z::X.zipIdx).length=1:=by rw[h];rfl
     simp at this
     exact hX1 this)
  ⟨eL.refl _ _,h41,by
   show CrA 1 [⟨.live,[C]⟩] [z] (nth fr 7)
   rw[h7];exact .inr ⟨z,rfl,rfl,by simp⟩,rfl⟩
 exact⟨st,a1,a2⟩
def IK (a:CPt):Prop:=(qz a.1∧a.2.length≤100∧∀ s ∈ a.2,(bys s).length≤100000)∧(fO a.1=0→a.1.length≤11)
def RH:Ψ→Option Ψ:=ctr cpE IK fun a=>[.sc (.bool (jd a.1 a.2).1),iv (jd a.1 a.2).2]
def LZz:Lst:=[(71,Mp),(59,xt),(124,YP),(159,Bm),(129,lU),(130,abo),(77,Bw)]
theorem ah4:dE base.P LZz:=⟨A3,pY,Gl,Bk,ki,Ey,wa,trivial⟩
theorem ZU (c:Pl)(s t:ByteArray)(hF:qz c)(hc:c.length≤11)(hne:c≠[])(hf:fO c=0)(hs:IsV s)(ht:IsV t)(g1:az LZz (runK (CC LZz) 34) 77 [.sc (.string s)] (.sc (.bool true)))(g2:az LZz (runK (CC LZz) 34) 77 [.sc (.string t)] (.sc (.bool true))) :
  ∃ st,ae (CC LZz) (runK (CC LZz) 34) 34 wpC ⟨entry 59 [cE c,pE [s,t]],[],[]⟩=some (.ret,st)∧aX TT st.fr st.hp f30.results.toList=some [.sc (.bool (Jf (toP c) (jz [s,t]))),iv 0]:=by
 have g:=J1 (L:=LZz) rfl (runK (CC LZz) 34) c hF.fit
 rw[hf] at g
 obtain⟨x1,x2,x3,x4,x5,x6⟩:=kB hf hF
 obtain⟨v1,v2'⟩:=WA hs
 obtain⟨w1,w2⟩:=WA ht
 have hq:pE [s,t]=q2 (jz [s,t]):=by
  show pE [s,t]=pE [qb (rq s),qb (rq t)]
  rw[← v1,← w1]
 have hsz:Rb2 1000 (jz [s,t]):=⟨v2',w2⟩
 have up:∀ {p:P2},Rb2 61 p→Rb2 1000 p:=fun h=>⟨h.1.mono (by omega),h.2.mono (by omega)⟩
 have hXl:(toP c).length≤11:=by omega
 have hXne:toP c≠[]:=fun e=>hne (length_eq_zero_iff.1 (by rw[← x3,e];rfl))
 obtain⟨fr,wr,a1,a2,a3,a4⟩:=aff LZz (runK (CC LZz) 34) 34 (cE c) c.length (fun e=>hne (length_eq_zero_iff.1 e)) (eG c) s t (jz [s,t],c.length) rfl rfl g g1 g2 (by
  rw[hq];exact sv rfl _ _ (BV hsz) (by simp))
 obtain⟨fr1,b1,b2,b3,b4⟩:=aiS LZz (runK (CC LZz) 34) 34 fr [⟨.live,[cE c]⟩] wr (cE c) c.length (eG c) rfl a2 a3
 have K1:=bj _ b1
 have l1:=K1.len a2
 rw[x1] at b2
 rw[← x3] at b3
 obtain⟨⟨fr2,hp2,wr2⟩,c1,c2,c3⟩:=wp_loop (L:=LZz) (run:=runK (CC LZz) 34) (k:=34) (toP c) (by omega) hXne (by omega) (fun i hi=>sv rfl _ _ (BV (up (x2 i hi))) (by simp)) (jz [s,t],c.length) (cE c) fr1 wr l1 (K1.at a4) b2 b3 b4
 dsimp only at c2 c3
 have K2:=bj _ c1
 obtain⟨oid,M,x,d1,d2,d3⟩:=abB c2 (by simp)
 have hol:=ig d3
 have hEl:((jz [s,t],c.length)::(toP c).zipIdx).length≤12:=by simp;omega
 obtain⟨hp5,r,fp,S,m1,m2,m3,m4,m5⟩:=UT (L:=LZz) (k:=30) (ok:=okV) (bI:=oE) (tI:=fun a b z=>iE a.1 b.1 z.1) (aeX rfl _) rfl (ake rfl 29 (by omega)) (aiV rfl _) _ hEl (by simp;omega) (nth fr2 7) hp2 oid (.inr ⟨by simp,x,M,d2,d3⟩) (fun z hz=>by
  rcases mem_cons.1 hz with rfl | hz
  ·exact⟨hsz,by show c.length<1000;omega⟩
  ·exact U1 x2 (by omega) z hz) false
 have hb5:aL hp5 0=some ⟨.live,[cE c]⟩:=(m5 0 (by omega) (by omega)).trans c3
 have hSl:=m2.length_eq
 have hone:ku (ddp none S)≠[]:=by
  intro e
  have hd:ddp none S≠[]:=fun e=>by
   cases S with
   | nil=>simp at hSl
   | cons a S=>simp[ddp] at e
  unfold ku at e
  split at e
  ·exact hd e
  ·next h3 =>
   exact FE (by omega) (reverse_eq_nil_iff.1 (append_eq_nil_iff.1 e).1)
 obtain⟨oid',M',x',n1,n2⟩:∃ oid M x,r = .own oid 2 0 (ku (ddp none S)).length x∧aL hp5 oid=some ⟨.live,cells (ku (ddp none S)) M⟩:=by
  rcases m4 with ⟨h,-⟩| h
  ·exact absurd h hone
  ·exact h
 have hOl:(ku (ddp none S)).length≤24:=by
  have h1:=EI (ddp none S)
  have h2:=vS none S
  omega
 have ct:=ad2 LZz 31 hp5 oid' x' (ku (ddp none S)) M' c (by omega) (by omega) n2 hb5 false
 rw[← n1] at ct
 obtain⟨st,o1,o2⟩:=aiQ LZz (runK (CC LZz) 34) 34 fr2 hp2 wr2 _ r _ hp5 fp m1 ct (K2.len l1) (K2.at (K1.at a3)) rfl
 have hs1:ae (CC LZz) (runK (CC LZz) 34) 34 (.seq (seq1 (seq1 wpT)) (.block 0 (.loop wpB))) ⟨fr,[⟨.live,[cE c]⟩],wr⟩=some (.normal,⟨fr2,hp2,wr2⟩):=by rw[ar b1];exact c1
 refine⟨st,?_,?_⟩
 ·rw[aY 6 a1]
  show ae _ _ _ wpT _=_
  rw[afh,ar hs1];exact o1
 ·rw[o2]
  have hw:=C0 (X:=toP c) (p:=jz [s,t]) (S:=S) (by rw[x3];exact m2) m3
  have e:(!(ku (ddp none S)).any fun z=>decide (z.2=c.length))=Jf (toP c) (jz [s,t]):=by
   rw[Bool.eq_iff_iff,Bool.not_eq_true',← Bool.not_eq_true,any_eq_true,Jf,UF,xW]
   have:(∃ x,x ∈ ku (ddp none S)∧decide (x.2=c.length)=true) ↔ ∃ y ∈ ku (ddp none S),y.2=(toP c).length:=by
    rw[x3]
    exact⟨fun ⟨y,h1,h2⟩=>⟨y,h1,of_decide_eq_true h2⟩,fun ⟨y,h1,h2⟩=>⟨y,h1,decide_eq_true h2⟩⟩
   rw[this,hw]
   exact Classical.not_not
  rw[e]
theorem It:Ab.Spec base.P 30 RH:=Ab.Spec.bS (C:=CC LZz) (cR ah4) fun args rs h=>by
 obtain⟨⟨c,p⟩,⟨⟨hF,h9,h60⟩,h11⟩,rfl,rfl⟩:=db h
 dsimp only at hF h9 h60 h11
 have g:=J1 (L:=LZz) rfl (runK (CC LZz) 34) c hF.fit
 have key:∃ st,ae (CC LZz) (runK (CC LZz) 34) 34 wpC ⟨entry 59 [cE c,pE p],[],[]⟩=some (.ret,st)∧aX TT st.fr st.hp f30.results.toList=some [.sc (.bool (jd c p).1),iv (jd c p).2]:=by
  by_cases hf:fO c=0
  ·rw[hf] at g
   by_cases hl:p.length=2
   ·obtain⟨s,t,rfl⟩:∃ s t,p=[s,t]:=by
     match p,hl with
     | [x,y],_=>exact⟨x,y,rfl⟩
    have hs60:=h60 s (by simp)
    have ht60:=h60 t (by simp)
    have g1:=CM (L:=LZz) rfl (runK (CC LZz) 34) s hs60
    have g2:=CM (L:=LZz) rfl (runK (CC LZz) 34) t ht60
    have hw:jd c [s,t]=bif !(pB (IsV s) && pB (IsV t)) then (false,1) else (Jf (toP c) (jz [s,t]),0):=by
     simp[jd,hf]
    by_cases hs:IsV s
    ·by_cases ht:IsV t
     ·rw[hw,iy hs,iy ht]
      rw[iy hs] at g1
      rw[iy ht] at g2
      by_cases hne:c=[]
      ·subst hne
       have:Jf (toP []) (jz [s,t])=false:=iV fun h=>by
        obtain⟨a,b,ha,-⟩:=xW.1 h
        simp[toP] at ha
       simp only[Bool.and_self,Bool.not_true,cond_false,this]
       exact afg LZz (runK (CC LZz) 34) 34 s t g g1 g2
      ·exact ZU c s t hF (h11 hf) hne hf hs ht g1 g2
     ·rw[hw,iy hs,iV ht]
      exact KS LZz (runK (CC LZz) 34) 34 (cE c) s t _ _ (.inr (iV ht)) rfl g g1 g2
    ·rw[hw,iV hs]
     exact KS LZz (runK (CC LZz) 34) 34 (cE c) s t _ _ (.inl (iV hs)) rfl g g1 g2
   ·have hw:jd c p=(false,10):=by simp[jd,hf,hl]
    rw[hw]
    exact ZV LZz (runK (CC LZz) 34) 34 (cE c) p hl rfl g
  ·have hw:jd c p=(false,fO c):=by simp[jd,hf]
   rw[hw]
   exact ZW LZz (runK (CC LZz) 34) 34 (cE c) (pE p) _ hf rfl g
 obtain⟨st,c1,c2⟩:=key
 exact⟨_,_,_,_,_,_,ba KD rfl c1 c2,rfl,Wk.refl rfl,Wk.refl rfl,trivial⟩
theorem ac8 {L:Lst}{F:Nat}(hs:base.shared F=false)(hL:bx L F=fun a=>WJ (aK a))(run:aw)(c:Pl)(h:ajr c):az L run F [cE c] (.tup [aN (rK c),iv (fO c)]) :=
 ji hs (e:=fun c=>[cE c]) (f:=fun c=>[aN (rK c),iv (fO c)]) hL (fun x y _ _ h=>by rw[ll h]) run c h (fun _=>rfl) (by simp only[aK,iY])
theorem ad3 {x y:CPt}(h:cpE x=cpE y):x=y:=by
 simp only[cpE,List.cons.injEq,and_true] at h
 exact Prod.ext (ll (by rw[h.1])) (by
  have h2:[cE [x.2]]=[cE [y.2]]:=by unfold cE iz ep;simp[h.2]
  have h3:=ll h2
  simpa using h3)
end Go.Proofs.YtjdmodeenbdfpaaGreat
end
