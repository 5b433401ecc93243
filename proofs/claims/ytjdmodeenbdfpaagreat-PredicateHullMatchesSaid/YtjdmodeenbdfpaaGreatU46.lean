/- Contracts of the two hulls, of the program and of the reference, part 46; each lemma states its conditions. -/
import Derived.Test.YtjdmodeenbdfpaaGreatU45
import Derived.Test.YtjdmodeenbdfpaaGreatU41
import Derived.Test.YtjdmodeenbdfpaaGreatU42
import Derived.Test.YtjdmodeenbdfpaaGreatU15
set_option linter.unusedSimpArgs false
set_option linter.unusedVariables false
noncomputable section
namespace Go.Proofs.YtjdmodeenbdfpaaGreat
open Go Go.Ab List Tryz
variable(L:Lst)(run:av)(k:Nat)(fr:Ψ)(hp:Θ)(wr:Ω)
def oe (a b:VN):Int:=if fI a.1.1 b.1.1≠0 then fI a.1.1 b.1.1 else if fI a.1.2 b.1.2≠0 then fI a.1.2 b.1.2 else (a.2:Int) - (b.2:Int)
theorem iY (x y:Rat):(x<y∧fI x y = -1)∨(x=y∧fI x y=0)∨(y<x∧fI x y=1):=by
 unfold fI
 by_cases h:x<y
 ·exact .inl ⟨h,if_pos h⟩
 ·by_cases e:x=y
  ·exact .inr (.inl ⟨e,by rw[if_neg h,if_pos e]⟩)
  ·exact .inr (.inr ⟨by grind,by rw[if_neg h,if_neg e]⟩)
theorem DF (x y:Rat):fI x y=0 ↔ x=y:=by
 rcases iY x y with ⟨h,e⟩| ⟨h,e⟩| ⟨h,e⟩ <;> rw[e] <;> constructor <;> intro k <;> first | grind | omega | rfl
theorem adi (a b:VN):oe a b<0 ↔ lxn a b:=by
 obtain⟨⟨a1,a2⟩,n⟩:=a
 obtain⟨⟨b1,b2⟩,m⟩:=b
 unfold oe lxn lx
 simp only[PiE]
 rcases iY a1 b1 with ⟨h,e⟩| ⟨h,e⟩| ⟨h,e⟩
 ·rw[e];simp[h]
 ·rw[e]
  rcases iY a2 b2 with ⟨k,f⟩| ⟨k,f⟩| ⟨k,f⟩
  ·rw[f];simp[h,k]
  ·rw[f]
   have h1 : ¬ a1<b1:=by grind
   have h2 : ¬ a2<b2:=by grind
   simp[h,k]
   omega
  ·rw[f]
   have h1 : ¬ a1<b1:=by grind
   have h2 : ¬ a2<b2:=by grind
   have h3 : ¬ a2=b2:=by grind
   simp[h,h2,h3]
 ·rw[e]
  have h1 : ¬ a1<b1:=by grind
  have h3 : ¬ a1=b1:=by grind
  simp[h1,h3]
theorem Jy:bfC = .seq (seq1 bfC) (.seq (.seq (seq1 (seq1 (aO bfC))) (.block 0 (.loop bfB))) (aO (aO bfC))):=rfl
theorem agI (L:Lst)(run:av)(k:Nat)(X Y:PV)(i j:PV)(hX:dc X=some 2)(hcX:X.cells?=some [X]):∃ fr fr' wr,ae (CC L) run k (seq1 bfC) ⟨entry 32 [.agg [X,i],.agg [Y,j]],[],[]⟩=some (.normal,⟨fr,[⟨.live,[X,i]⟩,⟨.live,[Y,j]⟩],wr⟩)∧ae (CC L) run k (seq1 (seq1 (aO bfC))) ⟨fr,[⟨.live,[X,i]⟩,⟨.live,[Y,j]⟩],wr⟩=some (.normal,⟨fr',[⟨.live,[X,i]⟩,⟨.live,[Y,j]⟩],wr⟩)∧fr'.length=32∧nth fr' 2 = .ptr 0 0∧nth fr' 3 = .ptr 1 0∧nth fr' 9=X∧nth fr' 10=iv 2∧nth fr' 11=iv 0:=by
 obtain⟨e1,e2,e3⟩:=cb 30 (.agg [X,i]) (.agg [Y,j])
 generalize entry 32 [.agg [X,i],.agg [Y,j]]=fr0 at *
 obtain⟨fr,wr,a1,a2,a3,a4⟩:∃ fr wr,ae (CC L) run k (seq1 bfC) ⟨fr0,[],[]⟩=some (.normal,⟨fr,[⟨.live,[X,i]⟩,⟨.live,[Y,j]⟩],wr⟩)∧fr.length=32∧nth fr 2 = .ptr 0 0∧nth fr 3 = .ptr 1 0:=by
  simp[bfC,f124,seq1,ae,aH,aq,ar,aF,ag,ah,an,aj,aC,aG,FzZ,au,aa,af,ab,and_assoc,bp,e1,e2,e3,bd]
 refine⟨fr,?_⟩
 have hb:aX [⟨.live,[X,i]⟩,⟨.live,[Y,j]⟩] 0=some ⟨.live,[X,i]⟩:=rfl
 generalize ([⟨.live,[X,i]⟩,⟨.live,[Y,j]⟩]:Θ)=hp at *
 obtain⟨fr',b1,b2,b3,b4,b5,b6,b7⟩:∃ fr',ae (CC L) run k (seq1 (seq1 (aO bfC))) ⟨fr,hp,wr⟩=some (.normal,⟨fr',hp,wr⟩)∧fr'.length=32∧nth fr' 2 = .ptr 0 0∧nth fr' 3 = .ptr 1 0∧nth fr' 9=X∧nth fr' 10=iv 2∧nth fr' 11=iv 0:=by
  simp[iv,bfC,f124,seq1,aO,ae,aH,aq,ar,aF,ag,ah,an,aj,aC,aG,FzZ,au,bM,partOf,aa,af,ab,bf,a2,a3,a4,hb,hX,fa0,adp,ZL,CV,bz,aV]
 exact⟨fr',wr,a1,b1,b2,b3,b4,b5,b6,b7⟩
theorem adh(X Y:PV)(m n:Nat)(hm:m<1000)(hn:n<1000)(h0:fr.length=32)(h2:nth fr 2 = .ptr 0 0)(h3:nth fr 3 = .ptr 1 0)(hb0:aX hp 0=some ⟨.live,[X,iv m]⟩)(hb1:aX hp 1=some ⟨.live,[Y,iv n]⟩):∃ st,ae (CC L) run k (aO (aO bfC)) ⟨fr,hp,wr⟩=some (.ret,st)∧aY TT st.fr st.hp f124.results.toList=some [.sc (.int .i64 ((m:Int) - (n:Int)))]:=by
 have hw:bB .i64 ((m:Int) - (n:Int))=(m:Int) - (n:Int):=fi _ (by omega) (by omega)
 simp only[iv] at hb0 hb1
 simp[bfC,f124,aO,ae,aH,aq,ar,aF,ag,ah,an,aj,aC,aG,FzZ,ba,aw,bg,partOf,aa,af,ab,bf,h0,h2,h3,hb0,hb1,hw,fa1,aI,sI,bz,aV,aY]
theorem agJ(h0:fr.length=32)(h10:nth fr 10=iv 2)(h11:nth fr 11=iv 2):∃ fr',ae (CC L) run k bfB ⟨fr,hp,wr⟩=some (.exit 0,⟨fr',hp,wr⟩):=by
 simp only[iv] at h10 h11
 simp[bfB,bfC,f124,az,ae,aH,aq,ar,aF,ag,ah,an,aj,aC,aG,FzZ,ba,aw,bg,aa,h0,h10,h11]
def cA (x:Bool)(z:VN):PV:=.agg (eC x z)
abbrev VN2:=VN × VN
def aix (p:VN2):Prop:=(Rb2 1000 p.1.1∧p.1.2<1000)∧Rb2 1000 p.2.1∧p.2.2<1000
def LZv:Lst:=[(129,lv)]
theorem agT:dt base.P LZv:=⟨jW,trivial⟩
def XI:Ψ→Option Ψ:=ctr (fun p:VN2=>[cA false p.1,cA false p.2]) aix fun p=>[.sc (.int .i64 (oe p.1 p.2))]
theorem F3:Ab.Spec base.P 124 XI:=Ab.Spec.bL (C:=CC LZv) (cP agT) fun args rs h=>by
 obtain⟨⟨⟨a,m⟩,b,n⟩,⟨⟨ha,hm⟩,hb,hn⟩,rfl,rfl⟩:=cX h
 dsimp only at ha hm hb hn
 obtain⟨fr,fr1,wr,a1,a2,a3,a4,a5,a6,a7,a8⟩:=agI LZv (runK (CC LZv) 20) 20 (v2 false a) (v2 false b) (iv m) (iv n) rfl rfl
 have g0:=Cr (L:=LZv) rfl (runK (CC LZv) 20) (u:=some a.1) (v:=some b.1) ha.1 hb.1 (by omega)
 have g1:=Cr (L:=LZv) rfl (runK (CC LZv) 20) (u:=some a.2) (v:=some b.2) ha.2 hb.2 (by omega)
 obtain⟨fr2,hp2,wr2,b1,b2,b3,b4,b5,b6⟩:=FZ LZv (runK (CC LZv) 20) 20 fr1 [⟨.live,[v2 false a,iv m]⟩,⟨.live,[v2 false b,iv n]⟩] wr [a.1,a.2] [b.1,b.2] m n 0 (fI a.1 b.1) (by simp) (by omega) (by simp) ⟨a3,a4,a5,a6,a7,a8⟩ (by simp) rfl rfl g0
 have fin:∀ {st:St},ae (CC LZv) (runK (CC LZv) 20) 20 bfC ⟨entry 32 [cA false (a,m),cA false (b,n)],[],[]⟩=some (.ret,st)→aY TT st.fr st.hp f124.results.toList=some [.sc (.int .i64 (oe (a,m) (b,n)))]→∃ k rs1 hp1 wr rs2 ids,runK (CC LZv) k 124 [cA false (a,m),cA false (b,n)] []=some (rs1,hp1,wr)∧bu (snap hp1 bn) rs1=some (rs2,ids)∧WkL rs2 [.sc (.int .i64 (oe (a,m) (b,n)))]:=fun hx hr =>
  ⟨_,_,_,_,_,_,aZ PO rfl hx hr,rfl,Wk.refl rfl,trivial⟩
 by_cases h0:fI a.1 b.1≠0
 ·have hb0:(fI a.1 b.1 != 0)=true:=by simpa using h0
  rw[hb0,cond_true] at b1
  have hl:ae (CC LZv) (runK (CC LZv) 20) 20 (.seq (seq1 (seq1 (aO bfC))) (.block 0 (.loop bfB))) ⟨fr,[⟨.live,[v2 false a,iv m]⟩,⟨.live,[v2 false b,iv n]⟩],wr⟩=some (.ret,⟨fr2,hp2,wr2⟩):=by
   rw[ao a2];exact cL (dD (n:=19) b1)
  refine fin (by rw[Jy];exact (ao a1).trans (bK hl)) ?_
  have:oe (a,m) (b,n)=fI a.1 b.1:=by unfold oe;rw[if_pos h0]
  rw[this]
  simp[f124,aY,b2 hb0]
 ·have hb0:(fI a.1 b.1 != 0)=false:=by simpa using h0
  rw[hb0,cond_false] at b1
  obtain⟨c0,c2,c3,c9,c10,c11⟩:=b3 hb0
  obtain⟨fr3,hp3,wr3,d1,d2,d3,d4,d5,d6⟩:=FZ LZv (runK (CC LZv) 20) 20 fr2 hp2 wr2 [a.1,a.2] [b.1,b.2] m n 1 (fI a.2 b.2) (by simp) (by omega) (by simp) ⟨c0,c2,c3,c9,c10,c11⟩ b4 b5 b6 g1
  by_cases h1:fI a.2 b.2≠0
  ·have hb1:(fI a.2 b.2 != 0)=true:=by simpa using h1
   rw[hb1,cond_true] at d1
   have hl:ae (CC LZv) (runK (CC LZv) 20) 20 (.seq (seq1 (seq1 (aO bfC))) (.block 0 (.loop bfB))) ⟨fr,[⟨.live,[v2 false a,iv m]⟩,⟨.live,[v2 false b,iv n]⟩],wr⟩=some (.ret,⟨fr3,hp3,wr3⟩):=by
    rw[ao a2];exact cL (by rw[show (20:Nat)=18+1+1 from rfl,bU b1];exact dD d1)
   refine fin (by rw[Jy];exact (ao a1).trans (bK hl)) ?_
   have:oe (a,m) (b,n)=fI a.2 b.2:=by unfold oe;rw[if_neg h0,if_pos h1]
   rw[this]
   simp[f124,aY,d2 hb1]
  ·have hb1:(fI a.2 b.2 != 0)=false:=by simpa using h1
   rw[hb1,cond_false] at d1
   obtain⟨e0,e2,e3,e9,e10,e11⟩:=d3 hb1
   obtain⟨fr4,f1⟩:=agJ LZv (runK (CC LZv) 20) 20 fr3 hp3 wr3 e0 e10 e11
   have K:=aP _ f1
   have hl:ae (CC LZv) (runK (CC LZv) 20) 20 (.seq (seq1 (seq1 (aO bfC))) (.block 0 (.loop bfB))) ⟨fr,[⟨.live,[v2 false a,iv m]⟩,⟨.live,[v2 false b,iv n]⟩],wr⟩=some (.normal,⟨fr4,hp3,wr3⟩):=by
    rw[ao a2];exact bD (by rw[show (20:Nat)=17+1+1+1 from rfl,bU b1,bU d1];exact br f1)
   obtain⟨st,g1,g2⟩:=adh LZv (runK (CC LZv) 20) 20 fr4 hp3 wr3 _ _ m n hm hn (K.len e0) (K.at e2) (K.at e3) d5 d6
   refine fin (by rw[Jy];exact (ao a1).trans ((ao hl).trans g1)) ?_
   have:oe (a,m) (b,n)=(m:Int) - (n:Int):=by unfold oe;rw[if_neg h0,if_neg h1]
   rw[this];exact g2
theorem W5 (x:Bool)(z:VN):canon (cA x z)=cA false z:=by
 simp only[cA,eC,canon,aK,v2,tm]
 rfl
theorem XA {a b:VN}(ha:Rb2 1000 a.1)(hb:Rb2 1000 b.1)(h:cA false a=cA false b):a=b:=by
 simp only[cA,eC,PV.agg.injEq,List.cons.injEq,and_true,iv,PV.sc.injEq,Value.int.injEq,true_and] at h
 exact Prod.ext (Bg ha hb h.1) (Int.ofNat.inj h.2)
theorem ajK {L:Lst}(hL:bC L 124=fun a=>XI (aK a))(run:av)(a b:VN)(h:aix (a,b)):aA L run 124 [cA true a,cA true b] (.sc (.int .i64 (oe a b))):=fun dr hp =>
 rS Y4 hL run dr hp _ [cA false a,cA false b] [.sc (.int .i64 (oe a b))] rfl (by simp only[aK,W5])
  (pU (e:=fun p:VN2=>[cA false p.1,cA false p.2]) (f:=fun p=>[.sc (.int .i64 (oe p.1 p.2))]) (fun x y hx hy h=>by
   simp only[List.cons.injEq,and_true] at h
   rw[XA hx.1.1 hy.1.1 h.1,XA hx.2.1 hy.2.1 h.2]) (x:=(a,b)) h)
def okV (z:VN):Prop:=Rb2 1000 z.1∧z.2<1000
theorem adX {L:Lst}(hL:bC L 124=fun a=>XI (aK a))(run:av):Bef L run okV oe:=⟨fun a b ha hb=>ajK hL run a b ⟨ha,hb⟩,adi⟩
theorem QS (a b z:P2):0<fk a b z ↔ 0<cr a b z:=by
 unfold fk cr
 rcases iY ((b.1 - a.1)*(z.2 - a.2)) ((b.2 - a.2)*(z.1 - a.1)) with ⟨h,e⟩| ⟨h,e⟩| ⟨h,e⟩ <;> rw[e] <;> constructor <;> intro k <;> first | grind | omega
theorem ahG {L:Lst}(hL:bC L 130=fun a=>aaF (aK a))(run:av):TnG L run okV fun a b z=>fk a.1 b.1 z.1:=⟨fun a b z ha hb hz dr hp =>
 rS RC hL run dr hp _ (e3v (a.1,b.1,z.1)) [Ab.bJ (fk a.1 b.1 z.1)] rfl (by simp only[aK,v2,tm];rfl)
  (pU (e:=e3v) (f:=fun p=>[Ab.bJ (fk p.1 p.2.1 p.2.2)]) (fun x y hx hy h=>by
   simp only[e3v,List.cons.injEq,and_true] at h
   rw[Bg hx.1 hy.1 h.1,Bg hx.2.1 hy.2.1 h.2.1,Bg hx.2.2 hy.2.2 h.2.2]) (x:=(a.1,b.1,z.1)) ⟨ha.1,hb.1,hz.1⟩),fun a b z=>QS _ _ _⟩
theorem I6:eqC = .seq (seq1 eqC) (.seq (seq1 (aO eqC)) (.seq (.seq (seq1 (seq1 (aO (aO eqC)))) (.block 0 (.loop eqB))) (aO (aO (aO eqC))))):=rfl
section
variable (L:Lst) (run:av) (k:Nat) (fr:Ψ) (hp:Θ) (wr:Ω) (X Y:PV)
theorem akg (hX:dc X=some 2)(hY:dc Y=some 2):∃ fr fr1 fr2,ae (CC L) run k (seq1 eqC) ⟨entry 32 [X,Y,.sc (.func (.func 128) ⟨[]⟩ ⟨[]⟩)],hp,[]⟩=some (.normal,⟨fr,hp,[]⟩)∧ae (CC L) run k (seq1 (aO eqC)) ⟨fr,hp,[]⟩=some (.normal,⟨fr1,hp,[]⟩)∧ae (CC L) run k (seq1 (seq1 (aO (aO eqC)))) ⟨fr1,hp,[]⟩=some (.normal,⟨fr2,hp,[]⟩)∧fr2.length=32∧nth fr2 1=Y∧nth fr2 2 = .sc (.func (.func 128) ⟨[]⟩ ⟨[]⟩)∧nth fr2 15=X∧nth fr2 16=iv 2∧nth fr2 17=iv 0:=by
 obtain⟨e1,e2,e3,e4⟩:=Cc 29 X Y (.sc (.func (.func 128) ⟨[]⟩ ⟨[]⟩))
 generalize entry 32 [X,Y,.sc (.func (.func 128) ⟨[]⟩ ⟨[]⟩)]=fr0 at *
 obtain⟨fr,a1,a2,a3,a4,a5⟩:∃ fr,ae (CC L) run k (seq1 eqC) ⟨fr0,hp,[]⟩=some (.normal,⟨fr,hp,[]⟩)∧fr.length=32∧nth fr 0=X∧nth fr 1=Y∧nth fr 2 = .sc (.func (.func 128) ⟨[]⟩ ⟨[]⟩):=by
  simp[eqC,f127,seq1,ae,aH,aq,ar,aF,ag,ah,an,aj,aC,aG,FzZ,au,af,ab,e1,e2,e3,e4]
 obtain⟨fr1,b1,b2,b3,b4,b5⟩:∃ fr1,ae (CC L) run k (seq1 (aO eqC)) ⟨fr,hp,[]⟩=some (.normal,⟨fr1,hp,[]⟩)∧fr1.length=32∧nth fr1 0=X∧nth fr1 1=Y∧nth fr1 2 = .sc (.func (.func 128) ⟨[]⟩ ⟨[]⟩):=by
  simp[eqC,f127,seq1,aO,ae,aH,aq,ar,aF,ag,ah,an,aj,aC,aG,FzZ,ba,aw,bg,bM,aa,af,ab,bf,a2,a3,a4,a5,hX,hY,CV]
 refine⟨fr,fr1,?_⟩
 simp only[a1,b1,true_and]
 simp[iv,eqC,f127,seq1,aO,ae,aH,aq,ar,aF,ag,ah,an,aj,aC,aG,FzZ,au,bM,aa,af,ab,bf,b2,b3,b4,b5,hX,CV]
theorem agh (h0:fr.length=32)(h16:nth fr 16=iv 2)(h17:nth fr 17=iv 2):∃ fr',ae (CC L) run k eqB ⟨fr,hp,wr⟩=some (.exit 0,⟨fr',hp,wr⟩):=by
 simp only[iv] at h16 h17
 simp[eqB,eqC,f127,az,ae,aH,aq,ar,aF,ag,ah,an,aj,aC,aG,FzZ,ba,aw,bg,aa,h0,h16,h17]
theorem eq_10 (h0:fr.length=32):∃ fr',ae (CC L) run k (aO (aO (aO eqC))) ⟨fr,hp,wr⟩=some (.ret,⟨fr',hp,wr⟩)∧nth fr' 6 = .sc (.bool true):=by
 simp[eqC,f127,aO,ae,aH,aq,ar,aF,ag,ah,an,aj,aC,aG,FzZ,au,aa,h0]
end
theorem acM {L:Lst}(hL:bC L 129=fun a=>lv (aK a))(k:Nat)(hk:3≤k)(a b:P2)(ha:Rb2 1000 a)(hb:Rb2 1000 b)(hp:Θ)(dr:Bool):bS (CC L) (runK (CC L) (k+2)) dr hp 127 [v2 true a,v2 true b,.sc (.func (.func 128) ⟨[]⟩ ⟨[]⟩)]=some (.sc (.bool (decide (a=b))),hp,⟨[],[],true,true⟩):=by
 obtain⟨fr,fr1,fr2,a1,a2,a3,a4,a5,a6,a7,a8,a9⟩:=akg L (runK (CC L) (k+1)) (k+1) hp (v2 true a) (v2 true b) rfl rfl
 have cmp:∀ (x y:Rat),Rb 1000 x→Rb 1000 y→∀ dr hp,bS (CC L) (runK (CC L) (k+1)) dr hp 128 [rv (some x),rv (some y)]=some (.sc (.bool (decide (x=y))),hp,⟨[],[],true,true⟩):=fun x y hx hy dr hp=>by
  have:=V7 L k x y (fI x y) (Cr hL _ (u:=some x) (v:=some y) hx hy (by omega)) dr hp
  have e:(fI x y == 0)=decide (x=y):=by
   by_cases h:x=y
   ·rw[decide_eq_true h,(DF x y).2 h];rfl
   ·rw[decide_eq_false h]
    have:fI x y≠0:=fun k=>h ((DF x y).1 k)
    simpa using this
  rw[e] at this;exact this
 obtain⟨fr3,hp3,wr3,b1,b2,b3,b4,b5⟩:=Fp L (runK (CC L) (k+1)) (k+1) fr2 hp [] true true [a.1,a.2] [b.1,b.2] 0 hp.length (decide (a.1=b.1)) (by simp) (by omega) (by simp) ⟨a4,a5,a6,a7,a8,a9⟩ (Nat.le_refl _) (Ca _) (cmp a.1 b.1 ha.1 hb.1)
 have fin:∀ {fr':Ψ} {hp':Θ} {wr':Ω},ae (CC L) (runK (CC L) (k+1)) (k+1) eqC ⟨entry 32 [v2 true a,v2 true b,.sc (.func (.func 128) ⟨[]⟩ ⟨[]⟩)],hp,[]⟩=some (.ret,⟨fr',hp',wr'⟩)→nth fr' 6 = .sc (.bool (decide (a=b)))→Hgr hp hp'→Fr hp.length wr'→bS (CC L) (runK (CC L) (k+2)) dr hp 127 [v2 true a,v2 true b,.sc (.func (.func 128) ⟨[]⟩ ⟨[]⟩)]=some (.sc (.bool (decide (a=b))),hp,⟨[],[],true,true⟩):=fun {fr' hp' wr'} hx hr hg hw =>
  qB aev (gw X0 rfl hx (show aY TT fr' hp' f127.results.toList=some [.sc (.bool (decide (a=b)))] by simp[f127,aY,hr])) rfl hg hw dr
 have e:(a=b) ↔ a.1=b.1∧a.2=b.2:=⟨fun h=>by rw[h];exact⟨rfl,rfl⟩,fun h=>Prod.ext h.1 h.2⟩
 by_cases h1:a.1=b.1
 ·rw[decide_eq_true h1,cond_true] at b1
  obtain⟨c0,c1,c2,c15,c16,c17⟩:=b3 (decide_eq_true h1)
  obtain⟨fr4,hp4,wr4,d1,d2,d3,d4,d5⟩:=Fp L (runK (CC L) (k+1)) (k+1) fr3 hp3 wr3 true true [a.1,a.2] [b.1,b.2] 1 hp.length (decide (a.2=b.2)) (by simp) (by omega) (by simp) ⟨c0,c1,c2,c15,c16,c17⟩ b4.1 b5 (cmp a.2 b.2 ha.2 hb.2)
  by_cases h2:a.2=b.2
  ·rw[decide_eq_true h2,cond_true] at d1
   obtain⟨g0,g1,g2,g15,g16,g17⟩:=d3 (decide_eq_true h2)
   obtain⟨fr5,m1⟩:=agh L (runK (CC L) (k+1)) (k+1) fr4 hp4 wr4 g0 g16 g17
   have K:=aP _ m1
   obtain⟨fr6,n1,n2⟩:=eq_10 L (runK (CC L) (k+1)) (k+1) fr5 hp4 wr4 (K.len g0)
   have hl:ae (CC L) (runK (CC L) (k+1)) (k+1) (.seq (seq1 (seq1 (aO (aO eqC)))) (.block 0 (.loop eqB))) ⟨fr1,hp,[]⟩=some (.normal,⟨fr5,hp4,wr4⟩):=by
    rw[ao a3]
    exact bD (bG (n:=0+1+1+1) (by rw[bU b1,bU d1];exact br m1) (by omega))
   refine fin (by rw[I6];exact (ao a1).trans ((ao a2).trans ((ao hl).trans n1))) ?_ (b4.trans d4) d5
   rw[n2,decide_eq_true (e.2 ⟨h1,h2⟩)]
  ·rw[decide_eq_false h2,cond_false] at d1
   have hl:ae (CC L) (runK (CC L) (k+1)) (k+1) (.seq (seq1 (seq1 (aO (aO eqC)))) (.block 0 (.loop eqB))) ⟨fr1,hp,[]⟩=some (.ret,⟨fr4,hp4,wr4⟩):=by
    rw[ao a3]
    exact cL (bG (n:=0+1+1) (by rw[bU b1];exact dD d1) (by omega))
   refine fin (by rw[I6];exact (ao a1).trans ((ao a2).trans (bK hl))) ?_ (b4.trans d4) d5
   rw[d2 (decide_eq_false h2),decide_eq_false (fun h=>h2 (e.1 h).2)]
 ·rw[decide_eq_false h1,cond_false] at b1
  have hl:ae (CC L) (runK (CC L) (k+1)) (k+1) (.seq (seq1 (seq1 (aO (aO eqC)))) (.block 0 (.loop eqB))) ⟨fr1,hp,[]⟩=some (.ret,⟨fr3,hp3,wr3⟩):=by
   rw[ao a3]
   exact cL (bG (n:=0+1) (dD b1) (by omega))
  refine fin (by rw[I6];exact (ao a1).trans ((ao a2).trans (bK hl))) ?_ b4 b5
  rw[b2 (decide_eq_false h1),decide_eq_false (fun h=>h1 (e.1 h).1)]
theorem abn(X Y i j:PV)(u:Bool)(hc:∀ hp,bS (CC L) run false hp 127 [X,Y,.sc (.func (.func 128) ⟨[]⟩ ⟨[]⟩)]=some (.sc (.bool u),hp,⟨[],[],true,true⟩)) :
  ∃ st,ae (CC L) run k (f126.body.getD .skip) ⟨entry 10 [.agg [X,i],.agg [Y,j]],hp,[]⟩=some (.ret,st)∧Hgr hp st.hp∧Fr hp.length st.wr∧aY TT st.fr st.hp f126.results.toList=some [.sc (.bool u)]:=by
 obtain⟨e1,e2,e3⟩:=cb 8 (.agg [X,i]) (.agg [Y,j])
 generalize entry 10 [.agg [X,i],.agg [Y,j]]=fr0 at *
 have b1:=al5 hp [X,i] [Y,j]
 have b2:=al1 (bd hp [X,i]) [Y,j]
 have b3:=Hgr.two hp [X,i] [Y,j]
 have b4:=adY hp [X,i]
 simp[f126,ae,aH,aq,ar,aF,ag,ah,aM,an,aj,aC,FzZ,au,partOf,aa,af,ab,bf,bp,rY,e1,e2,e3,b1,b2,b3,b4,hc,oX,Ca,aV,fa0,bz,adp,ZL,aY]
theorem ajf {L:Lst}(hL:bC L 129=fun a=>lv (aK a))(k:Nat)(hk:3≤k):EqG L (runK (CC L) (k+3)) okV:=fun a b ha hb dr hp=>by
 obtain⟨st,x1,x2,x3,x4⟩:=abn L (runK (CC L) (k+2)) (k+2) hp (v2 true a.1) (v2 true b.1) (iv a.2) (iv b.2) (decide (a.1=b.1)) fun hp=>acM hL k hk a.1 b.1 ha.1 hb.1 hp false
 exact qB RE (gw JU rfl x1 x4) rfl x2 x3 dr
theorem bPt:iG TT 39=some 24:=by kernel_rfl
theorem CB:base.F.get 31=some f31:=by kernel_rfl
theorem G8:base.shared 31=false:=by kernel_rfl
def wiC:Code:=f31.body.getD .skip
def wiB:Code:=(az wiC).getD .skip
theorem ajN:ai 6 wiC = .seq (.seq (seq1 (seq1 (ai 6 wiC))) (.block 0 (.loop wiB))) (ai 7 wiC):=rfl
theorem YH(C P:PV)(e:Nat)(he:e≠0)(g:aA L run 73 [C] (iv e)) :
  ∃ st,ae (CC L) run k wiC ⟨entry 45 [C,P],[],[]⟩=some (.ret,st)∧aY TT st.fr st.hp f31.results.toList=some [.sc (.bool false),iv e]:=by
 obtain⟨e1,e2,e3⟩:=cb 43 C P
 unfold aA iv at *
 generalize entry 45 [C,P]=fr0 at *
 have hb:(((e:Nat):Int) != 0)=true:=by simpa using he
 simp[wiC,f31,ae,aH,aq,ar,aF,ag,ah,aM,an,aj,aC,aG,FzZ,ba,aw,bg,au,aa,af,ab,e1,e2,g,hb,aY]
theorem YG (L:Lst)(run:av)(k:Nat)(C:PV)(p:List ByteArray)(hp:p.length≠2)(g:aA L run 73 [C] (iv 0)) :
  ∃ st,ae (CC L) run k wiC ⟨entry 45 [C,pE p],[],[]⟩=some (.ret,st)∧aY TT st.fr st.hp f31.results.toList=some [.sc (.bool false),iv 10]:=by
 obtain⟨e1,e2,e3⟩:=cb 43 C (pE p)
 unfold aA iv at *
 generalize entry 45 [C,pE p]=fr0 at *
 have hl:=eF p
 generalize pE p=P at *
 have hb:(((p.length:Nat):Int) != 2)=true:=by
  have:((p.length:Nat):Int)≠2:=by omega
  simpa using this
 generalize p.length=n at *
 simp[wiC,f31,ae,aH,aq,ar,aF,ag,ah,aM,an,aj,aC,aG,FzZ,ba,aw,bg,au,bM,aa,af,ab,bf,e1,e2,e3,g,hl,hb,uPt,aY]
theorem rl (s t:ByteArray):∃ r q,bc TT 39 (pE [s,t]) (.sc (.int .i64 0))=some (.iptr r)∧r.head?=some (.sc (.string s))∧bc TT 39 (pE [s,t]) (.sc (.int .i64 1))=some (.iptr q)∧q.head?=some (.sc (.string t)):=by
 obtain⟨r,a,b⟩:=uv uPt [s,t] 0 (by simp)
 obtain⟨q,c,d⟩:=uv uPt [s,t] 1 (by simp)
 exact⟨r,q,a,b,c,d⟩
theorem Kx(C:PV)(s t:ByteArray)(a b:Bool)(hab:a=false∨b=false)(g:aA L run 73 [C] (iv 0))(g1:aA L run 23 [.sc (.string s)] (.sc (.bool a)))(g2:aA L run 23 [.sc (.string t)] (.sc (.bool b))) :
  ∃ st,ae (CC L) run k wiC ⟨entry 45 [C,pE [s,t]],[],[]⟩=some (.ret,st)∧aY TT st.fr st.hp f31.results.toList=some [.sc (.bool false),iv 1]:=by
 obtain⟨e1,e2,e3⟩:=cb 43 C (pE [s,t])
 obtain⟨r,q,x1,x2,y1,y2⟩:=rl s t
 unfold aA iv at *
 generalize entry 45 [C,pE [s,t]]=fr0 at *
 have hl:=eF [s,t]
 generalize pE [s,t]=P at *
 cases a
 ·simp[wiC,f31,ae,aH,aq,ar,aF,ag,ah,aM,an,aj,aC,aG,FzZ,ba,aw,bg,au,bM,partOf,unP,aa,af,ab,bf,e1,e2,e3,g,g1,hl,x1,x2,uPt,iJ,gN,aV,number,undef,aY]
 ·obtain rfl:b=false:=by
   rcases hab with h | h
   ·cases h
   ·exact h
  simp[wiC,f31,ae,aH,aq,ar,aF,ag,ah,aM,an,aj,aC,aG,FzZ,ba,aw,bg,au,bM,partOf,unP,aa,af,ab,bf,e1,e2,e3,g,g1,g2,hl,x1,x2,y1,y2,uPt,iJ,gN,aV,number,aY]
theorem aei (L:Lst)(run:av)(k:Nat)(C:PV)(s t:ByteArray)(g:aA L run 73 [C] (iv 0))(g1:aA L run 23 [.sc (.string s)] (.sc (.bool true)))(g2:aA L run 23 [.sc (.string t)] (.sc (.bool true))) :
  ∃ fr wr,bh (CC L) run k 6 wiC ⟨entry 45 [C,pE [s,t]],[],[]⟩=some ⟨fr,[],wr⟩∧fr.length=45∧nth fr 0=C∧nth fr 1=pE [s,t]∧nth fr 7 = .sc (.slice none 0 0):=by
 obtain⟨e1,e2,e3⟩:=cb 43 C (pE [s,t])
 obtain⟨r,q,x1,x2,y1,y2⟩:=rl s t
 unfold aA iv at *
 generalize entry 45 [C,pE [s,t]]=fr0 at *
 have hl:=eF [s,t]
 generalize pE [s,t]=P at *
 simp[wiC,f31,bh,ae,aH,aq,ar,aF,ag,ah,aM,an,aj,aC,aG,FzZ,ba,aw,bg,au,bM,partOf,unP,aa,af,ab,bf,and_assoc,e1,e2,e3,g,g1,g2,hl,x1,x2,y1,y2,uPt,iJ,gN,aV,number]
theorem ahB(h0:fr.length=45):∃ fr',ae (CC L) run k (seq1 (seq1 (ai 6 wiC))) ⟨fr,hp,wr⟩=some (.normal,⟨fr',hp,wr⟩)∧nth fr' 8=iv 0:=by
 simp[iv,seq1,ai,wiC,f31,ae,aH,aq,ar,aF,ag,ah,an,aj,aC,aG,FzZ,au,aa,h0]
theorem ajM(c l:List (List ByteArray))(j:Nat)(hj:j<c.length)(h9:l.length≤1000)(hO:cH 1 ep 0 hp l (nth fr 7))(h0:fr.length=45)(h00:nth fr 0=cE c)(h8:nth fr 8=iv j) :
  ∃ fr' hp' wr',ae (CC L) run k (.block 1 (cI wiB)) ⟨fr,hp,wr⟩=some (.normal,⟨fr',hp',wr'⟩)∧cH 1 ep 0 hp' (l++[c[j]]) (nth fr' 7):=by
 obtain⟨r1,x1,x2⟩:=kG uCl c j hj
 obtain⟨p',hp',fp,a1,a2,a3,-⟩:=hO.app I7.toEl [c[j]] (by simp) (by simp;omega)
 generalize c[j]=v at *
 rw[show [v].flatMap ep=[pE v] from rfl,show [v].length=1 from rfl] at a1
 have hid:bT [pE v]=true:=rfl
 have hlit:fP TT 22 1 [(0,pE v)]=some (1,[pE v]):=by simp[fP,yK,sPt,zPt,rep,dJ,b9,show (pE v).cells?=some [pE v] from rfl]
 have hrd:∀ hp,eY hp 1 (.imm 1 true [pE v])=some (1,[pE v],[]):=fun hp=>adH hp _
 have hok:dZ (pE v)=true:=rfl
 simp only[iv] at h8
 generalize pE v=V at *
 have fr0':=fr0
 cases hfp:FP.free ⟨fp.rd,fp.wr,fp.al,false⟩ <;> simp[cI,wiB,wiC,f31,az,ae,aH,aq,ar,aF,ag,ah,an,aj,aC,aG,FzZ,au,partOf,aa,af,ab,bf,and_assoc,bj,h0,h00,h8,x1,x2,hid,hlit,hrd,hok,a1,a2,yK,aPt,sPt,zPt,bPt,bZ,aV,number,fr0',hfp]
theorem YE(p q:PV)(b:Bool)(fp:FP)(hc:bS (CC L) run false hp 75 [p,q]=some (.sc (.bool b),hp,fp))(h0:fr.length=45)(h1:nth fr 1=q)(h7:nth fr 7=p) :
  ∃ st,ae (CC L) run k (ai 7 wiC) ⟨fr,hp,wr⟩=some (.ret,st)∧aY TT st.fr st.hp f31.results.toList=some [.sc (.bool b),iv 0]:=by
 cases hfp:FP.free ⟨fp.rd,fp.wr,fp.al,false⟩ <;> simp[iv,wiC,ai,f31,ae,aH,aq,ar,aF,ag,ah,aM,an,aj,aC,aG,FzZ,au,aa,af,ab,h0,h1,h7,hc,aY]
theorem ae6 {X Y:List P2}(h:qP X=qP Y):X=Y:=by
 have h1:=ae7 h
 refine (map_inj_right fun a b h => ?_).1 h1
 simp only[List.cons.injEq,and_true] at h
 exact Prod.ext h.1 h.2
theorem ab9 {X:List P2}{b:P2}(h:Oh (X,b)):IY [qP X,q2 b]=some [.sc (.bool (nQ X b))] :=
 pU (e:=af3) (ok:=Oh) (f:=fun a=>[.sc (.bool (nQ a.1 a.2))]) (fun x y _ _ h=>by
  simp only[af3,List.cons.injEq,and_true] at h
  rw[Prod.ext (ae6 h.1) (BQ h.2)]) h
theorem FM {L:Lst}(hL:bC L 75=fun a=>IY (aK a)){hp:Θ}{c:List (List ByteArray)}{X:List P2}{b:P2}{p:PV}(hO:cH 1 ep 0 hp c p)(hc:cE c=qP X)(hok:Oh (X,b))(run:av)(dr:Bool):∃ fp,bS (CC L) run dr hp 75 [p,q2 b]=some (.sc (.bool (nQ X b)),hp,fp):=by
 obtain⟨q,ids,h1,-,h3,-⟩:=hO.snap I7
 have s0:∀ n,Ab.snap hp (n+1) (q2 b)=some (q2 b,[]):=fun n=>rfl
 have s1:bu (Ab.snap hp bn) [p,q2 b]=some ([q,q2 b],ids++([]++[])):=by
  show bu (Ab.snap hp 12) _=_
  simp only[bu,h1 10,s0 11]
 have cq:canon (q2 b)=q2 b:=by simp only[q2,qL,pE,Fs.yZ]
 have s2:aK [q,q2 b]=[qP X,q2 b]:=by
  simp only[aK,h3,cq]
  rw[show jM ep c=cE c from rfl,hc]
 exact⟨_,W8 (L:=L) MT hL run dr hp [p,q2 b] _ _ _ _ s1 s2 (ab9 hok) rfl⟩
def fR (p:List ByteArray):P2:=(rq (p.getD 0 ⟨#[]⟩),rq (p.getD 1 ⟨#[]⟩))
def toP (c:List (List ByteArray)):List P2:=c.map fR
theorem nW {c:List (List ByteArray)}(h:eL c=0)(hF:Cv c):cE c=qP (toP c)∧(∀ i,i<(toP c).length→Rb2 61 (at2 (toP c) i))∧(toP c).length=c.length∧c.length≤64∧chk c=0∧∀ p ∈ c,p.length=2∧p=[qb (fR p).1,qb (fR p).2]∧Rb2 61 (fR p):=by
 have h0:chk c=0:=by
  unfold eL AQ at h
  by_cases hc:chk c=0
  ·exact hc
  ·rw[if_neg hc] at h;exact absurd h hc
 obtain⟨e1,e2,e3,e4,e5⟩:=agG h0 hF
 have hd:c≠[]→hdL c=2:=fun hne=>by
  unfold eL AQ at h
  rw[if_pos h0] at h
  cases c with
  | nil=>exact absurd rfl hne
  | cons p c =>
   dsimp only at h
   by_cases h2:p.length=2
   ·exact h2
   ·rw[if_neg h2] at h;cases h
 have hp:∀ p ∈ c,p.length=2∧p=[qb (fR p).1,qb (fR p).2]∧Rb2 61 (fR p):=fun p hp=>by
  have hne:c≠[]:=fun h=>by rw[h] at hp;cases hp
  have hc0:jG (hdL c) c=0:=by
   have:=h0
   unfold chk at this
   rw[if_neg (by omega)] at this
   exact this
  obtain⟨a1,-,-,a4,a5⟩:=LX (Ck hc0 p hp) ((hF.2 p hp).2)
  rw[hd hne] at a1
  obtain⟨x,y,rfl⟩:∃ x y,p=[x,y]:=by
   match p,a1 with
   | [x,y],_=>exact⟨x,y,rfl⟩
  refine⟨rfl,a4,a5 _ (by simp[fR]),a5 _ (by simp[fR])⟩
 refine⟨?_,fun i hi => ?_,by simp[toP],e4,h0,hp⟩
 ·unfold qP qC toP
  rw[map_map,map_map]
  congr 1
  rw[eq_comm]
  conv=>rhs;rw[← map_id c]
  refine map_congr_left fun p hp' => ?_
  exact (hp p hp').2.1.symm
 ·have hi':i<c.length:=by simpa [toP] using hi
  rw[gH hi]
  simp only[toP,getElem_map]
  exact (hp c[i] (getElem_mem _)).2.2
abbrev CPt:=List (List ByteArray) × List ByteArray
def fe (c:List (List ByteArray))(p:List ByteArray):Bool × Nat :=
 bif !decide (eL c=0) then (false,eL c) else bif !decide (p.length=2) then (false,10) else bif !(pB (IsV (p.getD 0 ⟨#[]⟩)) && pB (IsV (p.getD 1 ⟨#[]⟩))) then (false,1) else (nQ (toP c) (fR p),0)
def cpE (a:CPt):Ψ:=[cE a.1,pE a.2]
def aaT (a:CPt):Prop:=Cv a.1∧a.2.length≤100∧∀ s ∈ a.2,(bys s).length≤60
def QK:Ψ→Option Ψ:=ctr cpE aaT fun a=>[.sc (.bool (fe a.1 a.2).1),iv (fe a.1 a.2).2]
def LZf:Lst:=[(73,uw),(23,KJ),(75,IY)]
theorem agW:dt base.P LZf:=⟨xl,zF,EY,trivial⟩
theorem B3 {s:ByteArray}(h:IsV s):s=qb (rq s)∧Rb 1000 (rq s):=by
 obtain⟨x,rfl,hx⟩:=h
 rw[adG]
 exact⟨rfl,hx⟩
theorem YF (c:List (List ByteArray))(s t:ByteArray)(hF:Cv c)(hf:eL c=0)(hs:IsV s)(ht:IsV t)(h60:(bys s).length≤60)(h61:(bys t).length≤60):∃ st,ae (CC LZf) (runK (CC LZf) 200) 200 wiC ⟨entry 45 [cE c,pE [s,t]],[],[]⟩=some (.ret,st)∧aY TT st.fr st.hp f31.results.toList=some [.sc (.bool (nQ (toP c) (fR [s,t]))),iv 0]:=by
 have g:=Cu (L:=LZf) rfl (runK (CC LZf) 200) c hF.fit
 have g1:=yE (L:=LZf) rfl (runK (CC LZf) 200) s (by omega)
 have g2:=yE (L:=LZf) rfl (runK (CC LZf) 200) t (by omega)
 rw[hf] at g
 rw[gF hs] at g1
 rw[gF ht] at g2
 obtain⟨q1,q2',q3,q4,q5,q6⟩:=nW hf hF
 obtain⟨fr1,wr1,a1,a2,a3,a4,a5⟩:=aei LZf (runK (CC LZf) 200) 200 (cE c) s t g g1 g2
 obtain⟨fr2,b1,b2⟩:=ahB LZf (runK (CC LZf) 200) 200 fr1 [] wr1 a2
 have K2:=aP _ b1
 have i7:nth fr2 7 = .sc (.slice none 0 0):=K2.at a5
 obtain⟨fr3,hp3,wr3,c1,c2,c3⟩:=Lp.go (C:=CC LZf) (run:=runK (CC LZf) 200) (k:=200) (l:=pf wiB) (body:=cI wiB) (m:=45) (B:=wiB) rfl (by kernel_rfl) (by kernel_rfl) (by kernel_rfl) ⟨_,uCl⟩ (n:=c.length) (j0:=0) (by omega) (by omega) (by omega)
  (J:=fun j f hp=>cH 1 ep 0 hp (c.take j) (f 7)) (fr0:=fr2) (hp0:=[]) (wr0:=wr1) (p:=cE c) (K2.len a2) (K2.at a3) (fm c) b2
  (fun j f g hp h hJ=>by rw[← h 7 (by kernel_rfl)];exact hJ)
  (fun j fr hp wr _ hj hK hij hJ=>by
   obtain⟨fr',hp',wr',x1,x2⟩:=ajM LZf (runK (CC LZf) 200) 200 fr hp wr c _ j hj (by rw[length_take];omega) hJ (hK.len (K2.len a2)) (hK.at (K2.at a3)) hij
   refine⟨fr',hp',wr',x1,?_⟩
   rw[take_succ_eq_append_getElem hj]
   exact x2)
  (by rw[i7];exact cH.nil (Nat.le_refl _))
 rw[take_of_length_le (Nat.le_refl _)] at c3
 obtain⟨v1,v2⟩:=B3 hs
 obtain⟨w1,w2⟩:=B3 ht
 have hq:pE [s,t]=q2 (fR [s,t]):=by
  show pE [s,t]=pE [qb (rq s),qb (rq t)]
  rw[← v1,← w1]
 have hok:Oh (toP c,fR [s,t]):=⟨by rw[q3];omega,fun i hi=>⟨(q2' i hi).1.mono (by omega),(q2' i hi).2.mono (by omega)⟩,v2,w2⟩
 obtain⟨fp,d0⟩:=FM (L:=LZf) rfl c3 q1 hok (runK (CC LZf) 200) false
 obtain⟨st,d1,d2⟩:=YE LZf (runK (CC LZf) 200) 200 fr3 hp3 wr3 _ _ _ fp d0 (c2.len (K2.len a2)) (by rw[← hq];exact c2.at (K2.at a4)) rfl
 refine⟨st,?_,d2⟩
 have hs':ae (CC LZf) (runK (CC LZf) 200) 200 (.seq (seq1 (seq1 (ai 6 wiC))) (.block 0 (.loop wiB))) ⟨fr1,[],wr1⟩=some (.normal,⟨fr3,hp3,wr3⟩):=by rw[ao b1];exact c1
 rw[aU 6 a1,ajN,ao hs'];exact d1
theorem Hj:Ab.Spec base.P 31 QK:=Ab.Spec.bL (C:=CC LZf) (cP agW) fun args rs h=>by
 obtain⟨⟨c,p⟩,⟨hF,h9,h60⟩,rfl,rfl⟩:=cX h
 dsimp only at hF h9 h60
 have g:=Cu (L:=LZf) rfl (runK (CC LZf) 200) c hF.fit
 have key:∃ st,ae (CC LZf) (runK (CC LZf) 200) 200 wiC ⟨entry 45 [cE c,pE p],[],[]⟩=some (.ret,st)∧aY TT st.fr st.hp f31.results.toList=some [.sc (.bool (fe c p).1),iv (fe c p).2]:=by
  by_cases hf:eL c=0
  ·rw[hf] at g
   by_cases hl:p.length=2
   ·obtain⟨s,t,rfl⟩:∃ s t,p=[s,t]:=by
     match p,hl with
     | [x,y],_=>exact⟨x,y,rfl⟩
    have hs60:=h60 s (by simp)
    have ht60:=h60 t (by simp)
    have g1:=yE (L:=LZf) rfl (runK (CC LZf) 200) s (by omega)
    have g2:=yE (L:=LZf) rfl (runK (CC LZf) 200) t (by omega)
    have hw:fe c [s,t]=bif !(pB (IsV s) && pB (IsV t)) then (false,1) else (nQ (toP c) (fR [s,t]),0):=by
     simp[fe,hf]
    by_cases hs:IsV s
    ·by_cases ht:IsV t
     ·rw[hw,gF hs,gF ht]
      exact YF c s t hF hf hs ht hs60 ht60
     ·rw[hw,gF hs,fT ht]
      exact Kx LZf (runK (CC LZf) 200) 200 (cE c) s t _ _ (.inr (fT ht)) g g1 g2
    ·rw[hw,fT hs]
     exact Kx LZf (runK (CC LZf) 200) 200 (cE c) s t _ _ (.inl (fT hs)) g g1 g2
   ·have hw:fe c p=(false,10):=by simp[fe,hf,hl]
    rw[hw]
    exact YG LZf (runK (CC LZf) 200) 200 (cE c) p hl g
  ·have hw:fe c p=(false,eL c):=by simp[fe,hf]
   rw[hw]
   exact YH LZf (runK (CC LZf) 200) 200 (cE c) (pE p) _ hf g
 obtain⟨st,c1,c2⟩:=key
 exact⟨_,_,_,_,_,_,aZ CB rfl c1 c2,rfl,Wk.refl rfl,Wk.refl rfl,trivial⟩
theorem jn (a b p:P2):(fk a b p=0∧cr a b p=0)∨(fk a b p=1∧0<cr a b p)∨(fk a b p = -1∧cr a b p<0):=by
 unfold fk fI cr
 split
 ·refine .inr (.inr ⟨rfl,?_⟩);grind
 ·split
  ·refine .inl ⟨rfl,?_⟩;grind
  ·refine .inr (.inl ⟨rfl,?_⟩);grind
theorem yw (a b p:P2):Cn a b p=true ↔ uQ a b p:=by
 have h:=jn a b p
 have hs:Bx (Hg a b p)≤0 ↔ Hg a b p≤0:=by
  rw[← SJ]
  unfold fI
  generalize Hg a b p=z
  by_cases h1:z<0
  ·rw[if_pos h1];grind
  ·rw[if_neg h1]
   by_cases h2:z=0
   ·rw[if_pos h2];grind
   ·rw[if_neg h2];grind
 unfold Cn uQ
 rw[Bool.and_eq_true,decide_eq_true_iff,decide_eq_true_iff,hs]
 unfold Hg
 rcases h with ⟨h1,h2⟩| ⟨h1,h2⟩| ⟨h1,h2⟩
 ·simp[h1,h2]
 ·simp[h1];grind
 ·simp[h1];grind
theorem CX (a b c p:P2):Mt (fk a b p) (fk b c p) (fk c a p)=true ↔ pA a b c p:=by
 have h1:=jn a b p
 have h2:=jn b c p
 have h3:=jn c a p
 unfold pA Mt
 rcases h1 with ⟨h1,k1⟩| ⟨h1,k1⟩| ⟨h1,k1⟩ <;> rcases h2 with ⟨h2,k2⟩| ⟨h2,k2⟩| ⟨h2,k2⟩ <;> rcases h3 with ⟨h3,k3⟩| ⟨h3,k3⟩| ⟨h3,k3⟩ <;> rw[h1,h2,h3] <;> simp <;> grind
theorem m8 {a b c p:P2}(h:pA a b c p):pA b c a p:=by
 unfold pA at *
 grind
theorem so {a b c p:P2}(h:pA a b c p):pA b a c p:=by
 unfold pA cr at *
 grind
theorem Bj {a b c p:P2}(h:pA a b c p):a≠b:=fun e=>by
 subst e
 unfold pA cr at h
 grind
theorem xN {X:List P2}{p:P2} : PJ X p ↔ InV (fun q=>q ∈ X) p:=by
 constructor
 ·rintro⟨i,j,hij,hj,h⟩
  have hi:i<X.length:=by omega
  have mi:at2 X i ∈ X:=by rw[gH hi];exact getElem_mem hi
  have mj:at2 X j ∈ X:=by rw[gH hj];exact getElem_mem hj
  rcases h with h | ⟨n,hn,hn',h⟩
  ·exact⟨_,_,mi,mj,.inl ((yw _ _ _).1 h)⟩
  ·have mn:at2 X n ∈ X:=by rw[gH hn'];exact getElem_mem hn'
   exact⟨_,_,mi,mj,.inr ⟨_,mn,(CX _ _ _ _).1 h⟩⟩
 ·rintro⟨a,b,ha,hb,h⟩
  obtain⟨i,hi,rfl⟩:=getElem_of_mem ha
  obtain⟨j,hj,rfl⟩:=getElem_of_mem hb
  rcases h with h | ⟨c,hc,h⟩
  ·by_cases hij:i≤j
   ·exact⟨i,j,hij,hj,.inl ((yw _ _ _).2 (by rw[gH hi,gH hj];exact h))⟩
   ·exact⟨j,i,by omega,hi,.inl ((yw _ _ _).2 (by rw[gH hi,gH hj];exact h.symm))⟩
  ·obtain⟨n,hn,rfl⟩:=getElem_of_mem hc
   have n1:i≠j:=fun e=>by subst e;exact Bj h rfl
   have n2:j≠n:=fun e=>by subst e;exact Bj (m8 h) rfl
   have n3:n≠i:=fun e=>by subst e;exact Bj (m8 (m8 h)) rfl
   have mk:∀ {i j n:Nat} (hi:i<X.length) (hj:j<X.length) (hn:n<X.length),i<j→j<n→pA X[i] X[j] X[n] p→PJ X p:=fun {i j n} hi hj hn h1 h2 h=>⟨i,j,by omega,hj,.inr ⟨n,h2,hn,(CX _ _ _ _).2 (by rw[gH hi,gH hj,gH hn];exact h)⟩⟩
   have r1:=m8 h
   have r2:=m8 r1
   rcases Nat.lt_or_ge i j with l1 | l1
   ·rcases Nat.lt_or_ge j n with l2 | l2
    ·exact mk hi hj hn l1 l2 h
    ·rcases Nat.lt_or_ge i n with l3 | l3
     ·exact mk hi hn hj l3 (by omega) (so r2)
     ·exact mk hn hi hj (by omega) l1 r2
   ·rcases Nat.lt_or_ge i n with l2 | l2
    ·exact mk hj hi hn (by omega) l2 (so h)
    ·rcases Nat.lt_or_ge j n with l3 | l3
     ·exact mk hj hn hi l3 (by omega) r1
     ·exact mk hn hj hi (by omega) (by omega) (so r1)
end Go.Proofs.YtjdmodeenbdfpaaGreat
end
