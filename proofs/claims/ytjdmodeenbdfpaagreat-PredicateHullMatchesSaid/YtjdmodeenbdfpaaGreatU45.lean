/- Contracts of the two hulls, of the program and of the reference, part 45; each lemma states its conditions. -/
import Derived.Test.YtjdmodeenbdfpaaGreatU44
set_option linter.unusedSimpArgs false
set_option linter.unusedVariables false
namespace Go.Proofs.YtjdmodeenbdfpaaGreat
open Go Go.Ab List
attribute [local simp] FzZ aC aF aG aH aO aa ab ae ag ah aj an aq ar au olC seq1
theorem cH.gr2 {α:Type}{s:Nat}{e:α→Ψ}{b:Nat}{hp hp':Θ}{l:List α}{p:PV}(h:cH s e b hp l p)(g:Hgr hp hp'):cH s e b hp' l p:=by
 obtain⟨hb,h⟩:=h
 refine⟨Nat.le_trans hb g.1,?_⟩
 rcases h with h | ⟨id,m,x,h1,h2,h3,h4,h5⟩
 ·exact .inl h
 ·exact .inr ⟨id,m,x,h1,Nat.lt_of_lt_of_le h2 g.1,h3,h4,by rw[g.2 id h2,h5]⟩
theorem BT {b:Nat}{hp:Θ}{O:List VN}{q:PV}(h:cH 2 (eC true) b hp O q)(hne:O≠[]):∃ oid M x,q = .own oid 2 0 O.length x∧aX hp oid=some ⟨.live,cells O M⟩:=by
 rcases h.2 with ⟨h,-⟩| ⟨id,m,x,h1,h2,h3,h4,h5⟩
 ·exact absurd h hne
 ·exact⟨id,m.flatMap (eC true),x,h3,by rw[h5,flatMap_append];rfl⟩
theorem aaN {b:Nat}{hp:Θ}{O:List VN}{z:VN}{oid n:Nat}{x y:Bool}(hn:n=O.length)(hy:y=(x && n == n+1))(h:cH 2 (eC true) b hp (O++[z]) (.own oid 2 0 (n+1) x)):cH 2 (eC true) b hp O (.own oid 2 0 n y):=by
 subst hn
 refine⟨h.1,.inr ?_⟩
 rcases h.2 with ⟨h,-⟩| ⟨id,m,x',h1,h2,h3,h4,h5⟩
 ·simp at h
 ·simp only[PV.own.injEq] at h3
  obtain⟨rfl,-⟩:=h3
  refine⟨oid,z::m,y,h1,h2,rfl,fun h => ?_,by rw[h5];simp⟩
  rw[h] at hy
  have:(O.length == O.length+1)=false:=by simp
  rw[this,Bool.and_false] at hy
  cases hy
section
variable (L:Lst) (run:av) (k:Nat) (fr:Ψ) (hp:Θ) (wr:Ω)
theorem adJ (b:Nat)(O:List VN)(z:VN)(h9:O.length+1<1000)(hO:cH 2 (eC true) b hp (O++[z]) (nth fr 3))(h0:fr.length=72) :
  (nth fr 7=iv (O.length+1)→∃ fr',ae (CC L) run k (aO olZ) ⟨fr,hp,wr⟩=some (.normal,⟨fr',hp,wr⟩)∧cH 2 (eC true) b hp O (nth fr' 3)) ∧
  ∃ fr',ae (CC L) run k (seq1 (aO yT)) ⟨fr,hp,wr⟩=some (.normal,⟨fr',hp,wr⟩)∧cH 2 (eC true) b hp O (nth fr' 3):=by
 obtain⟨oid,M,x,h3,-⟩:=BT hO (by simp)
 have hl:(O++[z]).length=O.length+1:=by simp
 rw[hl] at h3
 rw[h3] at hO
 have s1:=Rm hp oid (O.length+1) O.length x (by omega)
 have hP:=aaN (y:=(x && O.length == O.length+1)) rfl rfl hO
 have w1:bB .i64 (((O.length+1:Nat):Int) - 1)=(O.length:Int):=by
  simpa using jm .i64 (O.length+1) 1 O.length (by omega) (hiI (by omega))
 have hl2:dc (.own oid 2 0 (O.length+1) x)=some (O.length+1):=rfl
 generalize (x && O.length == O.length+1)=y at *
 generalize O.length=n at *
 simp only[iv] at s1
 generalize hN:n+1=N at *
 constructor
 ·intro h7
  simp only[iv] at h7
  simp[olZ,olN,olY,olP,olX,qo,blk,olB,Tryz.f72,az,ba,aw,bg,af,bf,h0,h3,h7,w1,s1,hP]
 ·simp[yT,olX,qo,blk,olB,Tryz.f72,az,ba,aw,bg,bM,af,bf,h0,h3,w1,s1,hP,hl2,ko]
theorem aiu (q:PV)(n:Nat)(hl:dc q=some n)(h0:fr.length=72)(h3:nth fr 3=q):∃ fr',ae (CC L) run k (aO (aO olN)) ⟨fr,hp,wr⟩=some (.normal,⟨fr',hp,wr⟩)∧nth fr' 7=iv n:=by
 simp[iv,olN,olY,olP,olX,qo,blk,olB,Tryz.f72,az,bM,bf,h0,h3,hl,ko]
end
structure TnG (L:Lst) (run:av) (ok:VN→Prop) (tI:VN→VN→VN→Int):Prop where
 g:∀ a b z,ok a→ok b→ok z→aA L run 130 [v2 true a.1,v2 true b.1,v2 true z.1] (.sc (.int .i64 (tI a b z)))
 gt:∀ a b z,0<tI a b z ↔ 0<cr a.1 b.1 z.1
section
variable {L:Lst} {run:av} {k:Nat} {ok:VN→Prop} {tI:VN→VN→VN→Int} {b c:Nat} {z:VN} {base:List VN}
theorem abz (hT:TnG L run ok tI)(hz:ok z)(hp:Θ)(hc:aX hp c=some ⟨.live,eC true z⟩):∀ (s:List VN) (fr:Ψ) (wr:Ω),base.length+s.length<900→cH 2 (eC true) b hp (base++s.reverse) (nth fr 3)→fr.length=72→nth fr 4=iv base.length→nth fr 6 = .ptr c 0→nth fr 7=iv (base.length+s.length)→(∀ y ∈ s,ok y) →
  ∃ e fr' hp' wr',cg (ae (CC L) run k olN) (s.length+1) ⟨fr,hp,wr⟩=some (e,⟨fr',hp',wr'⟩)∧dX (df olN) fr fr'∧((e = .exit 3∧cH 2 (eC true) b hp' (base++(dK s z).reverse) (nth fr' 3)∧∀ i,i<b→aX hp' i=aX hp i)∨(e = .exit 4∧hp'=hp∧cH 2 (eC true) b hp (base++(mg z s).reverse) (nth fr' 3))):=by
 have stop:∀ (s:List VN) (fr:Ψ) (wr:Ω),s.length<2→base.length+s.length<900→cH 2 (eC true) b hp (base++s.reverse) (nth fr 3)→fr.length=72→nth fr 4=iv base.length→nth fr 7=iv (base.length+s.length)→mg z s=s →
  ∃ e fr' hp' wr',cg (ae (CC L) run k olN) (s.length+1) ⟨fr,hp,wr⟩=some (e,⟨fr',hp',wr'⟩)∧dX (df olN) fr fr'∧((e = .exit 3∧cH 2 (eC true) b hp' (base++(dK s z).reverse) (nth fr' 3)∧∀ i,i<b→aX hp' i=aX hp i)∨(e = .exit 4∧hp'=hp∧cH 2 (eC true) b hp (base++(mg z s).reverse) (nth fr' 3))):=fun s fr wr hs h9 hO h0 h4 h7 hpop=>by
  obtain⟨fr1,a1,a2⟩:=adL L run k fr hp wr (base.length+s.length) base.length (by omega) h0 h7 h4
  rw[decide_eq_false (by omega)] at a2
  have hr:ae (CC L) run k olN ⟨fr,hp,wr⟩=some (.exit 4,⟨fr1,hp,wr⟩):=by
   rw[Iv,ae,ao a1]
   simp[a2]
  have K:=aP _ hr
  have K1:=aP _ a1
  exact⟨.exit 4,fr1,hp,wr,bG (br (n:=0) hr) (by omega),K,.inr ⟨rfl,rfl,by rw[hpop,K1.at rfl];exact hO⟩⟩
 intro s
 induction s with
 | nil=>intro fr wr h9 hO h0 h4 h6 h7 _;exact stop [] fr wr (by simp) h9 hO h0 h4 h7 rfl
 | cons y s ih =>
  intro fr wr h9 hO h0 h4 h6 h7 hok
  cases s with
  | nil=>exact stop [y] fr wr (by simp) h9 hO h0 h4 h7 rfl
  | cons a r =>
   simp only[length_cons] at h9 h7 ⊢
   obtain⟨fr1,a1,a2⟩:=adL L run k fr hp wr (base.length+(r.length+1+1)) base.length (by omega) h0 h7 h4
   rw[decide_eq_true (by omega)] at a2
   have K1:=aP _ a1
   have a3:ae (CC L) run k (.seq (seq1 (seq1 olN)) (.cond (.tmp 31) .skip (.exit 4))) ⟨fr,hp,wr⟩=some (.normal,⟨fr1,hp,wr⟩):=by
    rw[ao a1]
    simp[a2]
   have eO:base++(y::a::r).reverse=(base++r.reverse)++[a,y]:=by simp
   have eP:(base++r.reverse).length=base.length+r.length:=by simp
   have e3:nth fr1 3=nth fr 3:=K1.at rfl
   rw[← e3] at hO
   have hO':=hO
   rw[eO] at hO'
   obtain⟨oid,M,x,q1,q2⟩:=BT hO' (by simp)
   have el:((base++r.reverse)++[a,y]).length=base.length+(r.length+1+1):=by simp
   have g1:((base++r.reverse)++[a,y])[base.length+r.length]'(by rw[el];omega)=a:=by
    rw[getElem_append_right (by omega)]
    simp[eP]
   have g2:((base++r.reverse)++[a,y])[base.length+r.length+1]'(by rw[el];omega)=y:=by
    rw[getElem_append_right (by omega)]
    simp[eP]
   have g:=hT.g a y z (hok a (by simp)) (hok y (by simp)) hz
   rw[el] at q1
   obtain⟨fr2,wr2,b1,b2⟩:=ait L run k fr1 hp wr oid (base.length+(r.length+1+1)) x _ M (base.length+r.length) (base.length+r.length+1) c z (tI a y z) (by omega) (by omega) (by omega) el q2 hc (by rw[g1,g2];exact g) (K1.len h0) q1 (K1.at h7) (K1.at h6)
   have K2:=aP _ b1
   have f3:nth fr2 3=nth fr1 3:=K2.at rfl
   by_cases ht:0<cr a.1 y.1 z.1
   ·rw[decide_eq_true ((hT.gt _ _ _).2 ht)] at b2
    obtain⟨⟨fr3,hp3,wr3,c1,c2,c3⟩,-⟩:=adK L run k fr2 hp wr2 b _ _ c z (by rw[eO,el];omega) hO hc (K2.len (K1.len h0)) f3 (K2.at (K1.at h6))
    have b3:ae (CC L) run k olZ ⟨fr1,hp,wr⟩=some (.exit 3,⟨fr3,hp3,wr3⟩):=by
     have h1:ae (CC L) run k (.seq (seq1 (seq1 olZ)) (.cond (.tmp 49) (.seq (seq1 (ik (aO (seq1 olZ)))) (.exit 3)) .skip)) ⟨fr1,hp,wr⟩=some (.exit 3,⟨fr3,hp3,wr3⟩):=by
      rw[ao b1]
      simp only[ae,aj,b2]
      rw[c1]
     rw[Uf,ae,h1]
    have hr:ae (CC L) run k olN ⟨fr,hp,wr⟩=some (.exit 3,⟨fr3,hp3,wr3⟩):=by
     have h1:ae (CC L) run k (.block 5 olZ) ⟨fr1,hp,wr⟩=some (.exit 3,⟨fr3,hp3,wr3⟩):=by
      rw[ae,b3];rfl
     rw[Iv,ao a3,ae,h1]
    refine⟨.exit 3,fr3,hp3,wr3,bG (br (n:=0) hr) (by omega),aP _ hr,.inl ⟨rfl,?_,c3⟩⟩
    have:base++(dK (y::a::r) z).reverse=base++(y::a::r).reverse++[z]:=by
     simp[dK,mg,ht]
    rw[this];exact c2
   ·rw[decide_eq_false (fun h=>ht ((hT.gt _ _ _).1 h))] at b2
    have eO2:base++(y::a::r).reverse=(base++(a::r).reverse)++[y]:=by simp
    have el2:(base++(a::r).reverse).length+1=base.length+(r.length+1+1):=by simp;omega
    obtain⟨fr3,c1,c2⟩:=(adJ L run k fr2 hp wr2 b (base++(a::r).reverse) y (by rw[el2];omega) (by rw[← eO2,f3];exact hO) (K2.len (K1.len h0))).1 (by rw[el2];exact K2.at (K1.at h7))
    have K3:=aP _ c1
    have b3:ae (CC L) run k (.block 5 olZ) ⟨fr1,hp,wr⟩=some (.normal,⟨fr3,hp,wr2⟩):=by
     have h1:ae (CC L) run k (.seq (seq1 (seq1 olZ)) (.cond (.tmp 49) (.seq (seq1 (ik (aO (seq1 olZ)))) (.exit 3)) .skip)) ⟨fr1,hp,wr⟩=some (.normal,⟨fr2,hp,wr2⟩):=by
      rw[ao b1]
      simp[b2]
     rw[ae,Uf,ao h1,c1]
    obtain⟨fr4,d1,d2⟩:=aiu L run k fr3 hp wr2 _ _ c2.len (K3.len (K2.len (K1.len h0))) rfl
    have hr:ae (CC L) run k olN ⟨fr,hp,wr⟩=some (.normal,⟨fr4,hp,wr2⟩):=by
     rw[Iv,ao a3,ao b3,d1]
    have K:=aP _ hr
    have K4:=aP _ d1
    have f4:nth fr4 3=nth fr3 3:=K4.at rfl
    obtain⟨e,fr',hp',wr',r1,r2,r3⟩:=ih fr4 wr2 (by simp;omega) (by rw[f4];exact c2) (K.len h0) (K.at h4) (K.at h6) (by rw[d2];simp) (fun w hw=>hok w (mem_cons_of_mem _ hw))
    refine⟨e,fr',hp',wr',by rw[bU hr];exact r1,K.trans r2,?_⟩
    have e1:mg z (y::a::r)=mg z (a::r):=by simp[mg,ht]
    have e2:dK (y::a::r) z=dK (a::r) z:=by unfold dK;rw[e1]
    rw[e1,e2];exact r3
end
theorem xj (z:VN):∀ s:List VN,(mg z s).length≤s.length
 | []=>Nat.le_refl _
 | [_]=>Nat.le_refl _
 | b::a::r=>by
  unfold mg
  split
  ·exact Nat.le_refl _
  ·have:=xj z (a::r)
   simp only[length_cons] at this ⊢
   omega
theorem Ee (z:VN):∀ (s:List VN) (y:VN),y ∈ mg z s→y ∈ s
 | [],_,h=>h
 | [_],_,h=>h
 | b::a::r,y,h=>by
  unfold mg at h
  split at h
  ·exact h
  ·exact mem_cons_of_mem _ (Ee z (a::r) y h)
theorem jX:∀ (l s:List VN),(l.foldl dK s).length≤s.length+l.length
 | [],_=>Nat.le_refl _
 | z::l,s=>by
  have h1:=jX l (dK s z)
  have h2:=xj z s
  simp only[foldl_cons,length_cons]
  unfold dK at h1 ⊢
  simp only[length_cons] at h1
  omega
theorem AM:∀ (l s:List VN) (y:VN),y ∈ l.foldl dK s→y ∈ s∨y ∈ l
 | [],_,_,h=>.inl h
 | z::l,s,y,h=>by
  rcases AM l (dK s z) y h with h | h
  ·rcases mem_cons.1 h with rfl | h
   ·exact .inr (by simp)
   ·exact .inl (Ee z s y h)
  ·exact .inr (mem_cons_of_mem _ h)
theorem Fo {l:List VN}(h:l≠[]):l.foldl dK []≠[]:=by
 obtain⟨A,z,rfl⟩:∃ A z,l=A++[z]:=⟨l.dropLast,l.getLast h,(dropLast_concat_getLast h).symm⟩
 rw[foldl_append]
 simp[dK]
theorem I1 {S:List VN}{i:Nat}(hi:i<S.length):(S.take (i+1)).foldl dK []=dK ((S.take i).foldl dK []) S[i]:=by
 rw[take_succ_eq_append_getElem hi,foldl_append];rfl
theorem cH.hx {b id:Nat}{hp hp':Θ}{l:List VN}{p:PV}(h:cH 2 (eC true) b hp l p)(g:Hx hp hp' id)(hid:id<b):cH 2 (eC true) b hp' l p:=by
 obtain⟨hb,h⟩:=h
 refine⟨by rw[g.1];exact hb,?_⟩
 rcases h with h | ⟨oid,m,x,h1,h2,h3,h4,h5⟩
 ·exact .inl h
 ·exact .inr ⟨oid,m,x,h1,by rw[g.1];exact h2,h3,h4,by rw[g.2 oid (by omega),h5]⟩
section
variable (L:Lst) (run:av) (k:Nat) (fr:Ψ) (hp:Θ) (wr:Ω)
theorem ais (i:Nat)(h9:i<1000)(h0:fr.length=72)(h22:nth fr 22=iv i):∃ fr',ae (CC L) run k (aO (aO (aO olP))) ⟨fr,hp,wr⟩=some (.normal,⟨fr',hp,wr⟩)∧nth fr' 22=iv (i+1):=by
 have hw:=bE i (by omega)
 simp only[iv] at h22
 simp[iv,olP,olX,qo,blk,olB,Tryz.f72,az,ba,aw,bg,h0,h22,hw]
theorem air (p r:PV)(hp':Θ)(fp:FP)(hc:bS (CC L) run false hp 131 [p]=some (r,hp',fp))(h0:fr.length=72)(h00:nth fr 0=p):∃ fr' wr',ae (CC L) run k (aO (aO yT)) ⟨fr,hp,wr⟩=some (.normal,⟨fr',hp',wr'⟩):=by
 simp[yT,olX,qo,blk,olB,Tryz.f72,az,aM,h0,h00,hc]
theorem aiq (i:Nat)(h9:i<1000)(h0:fr.length=72)(h16:nth fr 16=iv i):∃ fr',ae (CC L) run k (aO (aO (aO olB))) ⟨fr,hp,wr⟩=some (.normal,⟨fr',hp,wr⟩)∧nth fr' 16=iv (i+1):=by
 have hw:=bE i (by omega)
 simp only[iv] at h16
 simp[iv,olB,Tryz.f72,az,ba,aw,bg,h0,h16,hw]
end
section
variable {L:Lst} {run:av} {k:Nat} {ok:VN→Prop} {tI:VN→VN→VN→Int} {b id n:Nat} {x:Bool} {base S:List VN} {rest:Ψ}
theorem aaG (hT:TnG L run ok tI)(hok:∀ z ∈ S,ok z)(hn:S.length=n)(hk:n+2<k)(h9:base.length+n<800)(hid:id<b)(hp:Θ)(fr:Ψ)(wr:Ω)(hb:aX hp id=some ⟨.live,cells S rest⟩)(hO:cH 2 (eC true) b hp base (nth fr 3))(h0:fr.length=72)(h4:nth fr 4=iv base.length)(h20:nth fr 20 = .own id 2 0 n x)(h21:nth fr 21=iv n)(h22:nth fr 22=iv 0) :
  ∃ st,ae (CC L) run k (.block 2 (.loop olP)) ⟨fr,hp,wr⟩=some (.normal,st)∧cH 2 (eC true) b st.hp (base++(S.foldl dK []).reverse) (nth st.fr 3)∧∀ i,i<b→aX st.hp i=aX hp i:=by
 obtain⟨st,a1,a2⟩:=lK (C:=CC L) (run:=run) (k:=k) (e:=2) (b:=olP) (n:=n) (st:=⟨fr,hp,wr⟩)
  (Inv:=fun i st=>dX (df olP) fr st.fr∧nth st.fr 22=iv i∧cH 2 (eC true) b st.hp (base++((S.take i).foldl dK []).reverse) (nth st.fr 3)∧∀ i,i<b→aX st.hp i=aX hp i)
  (Q:=fun st=>cH 2 (eC true) b st.hp (base++(S.foldl dK []).reverse) (nth st.fr 3)∧∀ i,i<b→aX st.hp i=aX hp i)
  (by omega)
  (fun i st hi ⟨iK,i22,iO,iH⟩=>by
   obtain⟨fr0,hp0,wr0⟩:=st
   dsimp only at iK i22 iO iH
   have l0:=iK.len h0
   have j20:=iK.at h20
   have j4:=iK.at h4
   obtain⟨fr1,b1,b2⟩:=adM L run k fr0 hp0 wr0 i n l0 (iK.at h21) i22
   rw[decide_eq_true hi] at b2
   have K1:=aP _ b1
   have l1:=K1.len l0
   obtain⟨fr2,wr2,c1,c2⟩:=aiw L run k fr1 hp0 wr0 id n x i S rest hi hn ((iH id hid).trans hb) l1 (K1.at j20) (K1.at i22)
   have K2:=aP _ c1
   have l2:=K2.len l1
   have hc:=al2 hp0 zC ⟨.live,eC true (S[i]'(by omega))⟩
   have hG:=Hgr.abB hp0 zC ⟨.live,eC true (S[i]'(by omega))⟩
   have hbl:=iO.1
   have hold:∀ j,j<b→aX (cF (bd hp0 zC) hp0.length ⟨.live,eC true (S[i]'(by omega))⟩) j=aX hp j:=fun j hj=>by
    rw[hG.2 j (by omega),iH j hj]
   have iO1:=cH.gr2 iO hG
   generalize cF (bd hp0 zC) hp0.length ⟨.live,eC true (S[i]'(by omega))⟩=hp1 at *
   have e3:nth fr2 3=nth fr0 3:=(K2.at (K1.at rfl))
   rw[← e3] at iO1
   have hln:(base++((S.take i).foldl dK []).reverse).length=base.length+((S.take i).foldl dK []).length:=by simp
   have hsl:=jX (S.take i) []
   rw[length_take,Nat.min_eq_left (by omega),length_nil,Nat.zero_add] at hsl
   obtain⟨fr3,d1,d2⟩:=aiv L run k fr2 hp1 wr2 _ _ iO1.len l2 rfl
   have K3:=aP _ d1
   have e3':nth fr3 3=nth fr2 3:=K3.at rfl
   rw[hln] at d2
   obtain⟨e,fr4,hp4,wr4,g1,K4,g2⟩:=abz (k:=k) hT (hok _ (getElem_mem (by omega))) hp1 hc ((S.take i).foldl dK []) fr3 wr2 (by omega) (by rw[e3'];exact iO1) (K3.len l2) (K3.at (K2.at (K1.at j4))) (K3.at c2) d2 (fun y hy=>by
    rcases AM _ _ _ hy with h | h
    ·cases h
    ·exact hok y (mem_of_mem_take h))
   have g1':=bG g1 (show _≤k by omega)
   have ex3:∃ fr5 hp5 wr5,ae (CC L) run k (.block 3 olY) ⟨fr1,hp0,wr0⟩=some (.normal,⟨fr5,hp5,wr5⟩)∧cH 2 (eC true) b hp5 (base++((S.take (i+1)).foldl dK []).reverse) (nth fr5 3)∧∀ j,j<b→aX hp5 j=aX hp j:=by
    rw[I1 (by omega)]
    rcases g2 with ⟨rfl,g2,g3⟩| ⟨rfl,rfl,g2⟩
    ·have x1:ae (CC L) run k (.seq (seq1 (seq1 (aO olY))) (.block 4 (.loop olN))) ⟨fr2,hp1,wr2⟩=some (.exit 3,⟨fr4,hp4,wr4⟩):=by
      rw[ao d1]
      simp only[ae,g1']
      rfl
     have x2:ae (CC L) run k olY ⟨fr1,hp0,wr0⟩=some (.exit 3,⟨fr4,hp4,wr4⟩):=by
      rw[Ug,ao c1,ae,x1]
     exact⟨fr4,hp4,wr4,by simp only[ae,x2];rfl,g2,fun j hj=>(g3 j hj).trans (hold j hj)⟩
    ·have x1:ae (CC L) run k (.seq (seq1 (seq1 (aO olY))) (.block 4 (.loop olN))) ⟨fr2,hp4,wr2⟩=some (.normal,⟨fr4,hp4,wr4⟩):=by
      rw[ao d1]
      exact bD g1'
     have K5:dX (df olN) fr3 fr4:=K4
     obtain⟨-,fr5,hp5,wr5,m1,m2,m3⟩:=adK L run k fr4 hp4 wr4 b _ _ hp0.length (S[i]'(by omega)) (by
      have:=xj (S[i]'(by omega)) ((S.take i).foldl dK [])
      simp;omega) g2 hc (K5.len (K3.len l2)) rfl (K5.at (K3.at c2))
     have x2:ae (CC L) run k olY ⟨fr1,hp0,wr0⟩=some (.normal,⟨fr5,hp5,wr5⟩):=by
      rw[Ug,ao c1,ao x1,m1]
     refine⟨fr5,hp5,wr5,by simp only[ae,x2],?_,fun j hj=>(m3 j hj).trans (hold j hj)⟩
     have:base++(dK ((S.take i).foldl dK []) (S[i]'(by omega))).reverse=base++(mg (S[i]'(by omega)) ((S.take i).foldl dK [])).reverse++[S[i]'(by omega)]:=by simp[dK]
     rw[this];exact m2
   obtain⟨fr5,hp5,wr5,m1,m2,m3⟩:=ex3
   have K5:=aP _ m1
   obtain⟨fr6,n1,n2⟩:=ais L run k fr5 hp5 wr5 i (by omega) (K5.len l1) (K5.at (K1.at i22))
   have hr:ae (CC L) run k olP ⟨fr0,hp0,wr0⟩=some (.normal,⟨fr6,hp5,wr5⟩):=by
    have x3:ae (CC L) run k (.cond (.tmp 23) .skip (.exit 2)) ⟨fr1,hp0,wr0⟩=some (.normal,⟨fr1,hp0,wr0⟩):=by simp[b2]
    rw[Ui,ao b1,ao x3,ao m1,n1]
   have K6:=aP _ n1
   exact⟨_,hr,iK.trans (aP _ hr),n2,by rw[K6.at rfl];exact m2,m3⟩)
  (fun st ⟨iK,i22,iO,iH⟩=>by
   obtain⟨fr0,hp0,wr0⟩:=st
   dsimp only at iK i22 iO iH
   obtain⟨fr1,b1,b2⟩:=adM L run k fr0 hp0 wr0 n n (iK.len h0) (iK.at h21) i22
   rw[decide_eq_false (by omega)] at b2
   have K1:=aP _ b1
   refine⟨⟨fr1,hp0,wr0⟩,?_,?_,iH⟩
   ·have x3:ae (CC L) run k (.cond (.tmp 23) .skip (.exit 2)) ⟨fr1,hp0,wr0⟩=some (.exit 2,⟨fr1,hp0,wr0⟩):=by simp[b2]
    rw[Ui,ao b1,ae,x3]
   ·rw[take_of_length_le (by omega)] at iO
    show cH 2 (eC true) b hp0 _ (nth fr1 3)
    rw[K1.at rfl]
    exact iO)
  ⟨dX.refl _ _,h22,by simpa using hO,fun _ _=>rfl⟩
 exact⟨st,a1,a2⟩
theorem KX (hT:TnG L run ok tI)(hok:∀ z ∈ S,ok z)(hn:S.length=n)(hn1:1≤n)(hk:n+2<k)(h9:base.length+n<800)(hid:id<b)(t:Nat)(ht:t<2)(hp:Θ)(fr:Ψ)(wr:Ω)(hR:∀ hp,aX hp id=some ⟨.live,cells S rest⟩→∃ hp' r fp,bS (CC L) run false hp 131 [.own id 2 0 n x]=some (r,hp',fp)∧Hx hp hp' id∧aX hp' id=some ⟨.live,cells S.reverse rest⟩)(hb:aX hp id=some ⟨.live,cells S rest⟩)(hO:cH 2 (eC true) b hp base (nth fr 3))(h0:fr.length=72)(h00:nth fr 0 = .own id 2 0 n x)(h16:nth fr 16=iv t) :
  ∃ st,ae (CC L) run k olB ⟨fr,hp,wr⟩=some (.normal,st)∧cH 2 (eC true) b st.hp (base++(S.foldl dK []).tail.reverse) (nth st.fr 3)∧aX st.hp id=some ⟨.live,cells S.reverse rest⟩∧(∀ i,i<b→i≠id→aX st.hp i=aX hp i)∧st.fr.length=72∧nth st.fr 0 = .own id 2 0 n x∧nth st.fr 16=iv (t+1):=by
 obtain⟨fr1,a1,a2⟩:=aio L run k fr hp wr t h0 h16
 rw[decide_eq_true ht] at a2
 have K1:=aP _ a1
 have l1:=K1.len h0
 have e3:nth fr1 3=nth fr 3:=K1.at rfl
 rw[← e3] at hO
 obtain⟨fr2,b1,b2⟩:=ajY L run k fr1 hp wr _ _ hO.len l1 rfl
 have K2:=aP _ b1
 have l2:=K2.len l1
 have f00:=K2.at (K1.at h00)
 obtain⟨fr3,c1,c2,c3,c4⟩:=ajX L run k fr2 hp wr _ n rfl l2 f00
 have K3:=aP _ c1
 have l3:=K3.len l2
 have e3':nth fr3 3=nth fr1 3:=K3.at (K2.at rfl)
 rw[← e3'] at hO
 obtain⟨⟨fr4,hp4,wr4⟩,d1,d2,d3⟩:=aaG (k:=k) (x:=x) hT hok hn hk h9 hid hp fr3 wr hb hO l3 (K3.at b2) c2 c3 c4
 dsimp only at d2 d3
 have K4:=aP _ d1
 have l4:=K4.len l3
 obtain⟨y,T,hyT⟩:∃ y T,S.foldl dK []=y::T:=exists_cons_of_ne_nil (Fo (fun e=>by rw[e] at hn;simp at hn;omega))
 have hsl:=jX S []
 rw[hyT] at hsl d2 ⊢
 simp only[length_cons,length_nil] at hsl
 rw[reverse_cons,← append_assoc] at d2
 obtain⟨-,fr5,g1,g2⟩:=adJ L run k fr4 hp4 wr4 b (base++T.reverse) y (by simp;omega) d2 l4
 have K5:=aP _ g1
 have l5:=K5.len l4
 have hb4:aX hp4 id=some ⟨.live,cells S rest⟩:=(d3 id hid).trans hb
 obtain⟨hp6,r,fp,m1,m2,m3⟩:=hR hp4 hb4
 have f5:=K5.at (K4.at (K3.at f00))
 obtain⟨fr6,wr6,n1⟩:=air L run k fr5 hp4 wr4 _ r hp6 fp m1 l5 f5
 have K6:=aP _ n1
 have l6:=K6.len l5
 have hs:ae (CC L) run k (.seq (seq1 (seq1 yT)) (.block 2 (.loop olP))) ⟨fr2,hp,wr⟩=some (.normal,⟨fr4,hp4,wr4⟩):=by
  rw[ao c1];exact d1
 have hlab:ae (CC L) run k (.label 0) ⟨fr2,hp,wr⟩=some (.normal,⟨fr2,hp,wr⟩):=by simp only[ae]
 have hX:ae (CC L) run k (.block 1 (.scope olX)) ⟨fr1,hp,wr⟩=some (.normal,⟨fr6,hp6,wr6⟩):=by
  have:ae (CC L) run k olX ⟨fr1,hp,wr⟩=some (.normal,⟨fr6,hp6,wr6⟩):=by
   rw[afl,ao b1,ao hlab,ao hs,ao g1,n1]
  simp only[ae,this]
 have K7:=aP _ hX
 obtain⟨fr7,o1,o2⟩:=aiq L run k fr6 hp6 wr6 t (by omega) l6 (K7.at (K1.at h16))
 have K8:=aP _ o1
 have hcd:ae (CC L) run k (.cond (.tmp 17) .skip (.exit 0)) ⟨fr1,hp,wr⟩=some (.normal,⟨fr1,hp,wr⟩):=by simp[a2]
 refine⟨⟨fr7,hp6,wr6⟩,by rw[Uj,ao a1,ao hcd,ao hX,o1],?_,m3,fun i hi hne => ?_,K8.len l6,K8.at (K6.at f5),o2⟩
 ·show cH 2 (eC true) b hp6 _ (nth fr7 3)
  rw[K8.at rfl,K6.at rfl]
  exact cH.hx g2 m2 hid
 ·show aX hp6 i=aX hp i
  rw[m2.2 i hne,d3 i hi]
end
theorem afk (L:Lst)(run:av)(k:Nat)(p r1 p2:PV)(hp hp1 hp2:Θ)(fp1 fp2:FP)(hS:bS (CC L) run false hp 123 [p,fnB]=some (r1,hp1,fp1))(hC:bS (CC L) run false hp1 125 [p,fnE]=some (p2,hp2,fp2)):∃ fr wr,bh (CC L) run k 3 olC ⟨entry 72 [p],hp,[]⟩=some ⟨fr,hp2,wr⟩∧fr.length=72∧nth fr 0=p2:=by
 obtain⟨e1,e2⟩:=cV 71 p
 generalize entry 72 [p]=fr0 at *
 simp[Tryz.f72,bh,aM,af,and_assoc,e1,e2,hS,hC]
noncomputable def olT:Code:=ai 3 olC
theorem Uh:olT = .seq (seq1 olT) (.seq (seq1 (aO olT)) (.seq (.seq (seq1 (seq1 (aO (aO olT)))) (.block 0 (.loop olB))) (aO (aO (aO olT))))):=rfl
section
variable (L:Lst) (run:av) (k:Nat) (fr:Ψ) (hp:Θ) (wr:Ω)
theorem aj1 (p:PV)(n:Nat)(hl:dc p=some n)(h0:fr.length=72)(h00:nth fr 0=p):∃ fr',ae (CC L) run k (seq1 olT) ⟨fr,hp,wr⟩=some (bif decide (n<3) then .ret else .normal,⟨fr',hp,wr⟩)∧(n<3→nth fr' 2=p):=by
 obtain⟨u,hu⟩:∃ u,decide (n<3)=u:=⟨_,rfl⟩
 have hu':decide ((n:Int)<3)=u:=by rw[← hu];exact decide_eq_decide.2 (by omega)
 rw[hu]
 cases u <;> simp only[decide_eq_true_eq,decide_eq_false_iff_not] at hu hu' <;> simp[olT,Tryz.f72,ai,ba,aw,bg,bM,af,bf,h0,h00,hl,hu,hu',ko]
theorem aj0 (h0:fr.length=72):∃ fr',ae (CC L) run k (seq1 (aO olT)) ⟨fr,hp,wr⟩=some (.normal,⟨fr',hp,wr⟩)∧nth fr' 3 = .sc (.slice none 0 0):=by
 simp[olT,Tryz.f72,ai,h0]
theorem ajZ (h0:fr.length=72):∃ fr',ae (CC L) run k (seq1 (seq1 (aO (aO olT)))) ⟨fr,hp,wr⟩=some (.normal,⟨fr',hp,wr⟩)∧nth fr' 16=iv 0:=by
 simp[iv,olT,Tryz.f72,ai,h0]
theorem aip (q:PV)(h0:fr.length=72)(h3:nth fr 3=q):∃ st,ae (CC L) run k (aO (aO (aO olT))) ⟨fr,hp,wr⟩=some (.ret,st)∧st.hp=hp∧aY TT st.fr st.hp Tryz.f72.results.toList=some [q]:=by
 simp[olT,Tryz.f72,ai,h0,h3,aY]
end
theorem KT (z:VN):∀ {s:List VN},s≠[]→mg z s≠[]
 | [],h=>absurd rfl h
 | [_],h=>h
 | b::a::r,h=>by
  unfold mg
  split
  ·simp
  ·exact KT z (by simp)
theorem Fm {Q:List VN}(h:2≤Q.length):(Q.foldl dK []).tail≠[]:=by
 have hne:Q≠[]:=fun e=>by rw[e] at h;simp at h
 obtain⟨A,z,rfl⟩:∃ A z,Q=A++[z]:=⟨Q.dropLast,Q.getLast hne,(dropLast_concat_getLast hne).symm⟩
 rw[foldl_append]
 exact KT z (Fo (fun e=>by rw[e] at h;simp at h))
def CrO (hp:Θ)(O:List VN)(r:PV):Prop:=(O=[]∧r = .sc (.slice none 0 0))∨∃ oid M x,r = .own oid 2 0 O.length x∧aX hp oid=some ⟨.live,cells O M⟩
theorem CrO.len {hp:Θ}{O:List VN}{r:PV}(h:CrO hp O r):dc r=some O.length:=by
 rcases h with ⟨rfl,rfl⟩| ⟨oid,M,x,rfl,-⟩ <;> rfl
theorem Ue {L:Lst}{k:Nat}{ok:VN→Prop}{bI:VN→VN→Int}{tI:VN→VN→VN→Int}(hB:Bef L (runK (CC L) k) ok bI)(hbl:bC L 159=fun a=>A7 (aK a))(hq:EqG L (runK (CC L) (k+2)) ok)(hT:TnG L (runK (CC L) (k+3)) ok tI)(E:List VN)(h9:E.length≤12)(hk:E.length+2<k)(p:PV)(hp:Θ)(id:Nat)(hE:E=[]∧p = .sc (.slice none 0 0)∨E≠[]∧∃ x rest,p = .own id 2 0 E.length x∧aX hp id=some ⟨.live,cells E rest⟩)(hok:∀ z ∈ E,ok z)(dr:Bool) :
  ∃ hp' r fp S,bS (CC L) (runK (CC L) (k+4)) dr hp 72 [p]=some (r,hp',fp)∧S.Perm E∧S.Pairwise leN∧CrO hp' (j8 (ddp none S)) r∧∀ j,j<hp.length→j≠id→aX hp' j=aX hp j:=by
 have hl:dc p=some E.length:=by
  rcases hE with ⟨rfl,rfl⟩| ⟨-,x,rest,rfl,-⟩ <;> rfl
 obtain⟨x,rest,hE'⟩:∃ x rest,E=[]∧p = .sc (.slice none 0 0)∨E≠[]∧p = .own id 2 0 E.length x∧aX hp id=some ⟨.live,cells E rest⟩:=by
  rcases hE with h | ⟨hne,x,rest,h⟩
  ·exact⟨true,[],.inl h⟩
  ·exact⟨x,rest,.inr ⟨hne,h⟩⟩
 obtain⟨hp1,r1,fp1,S,a1,a2,a3,a4,a5⟩:=aet (x:=x) (rest:=rest) hB hbl E h9 (by omega) p hp hl (by
  rcases hE' with ⟨h,-⟩| ⟨-,h⟩
  ·exact .inl h
  ·exact .inr h) hok false
 have hSl:S.length=E.length:=a4.length_eq
 have hS1:S=[]∧p = .sc (.slice none 0 0)∨p = .own id 2 0 S.length x∧aX hp1 id=some ⟨.live,cells S rest⟩:=by
  rcases hE' with ⟨rfl,h⟩| ⟨hne,h,hb⟩
  ·exact .inl ⟨length_eq_zero_iff.1 hSl,h⟩
  ·rcases a3 with a3 | a3
   ·exact absurd a3 hne
   ·exact .inr ⟨by rw[hSl];exact h,a3⟩
 have hokS:∀ z ∈ S,ok z:=fun z hz=>hok z (a4.mem_iff.1 hz)
 obtain⟨hp2,p2,fp2,b1,b2,b3⟩:=agv (k:=k+2) hq S (by omega) (by omega) p hp1 (by rw[hSl];exact hl) hS1 hokS false
 have H12:=a2.trans b2
 obtain⟨fr,wr,c1,c2,c3⟩:=afk L (runK (CC L) (k+3)) (k+3) p r1 p2 hp hp1 hp2 fp1 fp2 a1 b1
 have hdl:=vI none S
 generalize hQ:ddp none S=Q at *
 have hQ2:CrO hp2 Q p2:=by
  rcases b3 with ⟨rfl,h⟩| ⟨x',rest',h,h'⟩
  ·exact .inl ⟨by rw[← hQ];rfl,h⟩
  ·exact .inr ⟨id,rest',x',h,h'⟩
 have hokQ:∀ z ∈ Q,ok z:=fun z hz=>hokS z (by
  rw[← hQ] at hz
  exact ((Ci a5 (fun q hq=>by cases hq)).1 z hz).1)
 have keep2:∀ j,j<hp.length→j≠id→aX hp2 j=aX hp j:=fun j _ hj=>H12.2 j hj
 obtain⟨fr1,d1,d2⟩:=aj1 L (runK (CC L) (k+3)) (k+3) fr hp2 wr p2 Q.length hQ2.len c2 c3
 have K1:=aP _ d1
 by_cases h3:Q.length<3
 ·rw[decide_eq_true h3,cond_true] at d1
  have hx:ae (CC L) (runK (CC L) (k+3)) (k+3) olC ⟨entry 72 [p],hp,[]⟩=some (.ret,⟨fr1,hp2,wr⟩):=by
   rw[aU 3 c1]
   show ae _ _ _ olT _=_
   rw[Uh];exact bK d1
  obtain⟨fp,e1⟩:=lX Dn (gw yH rfl hx (show aY TT fr1 hp2 Tryz.f72.results.toList=some [p2] by simp[Tryz.f72,aY,d2 h3])) (fun _=>H12.1) dr
  exact⟨hp2,p2,fp,S,e1,a4,a5,by unfold j8;rw[hQ,if_pos h3];exact hQ2,keep2⟩
 ·rw[decide_eq_false h3,cond_false] at d1
  obtain⟨x',rest',rfl,hb2⟩:∃ x' rest',p2 = .own id 2 0 Q.length x'∧aX hp2 id=some ⟨.live,cells Q rest'⟩:=by
   rcases b3 with ⟨rfl,h⟩| h
   ·exfalso;apply h3;rw[← hQ];simp[ddp]
   ·exact h
  have hidl:=gp hb2
  have l1:=K1.len c2
  obtain⟨fr2,e1,e2⟩:=aj0 L (runK (CC L) (k+3)) (k+3) fr1 hp2 wr l1
  have K2:=aP _ e1
  obtain⟨fr3,g1,g2⟩:=ajZ L (runK (CC L) (k+3)) (k+3) fr2 hp2 wr (K2.len l1)
  have K3:=aP _ g1
  have l3:=K3.len (K2.len l1)
  have f00:=K3.at (K2.at (K1.at c3))
  have f3:=K3.at e2
  have hR:∀ (Z:List VN),Z.length=Q.length→∀ hp,aX hp id=some ⟨.live,cells Z rest'⟩→∃ hp' r fp,bS (CC L) (runK (CC L) (k+3)) false hp 131 [.own id 2 0 Q.length x']=some (r,hp',fp)∧Hx hp hp' id∧aX hp' id=some ⟨.live,cells Z.reverse rest'⟩:=fun Z hZ hp hb=>by
   rw[← hZ]
   exact aeD (k:=k+2) Z (by omega) (by omega) (by omega) hp hb false
  obtain⟨⟨fr4,hp4,wr4⟩,m1,m2,m3,m4,m5,m6,m7⟩:=KX (k:=k+3) (b:=hp2.length) (base:=[]) (rest:=rest') (x:=x') hT hokQ rfl (by omega) (by omega) (by simp;omega) hidl 0 (by omega) hp2 fr3 wr (hR Q rfl) hb2 (by rw[f3];exact cH.nil (Nat.le_refl _)) l3 f00 g2
  dsimp only at m2 m3 m4 m5 m6 m7
  rw[nil_append] at m2
  have hfl:=jX Q []
  simp only[length_nil,Nat.zero_add] at hfl
  obtain⟨⟨fr5,hp5,wr5⟩,n1,n2,n3,n4,n5,n6,n7⟩:=KX (k:=k+3) (b:=hp2.length) (base:=(Q.foldl dK []).tail.reverse) (S:=Q.reverse) (rest:=rest') (x:=x') hT (fun z hz=>hokQ z (by simpa using hz)) (by simp) (by omega) (by omega) (by simp;omega) hidl 1 (by omega) hp4 fr4 wr4 (hR Q.reverse (by simp)) m3 m2 m5 m6 m7
  dsimp only at n2 n3 n4 n5 n6 n7
  obtain⟨fr6,o1,o2⟩:=aio L (runK (CC L) (k+3)) (k+3) fr5 hp5 wr5 2 n5 n7
  rw[decide_eq_false (by omega)] at o2
  have K6:=aP _ o1
  have ho:ae (CC L) (runK (CC L) (k+3)) (k+3) olB ⟨fr5,hp5,wr5⟩=some (.exit 0,⟨fr6,hp5,wr5⟩):=by
   have x3:ae (CC L) (runK (CC L) (k+3)) (k+3) (.cond (.tmp 17) .skip (.exit 0)) ⟨fr6,hp5,wr5⟩=some (.exit 0,⟨fr6,hp5,wr5⟩):=by simp[o2]
   rw[Uj,ao o1,ae,x3]
  have hit:cg (ae (CC L) (runK (CC L) (k+3)) (k+3) olB) (0+1+1+1) ⟨fr3,hp2,wr⟩=some (.exit 0,⟨fr6,hp5,wr5⟩):=by
   rw[bU m1,bU n1];exact br ho
  obtain⟨st,q1,q2,q3⟩:=aip L (runK (CC L) (k+3)) (k+3) fr6 hp5 wr5 _ (K6.len n5) rfl
  have hs:ae (CC L) (runK (CC L) (k+3)) (k+3) (.seq (seq1 (seq1 (aO (aO olT)))) (.block 0 (.loop olB))) ⟨fr2,hp2,wr⟩=some (.normal,⟨fr6,hp5,wr5⟩):=by
   rw[ao g1];exact bD (bG hit (by omega))
  have hx:ae (CC L) (runK (CC L) (k+3)) (k+3) olC ⟨entry 72 [p],hp,[]⟩=some (.ret,st):=by
   rw[aU 3 c1]
   show ae _ _ _ olT _=_
   rw[Uh,ao d1,ao e1,ao hs];exact q1
  have e6:nth fr6 3=nth fr5 3:=K6.at rfl
  have hout:j8 Q=(Q.foldl dK []).tail.reverse++(Q.reverse.foldl dK []).tail.reverse:=by
   unfold j8 Ls;rw[if_neg h3]
  rw[← hout] at n2
  have hne:j8 Q≠[]:=by
   rw[hout]
   intro h
   exact Fm (by omega) (reverse_eq_nil_iff.1 (append_eq_nil_iff.1 h).1)
  obtain⟨oid,M,xo,z1,z2⟩:=BT n2 hne
  have hr:=gw yH rfl hx q3
  rw[q2] at hr
  obtain⟨fp,w1⟩:=lX Dn hr (fun h=>by rw[e6,z1] at h;simp[bT,PV.cG] at h) dr
  refine⟨hp5,nth fr6 3,fp,S,w1,a4,a5,.inr ⟨oid,M,xo,?_,?_⟩,fun j hj hne => ?_⟩
  ·rw[hQ,e6,z1]
  ·rw[hQ];exact z2
  ·rw[n4 j (by rw[H12.1];exact hj) hne,m4 j (by rw[H12.1];exact hj) hne,keep2 j hj hne]
end Go.Proofs.YtjdmodeenbdfpaaGreat
