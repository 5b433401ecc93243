/- Contracts of the two hulls, of the program and of the reference, part 25; each lemma states its conditions. -/
import Derived.Test.YtjdmodeenbdfpaaGreatV24
set_option linter.unusedSimpArgs false
set_option linter.unusedVariables false
noncomputable section
namespace Go.Proofs.YtjdmodeenbdfpaaGreat
open Go Go.Ab List
attribute [local simp] FzZ aA aF aG aH ae ag ah aj an ao aq av
theorem ahJ:(y7 cmI).e2=3:=rfl
theorem aiU:∃ el,und TT 100=some (.slice el):=⟨_,kK⟩
def EqG (L:Lst)(run:aw)(ok:VN→Prop):Prop:=∀ a b,ok a→ok b→∀ dr hp,bP (CC L) run dr hp 126 [.agg (eC true a),.agg (eC true b)]=some (.sc (.bool (decide (a.1=b.1))),hp,⟨[],[],true,true⟩)
theorem FJ {E E':List VN}{s t:Nat}(h:E'.drop s=E.drop s)(hst:s≤t)(ht:t<E.length)(ht':t<E'.length):E'[t]=E[t]:=by
 have:=congrArg (fun l=>l[t - s]?) h
 simp only[getElem?_drop] at this
 rw[show s+(t - s)=t by omega,List.getElem?_eq_getElem ht,List.getElem?_eq_getElem ht'] at this
 exact Option.some.inj this
theorem take_set {E:List VN}{q:Nat}(z:VN)(hq:q<E.length):(E.set q z).take (q+1)=E.take q++[z]:=by
 rw[take_succ_eq_append_getElem (by simpa using hq),getElem_set_self,take_set_of_le (Nat.le_refl _)]
section
variable {L:Lst} {run:aw} {k:Nat} {ok:VN→Prop} {id n:Nat} {x:Bool} {E:List VN} {rest:Ψ}
theorem X7 (hq:EqG L run ok)(hk:n<k)(hn:E.length=n)(h9:n<1000)(hok:∀ z ∈ E,ok z)(i:Nat)(hi1:1≤i)(hi:i<n)(hd:(E[i - 1]'(by omega)).1=(E[i]'(by omega)).1)(hpre:ddp none (E.take i)=E.take i)(fr:Ψ)(hp:Θ)(wr:Ω)(hb:aL hp id=some ⟨.live,cells E rest⟩)(h0:fr.length=66)(h00:nth fr 0 = .own id 2 0 n x)(h1:nth fr 1=fnE)(h5:nth fr 5=iv i) :
  ∃ st x' rest',ae (CC L) run k cmY ⟨fr,hp,wr⟩=some (.ret,st)∧Hx hp st.hp id∧aL st.hp id=some ⟨.live,cells (ddp none E) rest'⟩∧aX TT st.fr st.hp Tryz.f125.results.toList=some [.own id 2 0 (ddp none E).length x']:=by
 obtain⟨fr1,a1,a2⟩:=alr L run k fr hp wr id n x i (n - i) (by omega) rfl h0 h00 h5
 have K1:=bj _ a1
 obtain⟨fr2,b1,b2⟩:=alq L run k fr1 hp wr (K1.len h0)
 have K2:=bj _ b1
 have e0:=K2.at (K1.at h00)
 have e1:=K2.at (K1.at h1)
 have e5:=K2.at (K1.at h5)
 have e6:=K2.at a2
 have el:=K2.len (K1.len h0)
 obtain⟨fr3,hp3,wr3,c1,K3,q,E',c2,c3,c4,c5,c6,c7,c8⟩:=Lp.go (C:=CC L) (run:=run) (k:=k) (l:=y7 cmI) (body:=cmW) (m:=66) (B:=cmI) rfl (by kernel_rfl) (by kernel_rfl) (by kernel_rfl) aiU (n:=n - i) (j0:=1) (by omega) (by omega) (by omega)
  (J:=fun j f hp'=>∃ q E',f 5=iv q∧q≤i+j - 1∧E'.length=n∧E'.take q=ddp none (E.take (i+j))∧E'.drop (i+j - 1)=E.drop (i+j - 1)∧aL hp' id=some ⟨.live,cells E' rest⟩∧Hx hp hp' id) (fr0:=fr2) (hp0:=hp) (wr0:=wr) (p:=.own id 2 (i*2) (n - i) x) el e6 rfl b2
  (fun j f g hp' hfg ⟨q,E',c2,c3⟩=>⟨q,E',by rw[← hfg 5 (by kernel_rfl)];exact c2,c3⟩)
  (fun j fr' hp' wr' hj1 hj hK hij ⟨q,E',c2,c3,c4,c5,c6,c7,c8⟩=>by
   have hE't:E'[i+j]'(by omega)=E[i+j]'(by omega):=FJ c6 (by omega) _ _
   have hE's:E'[i+j - 1]'(by omega)=E[i+j - 1]'(by omega):=FJ c6 (Nat.le_refl _) _ _
   have f0:=hK.at e0
   have f1:=hK.at e1
   have f6:=hK.at e6
   have fl:=hK.len el
   obtain⟨fr4,wr4,d1,d2⟩:=akt L run k fr' hp' wr' id n x E' rest (i+j) (i+j - 1) i j (n - i) (decide ((E[i+j]'(by omega)).1=(E[i+j - 1]'(by omega)).1)) (by omega) rfl hj hj1 (by omega) c4 h9 c7 (by rw[hE't,hE's];exact hq _ _ (hok _ (getElem_mem _)) (hok _ (getElem_mem _))) fl f1 f6 hij
   have K4:=bj _ d1
   have htk:=yv (E:=E) (i:=i+j) (j:=i+j - 1) (by omega) (by omega)
   rw[ahJ,ae,ahI,ar d1]
   by_cases he:(E[i+j]'(by omega)).1=(E[i+j - 1]'(by omega)).1
   ·rw[decide_eq_true he] at d2
    rw[if_pos he.symm] at htk
    refine⟨fr4,hp',wr4,by simp[d2],q,E',K4.at c2,by omega,c4,by rw[c5,← htk];rfl,?_,c7,c8⟩
    have:=congrArg (List.drop 1) c6
    rw[drop_drop,drop_drop] at this
    rw[show i+(j+1) - 1=i+j - 1+1 by omega];exact this
   ·rw[decide_eq_false he] at d2
    rw[if_neg (fun h=>he h.symm)] at htk
    obtain⟨fr5,hp5,wr5,m1,m2,m3,m4⟩:=aks L run k fr4 hp' wr4 id n x E' rest (i+j) i j (n - i) q rfl hj (by omega) (by omega) c4 h9 c7 (K4.len fl) (K4.at f0) (K4.at c2) (K4.at f6) (K4.at hij)
    rw[hE't] at m4
    refine⟨fr5,hp5,wr5,by simp[d2,m1],q+1,E'.set q (E[i+j]'(by omega)),m2,by omega,by simpa using c4,?_,?_,m4,c8.trans m3⟩
    ·rw[take_set _ (by omega),c5,← htk];rfl
    ·rw[drop_set_of_lt (by omega)]
     have:=congrArg (List.drop 1) c6
     rw[drop_drop,drop_drop] at this
     rw[show i+(j+1) - 1=i+j - 1+1 by omega];exact this)
  ⟨i,E,e5,by omega,hn,by
   rw[yv (i:=i) (j:=i - 1) (by omega) (by omega),if_pos hd,hpre],rfl,hb,Hx.refl _ _⟩
 have hfull:E.take (i+(n - i))=E:=take_of_length_le (by omega)
 rw[hfull] at c5
 have hql:(ddp none E).length=q:=by rw[← c5,length_take,Nat.min_eq_left (by omega)]
 obtain⟨st,g1,g2,g3,g4⟩:=ako L run k fr3 hp3 wr3 id n x E' rest q (by omega) c4 c7 (K3.len el) (K3.at e0) c2
 have hl:ae (CC L) run k (.seq (seq1 (seq1 (aQ cmY))) (.block 2 (.loop cmI))) ⟨fr1,hp,wr⟩=some (.normal,⟨fr3,hp3,wr3⟩):=by
  rw[ar b1];exact c1
 refine⟨st,(x && q == n),rep (n - q) zC++rest,?_,c8.trans g2,?_,?_⟩
 ·rw[ahH,ar a1,ar hl];exact g1
 ·rw[g3,c5]
 ·rw[g4,hql]
theorem ahG (L:Lst)(run:aw)(k:Nat)(p:PV)(n:Nat)(hl:cX p=some n)(hp:Θ):∃ fr,ae (CC L) run k (seq1 cmC) ⟨entry 66 [p,fnE],hp,[]⟩=some (.normal,⟨fr,hp,[]⟩)∧fr.length=66∧nth fr 0=p∧nth fr 1=fnE:=by
 obtain⟨e1,e2,e3⟩:=cl 64 p fnE
 generalize entry 66 [p,fnE]=fr0 at *
 simp[cmC,Tryz.f125,seq1,aC,af,ab,e1,e2,e3]
def cmT:Code:=aQ cmC
theorem JC:cmC = .seq (seq1 cmC) (.seq (seq1 cmT) (.seq (.seq (seq1 (seq1 (aQ cmT))) (.block 0 (.loop cmB))) (aQ (aQ cmT)))):=rfl
theorem alv (L:Lst)(run:aw)(k:Nat)(fr:Ψ)(p:PV)(n:Nat)(hl:cX p=some n)(hp:Θ)(wr:Ω)(h0:fr.length=66)(h00:nth fr 0=p):∃ fr',ae (CC L) run k (seq1 cmT) ⟨fr,hp,wr⟩=some (bif decide (n<2) then .ret else .normal,⟨fr',hp,wr⟩)∧(n<2→nth fr' 4=p):=by
 obtain⟨u,hu⟩:∃ u,decide (n<2)=u:=⟨_,rfl⟩
 have hu':decide ((n:Int)<2)=u:=by rw[← hu];exact decide_eq_decide.2 (by omega)
 rw[hu]
 cases u <;> simp only[decide_eq_true_eq,decide_eq_false_iff_not] at hu hu' <;> simp[cmT,cmC,Tryz.f125,seq1,aQ,aC,aZ,au,bf,bL,aa,af,ab,bc,h0,h00,hl,hu,hu',kK]
theorem alu (L:Lst)(run:aw)(k:Nat)(fr:Ψ)(hp:Θ)(wr:Ω)(h0:fr.length=66):∃ fr',ae (CC L) run k (seq1 (seq1 (aQ cmT))) ⟨fr,hp,wr⟩=some (.normal,⟨fr',hp,wr⟩)∧nth fr' 5=iv 1:=by
 simp[iv,cmT,cmC,Tryz.f125,seq1,aQ,aC,aa,h0]
theorem akp (L:Lst)(run:aw)(k:Nat)(fr:Ψ)(p:PV)(hp:Θ)(wr:Ω)(h0:fr.length=66)(h00:nth fr 0=p):∃ st,ae (CC L) run k (aQ (aQ cmT)) ⟨fr,hp,wr⟩=some (.ret,st)∧st.hp=hp∧aX TT st.fr st.hp Tryz.f125.results.toList=some [p]:=by
 simp[cmT,cmC,Tryz.f125,aQ,aC,aa,ab,h0,h00,aX]
theorem MF (hq:EqG L run ok)(hk:n<k)(hn:E.length=n)(h9:n<1000)(hok:∀ z ∈ E,ok z)(hp:Θ)(hb:aL hp id=some ⟨.live,cells E rest⟩):∀ (d i:Nat) (fr:Ψ) (wr:Ω),i+d=n→1≤i→ddp none (E.take i)=E.take i→fr.length=66→nth fr 0 = .own id 2 0 n x→nth fr 1=fnE→nth fr 5=iv i →
  (∃ st x' rest',cb (ae (CC L) run k cmB) (d+1) ⟨fr,hp,wr⟩=some (.ret,st)∧Hx hp st.hp id∧aL st.hp id=some ⟨.live,cells (ddp none E) rest'⟩∧aX TT st.fr st.hp Tryz.f125.results.toList=some [.own id 2 0 (ddp none E).length x']) ∨
  ∃ fr' wr',cb (ae (CC L) run k cmB) (d+1) ⟨fr,hp,wr⟩=some (.exit 0,⟨fr',hp,wr'⟩)∧ddp none E=E∧fr'.length=66∧nth fr' 0 = .own id 2 0 n x
 | 0,i,fr,wr,hi,hi1,hpre,h0,h00,h1,h5=>by
  obtain⟨fr1,a1⟩:=akv L run k fr hp wr n i _ rfl h0 h00 h5
  rw[decide_eq_false (by omega),cond_false] at a1
  have hr:ae (CC L) run k cmB ⟨fr,hp,wr⟩=some (.exit 0,⟨fr1,hp,wr⟩):=by rw[JD,ae,a1]
  have K:=bj _ hr
  refine .inr ⟨fr1,wr,bu hr,?_,K.len h0,K.at h00⟩
  rwa [take_of_length_le (by omega)] at hpre
 | d+1,i,fr,wr,hi,hi1,hpre,h0,h00,h1,h5=>by
  obtain⟨fr1,a1⟩:=akv L run k fr hp wr n i _ rfl h0 h00 h5
  rw[decide_eq_true (by omega),cond_true] at a1
  have K1:=bj _ a1
  obtain⟨fr2,wr2,b1,b2⟩:=als L run k fr1 hp wr id n x E rest i (i - 1) (by omega) (by omega) hn h9 (decide ((E[i]'(by omega)).1=(E[i - 1]'(by omega)).1)) hb (hq _ _ (hok _ (getElem_mem _)) (hok _ (getElem_mem _))) (K1.len h0) (K1.at h00) (K1.at h1) (K1.at h5)
  have K2:=bj _ b1
  have f0:=K2.len (K1.len h0)
  have f00:=K2.at (K1.at h00)
  have f1:=K2.at (K1.at h1)
  have f5:=K2.at (K1.at h5)
  by_cases he:(E[i]'(by omega)).1=(E[i - 1]'(by omega)).1
  ·rw[decide_eq_true he] at b2
   obtain⟨st,x',rest',c1,c2⟩:=X7 (L:=L) (run:=run) (k:=k) hq hk hn h9 hok i hi1 (by omega) he.symm hpre fr2 hp wr2 hb f0 f00 f1 f5
   refine .inl ⟨st,x',rest',du ?_,c2⟩
   have h2:ae (CC L) run k (.block 1 (.seq (seq1 cmX) (.cond (.tmp 28) cmY .skip))) ⟨fr1,hp,wr⟩=some (.ret,st):=by
    rw[ae,ar b1]
    simp[b2,c1]
   rw[JD,ar a1]
   exact bO h2
  ·rw[decide_eq_false he] at b2
   have h2:ae (CC L) run k (.block 1 (.seq (seq1 cmX) (.cond (.tmp 28) cmY .skip))) ⟨fr1,hp,wr⟩=some (.normal,⟨fr2,hp,wr2⟩):=by
    rw[ae,ar b1]
    simp[b2]
   obtain⟨fr3,d1,d2⟩:=alw L run k fr2 hp wr2 i (by omega) f0 f5
   have hr:ae (CC L) run k cmB ⟨fr,hp,wr⟩=some (.normal,⟨fr3,hp,wr2⟩):=by
    rw[JD,ar a1,ar h2,d1]
   have K:=bj _ d1
   rw[bT hr]
   exact MF hq hk hn h9 hok hp hb d (i+1) fr3 wr2 (by omega) (by omega) (by
    rw[yv (i:=i) (j:=i - 1) (by omega) (by omega),if_neg (fun h=>he h.symm),hpre,take_succ_eq_append_getElem (by omega)]) (K.len f0) (K.at f00) (K.at f1) d2
end
theorem ahF {L:Lst}{k:Nat}{ok:VN→Prop}(hq:EqG L (runK (CC L) k) ok){id:Nat}{x:Bool}{rest:Ψ}(E:List VN)(h9:E.length<1000)(hk:E.length<k)(p:PV)(hp:Θ)(hl:cX p=some E.length)(hE:E=[]∧p = .sc (.slice none 0 0)∨p = .own id 2 0 E.length x∧aL hp id=some ⟨.live,cells E rest⟩)(hok:∀ z ∈ E,ok z)(dr:Bool) :
  ∃ hp' r fp,bP (CC L) (runK (CC L) (k+1)) dr hp 125 [p,fnE]=some (r,hp',fp)∧Hx hp hp' id∧((E=[]∧r = .sc (.slice none 0 0))∨∃ x' rest',r = .own id 2 0 (ddp none E).length x'∧aL hp' id=some ⟨.live,cells (ddp none E) rest'⟩):=by
 obtain⟨fr,a1,a2,a3,a4⟩:=ahG L (runK (CC L) k) k p E.length hl hp
 obtain⟨fr1,b1,b2⟩:=alv L (runK (CC L) k) k fr p E.length hl hp [] a2 a3
 by_cases h2:E.length<2
 ·rw[decide_eq_true h2,cond_true] at b1
  have hx:ae (CC L) (runK (CC L) k) k cmC ⟨entry 66 [p,fnE],hp,[]⟩=some (.ret,⟨fr1,hp,[]⟩):=by
   rw[JC,ar a1];exact bO b1
  have hr:aX TT fr1 hp Tryz.f125.results.toList=some [p]:=by simp[Tryz.f125,aX,b2 h2]
  obtain⟨fp,c1⟩:=mu wH (ez qB rfl hx hr) (fun _=>rfl) dr
  refine⟨hp,_,fp,c1,Hx.refl _ _,?_⟩
  rcases hE with ⟨rfl,rfl⟩| ⟨rfl,hb⟩
  ·exact .inl ⟨rfl,rfl⟩
  ·have e:ddp none E=E:=by
    have:=MC E
    rwa [take_of_length_le (by omega)] at this
   exact .inr ⟨x,rest,by rw[e];rfl,by rw[e];exact hb⟩
 ·obtain⟨rfl,hb⟩:p = .own id 2 0 E.length x∧aL hp id=some ⟨.live,cells E rest⟩:=by
   rcases hE with ⟨rfl,-⟩| h
   ·simp at h2
   ·exact h
  rw[decide_eq_false h2,cond_false] at b1
  have K1:=bj _ b1
  obtain⟨fr2,c1,c2⟩:=alu L (runK (CC L) k) k fr1 hp [] (K1.len a2)
  have K2:=bj _ c1
  have f0:=K2.len (K1.len a2)
  have f00:=K2.at (K1.at a3)
  have f1:=K2.at (K1.at a4)
  rcases MF hq hk rfl h9 hok hp hb (E.length - 1) 1 fr2 [] (by omega) (Nat.le_refl _) (MC E) f0 f00 f1 c2 with ⟨st,x',rest',d1,d2,d3,d4⟩| ⟨fr3,wr3,d1,d2,d3,d4⟩
  ·have hs:ae (CC L) (runK (CC L) k) k (.seq (seq1 (seq1 (aQ cmT))) (.block 0 (.loop cmB))) ⟨fr1,hp,[]⟩=some (.ret,st):=by
    rw[ar c1];exact cJ (bK d1 (by omega))
   have hx:ae (CC L) (runK (CC L) k) k cmC ⟨entry 66 [.own id 2 0 E.length x,fnE],hp,[]⟩=some (.ret,st):=by
    rw[JC,ar a1,ar b1];exact bO hs
   obtain⟨fp,e1⟩:=mu wH (ez qB rfl hx d4) (fun h=>d2.1) dr
   exact⟨st.hp,_,fp,e1,d2,.inr ⟨x',rest',rfl,d3⟩⟩
  ·have hs:ae (CC L) (runK (CC L) k) k (.seq (seq1 (seq1 (aQ cmT))) (.block 0 (.loop cmB))) ⟨fr1,hp,[]⟩=some (.normal,⟨fr3,hp,wr3⟩):=by
    rw[ar c1];exact bE (bK d1 (by omega))
   obtain⟨st,g1,g2,g3⟩:=akp L (runK (CC L) k) k fr3 _ hp wr3 d3 d4
   have hx:ae (CC L) (runK (CC L) k) k cmC ⟨entry 66 [.own id 2 0 E.length x,fnE],hp,[]⟩=some (.ret,st):=by
    rw[JC,ar a1,ar b1,ar hs];exact g1
   obtain⟨fp,e1⟩:=mu wH (ez qB rfl hx g3) (fun h=>by rw[g2]) dr
   exact⟨st.hp,_,fp,e1,by rw[g2];exact Hx.refl _ _,.inr ⟨x,rest,by rw[d2];rfl,by rw[d2,g2];exact hb⟩⟩
theorem Q4:base.F.get 131=some Tryz.f131:=by kernel_rfl
theorem aam:base.shared 131=true:=by kernel_rfl
def rvC:Code:=Tryz.f131.body.getD .skip
def rvB:Code:=(aA rvC).getD .skip
def rvS:Code:=blk (seq1 (aQ rvB))
theorem afA:rvC = .seq (seq1 rvC) (.block 0 (.loop rvB)):=rfl
theorem Hr:rvB = .seq (seq1 rvB) (.seq (.block 1 rvS) (aQ (aQ rvB))):=rfl
theorem ai4:((Region.before (gG rvS))[13]?.getD 0).testBit 7=true:=by kernel_rfl
theorem ai3:((Region.before (gG rvS))[13]?.getD 0).testBit 11=true:=by kernel_rfl
theorem ai2:((Region.before (gG rvS))[15]?.getD 0).testBit 7=true:=by kernel_rfl
theorem ai1:((Region.before (gG rvS))[15]?.getD 0).testBit 11=true:=by kernel_rfl
theorem ai0:((Region.before (gG rvS))[15]?.getD 0).testBit 13=true:=by kernel_rfl
section
variable (L:Lst) (run:aw) (k:Nat) (fr:Ψ) (hp:Θ) (wr:Ω) (id n:Nat) (x:Bool) (E:List VN) (rest:Ψ)
theorem aaC (i j:Nat)(hi:i<n)(hj:j<n)(hn:E.length=n)(hb:aL hp id=some ⟨.live,cells E rest⟩)(h0:fr.length=28)(h00:nth fr 0 = .own id 2 0 n x)(h2:nth fr 2=iv i)(h3:nth fr 3=iv j) :
  ∃ fr' hp' wr',ae (CC L) run k rvS ⟨fr,hp,wr⟩=some (.normal,⟨fr',hp',wr'⟩)∧Hx hp hp' id∧aL hp' id=some ⟨.live,cells ((E.set i (E[j]'(by omega))).set j (E[i]'(by omega))) rest⟩:=by
 have q1:=kH E rest j (by omega)
 have q2:=kH E rest i (by omega)
 have o1:=Gf E rest i (E[j]'(by omega)) (by omega)
 have o2:=Gf (E.set i (E[j]'(by omega))) rest j (E[i]'(by omega)) (by simp;omega)
 have l1:(eC true (E[i]'(by omega))).length=2:=rfl
 have l2:(eC true (E[j]'(by omega))).length=2:=rfl
 have k1:bg (eC true (E[i]'(by omega)))=true:=rfl
 have k2:bg (eC true (E[j]'(by omega)))=true:=rfl
 have x1:=rI id n j x hj
 have x2:=rI id n i x hi
 have n1:=sN hb ⟨.live,cells (E.set i (E[j]'(by omega))) rest⟩
 have H1:=Hx.set hb ⟨.live,cells (E.set i (E[j]'(by omega))) rest⟩
 obtain⟨hp1,e1⟩:∃ h,cg hp id ⟨.live,cells (E.set i (E[j]'(by omega))) rest⟩=h:=⟨_,rfl⟩
 rw[e1] at n1 H1
 have n2:=sN n1 ⟨.live,cells ((E.set i (E[j]'(by omega))).set j (E[i]'(by omega))) rest⟩
 have H2:=H1.trans (Hx.set n1 ⟨.live,cells ((E.set i (E[j]'(by omega))).set j (E[i]'(by omega))) rest⟩)
 generalize cells ((E.set i (E[j]'(by omega))).set j (E[i]'(by omega))) rest=cs2 at *
 generalize cells (E.set i (E[j]'(by omega))) rest=cs1 at *
 generalize eC true (E[i]'(by omega))=ci at *
 generalize eC true (E[j]'(by omega))=cj at *
 simp only[iv] at h2 h3
 have hb1:=ai4
 have hb2:=ai3
 have hb3:=ai2
 have hb4:=ai1
 have hb5:=ai0
 simp[-Nat.testBit_zero,rvS,rvB,rvC,Tryz.f131,seq1,aQ,blk,gG] at hb1 hb2 hb3 hb4 hb5
 simp[-Nat.testBit_zero,rvS,rvB,rvC,Tryz.f131,seq1,aQ,blk,aC,partOf,aa,af,ab,bc,and_assoc,bm,hb1,hb2,hb3,hb4,hb5,h0,h00,h2,h3,x1,x2,hb,q1,q2,o1,o2,l1,l2,k1,k2,e1,n1,n2,H2,zp,nI,aU,undef,number,FP.free,cw,FP.apart]
theorem aiZ (i j:Nat)(h0:fr.length=28)(h2:nth fr 2=iv i)(h3:nth fr 3 = .sc (.int .i64 ((j:Int) - 1))) :
  ∃ fr',ae (CC L) run k (seq1 rvB) ⟨fr,hp,wr⟩=some (bif decide (i+1<j) then .normal else .exit 0,⟨fr',hp,wr⟩):=by
 obtain⟨u,hu⟩:∃ u,decide (i+1<j)=u:=⟨_,rfl⟩
 have hu':decide ((i:Int)<(j:Int) - 1)=u:=by rw[← hu];exact decide_eq_decide.2 (by omega)
 rw[hu]
 simp only[iv] at h2
 cases u <;> simp only[decide_eq_true_eq,decide_eq_false_iff_not] at hu' <;> simp[rvB,rvC,Tryz.f131,seq1,aC,aZ,au,bf,aa,af,ab,h0,h2,h3,hu']
theorem akT (i j:Nat)(h9:i<1000)(hj:j<1000)(hj1:2≤j)(h0:fr.length=28)(h2:nth fr 2=iv i)(h3:nth fr 3 = .sc (.int .i64 ((j:Int) - 1))) :
  ∃ fr',ae (CC L) run k (aQ (aQ rvB)) ⟨fr,hp,wr⟩=some (.normal,⟨fr',hp,wr⟩)∧nth fr' 2=iv (i+1)∧nth fr' 3 = .sc (.int .i64 (((j - 1:Nat):Int) - 1)):=by
 have hw:=bD i (by omega)
 obtain⟨j',rfl⟩:∃ j',j=j'+2:=⟨j - 2,by omega⟩
 have e1:((j'+2:Nat):Int) - 1=((j'+1:Nat):Int):=by omega
 have e2:((j'+2 - 1:Nat):Int) - 1=(j':Int):=by omega
 rw[e1] at h3
 rw[e2]
 have w1:bA .i64 (((j'+1:Nat):Int) - 1)=(j':Int):=by
  simpa using jx .i64 (j'+1) 1 j' (by omega) (hiI (by omega))
 simp only[iv] at h2
 generalize ((j'+1:Nat):Int)=J at *
 simp[iv,rvB,rvC,Tryz.f131,aQ,aC,aZ,au,bf,aa,af,ab,h0,h2,h3,hw,w1]
theorem afy (p:PV)(m:Nat)(hn:n=m+1)(h9:n<1000)(hl:cX p=some n):∃ fr,ae (CC L) run k (seq1 rvC) ⟨entry 28 [p],hp,[]⟩=some (.normal,⟨fr,hp,[]⟩)∧fr.length=28∧nth fr 0=p∧nth fr 2=iv 0∧nth fr 3 = .sc (.int .i64 ((n:Int) - 1)):=by
 obtain⟨e1,e2⟩:=cO 27 p
 generalize entry 28 [p]=fr0 at *
 subst hn
 have e:((m+1:Nat):Int) - 1=(m:Int):=by omega
 rw[e]
 have w1:bA .i64 (((m+1:Nat):Int) - 1)=(m:Int):=by
  simpa using jx .i64 (m+1) 1 m (by omega) (hiI (by omega))
 generalize hM:m+1=M at *
 simp[iv,rvC,Tryz.f131,seq1,aC,aZ,au,bf,bL,aa,af,ab,bc,e1,e2,hl,kK,w1]
end
theorem aiW {α:Type}(P M Q:List α)(a b:α):((P++a::(M++b::Q)).set P.length b).set (P.length+(M.length+1)) a=P++b::(M++a::Q):=by
 simp[]
theorem aaE {L:Lst}{run:aw}{k:Nat}{id n:Nat}{x:Bool}{rest:Ψ}(h9:n<1000):∀ (m:Nat) (A M B:List VN) (fr:Ψ) (hp:Θ) (wr:Ω),M.length≤m→1≤n→(A++(M++B)).length=n→A.length=B.length→aL hp id=some ⟨.live,cells (A++(M++B)) rest⟩→fr.length=28→nth fr 0 = .own id 2 0 n x→nth fr 2=iv A.length→nth fr 3 = .sc (.int .i64 (((n - A.length:Nat):Int) - 1)) →
  ∃ fr' hp' wr',cb (ae (CC L) run k rvB) (m+1) ⟨fr,hp,wr⟩=some (.exit 0,⟨fr',hp',wr'⟩)∧Hx hp hp' id∧aL hp' id=some ⟨.live,cells (A++(M.reverse++B)) rest⟩:=by
 intro m
 induction m with
 | zero =>
  intro A M B fr hp wr hM hn1 hn hAB hb h0 h00 h2 h3
  obtain rfl:M=[]:=length_eq_zero_iff.1 (by omega)
  obtain⟨fr1,a1⟩:=aiZ L run k fr hp wr A.length (n - A.length) h0 h2 h3
  simp at hn
  rw[decide_eq_false (by omega),cond_false] at a1
  exact⟨fr1,hp,wr,bu (by rw[Hr,ae,a1]),Hx.refl _ _,hb⟩
 | succ m ih =>
  intro A M B fr hp wr hM hn1 hn hAB hb h0 h00 h2 h3
  obtain⟨fr1,a1⟩:=aiZ L run k fr hp wr A.length (n - A.length) h0 h2 h3
  have hl:A.length+(M.length+B.length)=n:=by simpa using hn
  by_cases h1:M.length≤1
  ·rw[decide_eq_false (by omega),cond_false] at a1
   refine⟨fr1,hp,wr,bK (bu (n:=0) (by rw[Hr,ae,a1])) (by omega),Hx.refl _ _,?_⟩
   have:M.reverse=M:=by
    match M,h1 with
    | [],_=>rfl
    | [_],_=>rfl
    | _::_::_,h=>simp at h
   rw[this];exact hb
  ·rw[decide_eq_true (by omega),cond_true] at a1
   obtain⟨a,M1,rfl⟩:∃ a M1,M=a::M1:=by
    cases M with
    | nil=>simp at h1
    | cons a M1=>exact⟨a,M1,rfl⟩
   obtain⟨M2,b,rfl⟩:∃ M2 b,M1=M2++[b]:=⟨M1.dropLast,M1.getLast (fun e=>by rw[e] at h1;simp at h1),(dropLast_concat_getLast _).symm⟩
   have eE:A++(a::(M2++[b])++B)=A++a::(M2++b::B):=by simp
   rw[eE] at hb hn
   simp only[length_cons,length_append,length_nil] at hl hM
   have K1:=bj _ a1
   have hj:n - A.length - 1=A.length+(M2.length+1):=by omega
   have g1:(A++a::(M2++b::B))[A.length]'(by rw[hn];omega)=a:=by
    rw[getElem_append_right (by omega)];simp
   have g2:(A++a::(M2++b::B))[A.length+(M2.length+1)]'(by rw[hn];omega)=b:=by
    rw[getElem_append_right (by omega)]
    simp
   have h3':nth fr 3=iv (A.length+(M2.length+1)):=by
    rw[h3,← hj];unfold iv
    have:((n - A.length:Nat):Int) - 1=((n - A.length - 1:Nat):Int):=by omega
    rw[this]
   obtain⟨fr2,hp2,wr2,b1,b2,b3⟩:=aaC L run k fr1 hp wr id n x _ rest A.length (A.length+(M2.length+1)) (by omega) (by omega) hn hb (K1.len h0) (K1.at h00) (K1.at h2) (K1.at h3')
   rw[g1,g2,aiW] at b3
   have b1':ae (CC L) run k (.block 1 rvS) ⟨fr1,hp,wr⟩=some (.normal,⟨fr2,hp2,wr2⟩):=by simp only[ae,b1]
   have K2:=bj _ b1
   obtain⟨fr3,c1,c2,c3⟩:=akT L run k fr2 hp2 wr2 A.length (n - A.length) (by omega) (by omega) (by omega) (K2.len (K1.len h0)) (K2.at (K1.at h2)) (K2.at (K1.at h3))
   have hr:ae (CC L) run k rvB ⟨fr,hp,wr⟩=some (.normal,⟨fr3,hp2,wr2⟩):=by
    rw[Hr,ar a1,ar b1',c1]
   have K:=bj _ hr
   obtain⟨fr',hp',wr',r1,r2,r3⟩:=ih (A++[b]) M2 (a::B) fr3 hp2 wr2 (by omega) hn1 (by simp;omega) (by simp[hAB]) (by simpa using b3) (K.len h0) (K.at h00) (by rw[c2];simp) (by rw[c3];simp;omega)
   exact⟨fr',hp',wr',by rw[bT hr];exact r1,b2.trans r2,by rw[r3];simp⟩
theorem afx {L:Lst}{k:Nat}{id:Nat}{x:Bool}{rest:Ψ}(E:List VN)(h1:1≤E.length)(h9:E.length<1000)(hk:E.length<k)(hp:Θ)(hb:aL hp id=some ⟨.live,cells E rest⟩)(dr:Bool) :
  ∃ hp' r fp,bP (CC L) (runK (CC L) (k+1)) dr hp 131 [.own id 2 0 E.length x]=some (r,hp',fp)∧Hx hp hp' id∧aL hp' id=some ⟨.live,cells E.reverse rest⟩:=by
 obtain⟨m,hm⟩:∃ m,E.length=m+1:=⟨E.length - 1,by omega⟩
 obtain⟨fr,a1,a2,a3,a4,a5⟩:=afy L (runK (CC L) k) k hp E.length (.own id 2 0 E.length x) m hm h9 rfl
 obtain⟨fr1,hp1,wr1,b1,b2,b3⟩:=aaE (L:=L) (run:=runK (CC L) k) (k:=k) (id:=id) (n:=E.length) (x:=x) (rest:=rest) h9 E.length [] E [] fr hp [] (Nat.le_refl _) h1 (by simp) rfl (by simpa using hb) a2 a3 a4 (by simpa using a5)
 have hx:ae (CC L) (runK (CC L) k) k rvC ⟨entry 28 [.own id 2 0 E.length x],hp,[]⟩=some (.normal,⟨fr1,hp1,wr1⟩):=by
  rw[afA,ar a1];exact bE (bK b1 (by omega))
 obtain⟨fp,c1⟩:=mu aam (yE Q4 rfl hx rfl) (fun _=>b2.1) dr
 exact⟨hp1,_,fp,c1,b2,by simpa using b3⟩
theorem yO:base.F.get 72=some Tryz.f72:=by kernel_rfl
theorem DA:base.shared 72=true:=by kernel_rfl
theorem ahZ:ja TT 102=some 32:=by kernel_rfl
def qJ:Code→Code
 | .scope c=>c
 | c=>c
def olC:Code:=Tryz.f72.body.getD .skip
def olB:Code:=(aA olC).getD .skip
def olX:Code:=qJ (blk (seq1 (aQ (aQ olB))))
def y6:Code:=aQ (aQ olX)
def olP:Code:=(aA olX).getD .skip
def olY:Code:=blk (seq1 (aQ (aQ olP)))
def olN:Code:=(aA olY).getD .skip
def olZ:Code:=blk (seq1 (aQ olN))
theorem UZ:olB = .seq (seq1 olB) (.seq (.cond (.tmp 17) .skip (.exit 0)) (.seq (.block 1 (.scope olX)) (aQ (aQ (aQ olB))))):=rfl
theorem agb:olX = .seq (seq1 olX) (.seq (.label 0) (.seq (.seq (seq1 (seq1 y6)) (.block 2 (.loop olP))) (.seq (seq1 (aQ y6)) (aQ (aQ y6))))):=rfl
theorem UY:olP = .seq (seq1 olP) (.seq (.cond (.tmp 23) .skip (.exit 2)) (.seq (.block 3 olY) (aQ (aQ (aQ olP))))):=rfl
theorem UW:olY = .seq (seq1 olY) (.seq (.seq (seq1 (seq1 (aQ olY))) (.block 4 (.loop olN))) (aQ (aQ olY))):=rfl
theorem IH:olN = .seq (.seq (seq1 (seq1 olN)) (.cond (.tmp 31) .skip (.exit 4))) (.seq (.block 5 olZ) (aQ (aQ olN))):=rfl
theorem UU:olZ = .seq (.seq (seq1 (seq1 olZ)) (.cond (.tmp 49) (.seq (seq1 (lF (aQ (seq1 olZ)))) (.exit 3)) .skip)) (aQ olZ):=rfl
theorem LQ (z:VN):fY TT 100 1 [(0,.agg (eC true z))]=some (2,eC true z):=by
 simp[fY,kK,nI,GN,rep,dH,PV.cells?,eC,ca]
theorem afM (hp:Θ)(z:VN):fW hp 2 (.imm 1 true (eC true z))=some (1,eC true z,[]):=by simp[fW,eC]
theorem YH (E:List VN)(rest:Ψ)(j:Nat)(hj:j<E.length):(bp (cells E rest) (j*2)).head?=some (v2 true E[j].1):=by
 have h:=kH E rest j hj
 generalize bp (cells E rest) (j*2)=l at h
 cases l with
 | nil=>simp[bF] at h
 | cons a l =>
  simp only[bF] at h
  cases h1:bF l 1 with
  | none=>rw[h1] at h;cases h
  | some r =>
   rw[h1] at h
   have:a::r=eC true E[j]:=by simpa using h
   simp only[eC,List.cons.injEq] at this
   simp[this.1]
section
variable (L:Lst) (run:aw) (k:Nat) (fr:Ψ) (hp:Θ) (wr:Ω)
theorem ajg (t:Nat)(h0:fr.length=72)(h16:nth fr 16=iv t):∃ fr',ae (CC L) run k (seq1 olB) ⟨fr,hp,wr⟩=some (.normal,⟨fr',hp,wr⟩)∧nth fr' 17 = .sc (.bool (decide (t<2))):=by
 obtain⟨u,hu⟩:∃ u,decide (t<2)=u:=⟨_,rfl⟩
 have hu':decide ((t:Int)<2)=u:=by rw[← hu];exact decide_eq_decide.2 (by omega)
 rw[hu]
 simp only[iv] at h16
 cases u <;> simp only[decide_eq_true_eq,decide_eq_false_iff_not] at hu' <;> simp[olB,olC,Tryz.f72,seq1,aC,aZ,au,bf,aa,h0,h16,hu']
theorem ak3 (q:PV)(n:Nat)(hl:cX q=some n)(h0:fr.length=72)(h3:nth fr 3=q):∃ fr',ae (CC L) run k (seq1 olX) ⟨fr,hp,wr⟩=some (.normal,⟨fr',hp,wr⟩)∧nth fr' 4=iv n:=by
 simp[iv,olX,qJ,blk,olB,olC,Tryz.f72,seq1,aQ,aC,bL,aa,ab,bc,h0,h3,hl,kK]
theorem ak2 (q:PV)(n:Nat)(hl:cX q=some n)(h0:fr.length=72)(h00:nth fr 0=q):∃ fr',ae (CC L) run k (seq1 (seq1 y6)) ⟨fr,hp,wr⟩=some (.normal,⟨fr',hp,wr⟩)∧nth fr' 20=q∧nth fr' 21=iv n∧nth fr' 22=iv 0:=by
 simp[iv,y6,olX,qJ,blk,olB,olC,Tryz.f72,seq1,aQ,aC,bL,aa,af,ab,bc,h0,h00,hl,kK]
theorem aeN (i n:Nat)(h0:fr.length=72)(h21:nth fr 21=iv n)(h22:nth fr 22=iv i):∃ fr',ae (CC L) run k (seq1 olP) ⟨fr,hp,wr⟩=some (.normal,⟨fr',hp,wr⟩)∧nth fr' 23 = .sc (.bool (decide (i<n))):=by
 obtain⟨u,hu⟩:∃ u,decide (i<n)=u:=⟨_,rfl⟩
 rw[hu]
 simp only[iv] at h21 h22
 cases u <;> simp only[decide_eq_true_eq,decide_eq_false_iff_not] at hu <;> simp[olP,olX,qJ,blk,olB,olC,Tryz.f72,seq1,aQ,aC,aZ,au,bf,aa,h0,h21,h22,hu]
theorem ajo (id n:Nat)(x:Bool)(i:Nat)(E:List VN)(rest:Ψ)(hi:i<n)(hn:E.length=n)(hb:aL hp id=some ⟨.live,cells E rest⟩)(h0:fr.length=72)(h20:nth fr 20 = .own id 2 0 n x)(h22:nth fr 22=iv i):∃ fr' wr',ae (CC L) run k (seq1 olY) ⟨fr,hp,wr⟩=some (.normal,⟨fr',cg (aO hp zC) hp.length ⟨.live,eC true (E[i]'(by omega))⟩,wr'⟩)∧nth fr' 6 = .ptr hp.length 0:=by
 have q1:=kH E rest i (by omega)
 have x1:=rI id n i x hi
 have a1:=al1 hp zC
 have o1:ca zC 0 (eC true (E[i]'(by omega)))=some (eC true (E[i]'(by omega))):=rfl
 have l1:(eC true (E[i]'(by omega))).length=2:=rfl
 have k1:bg (eC true (E[i]'(by omega)))=true:=rfl
 have zz:dU TT 102=some zC:=GN
 generalize eC true (E[i]'(by omega))=ci at *
 simp only[iv] at h22
 simp[olY,olP,olX,qJ,blk,olB,olC,Tryz.f72,seq1,aQ,aC,partOf,aa,af,ab,bc,and_assoc,bm,h0,h20,h22,x1,hb,q1,a1,o1,l1,k1,zz,zp,nI,aU]
theorem ajn (q:PV)(n:Nat)(hl:cX q=some n)(h0:fr.length=72)(h3:nth fr 3=q):∃ fr',ae (CC L) run k (seq1 (seq1 (aQ olY))) ⟨fr,hp,wr⟩=some (.normal,⟨fr',hp,wr⟩)∧nth fr' 7=iv n:=by
 simp[iv,olY,olP,olX,qJ,blk,olB,olC,Tryz.f72,seq1,aQ,aC,bL,aa,ab,bc,h0,h3,hl,kK]
theorem aeM (m b:Nat)(h9:b<1000)(h0:fr.length=72)(h7:nth fr 7=iv m)(h4:nth fr 4=iv b):∃ fr',ae (CC L) run k (seq1 (seq1 olN)) ⟨fr,hp,wr⟩=some (.normal,⟨fr',hp,wr⟩)∧nth fr' 31 = .sc (.bool (decide (b+2≤m))):=by
 obtain⟨u,hu⟩:∃ u,decide (b+2≤m)=u:=⟨_,rfl⟩
 have hu':decide (((b+2:Nat):Int)≤(m:Int))=u:=by rw[← hu];exact decide_eq_decide.2 Int.ofNat_le
 have hw:bA .i64 ((b:Int)+2)=((b+2:Nat):Int):=by
  simpa using dm .i64 b 2 (b+2) rfl (hiI (by omega))
 rw[hu]
 generalize ((b+2:Nat):Int)=B at *
 simp only[iv] at h7 h4
 cases u <;> simp only[decide_eq_true_eq,decide_eq_false_iff_not] at hu' <;> simp[olN,olY,olP,olX,qJ,blk,olB,olC,Tryz.f72,seq1,aQ,aC,aZ,au,bf,aa,af,ab,h0,h7,h4,hw,hu']
theorem ajl (oid m:Nat)(xo:Bool)(O:List VN)(M:Ψ)(i j c:Nat)(z:VN)(s:Int)(hj:m=j+1)(hi:m=i+2)(h9:m<1000)(hm:O.length=m)(hb:aL hp oid=some ⟨.live,cells O M⟩)(hc:aL hp c=some ⟨.live,eC true z⟩)(g:az L run 130 [v2 true (O[i]'(by omega)).1,v2 true (O[j]'(by omega)).1,v2 true z.1] (.sc (.int .i64 s)))(h0:fr.length=72)(h3:nth fr 3 = .own oid 2 0 m xo)(h7:nth fr 7=iv m)(h6:nth fr 6 = .ptr c 0):∃ fr' wr',ae (CC L) run k (seq1 (seq1 olZ)) ⟨fr,hp,wr⟩=some (.normal,⟨fr',hp,wr'⟩)∧nth fr' 49 = .sc (.bool (decide (0<s))):=by
 have q1:=YH O M i (by omega)
 have q2:=YH O M j (by omega)
 have q3:(eC true z).head?=some (v2 true z.1):=rfl
 have x1:=rI oid m i xo (by omega)
 have x2:=rI oid m j xo (by omega)
 have w1:bA .i64 ((m:Int) - 2)=(i:Int):=by
  simpa using jx .i64 m 2 i (by omega) (hiI (by omega))
 have w2:bA .i64 ((m:Int) - 1)=(j:Int):=by
  simpa using jx .i64 m 1 j (by omega) (hiI (by omega))
 obtain⟨u,hu⟩:∃ u,decide (0<s)=u:=⟨_,rfl⟩
 rw[hu]
 unfold az at g
 generalize v2 true (O[i]'(by omega)).1=vi at *
 generalize v2 true (O[j]'(by omega)).1=vj at *
 generalize v2 true z.1=vz at *
 generalize eC true z=cz at *
 simp only[iv] at h7
 cases u <;> simp only[decide_eq_true_eq,decide_eq_false_iff_not] at hu <;> simp[olZ,olN,olY,olP,olX,qJ,blk,olB,olC,Tryz.f72,seq1,aQ,aM,aC,aZ,au,bf,partOf,aa,af,ab,bc,and_assoc,h0,h3,h7,h6,x1,x2,w1,w2,hb,hc,q1,q2,q3,g,hu,fa0,YU,DI,bp,aU,number,FP.free,cw,FP.apart]
theorem aeL (b:Nat)(O:List VN)(q:PV)(c:Nat)(z:VN)(h9:O.length<1000)(hO:da 2 (eC true) b hp O q)(hc:aL hp c=some ⟨.live,eC true z⟩)(h0:fr.length=72)(h3:nth fr 3=q)(h6:nth fr 6 = .ptr c 0):(∃ fr' hp' wr',ae (CC L) run k (seq1 (lF (aQ (seq1 olZ)))) ⟨fr,hp,wr⟩=some (.normal,⟨fr',hp',wr'⟩)∧da 2 (eC true) b hp' (O++[z]) (nth fr' 3)∧(∀ i,i<b→aL hp' i=aL hp i)) ∧
  ∃ fr' hp' wr',ae (CC L) run k (aQ (aQ olY)) ⟨fr,hp,wr⟩=some (.normal,⟨fr',hp',wr'⟩)∧da 2 (eC true) b hp' (O++[z]) (nth fr' 3)∧(∀ i,i<b→aL hp' i=aL hp i):=by
 obtain⟨p',hp',fp,a1,a2,a3,-⟩:=hO.app (Cs true) [z] (by simp) (by simp;omega)
 have e2:[z].flatMap (eC true)=eC true z:=by simp
 rw[e2,show [z].length=1 from rfl] at a1
 have l1:=LQ z
 have r1:=fun hp=>afM hp z
 have t1:bF (eC true z) 2=some (eC true z):=rfl
 have k1:bg (eC true z)=true:=rfl
 have i1:bV (eC true z)=true:=rfl
 have zz:dU TT 102=some zC:=GN
 have hz:zC.length=2:=rfl
 generalize eC true z=cz at *
 constructor <;> simp[olZ,olN,olY,olP,olX,qJ,blk,lF,olB,olC,Tryz.f72,seq1,aQ,aC,partOf,aa,af,ab,bc,and_assoc,h0,h3,h6,hc,l1,r1,t1,k1,i1,zz,hz,a1,a2,kK,nI,zp,ahZ,ch,bp,aU] <;> exact a3
end
theorem da.gr2 {α:Type}{s:Nat}{e:α→Ψ}{b:Nat}{hp hp':Θ}{l:List α}{p:PV}(h:da s e b hp l p)(g:Hgr hp hp'):da s e b hp' l p:=by
 obtain⟨hb,h⟩:=h
 refine⟨Nat.le_trans hb g.1,?_⟩
 rcases h with h | ⟨id,m,x,h1,h2,h3,h4,h5⟩
 ·exact .inl h
 ·exact .inr ⟨id,m,x,h1,Nat.lt_of_lt_of_le h2 g.1,h3,h4,by rw[g.2 id h2,h5]⟩
theorem Ca {b:Nat}{hp:Θ}{O:List VN}{q:PV}(h:da 2 (eC true) b hp O q)(hne:O≠[]):∃ oid M x,q = .own oid 2 0 O.length x∧aL hp oid=some ⟨.live,cells O M⟩:=by
 rcases h.2 with ⟨h,-⟩| ⟨id,m,x,h1,h2,h3,h4,h5⟩
 ·exact absurd h hne
 ·exact⟨id,m.flatMap (eC true),x,h3,by rw[h5,flatMap_append];rfl⟩
theorem abA {b:Nat}{hp:Θ}{O:List VN}{z:VN}{oid n:Nat}{x y:Bool}(hn:n=O.length)(hy:y=(x && n == n+1))(h:da 2 (eC true) b hp (O++[z]) (.own oid 2 0 (n+1) x)):da 2 (eC true) b hp O (.own oid 2 0 n y):=by
 subst hn
 refine⟨h.1,.inr ?_⟩
 rcases h.2 with ⟨h,-⟩| ⟨id,m,x',h1,h2,h3,h4,h5⟩
 ·simp at h
 ·simp only[PV.own.injEq] at h3
  obtain⟨rfl,-⟩:=h3
  refine⟨oid,z::m,y,h1,h2,rfl,fun h => ?_,by rw[h5];simp⟩
  rw[h] at hy
  have:(O.length == O.length+1)=false:=by simp
  rw[this,Bool.and_false] at hy
  cases hy
section
variable (L:Lst) (run:aw) (k:Nat) (fr:Ψ) (hp:Θ) (wr:Ω)
theorem aeK (b:Nat)(O:List VN)(z:VN)(h9:O.length+1<1000)(hO:da 2 (eC true) b hp (O++[z]) (nth fr 3))(h0:fr.length=72) :
  (nth fr 7=iv (O.length+1)→∃ fr',ae (CC L) run k (aQ olZ) ⟨fr,hp,wr⟩=some (.normal,⟨fr',hp,wr⟩)∧da 2 (eC true) b hp O (nth fr' 3)) ∧
  ∃ fr',ae (CC L) run k (seq1 (aQ y6)) ⟨fr,hp,wr⟩=some (.normal,⟨fr',hp,wr⟩)∧da 2 (eC true) b hp O (nth fr' 3):=by
 obtain⟨oid,M,x,h3,-⟩:=Ca hO (by simp)
 have hl:(O++[z]).length=O.length+1:=by simp
 rw[hl] at h3
 rw[h3] at hO
 have s1:=Sd hp oid (O.length+1) O.length x (by omega)
 have hP:=abA (y:=(x && O.length == O.length+1)) rfl rfl hO
 have w1:bA .i64 (((O.length+1:Nat):Int) - 1)=(O.length:Int):=by
  simpa using jx .i64 (O.length+1) 1 O.length (by omega) (hiI (by omega))
 have hl2:cX (.own oid 2 0 (O.length+1) x)=some (O.length+1):=rfl
 generalize (x && O.length == O.length+1)=y at *
 generalize O.length=n at *
 simp only[iv] at s1
 generalize hN:n+1=N at *
 constructor
 ·intro h7
  simp only[iv] at h7
  simp[olZ,olN,olY,olP,olX,qJ,blk,olB,olC,Tryz.f72,seq1,aQ,aC,aZ,au,bf,aa,af,ab,bc,h0,h3,h7,w1,s1,hP]
 ·simp[y6,olX,qJ,blk,olB,olC,Tryz.f72,seq1,aQ,aC,aZ,au,bf,bL,aa,af,ab,bc,h0,h3,w1,s1,hP,hl2,kK]
theorem ajm (q:PV)(n:Nat)(hl:cX q=some n)(h0:fr.length=72)(h3:nth fr 3=q):∃ fr',ae (CC L) run k (aQ (aQ olN)) ⟨fr,hp,wr⟩=some (.normal,⟨fr',hp,wr⟩)∧nth fr' 7=iv n:=by
 simp[iv,olN,olY,olP,olX,qJ,blk,olB,olC,Tryz.f72,seq1,aQ,aC,bL,aa,ab,bc,h0,h3,hl,kK]
end
structure TnG (L:Lst) (run:aw) (ok:VN→Prop) (tI:VN→VN→VN→Int):Prop where
 g:∀ a b z,ok a→ok b→ok z→az L run 130 [v2 true a.1,v2 true b.1,v2 true z.1] (.sc (.int .i64 (tI a b z)))
 gt:∀ a b z,0<tI a b z ↔ 0<cr a.1 b.1 z.1
section
variable {L:Lst} {run:aw} {k:Nat} {ok:VN→Prop} {tI:VN→VN→VN→Int} {b c:Nat} {z:VN} {base:List VN}
theorem acn (hT:TnG L run ok tI)(hz:ok z)(hp:Θ)(hc:aL hp c=some ⟨.live,eC true z⟩):∀ (s:List VN) (fr:Ψ) (wr:Ω),base.length+s.length<900→da 2 (eC true) b hp (base++s.reverse) (nth fr 3)→fr.length=72→nth fr 4=iv base.length→nth fr 6 = .ptr c 0→nth fr 7=iv (base.length+s.length)→(∀ y ∈ s,ok y) →
  ∃ e fr' hp' wr',cb (ae (CC L) run k olN) (s.length+1) ⟨fr,hp,wr⟩=some (e,⟨fr',hp',wr'⟩)∧eL (dp olN) fr fr'∧((e = .exit 3∧da 2 (eC true) b hp' (base++(dL s z).reverse) (nth fr' 3)∧∀ i,i<b→aL hp' i=aL hp i)∨(e = .exit 4∧hp'=hp∧da 2 (eC true) b hp (base++(mJ z s).reverse) (nth fr' 3))):=by
 have stop:∀ (s:List VN) (fr:Ψ) (wr:Ω),s.length<2→base.length+s.length<900→da 2 (eC true) b hp (base++s.reverse) (nth fr 3)→fr.length=72→nth fr 4=iv base.length→nth fr 7=iv (base.length+s.length)→mJ z s=s →
  ∃ e fr' hp' wr',cb (ae (CC L) run k olN) (s.length+1) ⟨fr,hp,wr⟩=some (e,⟨fr',hp',wr'⟩)∧eL (dp olN) fr fr'∧((e = .exit 3∧da 2 (eC true) b hp' (base++(dL s z).reverse) (nth fr' 3)∧∀ i,i<b→aL hp' i=aL hp i)∨(e = .exit 4∧hp'=hp∧da 2 (eC true) b hp (base++(mJ z s).reverse) (nth fr' 3))):=fun s fr wr hs h9 hO h0 h4 h7 hpop=>by
  obtain⟨fr1,a1,a2⟩:=aeM L run k fr hp wr (base.length+s.length) base.length (by omega) h0 h7 h4
  rw[decide_eq_false (by omega)] at a2
  have hr:ae (CC L) run k olN ⟨fr,hp,wr⟩=some (.exit 4,⟨fr1,hp,wr⟩):=by
   rw[IH,ae,ar a1]
   simp[a2]
  have K:=bj _ hr
  have K1:=bj _ a1
  exact⟨.exit 4,fr1,hp,wr,bK (bu (n:=0) hr) (by omega),K,.inr ⟨rfl,rfl,by rw[hpop,K1.at rfl];exact hO⟩⟩
 intro s
 induction s with
 | nil=>intro fr wr h9 hO h0 h4 h6 h7 _;exact stop [] fr wr (by simp) h9 hO h0 h4 h7 rfl
 | cons y s ih =>
  intro fr wr h9 hO h0 h4 h6 h7 hok
  cases s with
  | nil=>exact stop [y] fr wr (by simp) h9 hO h0 h4 h7 rfl
  | cons a r =>
   simp only[length_cons] at h9 h7 ⊢
   obtain⟨fr1,a1,a2⟩:=aeM L run k fr hp wr (base.length+(r.length+1+1)) base.length (by omega) h0 h7 h4
   rw[decide_eq_true (by omega)] at a2
   have K1:=bj _ a1
   have a3:ae (CC L) run k (.seq (seq1 (seq1 olN)) (.cond (.tmp 31) .skip (.exit 4))) ⟨fr,hp,wr⟩=some (.normal,⟨fr1,hp,wr⟩):=by
    rw[ar a1]
    simp[a2]
   have eO:base++(y::a::r).reverse=(base++r.reverse)++[a,y]:=by simp
   have eP:(base++r.reverse).length=base.length+r.length:=by simp
   have e3:nth fr1 3=nth fr 3:=K1.at rfl
   rw[← e3] at hO
   have hO':=hO
   rw[eO] at hO'
   obtain⟨oid,M,x,q1,q2⟩:=Ca hO' (by simp)
   have el:((base++r.reverse)++[a,y]).length=base.length+(r.length+1+1):=by simp
   have g1:((base++r.reverse)++[a,y])[base.length+r.length]'(by rw[el];omega)=a:=by
    rw[getElem_append_right (by omega)]
    simp[eP]
   have g2:((base++r.reverse)++[a,y])[base.length+r.length+1]'(by rw[el];omega)=y:=by
    rw[getElem_append_right (by omega)]
    simp[eP]
   have g:=hT.g a y z (hok a (by simp)) (hok y (by simp)) hz
   rw[el] at q1
   obtain⟨fr2,wr2,b1,b2⟩:=ajl L run k fr1 hp wr oid (base.length+(r.length+1+1)) x _ M (base.length+r.length) (base.length+r.length+1) c z (tI a y z) (by omega) (by omega) (by omega) el q2 hc (by rw[g1,g2];exact g) (K1.len h0) q1 (K1.at h7) (K1.at h6)
   have K2:=bj _ b1
   have f3:nth fr2 3=nth fr1 3:=K2.at rfl
   by_cases ht:0<cr a.1 y.1 z.1
   ·rw[decide_eq_true ((hT.gt _ _ _).2 ht)] at b2
    obtain⟨⟨fr3,hp3,wr3,c1,c2,c3⟩,-⟩:=aeL L run k fr2 hp wr2 b _ _ c z (by rw[eO,el];omega) hO hc (K2.len (K1.len h0)) f3 (K2.at (K1.at h6))
    have b3:ae (CC L) run k olZ ⟨fr1,hp,wr⟩=some (.exit 3,⟨fr3,hp3,wr3⟩):=by
     have h1:ae (CC L) run k (.seq (seq1 (seq1 olZ)) (.cond (.tmp 49) (.seq (seq1 (lF (aQ (seq1 olZ)))) (.exit 3)) .skip)) ⟨fr1,hp,wr⟩=some (.exit 3,⟨fr3,hp3,wr3⟩):=by
      rw[ar b1]
      simp only[ae,aj,b2]
      rw[c1]
     rw[UU,ae,h1]
    have hr:ae (CC L) run k olN ⟨fr,hp,wr⟩=some (.exit 3,⟨fr3,hp3,wr3⟩):=by
     have h1:ae (CC L) run k (.block 5 olZ) ⟨fr1,hp,wr⟩=some (.exit 3,⟨fr3,hp3,wr3⟩):=by
      rw[ae,b3];rfl
     rw[IH,ar a3,ae,h1]
    refine⟨.exit 3,fr3,hp3,wr3,bK (bu (n:=0) hr) (by omega),bj _ hr,.inl ⟨rfl,?_,c3⟩⟩
    have:base++(dL (y::a::r) z).reverse=base++(y::a::r).reverse++[z]:=by
     simp[dL,mJ,ht]
    rw[this];exact c2
   ·rw[decide_eq_false (fun h=>ht ((hT.gt _ _ _).1 h))] at b2
    have eO2:base++(y::a::r).reverse=(base++(a::r).reverse)++[y]:=by simp
    have el2:(base++(a::r).reverse).length+1=base.length+(r.length+1+1):=by simp;omega
    obtain⟨fr3,c1,c2⟩:=(aeK L run k fr2 hp wr2 b (base++(a::r).reverse) y (by rw[el2];omega) (by rw[← eO2,f3];exact hO) (K2.len (K1.len h0))).1 (by rw[el2];exact K2.at (K1.at h7))
    have K3:=bj _ c1
    have b3:ae (CC L) run k (.block 5 olZ) ⟨fr1,hp,wr⟩=some (.normal,⟨fr3,hp,wr2⟩):=by
     have h1:ae (CC L) run k (.seq (seq1 (seq1 olZ)) (.cond (.tmp 49) (.seq (seq1 (lF (aQ (seq1 olZ)))) (.exit 3)) .skip)) ⟨fr1,hp,wr⟩=some (.normal,⟨fr2,hp,wr2⟩):=by
      rw[ar b1]
      simp[b2]
     rw[ae,UU,ar h1,c1]
    obtain⟨fr4,d1,d2⟩:=ajm L run k fr3 hp wr2 _ _ c2.len (K3.len (K2.len (K1.len h0))) rfl
    have hr:ae (CC L) run k olN ⟨fr,hp,wr⟩=some (.normal,⟨fr4,hp,wr2⟩):=by
     rw[IH,ar a3,ar b3,d1]
    have K:=bj _ hr
    have K4:=bj _ d1
    have f4:nth fr4 3=nth fr3 3:=K4.at rfl
    obtain⟨e,fr',hp',wr',r1,r2,r3⟩:=ih fr4 wr2 (by simp;omega) (by rw[f4];exact c2) (K.len h0) (K.at h4) (K.at h6) (by rw[d2];simp) (fun w hw=>hok w (mem_cons_of_mem _ hw))
    refine⟨e,fr',hp',wr',by rw[bT hr];exact r1,K.trans r2,?_⟩
    have e1:mJ z (y::a::r)=mJ z (a::r):=by simp[mJ,ht]
    have e2:dL (y::a::r) z=dL (a::r) z:=by unfold dL;rw[e1]
    rw[e1,e2];exact r3
end
theorem xv (z:VN):∀ s:List VN,(mJ z s).length≤s.length
 | []=>Nat.le_refl _
 | [_]=>Nat.le_refl _
 | b::a::r=>by
  unfold mJ
  split
  ·exact Nat.le_refl _
  ·have:=xv z (a::r)
   simp only[length_cons] at this ⊢
   omega
theorem Ez (z:VN):∀ (s:List VN) (y:VN),y ∈ mJ z s→y ∈ s
 | [],_,h=>h
 | [_],_,h=>h
 | b::a::r,y,h=>by
  unfold mJ at h
  split at h
  ·exact h
  ·exact mem_cons_of_mem _ (Ez z (a::r) y h)
theorem kj:∀ (l s:List VN),(l.foldl dL s).length≤s.length+l.length
 | [],_=>Nat.le_refl _
 | z::l,s=>by
  have h1:=kj l (dL s z)
  have h2:=xv z s
  simp only[foldl_cons,length_cons]
  unfold dL at h1 ⊢
  simp only[length_cons] at h1
  omega
theorem A1:∀ (l s:List VN) (y:VN),y ∈ l.foldl dL s→y ∈ s∨y ∈ l
 | [],_,_,h=>.inl h
 | z::l,s,y,h=>by
  rcases A1 l (dL s z) y h with h | h
  ·rcases mem_cons.1 h with rfl | h
   ·exact .inr (by simp)
   ·exact .inl (Ez z s y h)
  ·exact .inr (mem_cons_of_mem _ h)
theorem FF {l:List VN}(h:l≠[]):l.foldl dL []≠[]:=by
 obtain⟨A,z,rfl⟩:∃ A z,l=A++[z]:=⟨l.dropLast,l.getLast h,(dropLast_concat_getLast h).symm⟩
 rw[foldl_append]
 simp[dL]
theorem Jk {S:List VN}{i:Nat}(hi:i<S.length):(S.take (i+1)).foldl dL []=dL ((S.take i).foldl dL []) S[i]:=by
 rw[take_succ_eq_append_getElem hi,foldl_append];rfl
theorem da.hx {b id:Nat}{hp hp':Θ}{l:List VN}{p:PV}(h:da 2 (eC true) b hp l p)(g:Hx hp hp' id)(hid:id<b):da 2 (eC true) b hp' l p:=by
 obtain⟨hb,h⟩:=h
 refine⟨by rw[g.1];exact hb,?_⟩
 rcases h with h | ⟨oid,m,x,h1,h2,h3,h4,h5⟩
 ·exact .inl h
 ·exact .inr ⟨oid,m,x,h1,by rw[g.1];exact h2,h3,h4,by rw[g.2 oid (by omega),h5]⟩
section
variable (L:Lst) (run:aw) (k:Nat) (fr:Ψ) (hp:Θ) (wr:Ω)
theorem ajk (i:Nat)(h9:i<1000)(h0:fr.length=72)(h22:nth fr 22=iv i):∃ fr',ae (CC L) run k (aQ (aQ (aQ olP))) ⟨fr,hp,wr⟩=some (.normal,⟨fr',hp,wr⟩)∧nth fr' 22=iv (i+1):=by
 have hw:=bD i (by omega)
 simp only[iv] at h22
 simp[iv,olP,olX,qJ,blk,olB,olC,Tryz.f72,seq1,aQ,aC,aZ,au,bf,aa,ab,h0,h22,hw]
theorem ajj (p r:PV)(hp':Θ)(fp:FP)(hc:bP (CC L) run false hp 131 [p]=some (r,hp',fp))(h0:fr.length=72)(h00:nth fr 0=p):∃ fr' wr',ae (CC L) run k (aQ (aQ y6)) ⟨fr,hp,wr⟩=some (.normal,⟨fr',hp',wr'⟩):=by
 simp[y6,olX,qJ,blk,olB,olC,Tryz.f72,seq1,aQ,aM,aC,aa,h0,h00,hc]
theorem aji (i:Nat)(h9:i<1000)(h0:fr.length=72)(h16:nth fr 16=iv i):∃ fr',ae (CC L) run k (aQ (aQ (aQ olB))) ⟨fr,hp,wr⟩=some (.normal,⟨fr',hp,wr⟩)∧nth fr' 16=iv (i+1):=by
 have hw:=bD i (by omega)
 simp only[iv] at h16
 simp[iv,olB,olC,Tryz.f72,aQ,aC,aZ,au,bf,aa,ab,h0,h16,hw]
end
section
variable {L:Lst} {run:aw} {k:Nat} {ok:VN→Prop} {tI:VN→VN→VN→Int} {b id n:Nat} {x:Bool} {base S:List VN} {rest:Ψ}
theorem abp (hT:TnG L run ok tI)(hok:∀ z ∈ S,ok z)(hn:S.length=n)(hk:n+2<k)(h9:base.length+n<800)(hid:id<b)(hp:Θ)(fr:Ψ)(wr:Ω)(hb:aL hp id=some ⟨.live,cells S rest⟩)(hO:da 2 (eC true) b hp base (nth fr 3))(h0:fr.length=72)(h4:nth fr 4=iv base.length)(h20:nth fr 20 = .own id 2 0 n x)(h21:nth fr 21=iv n)(h22:nth fr 22=iv 0) :
  ∃ st,ae (CC L) run k (.block 2 (.loop olP)) ⟨fr,hp,wr⟩=some (.normal,st)∧da 2 (eC true) b st.hp (base++(S.foldl dL []).reverse) (nth st.fr 3)∧∀ i,i<b→aL st.hp i=aL hp i:=by
 obtain⟨st,a1,a2⟩:=ow (C:=CC L) (run:=run) (k:=k) (e:=2) (b:=olP) (n:=n) (st:=⟨fr,hp,wr⟩)
  (Inv:=fun i st=>eL (dp olP) fr st.fr∧nth st.fr 22=iv i∧da 2 (eC true) b st.hp (base++((S.take i).foldl dL []).reverse) (nth st.fr 3)∧∀ i,i<b→aL st.hp i=aL hp i)
  (Q:=fun st=>da 2 (eC true) b st.hp (base++(S.foldl dL []).reverse) (nth st.fr 3)∧∀ i,i<b→aL st.hp i=aL hp i)
  (by omega)
  (fun i st hi ⟨iK,i22,iO,iH⟩=>by
   obtain⟨fr0,hp0,wr0⟩:=st
   dsimp only at iK i22 iO iH
   have l0:=iK.len h0
   have j20:=iK.at h20
   have j4:=iK.at h4
   obtain⟨fr1,b1,b2⟩:=aeN L run k fr0 hp0 wr0 i n l0 (iK.at h21) i22
   rw[decide_eq_true hi] at b2
   have K1:=bj _ b1
   have l1:=K1.len l0
   obtain⟨fr2,wr2,c1,c2⟩:=ajo L run k fr1 hp0 wr0 id n x i S rest hi hn ((iH id hid).trans hb) l1 (K1.at j20) (K1.at i22)
   have K2:=bj _ c1
   have l2:=K2.len l1
   have hc:=al2 hp0 zC ⟨.live,eC true (S[i]'(by omega))⟩
   have hG:=Hgr.acp hp0 zC ⟨.live,eC true (S[i]'(by omega))⟩
   have hbl:=iO.1
   have hold:∀ j,j<b→aL (cg (aO hp0 zC) hp0.length ⟨.live,eC true (S[i]'(by omega))⟩) j=aL hp j:=fun j hj=>by
    rw[hG.2 j (by omega),iH j hj]
   have iO1:=da.gr2 iO hG
   generalize cg (aO hp0 zC) hp0.length ⟨.live,eC true (S[i]'(by omega))⟩=hp1 at *
   have e3:nth fr2 3=nth fr0 3:=(K2.at (K1.at rfl))
   rw[← e3] at iO1
   have hln:(base++((S.take i).foldl dL []).reverse).length=base.length+((S.take i).foldl dL []).length:=by simp
   have hsl:=kj (S.take i) []
   rw[length_take,Nat.min_eq_left (by omega),length_nil,Nat.zero_add] at hsl
   obtain⟨fr3,d1,d2⟩:=ajn L run k fr2 hp1 wr2 _ _ iO1.len l2 rfl
   have K3:=bj _ d1
   have e3':nth fr3 3=nth fr2 3:=K3.at rfl
   rw[hln] at d2
   obtain⟨e,fr4,hp4,wr4,g1,K4,g2⟩:=acn (k:=k) hT (hok _ (getElem_mem (by omega))) hp1 hc ((S.take i).foldl dL []) fr3 wr2 (by omega) (by rw[e3'];exact iO1) (K3.len l2) (K3.at (K2.at (K1.at j4))) (K3.at c2) d2 (fun y hy=>by
    rcases A1 _ _ _ hy with h | h
    ·cases h
    ·exact hok y (mem_of_mem_take h))
   have g1':=bK g1 (show _≤k by omega)
   have ex3:∃ fr5 hp5 wr5,ae (CC L) run k (.block 3 olY) ⟨fr1,hp0,wr0⟩=some (.normal,⟨fr5,hp5,wr5⟩)∧da 2 (eC true) b hp5 (base++((S.take (i+1)).foldl dL []).reverse) (nth fr5 3)∧∀ j,j<b→aL hp5 j=aL hp j:=by
    rw[Jk (by omega)]
    rcases g2 with ⟨rfl,g2,g3⟩| ⟨rfl,rfl,g2⟩
    ·have x1:ae (CC L) run k (.seq (seq1 (seq1 (aQ olY))) (.block 4 (.loop olN))) ⟨fr2,hp1,wr2⟩=some (.exit 3,⟨fr4,hp4,wr4⟩):=by
      rw[ar d1]
      simp only[ae,g1']
      rfl
     have x2:ae (CC L) run k olY ⟨fr1,hp0,wr0⟩=some (.exit 3,⟨fr4,hp4,wr4⟩):=by
      rw[UW,ar c1,ae,x1]
     exact⟨fr4,hp4,wr4,by simp only[ae,x2];rfl,g2,fun j hj=>(g3 j hj).trans (hold j hj)⟩
    ·have x1:ae (CC L) run k (.seq (seq1 (seq1 (aQ olY))) (.block 4 (.loop olN))) ⟨fr2,hp4,wr2⟩=some (.normal,⟨fr4,hp4,wr4⟩):=by
      rw[ar d1]
      exact bE g1'
     have K5:eL (dp olN) fr3 fr4:=K4
     obtain⟨-,fr5,hp5,wr5,m1,m2,m3⟩:=aeL L run k fr4 hp4 wr4 b _ _ hp0.length (S[i]'(by omega)) (by
      have:=xv (S[i]'(by omega)) ((S.take i).foldl dL [])
      simp;omega) g2 hc (K5.len (K3.len l2)) rfl (K5.at (K3.at c2))
     have x2:ae (CC L) run k olY ⟨fr1,hp0,wr0⟩=some (.normal,⟨fr5,hp5,wr5⟩):=by
      rw[UW,ar c1,ar x1,m1]
     refine⟨fr5,hp5,wr5,by simp only[ae,x2],?_,fun j hj=>(m3 j hj).trans (hold j hj)⟩
     have:base++(dL ((S.take i).foldl dL []) (S[i]'(by omega))).reverse=base++(mJ (S[i]'(by omega)) ((S.take i).foldl dL [])).reverse++[S[i]'(by omega)]:=by simp[dL]
     rw[this];exact m2
   obtain⟨fr5,hp5,wr5,m1,m2,m3⟩:=ex3
   have K5:=bj _ m1
   obtain⟨fr6,n1,n2⟩:=ajk L run k fr5 hp5 wr5 i (by omega) (K5.len l1) (K5.at (K1.at i22))
   have hr:ae (CC L) run k olP ⟨fr0,hp0,wr0⟩=some (.normal,⟨fr6,hp5,wr5⟩):=by
    have x3:ae (CC L) run k (.cond (.tmp 23) .skip (.exit 2)) ⟨fr1,hp0,wr0⟩=some (.normal,⟨fr1,hp0,wr0⟩):=by simp[b2]
    rw[UY,ar b1,ar x3,ar m1,n1]
   have K6:=bj _ n1
   exact⟨_,hr,iK.trans (bj _ hr),n2,by rw[K6.at rfl];exact m2,m3⟩)
  (fun st ⟨iK,i22,iO,iH⟩=>by
   obtain⟨fr0,hp0,wr0⟩:=st
   dsimp only at iK i22 iO iH
   obtain⟨fr1,b1,b2⟩:=aeN L run k fr0 hp0 wr0 n n (iK.len h0) (iK.at h21) i22
   rw[decide_eq_false (by omega)] at b2
   have K1:=bj _ b1
   refine⟨⟨fr1,hp0,wr0⟩,?_,?_,iH⟩
   ·have x3:ae (CC L) run k (.cond (.tmp 23) .skip (.exit 2)) ⟨fr1,hp0,wr0⟩=some (.exit 2,⟨fr1,hp0,wr0⟩):=by simp[b2]
    rw[UY,ar b1,ae,x3]
   ·rw[take_of_length_le (by omega)] at iO
    show da 2 (eC true) b hp0 _ (nth fr1 3)
    rw[K1.at rfl]
    exact iO)
  ⟨eL.refl _ _,h22,by simpa using hO,fun _ _=>rfl⟩
 exact⟨st,a1,a2⟩
theorem LA (hT:TnG L run ok tI)(hok:∀ z ∈ S,ok z)(hn:S.length=n)(hn1:1≤n)(hk:n+2<k)(h9:base.length+n<800)(hid:id<b)(t:Nat)(ht:t<2)(hp:Θ)(fr:Ψ)(wr:Ω)(hR:∀ hp,aL hp id=some ⟨.live,cells S rest⟩→∃ hp' r fp,bP (CC L) run false hp 131 [.own id 2 0 n x]=some (r,hp',fp)∧Hx hp hp' id∧aL hp' id=some ⟨.live,cells S.reverse rest⟩)(hb:aL hp id=some ⟨.live,cells S rest⟩)(hO:da 2 (eC true) b hp base (nth fr 3))(h0:fr.length=72)(h00:nth fr 0 = .own id 2 0 n x)(h16:nth fr 16=iv t) :
  ∃ st,ae (CC L) run k olB ⟨fr,hp,wr⟩=some (.normal,st)∧da 2 (eC true) b st.hp (base++(S.foldl dL []).tail.reverse) (nth st.fr 3)∧aL st.hp id=some ⟨.live,cells S.reverse rest⟩∧(∀ i,i<b→i≠id→aL st.hp i=aL hp i)∧st.fr.length=72∧nth st.fr 0 = .own id 2 0 n x∧nth st.fr 16=iv (t+1):=by
 obtain⟨fr1,a1,a2⟩:=ajg L run k fr hp wr t h0 h16
 rw[decide_eq_true ht] at a2
 have K1:=bj _ a1
 have l1:=K1.len h0
 have e3:nth fr1 3=nth fr 3:=K1.at rfl
 rw[← e3] at hO
 obtain⟨fr2,b1,b2⟩:=ak3 L run k fr1 hp wr _ _ hO.len l1 rfl
 have K2:=bj _ b1
 have l2:=K2.len l1
 have f00:=K2.at (K1.at h00)
 obtain⟨fr3,c1,c2,c3,c4⟩:=ak2 L run k fr2 hp wr _ n rfl l2 f00
 have K3:=bj _ c1
 have l3:=K3.len l2
 have e3':nth fr3 3=nth fr1 3:=K3.at (K2.at rfl)
 rw[← e3'] at hO
 obtain⟨⟨fr4,hp4,wr4⟩,d1,d2,d3⟩:=abp (k:=k) (x:=x) hT hok hn hk h9 hid hp fr3 wr hb hO l3 (K3.at b2) c2 c3 c4
 dsimp only at d2 d3
 have K4:=bj _ d1
 have l4:=K4.len l3
 obtain⟨y,T,hyT⟩:∃ y T,S.foldl dL []=y::T:=exists_cons_of_ne_nil (FF (fun e=>by rw[e] at hn;simp at hn;omega))
 have hsl:=kj S []
 rw[hyT] at hsl d2 ⊢
 simp only[length_cons,length_nil] at hsl
 rw[reverse_cons,← append_assoc] at d2
 obtain⟨-,fr5,g1,g2⟩:=aeK L run k fr4 hp4 wr4 b (base++T.reverse) y (by simp;omega) d2 l4
 have K5:=bj _ g1
 have l5:=K5.len l4
 have hb4:aL hp4 id=some ⟨.live,cells S rest⟩:=(d3 id hid).trans hb
 obtain⟨hp6,r,fp,m1,m2,m3⟩:=hR hp4 hb4
 have f5:=K5.at (K4.at (K3.at f00))
 obtain⟨fr6,wr6,n1⟩:=ajj L run k fr5 hp4 wr4 _ r hp6 fp m1 l5 f5
 have K6:=bj _ n1
 have l6:=K6.len l5
 have hs:ae (CC L) run k (.seq (seq1 (seq1 y6)) (.block 2 (.loop olP))) ⟨fr2,hp,wr⟩=some (.normal,⟨fr4,hp4,wr4⟩):=by
  rw[ar c1];exact d1
 have hlab:ae (CC L) run k (.label 0) ⟨fr2,hp,wr⟩=some (.normal,⟨fr2,hp,wr⟩):=by simp only[ae]
 have hX:ae (CC L) run k (.block 1 (.scope olX)) ⟨fr1,hp,wr⟩=some (.normal,⟨fr6,hp6,wr6⟩):=by
  have:ae (CC L) run k olX ⟨fr1,hp,wr⟩=some (.normal,⟨fr6,hp6,wr6⟩):=by
   rw[agb,ar b1,ar hlab,ar hs,ar g1,n1]
  simp only[ae,this]
 have K7:=bj _ hX
 obtain⟨fr7,o1,o2⟩:=aji L run k fr6 hp6 wr6 t (by omega) l6 (K7.at (K1.at h16))
 have K8:=bj _ o1
 have hcd:ae (CC L) run k (.cond (.tmp 17) .skip (.exit 0)) ⟨fr1,hp,wr⟩=some (.normal,⟨fr1,hp,wr⟩):=by simp[a2]
 refine⟨⟨fr7,hp6,wr6⟩,by rw[UZ,ar a1,ar hcd,ar hX,o1],?_,m3,fun i hi hne => ?_,K8.len l6,K8.at (K6.at f5),o2⟩
 ·show da 2 (eC true) b hp6 _ (nth fr7 3)
  rw[K8.at rfl,K6.at rfl]
  exact da.hx g2 m2 hid
 ·show aL hp6 i=aL hp i
  rw[m2.2 i hne,d3 i hi]
end
theorem aga (L:Lst)(run:aw)(k:Nat)(p r1 p2:PV)(hp hp1 hp2:Θ)(fp1 fp2:FP)(hS:bP (CC L) run false hp 123 [p,fnB]=some (r1,hp1,fp1))(hC:bP (CC L) run false hp1 125 [p,fnE]=some (p2,hp2,fp2)):∃ fr wr,bh (CC L) run k 3 olC ⟨entry 72 [p],hp,[]⟩=some ⟨fr,hp2,wr⟩∧fr.length=72∧nth fr 0=p2:=by
 obtain⟨e1,e2⟩:=cO 71 p
 generalize entry 72 [p]=fr0 at *
 simp[olC,Tryz.f72,bh,aM,aC,aa,af,ab,and_assoc,e1,e2,hS,hC]
def olT:Code:=ai 3 olC
theorem UX:olT = .seq (seq1 olT) (.seq (seq1 (aQ olT)) (.seq (.seq (seq1 (seq1 (aQ (aQ olT)))) (.block 0 (.loop olB))) (aQ (aQ (aQ olT))))):=rfl
section
variable (L:Lst) (run:aw) (k:Nat) (fr:Ψ) (hp:Θ) (wr:Ω)
theorem ak6 (p:PV)(n:Nat)(hl:cX p=some n)(h0:fr.length=72)(h00:nth fr 0=p):∃ fr',ae (CC L) run k (seq1 olT) ⟨fr,hp,wr⟩=some (bif decide (n<3) then .ret else .normal,⟨fr',hp,wr⟩)∧(n<3→nth fr' 2=p):=by
 obtain⟨u,hu⟩:∃ u,decide (n<3)=u:=⟨_,rfl⟩
 have hu':decide ((n:Int)<3)=u:=by rw[← hu];exact decide_eq_decide.2 (by omega)
 rw[hu]
 cases u <;> simp only[decide_eq_true_eq,decide_eq_false_iff_not] at hu hu' <;> simp[olT,olC,Tryz.f72,ai,seq1,aC,aZ,au,bf,bL,aa,af,ab,bc,h0,h00,hl,hu,hu',kK]
theorem ak5 (h0:fr.length=72):∃ fr',ae (CC L) run k (seq1 (aQ olT)) ⟨fr,hp,wr⟩=some (.normal,⟨fr',hp,wr⟩)∧nth fr' 3 = .sc (.slice none 0 0):=by
 simp[olT,olC,Tryz.f72,ai,seq1,aQ,aC,aa,h0]
theorem ak4 (h0:fr.length=72):∃ fr',ae (CC L) run k (seq1 (seq1 (aQ (aQ olT)))) ⟨fr,hp,wr⟩=some (.normal,⟨fr',hp,wr⟩)∧nth fr' 16=iv 0:=by
 simp[iv,olT,olC,Tryz.f72,ai,seq1,aQ,aC,aa,h0]
theorem ajh (q:PV)(h0:fr.length=72)(h3:nth fr 3=q):∃ st,ae (CC L) run k (aQ (aQ (aQ olT))) ⟨fr,hp,wr⟩=some (.ret,st)∧st.hp=hp∧aX TT st.fr st.hp Tryz.f72.results.toList=some [q]:=by
 simp[olT,olC,Tryz.f72,ai,aQ,aC,aa,ab,h0,h3,aX]
end
theorem Lu (z:VN):∀ {s:List VN},s≠[]→mJ z s≠[]
 | [],h=>absurd rfl h
 | [_],h=>h
 | b::a::r,h=>by
  unfold mJ
  split
  ·simp
  ·exact Lu z (by simp)
theorem FE {Q:List VN}(h:2≤Q.length):(Q.foldl dL []).tail≠[]:=by
 have hne:Q≠[]:=fun e=>by rw[e] at h;simp at h
 obtain⟨A,z,rfl⟩:∃ A z,Q=A++[z]:=⟨Q.dropLast,Q.getLast hne,(dropLast_concat_getLast hne).symm⟩
 rw[foldl_append]
 exact Lu z (FF (fun e=>by rw[e] at h;simp at h))
def CrO (hp:Θ)(O:List VN)(r:PV):Prop:=(O=[]∧r = .sc (.slice none 0 0))∨∃ oid M x,r = .own oid 2 0 O.length x∧aL hp oid=some ⟨.live,cells O M⟩
theorem CrO.len {hp:Θ}{O:List VN}{r:PV}(h:CrO hp O r):cX r=some O.length:=by
 rcases h with ⟨rfl,rfl⟩| ⟨oid,M,x,rfl,-⟩ <;> rfl
theorem UT {L:Lst}{k:Nat}{ok:VN→Prop}{bI:VN→VN→Int}{tI:VN→VN→VN→Int}(hB:Bef L (runK (CC L) k) ok bI)(hbl:bx L 159=fun a=>Bm (aK a))(hq:EqG L (runK (CC L) (k+2)) ok)(hT:TnG L (runK (CC L) (k+3)) ok tI)(E:List VN)(h9:E.length≤12)(hk:E.length+2<k)(p:PV)(hp:Θ)(id:Nat)(hE:E=[]∧p = .sc (.slice none 0 0)∨E≠[]∧∃ x rest,p = .own id 2 0 E.length x∧aL hp id=some ⟨.live,cells E rest⟩)(hok:∀ z ∈ E,ok z)(dr:Bool) :
  ∃ hp' r fp S,bP (CC L) (runK (CC L) (k+4)) dr hp 72 [p]=some (r,hp',fp)∧S.Perm E∧S.Pairwise leN∧CrO hp' (ku (ddp none S)) r∧∀ j,j<hp.length→j≠id→aL hp' j=aL hp j:=by
 have hl:cX p=some E.length:=by
  rcases hE with ⟨rfl,rfl⟩| ⟨-,x,rest,rfl,-⟩ <;> rfl
 obtain⟨x,rest,hE'⟩:∃ x rest,E=[]∧p = .sc (.slice none 0 0)∨E≠[]∧p = .own id 2 0 E.length x∧aL hp id=some ⟨.live,cells E rest⟩:=by
  rcases hE with h | ⟨hne,x,rest,h⟩
  ·exact⟨true,[],.inl h⟩
  ·exact⟨x,rest,.inr ⟨hne,h⟩⟩
 obtain⟨hp1,r1,fp1,S,a1,a2,a3,a4,a5⟩:=afp (x:=x) (rest:=rest) hB hbl E h9 (by omega) p hp hl (by
  rcases hE' with ⟨h,-⟩| ⟨-,h⟩
  ·exact .inl h
  ·exact .inr h) hok false
 have hSl:S.length=E.length:=a4.length_eq
 have hS1:S=[]∧p = .sc (.slice none 0 0)∨p = .own id 2 0 S.length x∧aL hp1 id=some ⟨.live,cells S rest⟩:=by
  rcases hE' with ⟨rfl,h⟩| ⟨hne,h,hb⟩
  ·exact .inl ⟨length_eq_zero_iff.1 hSl,h⟩
  ·rcases a3 with a3 | a3
   ·exact absurd a3 hne
   ·exact .inr ⟨by rw[hSl];exact h,a3⟩
 have hokS:∀ z ∈ S,ok z:=fun z hz=>hok z (a4.mem_iff.1 hz)
 obtain⟨hp2,p2,fp2,b1,b2,b3⟩:=ahF (k:=k+2) hq S (by omega) (by omega) p hp1 (by rw[hSl];exact hl) hS1 hokS false
 have H12:=a2.trans b2
 obtain⟨fr,wr,c1,c2,c3⟩:=aga L (runK (CC L) (k+3)) (k+3) p r1 p2 hp hp1 hp2 fp1 fp2 a1 b1
 have hdl:=vS none S
 generalize hQ:ddp none S=Q at *
 have hQ2:CrO hp2 Q p2:=by
  rcases b3 with ⟨rfl,h⟩| ⟨x',rest',h,h'⟩
  ·exact .inl ⟨by rw[← hQ];rfl,h⟩
  ·exact .inr ⟨id,rest',x',h,h'⟩
 have hokQ:∀ z ∈ Q,ok z:=fun z hz=>hokS z (by
  rw[← hQ] at hz
  exact ((Cw a5 (fun q hq=>by cases hq)).1 z hz).1)
 have keep2:∀ j,j<hp.length→j≠id→aL hp2 j=aL hp j:=fun j _ hj=>H12.2 j hj
 obtain⟨fr1,d1,d2⟩:=ak6 L (runK (CC L) (k+3)) (k+3) fr hp2 wr p2 Q.length hQ2.len c2 c3
 have K1:=bj _ d1
 by_cases h3:Q.length<3
 ·rw[decide_eq_true h3,cond_true] at d1
  have hx:ae (CC L) (runK (CC L) (k+3)) (k+3) olC ⟨entry 72 [p],hp,[]⟩=some (.ret,⟨fr1,hp2,wr⟩):=by
   rw[aY 3 c1]
   show ae _ _ _ olT _=_
   rw[UX];exact bO d1
  obtain⟨fp,e1⟩:=mu DA (ez yO rfl hx (show aX TT fr1 hp2 Tryz.f72.results.toList=some [p2] by simp[Tryz.f72,aX,d2 h3])) (fun _=>H12.1) dr
  exact⟨hp2,p2,fp,S,e1,a4,a5,by unfold ku;rw[hQ,if_pos h3];exact hQ2,keep2⟩
 ·rw[decide_eq_false h3,cond_false] at d1
  obtain⟨x',rest',rfl,hb2⟩:∃ x' rest',p2 = .own id 2 0 Q.length x'∧aL hp2 id=some ⟨.live,cells Q rest'⟩:=by
   rcases b3 with ⟨rfl,h⟩| h
   ·exfalso;apply h3;rw[← hQ];simp[ddp]
   ·exact h
  have hidl:=ig hb2
  have l1:=K1.len c2
  obtain⟨fr2,e1,e2⟩:=ak5 L (runK (CC L) (k+3)) (k+3) fr1 hp2 wr l1
  have K2:=bj _ e1
  obtain⟨fr3,g1,g2⟩:=ak4 L (runK (CC L) (k+3)) (k+3) fr2 hp2 wr (K2.len l1)
  have K3:=bj _ g1
  have l3:=K3.len (K2.len l1)
  have f00:=K3.at (K2.at (K1.at c3))
  have f3:=K3.at e2
  have hR:∀ (Z:List VN),Z.length=Q.length→∀ hp,aL hp id=some ⟨.live,cells Z rest'⟩→∃ hp' r fp,bP (CC L) (runK (CC L) (k+3)) false hp 131 [.own id 2 0 Q.length x']=some (r,hp',fp)∧Hx hp hp' id∧aL hp' id=some ⟨.live,cells Z.reverse rest'⟩:=fun Z hZ hp hb=>by
   rw[← hZ]
   exact afx (k:=k+2) Z (by omega) (by omega) (by omega) hp hb false
  obtain⟨⟨fr4,hp4,wr4⟩,m1,m2,m3,m4,m5,m6,m7⟩:=LA (k:=k+3) (b:=hp2.length) (base:=[]) (rest:=rest') (x:=x') hT hokQ rfl (by omega) (by omega) (by simp;omega) hidl 0 (by omega) hp2 fr3 wr (hR Q rfl) hb2 (by rw[f3];exact da.nil (Nat.le_refl _)) l3 f00 g2
  dsimp only at m2 m3 m4 m5 m6 m7
  rw[nil_append] at m2
  have hfl:=kj Q []
  simp only[length_nil,Nat.zero_add] at hfl
  obtain⟨⟨fr5,hp5,wr5⟩,n1,n2,n3,n4,n5,n6,n7⟩:=LA (k:=k+3) (b:=hp2.length) (base:=(Q.foldl dL []).tail.reverse) (S:=Q.reverse) (rest:=rest') (x:=x') hT (fun z hz=>hokQ z (by simpa using hz)) (by simp) (by omega) (by omega) (by simp;omega) hidl 1 (by omega) hp4 fr4 wr4 (hR Q.reverse (by simp)) m3 m2 m5 m6 m7
  dsimp only at n2 n3 n4 n5 n6 n7
  obtain⟨fr6,o1,o2⟩:=ajg L (runK (CC L) (k+3)) (k+3) fr5 hp5 wr5 2 n5 n7
  rw[decide_eq_false (by omega)] at o2
  have K6:=bj _ o1
  have ho:ae (CC L) (runK (CC L) (k+3)) (k+3) olB ⟨fr5,hp5,wr5⟩=some (.exit 0,⟨fr6,hp5,wr5⟩):=by
   have x3:ae (CC L) (runK (CC L) (k+3)) (k+3) (.cond (.tmp 17) .skip (.exit 0)) ⟨fr6,hp5,wr5⟩=some (.exit 0,⟨fr6,hp5,wr5⟩):=by simp[o2]
   rw[UZ,ar o1,ae,x3]
  have hit:cb (ae (CC L) (runK (CC L) (k+3)) (k+3) olB) (0+1+1+1) ⟨fr3,hp2,wr⟩=some (.exit 0,⟨fr6,hp5,wr5⟩):=by
   rw[bT m1,bT n1];exact bu ho
  obtain⟨st,q1,q2,q3⟩:=ajh L (runK (CC L) (k+3)) (k+3) fr6 hp5 wr5 _ (K6.len n5) rfl
  have hs:ae (CC L) (runK (CC L) (k+3)) (k+3) (.seq (seq1 (seq1 (aQ (aQ olT)))) (.block 0 (.loop olB))) ⟨fr2,hp2,wr⟩=some (.normal,⟨fr6,hp5,wr5⟩):=by
   rw[ar g1];exact bE (bK hit (by omega))
  have hx:ae (CC L) (runK (CC L) (k+3)) (k+3) olC ⟨entry 72 [p],hp,[]⟩=some (.ret,st):=by
   rw[aY 3 c1]
   show ae _ _ _ olT _=_
   rw[UX,ar d1,ar e1,ar hs];exact q1
  have e6:nth fr6 3=nth fr5 3:=K6.at rfl
  have hout:ku Q=(Q.foldl dL []).tail.reverse++(Q.reverse.foldl dL []).tail.reverse:=by
   unfold ku Mf;rw[if_neg h3]
  rw[← hout] at n2
  have hne:ku Q≠[]:=by
   rw[hout]
   intro h
   exact FE (by omega) (reverse_eq_nil_iff.1 (append_eq_nil_iff.1 h).1)
  obtain⟨oid,M,xo,z1,z2⟩:=Ca n2 hne
  have hr:=ez yO rfl hx q3
  rw[q2] at hr
  obtain⟨fp,w1⟩:=mu DA hr (fun h=>by rw[e6,z1] at h;simp[bV,PV.cH] at h) dr
  refine⟨hp5,nth fr6 3,fp,S,w1,a4,a5,.inr ⟨oid,M,xo,?_,?_⟩,fun j hj hne => ?_⟩
  ·rw[hQ,e6,z1]
  ·rw[hQ];exact z2
  ·rw[n4 j (by rw[H12.1];exact hj) hne,m4 j (by rw[H12.1];exact hj) hne,keep2 j hj hne]
end Go.Proofs.YtjdmodeenbdfpaaGreat
end
