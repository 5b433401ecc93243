/- Contracts of the two hulls, of the program and of the reference, part 44; each lemma states its conditions. -/
import Derived.Test.YtjdmodeenbdfpaaGreatU43
import Derived.Test.YtjdmodeenbdfpaaGreatU16
import Derived.Test.YtjdmodeenbdfpaaGreatU14
set_option linter.unusedSimpArgs false
set_option linter.unusedVariables false
noncomputable section
namespace Go.Proofs.YtjdmodeenbdfpaaGreat
open Go Go.Ab List
theorem agz:(pf cmI).e2=3:=rfl
theorem ahF:∃ el,und TT 100=some (.slice el):=⟨_,ko⟩
def EqG (L:Lst)(run:av)(ok:VN→Prop):Prop:=∀ a b,ok a→ok b→∀ dr hp,bS (CC L) run dr hp 126 [.agg (eC true a),.agg (eC true b)]=some (.sc (.bool (decide (a.1=b.1))),hp,⟨[],[],true,true⟩)
theorem Ft {E E':List VN}{s t:Nat}(h:E'.drop s=E.drop s)(hst:s≤t)(ht:t<E.length)(ht':t<E'.length):E'[t]=E[t]:=by
 have:=congrArg (fun l=>l[t - s]?) h
 simp only[getElem?_drop] at this
 rw[show s+(t - s)=t by omega,List.getElem?_eq_getElem ht,List.getElem?_eq_getElem ht'] at this
 exact Option.some.inj this
theorem take_set {E:List VN}{q:Nat}(z:VN)(hq:q<E.length):(E.set q z).take (q+1)=E.take q++[z]:=by
 rw[take_succ_eq_append_getElem (by simpa using hq),getElem_set_self,take_set_of_le (Nat.le_refl _)]
section
variable {L:Lst} {run:av} {k:Nat} {ok:VN→Prop} {id n:Nat} {x:Bool} {E:List VN} {rest:Ψ}
theorem WS (hq:EqG L run ok)(hk:n<k)(hn:E.length=n)(h9:n<1000)(hok:∀ z ∈ E,ok z)(i:Nat)(hi1:1≤i)(hi:i<n)(hd:(E[i - 1]'(by omega)).1=(E[i]'(by omega)).1)(hpre:ddp none (E.take i)=E.take i)(fr:Ψ)(hp:Θ)(wr:Ω)(hb:aX hp id=some ⟨.live,cells E rest⟩)(h0:fr.length=66)(h00:nth fr 0 = .own id 2 0 n x)(h1:nth fr 1=fnE)(h5:nth fr 5=iv i) :
  ∃ st x' rest',ae (CC L) run k cmY ⟨fr,hp,wr⟩=some (.ret,st)∧Hx hp st.hp id∧aX st.hp id=some ⟨.live,cells (ddp none E) rest'⟩∧aY TT st.fr st.hp Tryz.f125.results.toList=some [.own id 2 0 (ddp none E).length x']:=by
 obtain⟨fr1,a1,a2⟩:=akl L run k fr hp wr id n x i (n - i) (by omega) rfl h0 h00 h5
 have K1:=aP _ a1
 obtain⟨fr2,b1,b2⟩:=akk L run k fr1 hp wr (K1.len h0)
 have K2:=aP _ b1
 have e0:=K2.at (K1.at h00)
 have e1:=K2.at (K1.at h1)
 have e5:=K2.at (K1.at h5)
 have e6:=K2.at a2
 have el:=K2.len (K1.len h0)
 obtain⟨fr3,hp3,wr3,c1,K3,q,E',c2,c3,c4,c5,c6,c7,c8⟩:=Lp.go (C:=CC L) (run:=run) (k:=k) (l:=pf cmI) (body:=cmW) (m:=66) (B:=cmI) rfl (by kernel_rfl) (by kernel_rfl) (by kernel_rfl) ahF (n:=n - i) (j0:=1) (by omega) (by omega) (by omega)
  (J:=fun j f hp'=>∃ q E',f 5=iv q∧q≤i+j - 1∧E'.length=n∧E'.take q=ddp none (E.take (i+j))∧E'.drop (i+j - 1)=E.drop (i+j - 1)∧aX hp' id=some ⟨.live,cells E' rest⟩∧Hx hp hp' id) (fr0:=fr2) (hp0:=hp) (wr0:=wr) (p:=.own id 2 (i*2) (n - i) x) el e6 rfl b2
  (fun j f g hp' hfg ⟨q,E',c2,c3⟩=>⟨q,E',by rw[← hfg 5 (by kernel_rfl)];exact c2,c3⟩)
  (fun j fr' hp' wr' hj1 hj hK hij ⟨q,E',c2,c3,c4,c5,c6,c7,c8⟩=>by
   have hE't:E'[i+j]'(by omega)=E[i+j]'(by omega):=Ft c6 (by omega) _ _
   have hE's:E'[i+j - 1]'(by omega)=E[i+j - 1]'(by omega):=Ft c6 (Nat.le_refl _) _ _
   have f0:=hK.at e0
   have f1:=hK.at e1
   have f6:=hK.at e6
   have fl:=hK.len el
   obtain⟨fr4,wr4,d1,d2⟩:=ajs L run k fr' hp' wr' id n x E' rest (i+j) (i+j - 1) i j (n - i) (decide ((E[i+j]'(by omega)).1=(E[i+j - 1]'(by omega)).1)) (by omega) rfl hj hj1 (by omega) c4 h9 c7 (by rw[hE't,hE's];exact hq _ _ (hok _ (getElem_mem _)) (hok _ (getElem_mem _))) fl f1 f6 hij
   have K4:=aP _ d1
   have htk:=yj (E:=E) (i:=i+j) (j:=i+j - 1) (by omega) (by omega)
   rw[agz,ae,agy,ao d1]
   by_cases he:(E[i+j]'(by omega)).1=(E[i+j - 1]'(by omega)).1
   ·rw[decide_eq_true he] at d2
    rw[if_pos he.symm] at htk
    refine⟨fr4,hp',wr4,by simp[ae,aj,d2],q,E',K4.at c2,by omega,c4,by rw[c5,← htk];rfl,?_,c7,c8⟩
    have:=congrArg (List.drop 1) c6
    rw[drop_drop,drop_drop] at this
    rw[show i+(j+1) - 1=i+j - 1+1 by omega];exact this
   ·rw[decide_eq_false he] at d2
    rw[if_neg (fun h=>he h.symm)] at htk
    obtain⟨fr5,hp5,wr5,m1,m2,m3,m4⟩:=ajr L run k fr4 hp' wr4 id n x E' rest (i+j) i j (n - i) q rfl hj (by omega) (by omega) c4 h9 c7 (K4.len fl) (K4.at f0) (K4.at c2) (K4.at f6) (K4.at hij)
    rw[hE't] at m4
    refine⟨fr5,hp5,wr5,by simp[ae,aj,d2,m1],q+1,E'.set q (E[i+j]'(by omega)),m2,by omega,by simpa using c4,?_,?_,m4,c8.trans m3⟩
    ·rw[take_set _ (by omega),c5,← htk];rfl
    ·rw[drop_set_of_lt (by omega)]
     have:=congrArg (List.drop 1) c6
     rw[drop_drop,drop_drop] at this
     rw[show i+(j+1) - 1=i+j - 1+1 by omega];exact this)
  ⟨i,E,e5,by omega,hn,by
   rw[yj (i:=i) (j:=i - 1) (by omega) (by omega),if_pos hd,hpre],rfl,hb,Hx.refl _ _⟩
 have hfull:E.take (i+(n - i))=E:=take_of_length_le (by omega)
 rw[hfull] at c5
 have hql:(ddp none E).length=q:=by rw[← c5,length_take,Nat.min_eq_left (by omega)]
 obtain⟨st,g1,g2,g3,g4⟩:=ajn L run k fr3 hp3 wr3 id n x E' rest q (by omega) c4 c7 (K3.len el) (K3.at e0) c2
 have hl:ae (CC L) run k (.seq (seq1 (seq1 (aO cmY))) (.block 2 (.loop cmI))) ⟨fr1,hp,wr⟩=some (.normal,⟨fr3,hp3,wr3⟩):=by
  rw[ao b1];exact c1
 refine⟨st,(x && q == n),rep (n - q) zC++rest,?_,c8.trans g2,?_,?_⟩
 ·rw[agx,ao a1,ao hl];exact g1
 ·rw[g3,c5]
 ·rw[g4,hql]
theorem agw (L:Lst)(run:av)(k:Nat)(p:PV)(n:Nat)(hl:dc p=some n)(hp:Θ):∃ fr,ae (CC L) run k (seq1 cmC) ⟨entry 66 [p,fnE],hp,[]⟩=some (.normal,⟨fr,hp,[]⟩)∧fr.length=66∧nth fr 0=p∧nth fr 1=fnE:=by
 obtain⟨e1,e2,e3⟩:=cb 64 p fnE
 generalize entry 66 [p,fnE]=fr0 at *
 simp[cmC,Tryz.f125,seq1,ae,aH,aq,ar,aF,ag,ah,an,aj,aC,aG,FzZ,au,af,ab,e1,e2,e3]
def cmT:Code:=aO cmC
theorem Ji:cmC = .seq (seq1 cmC) (.seq (seq1 cmT) (.seq (.seq (seq1 (seq1 (aO cmT))) (.block 0 (.loop cmB))) (aO (aO cmT)))):=rfl
theorem ako (L:Lst)(run:av)(k:Nat)(fr:Ψ)(p:PV)(n:Nat)(hl:dc p=some n)(hp:Θ)(wr:Ω)(h0:fr.length=66)(h00:nth fr 0=p):∃ fr',ae (CC L) run k (seq1 cmT) ⟨fr,hp,wr⟩=some (bif decide (n<2) then .ret else .normal,⟨fr',hp,wr⟩)∧(n<2→nth fr' 4=p):=by
 obtain⟨u,hu⟩:∃ u,decide (n<2)=u:=⟨_,rfl⟩
 have hu':decide ((n:Int)<2)=u:=by rw[← hu];exact decide_eq_decide.2 (by omega)
 rw[hu]
 cases u <;> simp only[decide_eq_true_eq,decide_eq_false_iff_not] at hu hu' <;> simp[cmT,cmC,Tryz.f125,seq1,aO,ae,aH,aq,ar,aF,ag,ah,an,aj,aC,aG,FzZ,ba,aw,bg,au,bM,aa,af,ab,bf,h0,h00,hl,hu,hu',ko]
theorem akn (L:Lst)(run:av)(k:Nat)(fr:Ψ)(hp:Θ)(wr:Ω)(h0:fr.length=66):∃ fr',ae (CC L) run k (seq1 (seq1 (aO cmT))) ⟨fr,hp,wr⟩=some (.normal,⟨fr',hp,wr⟩)∧nth fr' 5=iv 1:=by
 simp[iv,cmT,cmC,Tryz.f125,seq1,aO,ae,aH,aq,ar,aF,ag,ah,an,aj,aC,aG,FzZ,au,aa,h0]
theorem ajo (L:Lst)(run:av)(k:Nat)(fr:Ψ)(p:PV)(hp:Θ)(wr:Ω)(h0:fr.length=66)(h00:nth fr 0=p):∃ st,ae (CC L) run k (aO (aO cmT)) ⟨fr,hp,wr⟩=some (.ret,st)∧st.hp=hp∧aY TT st.fr st.hp Tryz.f125.results.toList=some [p]:=by
 simp[cmT,cmC,Tryz.f125,aO,ae,aH,aq,ar,aF,ag,ah,an,aj,aC,aG,FzZ,aa,ab,h0,h00,aY]
theorem LW (hq:EqG L run ok)(hk:n<k)(hn:E.length=n)(h9:n<1000)(hok:∀ z ∈ E,ok z)(hp:Θ)(hb:aX hp id=some ⟨.live,cells E rest⟩):∀ (d i:Nat) (fr:Ψ) (wr:Ω),i+d=n→1≤i→ddp none (E.take i)=E.take i→fr.length=66→nth fr 0 = .own id 2 0 n x→nth fr 1=fnE→nth fr 5=iv i →
  (∃ st x' rest',cg (ae (CC L) run k cmB) (d+1) ⟨fr,hp,wr⟩=some (.ret,st)∧Hx hp st.hp id∧aX st.hp id=some ⟨.live,cells (ddp none E) rest'⟩∧aY TT st.fr st.hp Tryz.f125.results.toList=some [.own id 2 0 (ddp none E).length x']) ∨
  ∃ fr' wr',cg (ae (CC L) run k cmB) (d+1) ⟨fr,hp,wr⟩=some (.exit 0,⟨fr',hp,wr'⟩)∧ddp none E=E∧fr'.length=66∧nth fr' 0 = .own id 2 0 n x
 | 0,i,fr,wr,hi,hi1,hpre,h0,h00,h1,h5=>by
  obtain⟨fr1,a1⟩:=aju L run k fr hp wr n i _ rfl h0 h00 h5
  rw[decide_eq_false (by omega),cond_false] at a1
  have hr:ae (CC L) run k cmB ⟨fr,hp,wr⟩=some (.exit 0,⟨fr1,hp,wr⟩):=by rw[Jj,ae,a1]
  have K:=aP _ hr
  refine .inr ⟨fr1,wr,br hr,?_,K.len h0,K.at h00⟩
  rwa [take_of_length_le (by omega)] at hpre
 | d+1,i,fr,wr,hi,hi1,hpre,h0,h00,h1,h5=>by
  obtain⟨fr1,a1⟩:=aju L run k fr hp wr n i _ rfl h0 h00 h5
  rw[decide_eq_true (by omega),cond_true] at a1
  have K1:=aP _ a1
  obtain⟨fr2,wr2,b1,b2⟩:=akm L run k fr1 hp wr id n x E rest i (i - 1) (by omega) (by omega) hn h9 (decide ((E[i]'(by omega)).1=(E[i - 1]'(by omega)).1)) hb (hq _ _ (hok _ (getElem_mem _)) (hok _ (getElem_mem _))) (K1.len h0) (K1.at h00) (K1.at h1) (K1.at h5)
  have K2:=aP _ b1
  have f0:=K2.len (K1.len h0)
  have f00:=K2.at (K1.at h00)
  have f1:=K2.at (K1.at h1)
  have f5:=K2.at (K1.at h5)
  by_cases he:(E[i]'(by omega)).1=(E[i - 1]'(by omega)).1
  ·rw[decide_eq_true he] at b2
   obtain⟨st,x',rest',c1,c2⟩:=WS (L:=L) (run:=run) (k:=k) hq hk hn h9 hok i hi1 (by omega) he.symm hpre fr2 hp wr2 hb f0 f00 f1 f5
   refine .inl ⟨st,x',rest',dD ?_,c2⟩
   have h2:ae (CC L) run k (.block 1 (.seq (seq1 cmX) (.cond (.tmp 28) cmY .skip))) ⟨fr1,hp,wr⟩=some (.ret,st):=by
    rw[ae,ao b1]
    simp[ae,aj,b2,c1]
   rw[Jj,ao a1]
   exact bK h2
  ·rw[decide_eq_false he] at b2
   have h2:ae (CC L) run k (.block 1 (.seq (seq1 cmX) (.cond (.tmp 28) cmY .skip))) ⟨fr1,hp,wr⟩=some (.normal,⟨fr2,hp,wr2⟩):=by
    rw[ae,ao b1]
    simp[ae,aj,b2]
   obtain⟨fr3,d1,d2⟩:=akp L run k fr2 hp wr2 i (by omega) f0 f5
   have hr:ae (CC L) run k cmB ⟨fr,hp,wr⟩=some (.normal,⟨fr3,hp,wr2⟩):=by
    rw[Jj,ao a1,ao h2,d1]
   have K:=aP _ d1
   rw[bU hr]
   exact LW hq hk hn h9 hok hp hb d (i+1) fr3 wr2 (by omega) (by omega) (by
    rw[yj (i:=i) (j:=i - 1) (by omega) (by omega),if_neg (fun h=>he h.symm),hpre,take_succ_eq_append_getElem (by omega)]) (K.len f0) (K.at f00) (K.at f1) d2
end
theorem agv {L:Lst}{k:Nat}{ok:VN→Prop}(hq:EqG L (runK (CC L) k) ok){id:Nat}{x:Bool}{rest:Ψ}(E:List VN)(h9:E.length<1000)(hk:E.length<k)(p:PV)(hp:Θ)(hl:dc p=some E.length)(hE:E=[]∧p = .sc (.slice none 0 0)∨p = .own id 2 0 E.length x∧aX hp id=some ⟨.live,cells E rest⟩)(hok:∀ z ∈ E,ok z)(dr:Bool) :
  ∃ hp' r fp,bS (CC L) (runK (CC L) (k+1)) dr hp 125 [p,fnE]=some (r,hp',fp)∧Hx hp hp' id∧((E=[]∧r = .sc (.slice none 0 0))∨∃ x' rest',r = .own id 2 0 (ddp none E).length x'∧aX hp' id=some ⟨.live,cells (ddp none E) rest'⟩):=by
 obtain⟨fr,a1,a2,a3,a4⟩:=agw L (runK (CC L) k) k p E.length hl hp
 obtain⟨fr1,b1,b2⟩:=ako L (runK (CC L) k) k fr p E.length hl hp [] a2 a3
 by_cases h2:E.length<2
 ·rw[decide_eq_true h2,cond_true] at b1
  have hx:ae (CC L) (runK (CC L) k) k cmC ⟨entry 66 [p,fnE],hp,[]⟩=some (.ret,⟨fr1,hp,[]⟩):=by
   rw[Ji,ao a1];exact bK b1
  have hr:aY TT fr1 hp Tryz.f125.results.toList=some [p]:=by simp[Tryz.f125,aY,b2 h2]
  obtain⟨fp,c1⟩:=lX wo (gw qg rfl hx hr) (fun _=>rfl) dr
  refine⟨hp,_,fp,c1,Hx.refl _ _,?_⟩
  rcases hE with ⟨rfl,rfl⟩| ⟨rfl,hb⟩
  ·exact .inl ⟨rfl,rfl⟩
  ·have e:ddp none E=E:=by
    have:=LQ E
    rwa [take_of_length_le (by omega)] at this
   exact .inr ⟨x,rest,by rw[e];rfl,by rw[e];exact hb⟩
 ·obtain⟨rfl,hb⟩:p = .own id 2 0 E.length x∧aX hp id=some ⟨.live,cells E rest⟩:=by
   rcases hE with ⟨rfl,-⟩| h
   ·simp at h2
   ·exact h
  rw[decide_eq_false h2,cond_false] at b1
  have K1:=aP _ b1
  obtain⟨fr2,c1,c2⟩:=akn L (runK (CC L) k) k fr1 hp [] (K1.len a2)
  have K2:=aP _ c1
  have f0:=K2.len (K1.len a2)
  have f00:=K2.at (K1.at a3)
  have f1:=K2.at (K1.at a4)
  rcases LW hq hk rfl h9 hok hp hb (E.length - 1) 1 fr2 [] (by omega) (Nat.le_refl _) (LQ E) f0 f00 f1 c2 with ⟨st,x',rest',d1,d2,d3,d4⟩| ⟨fr3,wr3,d1,d2,d3,d4⟩
  ·have hs:ae (CC L) (runK (CC L) k) k (.seq (seq1 (seq1 (aO cmT))) (.block 0 (.loop cmB))) ⟨fr1,hp,[]⟩=some (.ret,st):=by
    rw[ao c1];exact cL (bG d1 (by omega))
   have hx:ae (CC L) (runK (CC L) k) k cmC ⟨entry 66 [.own id 2 0 E.length x,fnE],hp,[]⟩=some (.ret,st):=by
    rw[Ji,ao a1,ao b1];exact bK hs
   obtain⟨fp,e1⟩:=lX wo (gw qg rfl hx d4) (fun h=>d2.1) dr
   exact⟨st.hp,_,fp,e1,d2,.inr ⟨x',rest',rfl,d3⟩⟩
  ·have hs:ae (CC L) (runK (CC L) k) k (.seq (seq1 (seq1 (aO cmT))) (.block 0 (.loop cmB))) ⟨fr1,hp,[]⟩=some (.normal,⟨fr3,hp,wr3⟩):=by
    rw[ao c1];exact bD (bG d1 (by omega))
   obtain⟨st,g1,g2,g3⟩:=ajo L (runK (CC L) k) k fr3 _ hp wr3 d3 d4
   have hx:ae (CC L) (runK (CC L) k) k cmC ⟨entry 66 [.own id 2 0 E.length x,fnE],hp,[]⟩=some (.ret,st):=by
    rw[Ji,ao a1,ao b1,ao hs];exact g1
   obtain⟨fp,e1⟩:=lX wo (gw qg rfl hx g3) (fun h=>by rw[g2]) dr
   exact⟨st.hp,_,fp,e1,by rw[g2];exact Hx.refl _ _,.inr ⟨x,rest,by rw[d2];rfl,by rw[d2,g2];exact hb⟩⟩
theorem PR:base.F.get 131=some Tryz.f131:=by kernel_rfl
theorem Y6:base.shared 131=true:=by kernel_rfl
def rvC:Code:=Tryz.f131.body.getD .skip
def rvB:Code:=(az rvC).getD .skip
def rvS:Code:=blk (seq1 (aO rvB))
theorem aeG:rvC = .seq (seq1 rvC) (.block 0 (.loop rvB)):=rfl
theorem Hk:rvB = .seq (seq1 rvB) (.seq (.block 1 rvS) (aO (aO rvB))):=rfl
theorem ahT:((Region.before (iE rvS))[13]?.getD 0).testBit 7=true:=by kernel_rfl
theorem ahS:((Region.before (iE rvS))[13]?.getD 0).testBit 11=true:=by kernel_rfl
theorem ahR:((Region.before (iE rvS))[15]?.getD 0).testBit 7=true:=by kernel_rfl
theorem ahQ:((Region.before (iE rvS))[15]?.getD 0).testBit 11=true:=by kernel_rfl
theorem ahP:((Region.before (iE rvS))[15]?.getD 0).testBit 13=true:=by kernel_rfl
section
variable (L:Lst) (run:av) (k:Nat) (fr:Ψ) (hp:Θ) (wr:Ω) (id n:Nat) (x:Bool) (E:List VN) (rest:Ψ)
theorem ZM (i j:Nat)(hi:i<n)(hj:j<n)(hn:E.length=n)(hb:aX hp id=some ⟨.live,cells E rest⟩)(h0:fr.length=28)(h00:nth fr 0 = .own id 2 0 n x)(h2:nth fr 2=iv i)(h3:nth fr 3=iv j) :
  ∃ fr' hp' wr',ae (CC L) run k rvS ⟨fr,hp,wr⟩=some (.normal,⟨fr',hp',wr'⟩)∧Hx hp hp' id∧aX hp' id=some ⟨.live,cells ((E.set i (E[j]'(by omega))).set j (E[i]'(by omega))) rest⟩:=by
 have q1:=ki E rest j (by omega)
 have q2:=ki E rest i (by omega)
 have o1:=FV E rest i (E[j]'(by omega)) (by omega)
 have o2:=FV (E.set i (E[j]'(by omega))) rest j (E[i]'(by omega)) (by simp;omega)
 have l1:(eC true (E[i]'(by omega))).length=2:=rfl
 have l2:(eC true (E[j]'(by omega))).length=2:=rfl
 have k1:bj (eC true (E[i]'(by omega)))=true:=rfl
 have k2:bj (eC true (E[j]'(by omega)))=true:=rfl
 have x1:=rm id n j x hj
 have x2:=rm id n i x hi
 have n1:=sE hb ⟨.live,cells (E.set i (E[j]'(by omega))) rest⟩
 have H1:=Hx.set hb ⟨.live,cells (E.set i (E[j]'(by omega))) rest⟩
 obtain⟨hp1,e1⟩:∃ h,cF hp id ⟨.live,cells (E.set i (E[j]'(by omega))) rest⟩=h:=⟨_,rfl⟩
 rw[e1] at n1 H1
 have n2:=sE n1 ⟨.live,cells ((E.set i (E[j]'(by omega))).set j (E[i]'(by omega))) rest⟩
 have H2:=H1.trans (Hx.set n1 ⟨.live,cells ((E.set i (E[j]'(by omega))).set j (E[i]'(by omega))) rest⟩)
 generalize cells ((E.set i (E[j]'(by omega))).set j (E[i]'(by omega))) rest=cs2 at *
 generalize cells (E.set i (E[j]'(by omega))) rest=cs1 at *
 generalize eC true (E[i]'(by omega))=ci at *
 generalize eC true (E[j]'(by omega))=cj at *
 simp only[iv] at h2 h3
 have hb1:=ahT
 have hb2:=ahS
 have hb3:=ahR
 have hb4:=ahQ
 have hb5:=ahP
 simp[-Nat.testBit_zero,rvS,rvB,rvC,Tryz.f131,az,seq1,aO,blk,iE] at hb1 hb2 hb3 hb4 hb5
 simp[-Nat.testBit_zero,rvS,rvB,rvC,Tryz.f131,az,seq1,aO,blk,ae,aH,aq,ar,aF,ag,ah,an,aj,aC,aG,FzZ,partOf,aa,af,ab,bf,and_assoc,bp,hb1,hb2,hb3,hb4,hb5,h0,h00,h2,h3,x1,x2,hb,q1,q2,o1,o2,l1,l2,k1,k2,e1,n1,n2,H2,y6,mU,aV,undef,number,FP.free,cC,FP.apart]
theorem ahO (i j:Nat)(h0:fr.length=28)(h2:nth fr 2=iv i)(h3:nth fr 3 = .sc (.int .i64 ((j:Int) - 1))) :
  ∃ fr',ae (CC L) run k (seq1 rvB) ⟨fr,hp,wr⟩=some (bif decide (i+1<j) then .normal else .exit 0,⟨fr',hp,wr⟩):=by
 obtain⟨u,hu⟩:∃ u,decide (i+1<j)=u:=⟨_,rfl⟩
 have hu':decide ((i:Int)<(j:Int) - 1)=u:=by rw[← hu];exact decide_eq_decide.2 (by omega)
 rw[hu]
 simp only[iv] at h2
 cases u <;> simp only[decide_eq_true_eq,decide_eq_false_iff_not] at hu' <;> simp[rvB,rvC,Tryz.f131,az,seq1,ae,aH,aq,ar,aF,ag,ah,an,aj,aC,aG,FzZ,ba,aw,bg,aa,af,ab,h0,h2,h3,hu']
theorem ajQ (i j:Nat)(h9:i<1000)(hj:j<1000)(hj1:2≤j)(h0:fr.length=28)(h2:nth fr 2=iv i)(h3:nth fr 3 = .sc (.int .i64 ((j:Int) - 1))) :
  ∃ fr',ae (CC L) run k (aO (aO rvB)) ⟨fr,hp,wr⟩=some (.normal,⟨fr',hp,wr⟩)∧nth fr' 2=iv (i+1)∧nth fr' 3 = .sc (.int .i64 (((j - 1:Nat):Int) - 1)):=by
 have hw:=bE i (by omega)
 obtain⟨j',rfl⟩:∃ j',j=j'+2:=⟨j - 2,by omega⟩
 have e1:((j'+2:Nat):Int) - 1=((j'+1:Nat):Int):=by omega
 have e2:((j'+2 - 1:Nat):Int) - 1=(j':Int):=by omega
 rw[e1] at h3
 rw[e2]
 have w1:bB .i64 (((j'+1:Nat):Int) - 1)=(j':Int):=by
  simpa using jm .i64 (j'+1) 1 j' (by omega) (hiI (by omega))
 simp only[iv] at h2
 generalize ((j'+1:Nat):Int)=J at *
 simp[iv,rvB,rvC,Tryz.f131,az,aO,ae,aH,aq,ar,aF,ag,ah,an,aj,aC,aG,FzZ,ba,aw,bg,au,aa,af,ab,h0,h2,h3,hw,w1]
theorem aeE (p:PV)(m:Nat)(hn:n=m+1)(h9:n<1000)(hl:dc p=some n):∃ fr,ae (CC L) run k (seq1 rvC) ⟨entry 28 [p],hp,[]⟩=some (.normal,⟨fr,hp,[]⟩)∧fr.length=28∧nth fr 0=p∧nth fr 2=iv 0∧nth fr 3 = .sc (.int .i64 ((n:Int) - 1)):=by
 obtain⟨e1,e2⟩:=cV 27 p
 generalize entry 28 [p]=fr0 at *
 subst hn
 have e:((m+1:Nat):Int) - 1=(m:Int):=by omega
 rw[e]
 have w1:bB .i64 (((m+1:Nat):Int) - 1)=(m:Int):=by
  simpa using jm .i64 (m+1) 1 m (by omega) (hiI (by omega))
 generalize hM:m+1=M at *
 simp[iv,rvC,Tryz.f131,seq1,ae,aH,aq,ar,aF,ag,ah,an,aj,aC,aG,FzZ,ba,aw,bg,au,bM,aa,af,ab,bf,e1,e2,hl,ko,w1]
end
theorem ahH {α:Type}(P M Q:List α)(a b:α):((P++a::(M++b::Q)).set P.length b).set (P.length+(M.length+1)) a=P++b::(M++a::Q):=by
 simp[]
theorem ZO {L:Lst}{run:av}{k:Nat}{id n:Nat}{x:Bool}{rest:Ψ}(h9:n<1000):∀ (m:Nat) (A M B:List VN) (fr:Ψ) (hp:Θ) (wr:Ω),M.length≤m→1≤n→(A++(M++B)).length=n→A.length=B.length→aX hp id=some ⟨.live,cells (A++(M++B)) rest⟩→fr.length=28→nth fr 0 = .own id 2 0 n x→nth fr 2=iv A.length→nth fr 3 = .sc (.int .i64 (((n - A.length:Nat):Int) - 1)) →
  ∃ fr' hp' wr',cg (ae (CC L) run k rvB) (m+1) ⟨fr,hp,wr⟩=some (.exit 0,⟨fr',hp',wr'⟩)∧Hx hp hp' id∧aX hp' id=some ⟨.live,cells (A++(M.reverse++B)) rest⟩:=by
 intro m
 induction m with
 | zero =>
  intro A M B fr hp wr hM hn1 hn hAB hb h0 h00 h2 h3
  obtain rfl:M=[]:=length_eq_zero_iff.1 (by omega)
  obtain⟨fr1,a1⟩:=ahO L run k fr hp wr A.length (n - A.length) h0 h2 h3
  simp at hn
  rw[decide_eq_false (by omega),cond_false] at a1
  exact⟨fr1,hp,wr,br (by rw[Hk,ae,a1]),Hx.refl _ _,hb⟩
 | succ m ih =>
  intro A M B fr hp wr hM hn1 hn hAB hb h0 h00 h2 h3
  obtain⟨fr1,a1⟩:=ahO L run k fr hp wr A.length (n - A.length) h0 h2 h3
  have hl:A.length+(M.length+B.length)=n:=by simpa using hn
  by_cases h1:M.length≤1
  ·rw[decide_eq_false (by omega),cond_false] at a1
   refine⟨fr1,hp,wr,bG (br (n:=0) (by rw[Hk,ae,a1])) (by omega),Hx.refl _ _,?_⟩
   have:M.reverse=M:=by
    match M,h1 with
    | [],_=>rfl
    | [_],_=>rfl
    | _::_::_,h=>simp at h
   rw[this];exact hb
  ·rw[decide_eq_true (by omega),cond_true] at a1
   obtain⟨a,M1,rfl⟩:∃ a M1,M=a::M1:=by
    cases M with
    | nil=>simp at h1
    | cons a M1=>exact⟨a,M1,rfl⟩
   obtain⟨M2,b,rfl⟩:∃ M2 b,M1=M2++[b]:=⟨M1.dropLast,M1.getLast (fun e=>by rw[e] at h1;simp at h1),(dropLast_concat_getLast _).symm⟩
   have eE:A++(a::(M2++[b])++B)=A++a::(M2++b::B):=by simp
   rw[eE] at hb hn
   simp only[length_cons,length_append,length_nil] at hl hM
   have K1:=aP _ a1
   have hj:n - A.length - 1=A.length+(M2.length+1):=by omega
   have g1:(A++a::(M2++b::B))[A.length]'(by rw[hn];omega)=a:=by
    rw[getElem_append_right (by omega)];simp
   have g2:(A++a::(M2++b::B))[A.length+(M2.length+1)]'(by rw[hn];omega)=b:=by
    rw[getElem_append_right (by omega)]
    simp
   have h3':nth fr 3=iv (A.length+(M2.length+1)):=by
    rw[h3,← hj];unfold iv
    have:((n - A.length:Nat):Int) - 1=((n - A.length - 1:Nat):Int):=by omega
    rw[this]
   obtain⟨fr2,hp2,wr2,b1,b2,b3⟩:=ZM L run k fr1 hp wr id n x _ rest A.length (A.length+(M2.length+1)) (by omega) (by omega) hn hb (K1.len h0) (K1.at h00) (K1.at h2) (K1.at h3')
   rw[g1,g2,ahH] at b3
   have b1':ae (CC L) run k (.block 1 rvS) ⟨fr1,hp,wr⟩=some (.normal,⟨fr2,hp2,wr2⟩):=by simp only[ae,b1]
   have K2:=aP _ b1
   obtain⟨fr3,c1,c2,c3⟩:=ajQ L run k fr2 hp2 wr2 A.length (n - A.length) (by omega) (by omega) (by omega) (K2.len (K1.len h0)) (K2.at (K1.at h2)) (K2.at (K1.at h3))
   have hr:ae (CC L) run k rvB ⟨fr,hp,wr⟩=some (.normal,⟨fr3,hp2,wr2⟩):=by
    rw[Hk,ao a1,ao b1',c1]
   have K:=aP _ hr
   obtain⟨fr',hp',wr',r1,r2,r3⟩:=ih (A++[b]) M2 (a::B) fr3 hp2 wr2 (by omega) hn1 (by simp;omega) (by simp[hAB]) (by simpa using b3) (K.len h0) (K.at h00) (by rw[c2];simp) (by rw[c3];simp;omega)
   exact⟨fr',hp',wr',by rw[bU hr];exact r1,b2.trans r2,by rw[r3];simp⟩
theorem aeD {L:Lst}{k:Nat}{id:Nat}{x:Bool}{rest:Ψ}(E:List VN)(h1:1≤E.length)(h9:E.length<1000)(hk:E.length<k)(hp:Θ)(hb:aX hp id=some ⟨.live,cells E rest⟩)(dr:Bool) :
  ∃ hp' r fp,bS (CC L) (runK (CC L) (k+1)) dr hp 131 [.own id 2 0 E.length x]=some (r,hp',fp)∧Hx hp hp' id∧aX hp' id=some ⟨.live,cells E.reverse rest⟩:=by
 obtain⟨m,hm⟩:∃ m,E.length=m+1:=⟨E.length - 1,by omega⟩
 obtain⟨fr,a1,a2,a3,a4,a5⟩:=aeE L (runK (CC L) k) k hp E.length (.own id 2 0 E.length x) m hm h9 rfl
 obtain⟨fr1,hp1,wr1,b1,b2,b3⟩:=ZO (L:=L) (run:=runK (CC L) k) (k:=k) (id:=id) (n:=E.length) (x:=x) (rest:=rest) h9 E.length [] E [] fr hp [] (Nat.le_refl _) h1 (by simp) rfl (by simpa using hb) a2 a3 a4 (by simpa using a5)
 have hx:ae (CC L) (runK (CC L) k) k rvC ⟨entry 28 [.own id 2 0 E.length x],hp,[]⟩=some (.normal,⟨fr1,hp1,wr1⟩):=by
  rw[aeG,ao a1];exact bD (bG b1 (by omega))
 obtain⟨fp,c1⟩:=lX Y6 (yv PR rfl hx rfl) (fun _=>b2.1) dr
 exact⟨hp1,_,fp,c1,b2,by simpa using b3⟩
theorem yH:base.F.get 72=some Tryz.f72:=by kernel_rfl
theorem Dn:base.shared 72=true:=by kernel_rfl
theorem agN:iG TT 102=some 32:=by kernel_rfl
def qo:Code→Code
 | .scope c=>c
 | c=>c
def olC:Code:=Tryz.f72.body.getD .skip
def olB:Code:=(az olC).getD .skip
def olX:Code:=qo (blk (seq1 (aO (aO olB))))
def yT:Code:=aO (aO olX)
def olP:Code:=(az olX).getD .skip
def olY:Code:=blk (seq1 (aO (aO olP)))
def olN:Code:=(az olY).getD .skip
def olZ:Code:=blk (seq1 (aO olN))
theorem Uj:olB = .seq (seq1 olB) (.seq (.cond (.tmp 17) .skip (.exit 0)) (.seq (.block 1 (.scope olX)) (aO (aO (aO olB))))):=rfl
theorem afl:olX = .seq (seq1 olX) (.seq (.label 0) (.seq (.seq (seq1 (seq1 yT)) (.block 2 (.loop olP))) (.seq (seq1 (aO yT)) (aO (aO yT))))):=rfl
theorem Ui:olP = .seq (seq1 olP) (.seq (.cond (.tmp 23) .skip (.exit 2)) (.seq (.block 3 olY) (aO (aO (aO olP))))):=rfl
theorem Ug:olY = .seq (seq1 olY) (.seq (.seq (seq1 (seq1 (aO olY))) (.block 4 (.loop olN))) (aO (aO olY))):=rfl
theorem Iv:olN = .seq (.seq (seq1 (seq1 olN)) (.cond (.tmp 31) .skip (.exit 4))) (.seq (.block 5 olZ) (aO (aO olN))):=rfl
theorem Uf:olZ = .seq (.seq (seq1 (seq1 olZ)) (.cond (.tmp 49) (.seq (seq1 (ik (aO (seq1 olZ)))) (.exit 3)) .skip)) (aO olZ):=rfl
theorem Li (z:VN):fP TT 100 1 [(0,.agg (eC true z))]=some (2,eC true z):=by
 simp[fP,ko,mU,Gw,rep,dJ,PV.cells?,eC,b9]
theorem aeX (hp:Θ)(z:VN):eY hp 2 (.imm 1 true (eC true z))=some (1,eC true z,[]):=by simp[eY,eC]
theorem Xy (E:List VN)(rest:Ψ)(j:Nat)(hj:j<E.length):(bz (cells E rest) (j*2)).head?=some (v2 true E[j].1):=by
 have h:=ki E rest j hj
 generalize bz (cells E rest) (j*2)=l at h
 cases l with
 | nil=>simp[bF] at h
 | cons a l =>
  simp only[bF] at h
  cases h1:bF l 1 with
  | none=>rw[h1] at h;cases h
  | some r =>
   rw[h1] at h
   have:a::r=eC true E[j]:=by simpa using h
   simp only[eC,List.cons.injEq] at this
   simp[this.1]
section
variable (L:Lst) (run:av) (k:Nat) (fr:Ψ) (hp:Θ) (wr:Ω)
theorem aio (t:Nat)(h0:fr.length=72)(h16:nth fr 16=iv t):∃ fr',ae (CC L) run k (seq1 olB) ⟨fr,hp,wr⟩=some (.normal,⟨fr',hp,wr⟩)∧nth fr' 17 = .sc (.bool (decide (t<2))):=by
 obtain⟨u,hu⟩:∃ u,decide (t<2)=u:=⟨_,rfl⟩
 have hu':decide ((t:Int)<2)=u:=by rw[← hu];exact decide_eq_decide.2 (by omega)
 rw[hu]
 simp only[iv] at h16
 cases u <;> simp only[decide_eq_true_eq,decide_eq_false_iff_not] at hu' <;> simp[olB,olC,Tryz.f72,az,seq1,ae,aH,aq,ar,aF,ag,ah,an,aj,aC,aG,FzZ,ba,aw,bg,au,aa,h0,h16,hu']
theorem ajY (q:PV)(n:Nat)(hl:dc q=some n)(h0:fr.length=72)(h3:nth fr 3=q):∃ fr',ae (CC L) run k (seq1 olX) ⟨fr,hp,wr⟩=some (.normal,⟨fr',hp,wr⟩)∧nth fr' 4=iv n:=by
 simp[iv,olX,qo,blk,olB,olC,Tryz.f72,az,seq1,aO,ae,aH,aq,ar,aF,ag,ah,an,aj,aC,aG,FzZ,bM,aa,ab,bf,h0,h3,hl,ko]
theorem ajX (q:PV)(n:Nat)(hl:dc q=some n)(h0:fr.length=72)(h00:nth fr 0=q):∃ fr',ae (CC L) run k (seq1 (seq1 yT)) ⟨fr,hp,wr⟩=some (.normal,⟨fr',hp,wr⟩)∧nth fr' 20=q∧nth fr' 21=iv n∧nth fr' 22=iv 0:=by
 simp[iv,yT,olX,qo,blk,olB,olC,Tryz.f72,az,seq1,aO,ae,aH,aq,ar,aF,ag,ah,an,aj,aC,aG,FzZ,au,bM,aa,af,ab,bf,h0,h00,hl,ko]
theorem adM (i n:Nat)(h0:fr.length=72)(h21:nth fr 21=iv n)(h22:nth fr 22=iv i):∃ fr',ae (CC L) run k (seq1 olP) ⟨fr,hp,wr⟩=some (.normal,⟨fr',hp,wr⟩)∧nth fr' 23 = .sc (.bool (decide (i<n))):=by
 obtain⟨u,hu⟩:∃ u,decide (i<n)=u:=⟨_,rfl⟩
 rw[hu]
 simp only[iv] at h21 h22
 cases u <;> simp only[decide_eq_true_eq,decide_eq_false_iff_not] at hu <;> simp[olP,olX,qo,blk,olB,olC,Tryz.f72,az,seq1,aO,ae,aH,aq,ar,aF,ag,ah,an,aj,aC,aG,FzZ,ba,aw,bg,aa,h0,h21,h22,hu]
theorem aiw (id n:Nat)(x:Bool)(i:Nat)(E:List VN)(rest:Ψ)(hi:i<n)(hn:E.length=n)(hb:aX hp id=some ⟨.live,cells E rest⟩)(h0:fr.length=72)(h20:nth fr 20 = .own id 2 0 n x)(h22:nth fr 22=iv i):∃ fr' wr',ae (CC L) run k (seq1 olY) ⟨fr,hp,wr⟩=some (.normal,⟨fr',cF (bd hp zC) hp.length ⟨.live,eC true (E[i]'(by omega))⟩,wr'⟩)∧nth fr' 6 = .ptr hp.length 0:=by
 have q1:=ki E rest i (by omega)
 have x1:=rm id n i x hi
 have a1:=al1 hp zC
 have o1:b9 zC 0 (eC true (E[i]'(by omega)))=some (eC true (E[i]'(by omega))):=rfl
 have l1:(eC true (E[i]'(by omega))).length=2:=rfl
 have k1:bj (eC true (E[i]'(by omega)))=true:=rfl
 have zz:ef TT 102=some zC:=Gw
 generalize eC true (E[i]'(by omega))=ci at *
 simp only[iv] at h22
 simp[olY,olP,olX,qo,blk,olB,olC,Tryz.f72,az,seq1,aO,ae,aH,aq,ar,aF,ag,ah,an,aj,aC,aG,FzZ,partOf,aa,af,ab,bf,and_assoc,bp,h0,h20,h22,x1,hb,q1,a1,o1,l1,k1,zz,y6,mU,aV]
theorem aiv (q:PV)(n:Nat)(hl:dc q=some n)(h0:fr.length=72)(h3:nth fr 3=q):∃ fr',ae (CC L) run k (seq1 (seq1 (aO olY))) ⟨fr,hp,wr⟩=some (.normal,⟨fr',hp,wr⟩)∧nth fr' 7=iv n:=by
 simp[iv,olY,olP,olX,qo,blk,olB,olC,Tryz.f72,az,seq1,aO,ae,aH,aq,ar,aF,ag,ah,an,aj,aC,aG,FzZ,bM,aa,ab,bf,h0,h3,hl,ko]
theorem adL (m b:Nat)(h9:b<1000)(h0:fr.length=72)(h7:nth fr 7=iv m)(h4:nth fr 4=iv b):∃ fr',ae (CC L) run k (seq1 (seq1 olN)) ⟨fr,hp,wr⟩=some (.normal,⟨fr',hp,wr⟩)∧nth fr' 31 = .sc (.bool (decide (b+2≤m))):=by
 obtain⟨u,hu⟩:∃ u,decide (b+2≤m)=u:=⟨_,rfl⟩
 have hu':decide (((b+2:Nat):Int)≤(m:Int))=u:=by rw[← hu];exact decide_eq_decide.2 Int.ofNat_le
 have hw:bB .i64 ((b:Int)+2)=((b+2:Nat):Int):=by
  simpa using dx .i64 b 2 (b+2) rfl (hiI (by omega))
 rw[hu]
 generalize ((b+2:Nat):Int)=B at *
 simp only[iv] at h7 h4
 cases u <;> simp only[decide_eq_true_eq,decide_eq_false_iff_not] at hu' <;> simp[olN,olY,olP,olX,qo,blk,olB,olC,Tryz.f72,az,seq1,aO,ae,aH,aq,ar,aF,ag,ah,an,aj,aC,aG,FzZ,ba,aw,bg,au,aa,af,ab,h0,h7,h4,hw,hu']
theorem ait (oid m:Nat)(xo:Bool)(O:List VN)(M:Ψ)(i j c:Nat)(z:VN)(s:Int)(hj:m=j+1)(hi:m=i+2)(h9:m<1000)(hm:O.length=m)(hb:aX hp oid=some ⟨.live,cells O M⟩)(hc:aX hp c=some ⟨.live,eC true z⟩)(g:aA L run 130 [v2 true (O[i]'(by omega)).1,v2 true (O[j]'(by omega)).1,v2 true z.1] (.sc (.int .i64 s)))(h0:fr.length=72)(h3:nth fr 3 = .own oid 2 0 m xo)(h7:nth fr 7=iv m)(h6:nth fr 6 = .ptr c 0):∃ fr' wr',ae (CC L) run k (seq1 (seq1 olZ)) ⟨fr,hp,wr⟩=some (.normal,⟨fr',hp,wr'⟩)∧nth fr' 49 = .sc (.bool (decide (0<s))):=by
 have q1:=Xy O M i (by omega)
 have q2:=Xy O M j (by omega)
 have q3:(eC true z).head?=some (v2 true z.1):=rfl
 have x1:=rm oid m i xo (by omega)
 have x2:=rm oid m j xo (by omega)
 have w1:bB .i64 ((m:Int) - 2)=(i:Int):=by
  simpa using jm .i64 m 2 i (by omega) (hiI (by omega))
 have w2:bB .i64 ((m:Int) - 1)=(j:Int):=by
  simpa using jm .i64 m 1 j (by omega) (hiI (by omega))
 obtain⟨u,hu⟩:∃ u,decide (0<s)=u:=⟨_,rfl⟩
 rw[hu]
 unfold aA at g
 generalize v2 true (O[i]'(by omega)).1=vi at *
 generalize v2 true (O[j]'(by omega)).1=vj at *
 generalize v2 true z.1=vz at *
 generalize eC true z=cz at *
 simp only[iv] at h7
 cases u <;> simp only[decide_eq_true_eq,decide_eq_false_iff_not] at hu <;> simp[olZ,olN,olY,olP,olX,qo,blk,olB,olC,Tryz.f72,az,seq1,aO,ae,aH,aq,ar,aF,ag,ah,aM,an,aj,aC,aG,FzZ,ba,aw,bg,au,partOf,aa,af,ab,bf,and_assoc,h0,h3,h7,h6,x1,x2,w1,w2,hb,hc,q1,q2,q3,g,hu,fa0,adp,ZL,bz,aV,number,FP.free,cC,FP.apart]
theorem adK (b:Nat)(O:List VN)(q:PV)(c:Nat)(z:VN)(h9:O.length<1000)(hO:cH 2 (eC true) b hp O q)(hc:aX hp c=some ⟨.live,eC true z⟩)(h0:fr.length=72)(h3:nth fr 3=q)(h6:nth fr 6 = .ptr c 0):(∃ fr' hp' wr',ae (CC L) run k (seq1 (ik (aO (seq1 olZ)))) ⟨fr,hp,wr⟩=some (.normal,⟨fr',hp',wr'⟩)∧cH 2 (eC true) b hp' (O++[z]) (nth fr' 3)∧(∀ i,i<b→aX hp' i=aX hp i)) ∧
  ∃ fr' hp' wr',ae (CC L) run k (aO (aO olY)) ⟨fr,hp,wr⟩=some (.normal,⟨fr',hp',wr'⟩)∧cH 2 (eC true) b hp' (O++[z]) (nth fr' 3)∧(∀ i,i<b→aX hp' i=aX hp i):=by
 obtain⟨p',hp',fp,a1,a2,a3,-⟩:=hO.app (Cd true) [z] (by simp) (by simp;omega)
 have e2:[z].flatMap (eC true)=eC true z:=by simp
 rw[e2,show [z].length=1 from rfl] at a1
 have l1:=Li z
 have r1:=fun hp=>aeX hp z
 have t1:bF (eC true z) 2=some (eC true z):=rfl
 have k1:bj (eC true z)=true:=rfl
 have i1:bT (eC true z)=true:=rfl
 have zz:ef TT 102=some zC:=Gw
 have hz:zC.length=2:=rfl
 generalize eC true z=cz at *
 constructor <;> simp[olZ,olN,olY,olP,olX,qo,blk,ik,olB,olC,Tryz.f72,az,seq1,aO,ae,aH,aq,ar,aF,ag,ah,an,aj,aC,aG,FzZ,au,partOf,aa,af,ab,bf,and_assoc,h0,h3,h6,hc,l1,r1,t1,k1,i1,zz,hz,a1,a2,ko,mU,y6,agN,bZ,bz,aV] <;> exact a3
end
end Go.Proofs.YtjdmodeenbdfpaaGreat
end
