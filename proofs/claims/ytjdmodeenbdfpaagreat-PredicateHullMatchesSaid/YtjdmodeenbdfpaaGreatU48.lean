/- Contracts of the two hulls, of the program and of the reference, part 48; each lemma states its conditions. -/
import Derived.Test.YtjdmodeenbdfpaaGreatU47
set_option linter.unusedSimpArgs false
set_option linter.unusedVariables false
namespace Go.Proofs.YtjdmodeenbdfpaaGreat
open Go Go.Ab List
attribute [local simp] FzZ aC aF aG aH aO aa ab ae af ag ah aj an and_assoc aq ar au aw az ba bg cI iv rhC rhT rhU rhW seq1
structure CsO (hp:Θ) (q:PV) (cs:Ω) (cid:Nat) (x:Bool) (M:Ψ):Prop where
 eq:q = .own cid 1 0 cs.length x
 bl:aX hp cid=some ⟨.live,M⟩
 at_:∀ i (h:i<cs.length),(bz M i).head?=some (.sc (.int .i64 (cs[i]:Int)))
theorem WJ {b:Nat}{hp:Θ}{cs:Ω}{q:PV}(h:cH 1 ei b hp (cs.map Int.ofNat) q)(hne:cs≠[]):∃ cid x M,CsO hp q cs cid x M:=by
 rcases h.2 with ⟨h,-⟩| ⟨id,m,x,h1,h2,h3,h4,h5⟩
 ·exact absurd (map_eq_nil_iff.1 h) hne
 ·refine⟨id,x,_,⟨by rw[h3,length_map],h5,fun i hi => ?_⟩⟩
  have:=mG I8.toEl (cs.map Int.ofNat++m) i (by simp;omega)
  rw[Nat.mul_one] at this
  rw[this,getElem_append_left (by simpa using hi),getElem_map]
  rfl
theorem OX (id n i:Nat)(x:Bool)(hi:i<n):bc TT 24 (.own id 1 0 n x) (.sc (.int .i64 (i:Int)))=some (.ptr id i):=by
 simp only[bc,mZ,bm,sI,hi,and_self,if_true,Nat.zero_add,Nat.mul_one]
section
variable (L:Lst) (run:av) (k:Nat) (fr:Ψ) (hp:Θ) (wr:Ω) (X:List P2) (cs:Ω) (cid:Nat) (x:Bool) (M:Ψ)
theorem aia (hC:CsO hp (nth fr 5) cs cid x M)(i a:Nat)(hi:i<cs.length)(ha:a<cs.length)(hiX:cs[i]<X.length)(haX:cs[a]<X.length)(h0:fr.length=168)(h00:nth fr 0=qP X)(h12:nth fr 12=iv i)(h11:nth fr 11=iv a):∃ fr' wr',ae (CC L) run k (seq1 kS) ⟨fr,hp,wr⟩=some (.normal,⟨fr',hp,wr'⟩)∧nth fr' 13=q2 (at2 X cs[i])∧nth fr' 14=q2 (at2 X cs[a]):=by
 obtain⟨h5,hb,hat⟩:=hC
 have g1:=hat i hi
 have g2:=hat a ha
 have x1:=OX cid cs.length i x hi
 have x2:=OX cid cs.length a x ha
 obtain⟨r1,y1,y2⟩:=kd uCl X cs[i] hiX
 obtain⟨r2,z1,z2⟩:=kd uCl X cs[a] haX
 generalize q2 (at2 X cs[i])=Qi at *
 generalize q2 (at2 X cs[a])=Qa at *
 generalize cs[i]=ci at *
 generalize cs[a]=ca at *
 simp only[iv] at h12 h11
 simp[kS,rhG,Tryz.f29,partOf,bf,h0,h00,h5,h11,h12,hb,g1,g2,x1,x2,y1,y2,z1,z2,aPt,sPt,aI,sI,aV,number,FP.free,cC,FP.apart]
theorem ah9 (p q:P2)(s:Int)(g:aA L run 26 [qt p.1,qt q.1] (.sc (.int .i64 s)))(h0:fr.length=168)(h13:nth fr 13=q2 p)(h14:nth fr 14=q2 q):∃ fr' wr',ae (CC L) run k (seq1 (aO kS)) ⟨fr,hp,wr⟩=some (.normal,⟨fr',hp,wr'⟩)∧nth fr' 15 = .sc (.int .i64 s):=by
 obtain⟨r1,r2,a1,a2,a3,a4⟩:=rl (qb p.1) (qb p.2)
 obtain⟨t1,t2,b1,b2,b3,b4⟩:=rl (qb q.1) (qb q.2)
 rw[show pE [qb p.1,qb p.2]=q2 p from rfl] at a1
 rw[show pE [qb q.1,qb q.2]=q2 q from rfl] at b1
 unfold aA qt at g
 generalize q2 p=P at *
 generalize q2 q=Q at *
 generalize qb p.1=p1 at *
 generalize qb q.1=q1 at *
 simp[kS,rhG,Tryz.f29,aM,partOf,bf,h0,h13,h14,a1,a2,b1,b2,g,iJ,gN,aV,number,FP.free]
theorem ah8 (p q:P2)(s:Int)(g:aA L run 26 [qt p.2,qt q.2] (.sc (.int .i64 s)))(h0:fr.length=168)(h13:nth fr 13=q2 p)(h14:nth fr 14=q2 q)(h15:nth fr 15 = .sc (.int .i64 (fI p.1 q.1))):∃ fr' wr',ae (CC L) run k (seq1 (aO (aO kS))) ⟨fr,hp,wr⟩=some (.normal,⟨fr',hp,wr'⟩)∧nth fr' 111 = .sc (.bool (decide (p.1<q.1) || (decide (p.1=q.1) && decide (s<0)))):=by
 obtain⟨r1,r2,a1,a2,a3,a4⟩:=rl (qb p.1) (qb p.2)
 obtain⟨t1,t2,b1,b2,b3,b4⟩:=rl (qb q.1) (qb q.2)
 rw[show pE [qb p.1,qb p.2]=q2 p from rfl] at a3
 rw[show pE [qb q.1,qb q.2]=q2 q from rfl] at b3
 unfold aA qt at g
 generalize q2 p=P at *
 generalize q2 q=Q at *
 generalize qb p.2=p1 at *
 generalize qb q.2=q1 at *
 obtain⟨u,hu⟩:∃ u,decide (s<0)=u:=⟨_,rfl⟩
 rw[hu]
 rcases iY p.1 q.1 with ⟨h,e⟩| ⟨h,e⟩| ⟨h,e⟩
 ·rw[e] at h15
  simp[kS,rhG,Tryz.f29,h0,h15,h,undef,number,FP.free]
 ·rw[e] at h15
  have h1 : ¬ p.1<q.1:=by grind
  cases u <;> simp only[decide_eq_true_eq,decide_eq_false_iff_not] at hu <;> simp[kS,rhG,Tryz.f29,aM,partOf,bf,h0,h13,h14,h15,h,hu,a3,a4,b3,b4,g,iJ,gN,aV,number,FP.free]
 ·rw[e] at h15
  have h1 : ¬ p.1<q.1:=by grind
  have h2 : ¬ p.1=q.1:=by grind
  simp[kS,rhG,Tryz.f29,h0,h15,h1,h2,undef,number,FP.free]
theorem ah7 (i:Nat)(h0:fr.length=168)(h12:nth fr 12=iv i):∃ fr',ae (CC L) run k (ik (aO (aO (aO kS)))) ⟨fr,hp,wr⟩=some (.normal,⟨fr',hp,wr⟩)∧nth fr' 11=iv i:=by
 simp only[iv] at h12
 simp[kS,rhG,Tryz.f29,ik,h0,h12]
theorem adE (m n:Nat)(p q:PV)(hp1:dc p=some m)(hq1:dc q=some n)(h0:fr.length=168)(h10:nth fr 10=p)(h5:nth fr 5=q):∃ fr',ae (CC L) run k (seq1 (seq1 rhW)) ⟨fr,hp,wr⟩=some (.normal,⟨fr',hp,wr⟩)∧nth fr' 117 = .sc (.bool (decide (m<n))):=by
 obtain⟨u,hu⟩:∃ u,decide (m<n)=u:=⟨_,rfl⟩
 rw[hu]
 cases u <;> simp only[decide_eq_true_eq,decide_eq_false_iff_not] at hu <;> simp[Tryz.f29,bM,bf,h0,h10,h5,hp1,hq1,hu,mZ]
theorem ahN (b:Nat)(l:List Int)(a:Nat)(hC:CsO hp (nth fr 5) cs cid x M)(ha:a<cs.length)(h9:l.length<1000)(hO:cH 1 ei b hp l (nth fr 10))(h0:fr.length=168)(h11:nth fr 11=iv a):∃ fr' hp' wr',ae (CC L) run k (seq1 mV) ⟨fr,hp,wr⟩=some (.normal,⟨fr',hp',wr'⟩)∧cH 1 ei b hp' (l++[Int.ofNat cs[a]]) (nth fr' 10)∧∀ i,i<b→aX hp' i=aX hp i:=by
 obtain⟨h5,hb,hat⟩:=hC
 have g2:=hat a ha
 have x2:=OX cid cs.length a x ha
 obtain⟨p',hp',fp,y1,y2,y3,-⟩:=hO.app I8.toEl [Int.ofNat cs[a]] (by simp) (by simp;omega)
 have e2:[Int.ofNat cs[a]].flatMap ei=[iv cs[a]]:=rfl
 rw[e2,show [Int.ofNat cs[a]].length=1 from rfl] at y1
 have hlit:=kH cs[a]
 have hrd:∀ hp v,eY hp 1 (.imm 1 true [v])=some (1,[v],[]):=aeY
 have hok:dZ (iv cs[a])=true:=rfl
 have hid:(iv cs[a]).cG=true:=rfl
 rw[show (PV.sc (.int .i64 (cs[a]:Int)))=iv cs[a] from rfl] at g2
 generalize iv cs[a]=N at *
 generalize Int.ofNat cs[a]=Z at *
 simp only[iv] at h11
 simp[mV,Tryz.f29,blk,partOf,bf,bj,h0,h5,h11,hb,g2,x2,y1,y2,hlit,hrd,hok,hid,mZ,bI,zI,aI,sI,bZ,bT,aV]
 exact y3
theorem ahM (a:Nat)(h0:fr.length=168)(h11:nth fr 11=iv a):∃ fr',ae (CC L) run k (seq1 (aO mV)) ⟨fr,hp,wr⟩=some (.normal,⟨fr',hp,wr⟩)∧nth fr' 16=iv a:=by
 simp only[iv] at h11
 simp[mV,Tryz.f29,blk,h0,h11]
theorem ahL (h0:fr.length=168):∃ fr',ae (CC L) run k (seq1 (seq1 Hr)) ⟨fr,hp,wr⟩=some (.normal,⟨fr',hp,wr⟩)∧nth fr' 17=iv 0:=by
 simp[Hr,mV,Tryz.f29,blk,h0]
theorem ahK (a:Nat)(h0:fr.length=168)(h16:nth fr 16=iv a):∃ fr',ae (CC L) run k (aO Hr) ⟨fr,hp,wr⟩=some (.normal,⟨fr',hp,wr⟩)∧nth fr' 11=iv a:=by
 simp only[iv] at h16
 simp[Hr,mV,Tryz.f29,blk,h0,h16]
theorem ahU (a:Nat)(h0:fr.length=168)(h17:nth fr 17=iv a):∃ fr',ae (CC L) run k (ik (aO uT)) ⟨fr,hp,wr⟩=some (.normal,⟨fr',hp,wr⟩)∧nth fr' 16=iv a:=by
 simp only[iv] at h17
 simp[uT,rhV,mV,Tryz.f29,blk,ik,h0,h17]
theorem ahV (hC:CsO hp (nth fr 5) cs cid x M)(i a m:Nat)(hi:i<cs.length)(ha:a<cs.length)(hm:m<cs.length)(hiX:cs[i]<X.length)(haX:cs[a]<X.length)(hmX:cs[m]<X.length)(s:Int)(g:aA L run 76 [q2 (at2 X cs[a]),q2 (at2 X cs[m]),q2 (at2 X cs[i])] (.sc (.int .i64 s)))(h0:fr.length=168)(h00:nth fr 0=qP X)(h17:nth fr 17=iv i)(h11:nth fr 11=iv a)(h16:nth fr 16=iv m):∃ fr' wr',ae (CC L) run k (seq1 uT) ⟨fr,hp,wr⟩=some (.normal,⟨fr',hp,wr'⟩)∧nth fr' 164 = .sc (.bool (decide (i≠a) && (decide (m=a) || decide (s<0)))):=by
 obtain⟨h5,hb,hat⟩:=hC
 have g1:=hat i hi
 have g2:=hat a ha
 have g3:=hat m hm
 have x1:=OX cid cs.length i x hi
 have x2:=OX cid cs.length a x ha
 have x3:=OX cid cs.length m x hm
 obtain⟨r1,y1,y2⟩:=kd uCl X cs[i] hiX
 obtain⟨r2,z1,z2⟩:=kd uCl X cs[a] haX
 obtain⟨r3,w1,w2⟩:=kd uCl X cs[m] hmX
 unfold aA at g
 generalize q2 (at2 X cs[i])=Qi at *
 generalize q2 (at2 X cs[a])=Qa at *
 generalize q2 (at2 X cs[m])=Qm at *
 generalize cs[i]=ci at *
 generalize cs[a]=ca at *
 generalize cs[m]=cm at *
 simp only[iv] at h17 h11 h16
 by_cases e1:i=a
 ·have e1':((i:Int) != (a:Int))=false:=by simp[e1]
  have e1'':decide (i≠a)=false:=by simp[e1]
  rw[e1'',Bool.false_and]
  simp[uT,rhV,mV,Tryz.f29,blk,h0,h17,h11,e1',undef,number,FP.free]
 ·have e1':((i:Int) != (a:Int))=true:=by
   have:(i:Int)≠(a:Int):=by omega
   simpa using this
  have e1'':decide (i≠a)=true:=by simp[e1]
  rw[e1'',Bool.true_and]
  by_cases e2:m=a
  ·have e2':((m:Int) == (a:Int))=true:=by simp[e2]
   have e2'':decide (m=a)=true:=by simp[e2]
   rw[e2'',Bool.true_or]
   simp[uT,rhV,mV,Tryz.f29,blk,h0,h17,h11,h16,e1',e2',undef,number,FP.free]
  ·have e2':((m:Int) == (a:Int))=false:=by
    have:(m:Int)≠(a:Int):=by omega
    simpa using this
   have e2'':decide (m=a)=false:=by simp[e2]
   rw[e2'',Bool.false_or]
   obtain⟨u,hu⟩:∃ u,decide (s<0)=u:=⟨_,rfl⟩
   rw[hu]
   cases u <;> simp only[decide_eq_true_eq,decide_eq_false_iff_not] at hu <;> simp[uT,rhV,mV,Tryz.f29,blk,aM,partOf,bf,h0,h00,h5,h17,h11,h16,e1',e2',hu,hb,g1,g2,g3,x1,x2,x3,y1,y2,z1,z2,w1,w2,g,aPt,sPt,aI,sI,aV,number,FP.free,cC,FP.apart]
end
theorem yl {X:List P2}{cs:Ω}{i:Nat}(hi:i<cs.length):cnC X cs i=at2 X cs[i]:=by
 unfold cnC at2
 rw[lI hi]
theorem QR (a b z:P2):fk a b z<0 ↔ cr a b z<0:=by
 rcases jn a b z with ⟨h,k⟩| ⟨h,k⟩| ⟨h,k⟩ <;> rw[h] <;> constructor <;> intro t <;> first | grind | omega
section
variable {L:Lst} {run:av} {k:Nat} {X:List P2} {cs:Ω}
theorem aaa (hL:bC L 26=fun a=>cmF (aK a))(hsz:∀ i,i<X.length→Rb2 1000 (at2 X i))(hcs:∀ i (h:i<cs.length),cs[i]<X.length)(hk:cs.length<k)(h9:cs.length≤100)(hk1:0<k)(hp:Θ)(fr:Ψ)(wr:Ω)(hO:cH 1 ei 0 hp (cs.map Int.ofNat) (nth fr 5))(h0:fr.length=168)(h00:nth fr 0=qP X)(h11:nth fr 11=iv 0)(h12:nth fr 12=iv 1) :
  ∃ fr' wr',ae (CC L) run k (.block 4 (.loop rhG)) ⟨fr,hp,wr⟩=some (.normal,⟨fr',hp,wr'⟩)∧dX (df rhG) fr fr'∧nth fr' 11=iv (amN (cnC X cs) cs.length):=by
 have hl:dc (nth fr 5)=some cs.length:=by rw[hO.len,length_map]
 by_cases hne:cs=[]
 ·subst hne
  obtain⟨fr1,a1⟩:=Lp.test (C:=CC L) (run:=run) (k:=k) (l:=pf rhG) (body:=kS) (m:=168) (j:=1) (n:=0) (wr:=wr) (hp:=hp) (by kernel_rfl) ⟨_,mZ⟩ h0 h12 rfl hl
  have a2:ae (CC L) run k (seq1 rhG) ⟨fr,hp,wr⟩=some (.exit 4,⟨fr1,hp,wr⟩):=a1
  have a3:ae (CC L) run k rhG ⟨fr,hp,wr⟩=some (.exit 4,⟨fr1,hp,wr⟩):=by
   rw[show rhG = .seq (seq1 rhG) (aO rhG) from rfl,ae,a2]
  have K:=aP _ a3
  have K2:=aP _ a2
  exact⟨fr1,wr,bD (bG (br (n:=0) a3) (by omega)),K,K2.at h11⟩
 ·obtain⟨cid,x,M,hC⟩:=WJ hO hne
  have hn1:0<cs.length:=length_pos_iff.2 hne
  obtain⟨fr',hp',wr',a1,a2,a3,a4⟩:=Lp.go (C:=CC L) (run:=run) (k:=k) (l:=pf rhG) (body:=kS) (m:=168) (B:=rhG) rfl (by kernel_rfl) (by kernel_rfl) (by kernel_rfl) ⟨_,mZ⟩ (n:=cs.length) (j0:=1) (by omega) (by omega) (by omega)
   (J:=fun j f hp'=>hp'=hp∧f 11=iv (amN (cnC X cs) j)) (fr0:=fr) (hp0:=hp) (wr0:=wr) h0 rfl hl h12
   (fun j f g hp' hfg ⟨c1,c2⟩=>⟨c1,by rw[← hfg 11 (by kernel_rfl)];exact c2⟩)
   (fun j fr1 hp1 wr1 hj1 hj hK hij ⟨c1,c2⟩=>by
    subst c1
    have l1:=hK.len h0
    have hC1:CsO hp1 (nth fr1 5) cs cid x M:=by rw[hK.at rfl];exact hC
    have ham:=yz (cnC X cs) j (by omega)
    have ha:amN (cnC X cs) j<cs.length:=by omega
    obtain⟨fr2,wr2,b1,b2,b3⟩:=aia L run k fr1 hp1 wr1 X cs cid x M hC1 j _ hj ha (hcs _ hj) (hcs _ ha) l1 (hK.at h00) hij c2
    have K2:=aP _ b1
    have l2:=K2.len l1
    have s1:=hsz _ (hcs _ hj)
    have s2:=hsz _ (hcs _ ha)
    obtain⟨fr3,wr3,d1,d2⟩:=ah9 L run k fr2 hp1 wr2 _ _ _ (ads hL run s1.1 s2.1 (by omega) (by omega)) l2 b2 b3
    have K3:=aP _ d1
    have l3:=K3.len l2
    obtain⟨fr4,wr4,e1,e2⟩:=ah8 L run k fr3 hp1 wr3 _ _ _ (ads hL run s1.2 s2.2 (by omega) (by omega)) l3 (K3.at b2) (K3.at b3) d2
    have K4:=aP _ e1
    have l4:=K4.len l3
    have hu:(decide ((at2 X cs[j]).1<(at2 X (cs[amN (cnC X cs) j])).1) || (decide ((at2 X cs[j]).1=(at2 X (cs[amN (cnC X cs) j])).1) && decide (fI (at2 X cs[j]).2 (at2 X (cs[amN (cnC X cs) j])).2<0)))=decide (lx (cnC X cs j) (cnC X cs (amN (cnC X cs) j))):=by
     rw[yl hj,yl ha]
     have e:fI (at2 X cs[j]).2 (at2 X (cs[amN (cnC X cs) j])).2<0 ↔ (at2 X cs[j]).2<(at2 X (cs[amN (cnC X cs) j])).2:=by
      rcases iY (at2 X cs[j]).2 (at2 X (cs[amN (cnC X cs) j])).2 with ⟨h,e⟩| ⟨h,e⟩| ⟨h,e⟩ <;> rw[e] <;> constructor <;> intro t <;> first | grind | omega
     rw[decide_eq_decide.2 e,← Bool.decide_and,← Bool.decide_or]
     rfl
    rw[hu] at e2
    have am1:amN (cnC X cs) (j+1)=if lx (cnC X cs j) (cnC X cs (amN (cnC X cs) j)) then j else amN (cnC X cs) j:=rfl
    have hb:ae (CC L) run k (.cond (.tmp 111) (ik (aO (aO (aO kS)))) .skip) ⟨fr4,hp1,wr4⟩=ae (CC L) run k (.block 5 kS) ⟨fr1,hp1,wr1⟩→True:=fun _=>trivial
    by_cases hlt:lx (cnC X cs j) (cnC X cs (amN (cnC X cs) j))
    ·rw[decide_eq_true hlt] at e2
     rw[if_pos hlt] at am1
     obtain⟨fr5,g1,g2⟩:=ah7 L run k fr4 hp1 wr4 j l4 (K4.at (K3.at (K2.at hij)))
     refine⟨fr5,hp1,wr4,?_,rfl,by rw[am1];exact g2⟩
     have:ae (CC L) run k kS ⟨fr1,hp1,wr1⟩=some (.normal,⟨fr5,hp1,wr4⟩):=by
      rw[KL,ao b1,ao d1,ao e1]
      simp only[ae,aj,e2]
      rw[g1]
     simp only[ae,this]
    ·rw[decide_eq_false hlt] at e2
     rw[if_neg hlt] at am1
     refine⟨fr4,hp1,wr4,?_,rfl,by rw[am1];exact K4.at (K3.at (K2.at c2))⟩
     have:ae (CC L) run k kS ⟨fr1,hp1,wr1⟩=some (.normal,⟨fr4,hp1,wr4⟩):=by
      rw[KL,ao b1,ao d1,ao e1]
      simp[e2]
     simp only[ae,this])
   ⟨rfl,by
    have:amN (cnC X cs) 1=0:=by unfold amN;split <;> rfl
    rw[this];exact h11⟩
  subst a3
  exact⟨fr',wr',a1,a2,a4⟩
theorem Z9 (hL:bC L 76=fun a=>tuF (aK a))(hsz:∀ i,i<X.length→Rb2 1000 (at2 X i))(hcs:∀ i (h:i<cs.length),cs[i]<X.length)(hk:cs.length<k)(h9:cs.length≤100)(hp:Θ)(fr:Ψ)(wr:Ω)(cid:Nat)(x:Bool)(M:Ψ)(hC:CsO hp (nth fr 5) cs cid x M)(a:Nat)(ha:a<cs.length)(h0:fr.length=168)(h00:nth fr 0=qP X)(h11:nth fr 11=iv a)(h16:nth fr 16=iv a)(h17:nth fr 17=iv 0) :
  ∃ fr' wr',ae (CC L) run k (.block 8 (.loop rhV)) ⟨fr,hp,wr⟩=some (.normal,⟨fr',hp,wr'⟩)∧dX (df rhV) fr fr'∧nth fr' 16=iv (gwN (cnC X cs) a cs.length):=by
 have hl:dc (nth fr 5)=some cs.length:=by rw[hC.eq];rfl
 obtain⟨fr',hp',wr',a1,a2,a3,a4⟩:=Lp.go (C:=CC L) (run:=run) (k:=k) (l:=pf rhV) (body:=uT) (m:=168) (B:=rhV) rfl (by kernel_rfl) (by kernel_rfl) (by kernel_rfl) ⟨_,mZ⟩ (n:=cs.length) (j0:=0) (by omega) (by omega) (by omega)
  (J:=fun j f hp'=>hp'=hp∧f 16=iv (gwN (cnC X cs) a j)) (fr0:=fr) (hp0:=hp) (wr0:=wr) h0 rfl hl h17
  (fun j f g hp' hfg ⟨c1,c2⟩=>⟨c1,by rw[← hfg 16 (by kernel_rfl)];exact c2⟩)
  (fun j fr1 hp1 wr1 hj1 hj hK hij ⟨c1,c2⟩=>by
   subst c1
   have l1:=hK.len h0
   have hC1:CsO hp1 (nth fr1 5) cs cid x M:=by rw[hK.at rfl];exact hC
   have hm:=B6 (C:=cnC X cs) ha j (by omega)
   obtain⟨fr2,wr2,b1,b2⟩:=ahV L run k fr1 hp1 wr1 X cs cid x M hC1 j a _ hj ha hm (hcs _ hj) (hcs _ ha) (hcs _ hm) _ (ahe hL run (hsz _ (hcs _ ha)) (hsz _ (hcs _ hm)) (hsz _ (hcs _ hj)) (by omega)) l1 (hK.at h00) hij (hK.at h11) c2
   have K2:=aP _ b1
   have l2:=K2.len l1
   have hg:gwN (cnC X cs) a (j+1)=gwS (cnC X cs) a (gwN (cnC X cs) a j) j:=rfl
   have hu:(decide (j≠a) && (decide (gwN (cnC X cs) a j=a) || decide (fk (at2 X cs[a]) (at2 X (cs[gwN (cnC X cs) a j])) (at2 X cs[j])<0)))=decide (j≠a∧(gwN (cnC X cs) a j=a∨cr (cnC X cs a) (cnC X cs (gwN (cnC X cs) a j)) (cnC X cs j)<0)):=by
    rw[yl hj,yl ha,yl hm,decide_eq_decide.2 (QR _ _ _),← Bool.decide_or,← Bool.decide_and]
   rw[hu] at b2
   by_cases hlt:j≠a∧(gwN (cnC X cs) a j=a∨cr (cnC X cs a) (cnC X cs (gwN (cnC X cs) a j)) (cnC X cs j)<0)
   ·rw[decide_eq_true hlt] at b2
    obtain⟨fr5,g1,g2⟩:=ahU L run k fr2 hp1 wr2 j l2 (K2.at hij)
    refine⟨fr5,hp1,wr2,?_,rfl,by rw[hg,gwS,if_pos hlt];exact g2⟩
    have:ae (CC L) run k uT ⟨fr1,hp1,wr1⟩=some (.normal,⟨fr5,hp1,wr2⟩):=by
     rw[KK,ao b1]
     simp only[ae,aj,b2]
     rw[g1]
    simp only[ae,this]
   ·rw[decide_eq_false hlt] at b2
    refine⟨fr2,hp1,wr2,?_,rfl,by rw[hg,gwS,if_neg hlt];exact K2.at c2⟩
    have:ae (CC L) run k uT ⟨fr1,hp1,wr1⟩=some (.normal,⟨fr2,hp1,wr2⟩):=by
     rw[KK,ao b1]
     simp[b2]
    simp only[ae,this])
  ⟨rfl,h16⟩
 subst a3
 exact⟨fr',wr',a1,a2,a4⟩
theorem XJ {C:Nat→V2}{n a:Nat}(ha:a<n):∀ t,atK C n a t<n
 | 0=>ha
 | t+1=>B6 (XJ ha t) n (Nat.le_refl _)
theorem Z8 (hL:bC L 76=fun a=>tuF (aK a))(hsz:∀ i,i<X.length→Rb2 1000 (at2 X i))(hcs:∀ i (h:i<cs.length),cs[i]<X.length)(hk:cs.length<k)(h9:cs.length≤100)(hp:Θ)(fr:Ψ)(wr:Ω)(hO:cH 1 ei 0 hp (cs.map Int.ofNat) (nth fr 5))(a:Nat)(ha:cs≠[]→a<cs.length)(h0:fr.length=168)(h00:nth fr 0=qP X)(h10:nth fr 10 = .sc (.slice none 0 0))(h11:nth fr 11=iv a) :
  ∃ st,ae (CC L) run k (.block 6 (.loop rhW)) ⟨fr,hp,wr⟩=some (.normal,st)∧cH 1 ei 0 st.hp ((List.range cs.length).map fun t=>Int.ofNat (cs.getD (atK (cnC X cs) cs.length a t) 0)) (nth st.fr 10)∧st.fr.length=168:=by
 have hl:dc (nth fr 5)=some cs.length:=by rw[hO.len,length_map]
 obtain⟨st,a1,a2⟩:=lK (C:=CC L) (run:=run) (k:=k) (e:=6) (b:=rhW) (n:=cs.length) (st:=⟨fr,hp,wr⟩)
  (Inv:=fun t st=>dX (df rhW) fr st.fr∧nth st.fr 11=iv (atK (cnC X cs) cs.length a t)∧cH 1 ei hp.length st.hp ((List.range t).map fun t=>Int.ofNat (cs.getD (atK (cnC X cs) cs.length a t) 0)) (nth st.fr 10)∧∀ j,j<hp.length→aX st.hp j=aX hp j)
  (Q:=fun st=>cH 1 ei 0 st.hp ((List.range cs.length).map fun t=>Int.ofNat (cs.getD (atK (cnC X cs) cs.length a t) 0)) (nth st.fr 10)∧st.fr.length=168) hk
  (fun t st ht ⟨iK,i11,iO,iH⟩=>by
   obtain⟨fr0,hp0,wr0⟩:=st
   dsimp only at iK i11 iO iH
   have hne:cs≠[]:=fun e=>by rw[e] at ht;simp at ht
   have ha':=ha hne
   obtain⟨cid,x,M,hC⟩:=WJ hO hne
   have hcl:=gp hC.bl
   have l0:=iK.len h0
   have hat:=XJ (C:=cnC X cs) ha' t
   obtain⟨fr1,b1,b2⟩:=adE L run k fr0 hp0 wr0 t cs.length _ _ (by rw[iO.len];simp) hl l0 rfl (iK.at rfl)
   rw[decide_eq_true ht] at b2
   have K1:=aP _ b1
   have l1:=K1.len l0
   have b3:ae (CC L) run k (.seq (seq1 (seq1 rhW)) (.cond (.tmp 117) .skip (.exit 6))) ⟨fr0,hp0,wr0⟩=some (.normal,⟨fr1,hp0,wr0⟩):=by
    rw[ao b1];simp[b2]
   have e5:nth fr1 5=nth fr 5:=K1.at (iK.at rfl)
   have hC1:CsO hp0 (nth fr1 5) cs cid x M:=⟨by rw[e5];exact hC.eq,(iH cid hcl).trans hC.bl,hC.at_⟩
   have e10:nth fr1 10=nth fr0 10:=K1.at rfl
   rw[← e10] at iO
   obtain⟨fr2,hp2,wr2,c1,c2,c3⟩:=ahN L run k fr1 hp0 wr0 cs cid x M hp.length _ _ hC1 hat (by simp;omega) iO l1 (K1.at i11)
   have K2:=aP _ c1
   have l2:=K2.len l1
   have f11:=K2.at (K1.at i11)
   obtain⟨fr3,d1,d2⟩:=ahM L run k fr2 hp2 wr2 _ l2 f11
   have K3:=aP _ d1
   have l3:=K3.len l2
   obtain⟨fr4,g1,g2⟩:=ahL L run k fr3 hp2 wr2 l3
   have K4:=aP _ g1
   have l4:=K4.len l3
   have hC4:CsO hp2 (nth fr4 5) cs cid x M:=⟨by rw[K4.at (K3.at (K2.at e5))];exact hC.eq,(c3 cid hcl).trans ((iH cid hcl).trans hC.bl),hC.at_⟩
   obtain⟨fr5,wr5,m1,K5,m2⟩:=Z9 (run:=run) (k:=k) hL hsz hcs hk h9 hp2 fr4 wr2 cid x M hC4 _ hat l4 (K4.at (K3.at (K2.at (K1.at (iK.at h00))))) (K4.at (K3.at f11)) (K4.at d2) g2
   obtain⟨fr6,n1,n2⟩:=ahK L run k fr5 hp2 wr5 _ (K5.len l4) m2
   have K6:=aP _ n1
   have hs:ae (CC L) run k (.seq (seq1 (seq1 Hr)) (.block 8 (.loop rhV))) ⟨fr3,hp2,wr2⟩=some (.normal,⟨fr5,hp2,wr5⟩):=by rw[ao g1];exact m1
   have hW:ae (CC L) run k (.block 7 mV) ⟨fr1,hp0,wr0⟩=some (.normal,⟨fr6,hp2,wr5⟩):=by
    have:ae (CC L) run k mV ⟨fr1,hp0,wr0⟩=some (.normal,⟨fr6,hp2,wr5⟩):=by
     rw[ZY,ao c1,ao d1,ao hs,n1]
    simp only[ae,this]
   have hr:ae (CC L) run k rhW ⟨fr0,hp0,wr0⟩=some (.normal,⟨fr6,hp2,wr5⟩):=by
    rw[Sp,ao b3,hW]
   have e6:nth fr6 10=nth fr2 10:=K6.at (K5.at (K4.at (K3.at rfl)))
   refine⟨_,hr,iK.trans (aP _ hr),n2,?_,fun j hj=>(c3 j hj).trans (iH j hj)⟩
   show cH 1 ei hp.length hp2 _ (nth fr6 10)
   rw[range_succ,map_append,e6,map_cons,map_nil,lI hat]
   exact c2)
  (fun st ⟨iK,i11,iO,iH⟩=>by
   obtain⟨fr0,hp0,wr0⟩:=st
   dsimp only at iK i11 iO iH
   have l0:=iK.len h0
   obtain⟨fr1,b1,b2⟩:=adE L run k fr0 hp0 wr0 cs.length cs.length _ _ (by rw[iO.len];simp) hl l0 rfl (iK.at rfl)
   rw[decide_eq_false (by omega)] at b2
   have K1:=aP _ b1
   refine⟨⟨fr1,hp0,wr0⟩,?_,?_,K1.len l0⟩
   ·have b3:ae (CC L) run k (.seq (seq1 (seq1 rhW)) (.cond (.tmp 117) .skip (.exit 6))) ⟨fr0,hp0,wr0⟩=some (.exit 6,⟨fr1,hp0,wr0⟩):=by
     rw[ao b1];simp[b2]
    rw[Sp,ae,b3]
   ·show cH 1 ei 0 hp0 _ (nth fr1 10)
    rw[K1.at rfl]
    exact cH.low iO (Nat.zero_le _))
  ⟨dX.refl _ _,h11,by
   show cH 1 ei hp.length hp [] (nth fr 10)
   rw[h10];exact cH.nil (Nat.le_refl _),fun _ _=>rfl⟩
 exact⟨st,a1,a2⟩
end
section
variable (L:Lst) (run:av) (k:Nat) (fr:Ψ) (hp:Θ) (wr:Ω)
theorem aeT (c:Pl)(e:Nat)(g:aA L run 73 [cE c] (iv e)) :
  (e≠0→∃ st,ae (CC L) run k rhC ⟨entry 168 [cE c],[],[]⟩=some (.ret,st)∧aY TT st.fr st.hp Tryz.f29.results.toList=some [.sc (.slice none 0 0),iv e]) ∧
  (e=0→∃ fr0 fr1 fr2 fr3,ae (CC L) run k (seq1 rhC) ⟨entry 168 [cE c],[],[]⟩=some (.normal,⟨fr0,[],[]⟩)∧ae (CC L) run k (seq1 (aO rhC)) ⟨fr0,[],[]⟩=some (.normal,⟨fr1,[],[]⟩)∧ae (CC L) run k (seq1 (aO (aO rhC))) ⟨fr1,[],[]⟩=some (.normal,⟨fr2,[],[]⟩)∧ae (CC L) run k (seq1 rhT) ⟨fr2,[],[]⟩=some (.normal,⟨fr3,[],[]⟩)∧fr3.length=168∧nth fr3 0=cE c∧nth fr3 5 = .sc (.slice none 0 0)):=by
 obtain⟨e1,e2⟩:=cV 167 (cE c)
 generalize entry 168 [cE c]=fr0 at *
 generalize cE c=C at *
 obtain⟨fr1,a1,a2,a3⟩:∃ fr1,ae (CC L) run k (seq1 rhC) ⟨fr0,[],[]⟩=some (.normal,⟨fr1,[],[]⟩)∧fr1.length=168∧nth fr1 0=C:=by
  simp[Tryz.f29,e1,e2]
 unfold aA at g
 simp only[iv] at g
 obtain⟨fr2,b1,b2,b3,b4⟩:∃ fr2,ae (CC L) run k (seq1 (aO rhC)) ⟨fr1,[],[]⟩=some (.normal,⟨fr2,[],[]⟩)∧fr2.length=168∧nth fr2 0=C∧nth fr2 4 = .sc (.int .i64 (e:Int)):=by
  simp[Tryz.f29,aM,a2,a3,g]
 constructor
 ·intro he
  have hb:(((e:Nat):Int) != 0)=true:=by simpa using he
  obtain⟨st,d1,d2⟩:∃ st,ae (CC L) run k (seq1 (aO (aO rhC))) ⟨fr2,[],[]⟩=some (.ret,st)∧aY TT st.fr st.hp Tryz.f29.results.toList=some [.sc (.slice none 0 0),iv e]:=by
   simp[Tryz.f29,b2,b4,hb,aY]
  exact⟨st,by rw[Sq];exact (ao a1).trans ((ao b1).trans (bK d1)),d2⟩
 ·rintro rfl
  obtain⟨fr3,d1,d2,d3⟩:∃ fr3,ae (CC L) run k (seq1 (aO (aO rhC))) ⟨fr2,[],[]⟩=some (.normal,⟨fr3,[],[]⟩)∧fr3.length=168∧nth fr3 0=C:=by
   simp[Tryz.f29,b2,b3,b4]
  refine⟨fr1,fr2,fr3,?_⟩
  simp only[a1,b1,d1,true_and]
  simp[Tryz.f29,d2,d3]
theorem ajS (h0:fr.length=168):∃ fr',ae (CC L) run k (seq1 (seq1 (aO rhT))) ⟨fr,hp,wr⟩=some (.normal,⟨fr',hp,wr⟩)∧nth fr' 6=iv 0:=by
 simp[Tryz.f29,h0]
theorem ah6 (h0:fr.length=168):∃ fr',ae (CC L) run k (seq1 (aO (aO rhT))) ⟨fr,hp,wr⟩=some (.normal,⟨fr',hp,wr⟩)∧nth fr' 10 = .sc (.slice none 0 0):=by
 simp[Tryz.f29,h0]
theorem ah5 (h0:fr.length=168):∃ fr',ae (CC L) run k (seq1 (aO (aO (aO rhT)))) ⟨fr,hp,wr⟩=some (.normal,⟨fr',hp,wr⟩)∧nth fr' 11=iv 0:=by
 simp[Tryz.f29,h0]
theorem ah4 (h0:fr.length=168):∃ fr',ae (CC L) run k (seq1 (seq1 rhU)) ⟨fr,hp,wr⟩=some (.normal,⟨fr',hp,wr⟩)∧nth fr' 12=iv 1:=by
 simp[Tryz.f29,h0]
theorem ah3 (q:PV)(h0:fr.length=168)(h10:nth fr 10=q):∃ st,ae (CC L) run k (aO (aO rhU)) ⟨fr,hp,wr⟩=some (.ret,st)∧st.hp=hp∧aY TT st.fr st.hp Tryz.f29.results.toList=some [q,iv 0]:=by
 simp[Tryz.f29,h0,h10,aY]
end
noncomputable def LZh:Lst:=[(73,uw),(74,Hl),(75,IY),(26,cmF),(76,tuF)]
theorem agU:dt base.P LZh:=⟨xl,R9,EY,Cj,Bi,trivial⟩
theorem Hq:Ab.Spec base.P 29 E8:=Ab.Spec.bL (C:=CC LZh) (cP agU) fun args rs h=>by
 obtain⟨c,⟨hF,hc⟩,rfl,rfl⟩:=cX h
 obtain⟨hp1,hp2⟩:=aeT LZh (runK (CC LZh) 200) 200 c (eL c) (Cu rfl _ c hF.fit)
 by_cases he:eL c=0
 ·obtain⟨x1,x2,x3,x4,x5,x6⟩:=nW he hF
  obtain⟨fr0,fr1,fr2,fr3,a0,a1,a2,a3,l3,f0,f5⟩:=hp2 he
  have hc:=hc he
  have hP:Pln c:=fun p hp=>(x6 p hp).2.1
  have up:∀ {p:P2},Rb2 61 p→Rb2 1000 p:=fun h=>⟨h.1.mono (by omega),h.2.mono (by omega)⟩
  have hsz:∀ p ∈ c,Rb2 1000 (fR p):=fun p hp=>up (x6 p hp).2.2
  have hszX:∀ i,i<(toP c).length→Rb2 1000 (at2 (toP c) i):=fun i hi=>up (x2 i hi)
  obtain⟨fr4,b1,b2⟩:=ajS LZh (runK (CC LZh) 200) 200 fr3 [] [] l3
  have K4:=aP _ b1
  obtain⟨fr5,hp5,wr5,c1,K5,c2⟩:=aac (L:=LZh) (run:=runK (CC LZh) 200) (k:=200) rfl rfl c hP hsz (by omega) (by omega) fr4 [] (K4.len l3) (K4.at f0) (K4.at f5) b2
  have l5:=K5.len (K4.len l3)
  obtain⟨fr6,d1,d2⟩:=ah6 LZh (runK (CC LZh) 200) 200 fr5 hp5 wr5 l5
  have K6:=aP _ d1
  obtain⟨fr7,e1,e2⟩:=ah5 LZh (runK (CC LZh) 200) 200 fr6 hp5 wr5 (K6.len l5)
  have K7:=aP _ e1
  obtain⟨fr8,g1,g2⟩:=ah4 LZh (runK (CC LZh) 200) 200 fr7 hp5 wr5 (K7.len (K6.len l5))
  have K8:=aP _ g1
  have l8:=K8.len (K7.len (K6.len l5))
  have e85:nth fr8 5=nth fr5 5:=K8.at (K7.at (K6.at rfl))
  have e80:nth fr8 0=qP (toP c):=by
   rw[← x1]
   exact K8.at (K7.at (K6.at (K5.at (K4.at f0))))
  rw[← e85] at c2
  have hcl:=LV (toP c) c.length
  have hcs:∀ i (h:i<(cnL (toP c) c.length).length),(cnL (toP c) c.length)[i]<(toP c).length:=fun i h=>by
   have:=getElem_mem h
   unfold cnL at this
   rw[mem_filter,mem_range] at this
   rw[x3];exact this.1
  obtain⟨fr9,wr9,m1,K9,m2⟩:=aaa (L:=LZh) (run:=runK (CC LZh) 200) (k:=200) rfl hszX hcs (by omega) (by omega) (by omega) hp5 fr8 wr5 c2 l8 e80 (K8.at e2) g2
  have e95:nth fr9 5=nth fr8 5:=K9.at rfl
  rw[← e95] at c2
  obtain⟨⟨fr10,hp10,wr10⟩,n1,n2,n3⟩:=Z8 (L:=LZh) (run:=runK (CC LZh) 200) (k:=200) rfl hszX hcs (by omega) (by omega) hp5 fr9 wr9 c2 _ (fun hne=>yz _ _ (length_pos_iff.2 hne)) (K9.len l8) (K9.at e80) (K9.at (K8.at (K7.at d2))) m2
  dsimp only at n2 n3
  obtain⟨st,q1,q2',q3⟩:=ah3 LZh (runK (CC LZh) 200) 200 fr10 hp10 wr10 _ n3 rfl
  have s1:ae (CC LZh) (runK (CC LZh) 200) 200 (.seq (seq1 (seq1 (aO rhT))) (.block 0 (.loop rhA))) ⟨fr3,[],[]⟩=some (.normal,⟨fr5,hp5,wr5⟩):=by rw[ao b1];exact c1
  have s2:ae (CC LZh) (runK (CC LZh) 200) 200 (.seq (seq1 (seq1 rhU)) (.block 4 (.loop rhG))) ⟨fr7,hp5,wr5⟩=some (.normal,⟨fr9,hp5,wr9⟩):=by rw[ao g1];exact m1
  have hx:ae (CC LZh) (runK (CC LZh) 200) 200 rhC ⟨entry 168 [cE c],[],[]⟩=some (.ret,st):=by
   rw[Sq,ao a0,ao a1,ao a2,ao a3,ao s1,ao d1,ao e1,ao s2,ao n1];exact q1
  have hm:((List.range (cnL (toP c) c.length).length).map fun t=>Int.ofNat ((cnL (toP c) c.length).getD (atK (cnC (toP c) (cnL (toP c) c.length)) (cnL (toP c) c.length).length (amN (cnC (toP c) (cnL (toP c) c.length)) (cnL (toP c) c.length).length) t) 0))=(lH c).map Int.ofNat:=by
   unfold lH
   rw[decide_eq_true he,cond_true,← aeU]
   unfold aeV
   simp only[x3]
   rw[map_map];rfl
  rw[hm] at n2
  obtain⟨rs,ids,t1,t2⟩:=ain n2 (iv 0) (fun _ _=>rfl) (Wk.refl rfl)
  refine⟨_,_,_,_,rs,ids,aZ sf rfl hx q3,by rw[q2'];exact t1,?_⟩
  rw[he];exact t2
 ·obtain⟨st,b1,b2⟩:=hp1 he
  refine⟨_,_,_,_,[.sc (.slice none 0 0),iv (eL c)],[],aZ sf rfl b1 b2,rfl,?_⟩
  have:lH c=[]:=by unfold lH;rw[decide_eq_false he];rfl
  rw[this]
  exact⟨Wk.nil false,Wk.refl rfl,trivial⟩
end Go.Proofs.YtjdmodeenbdfpaaGreat
