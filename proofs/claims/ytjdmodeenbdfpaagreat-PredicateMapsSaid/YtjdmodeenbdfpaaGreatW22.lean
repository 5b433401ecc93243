/- Contracts of numbers kept as digits in text, part 22; each lemma states its conditions. -/
import Derived.Test.YtjdmodeenbdfpaaGreatW21
set_option linter.unusedSimpArgs false
set_option linter.unusedVariables false
noncomputable section
namespace Go.Proofs.YtjdmodeenbdfpaaGreat
open Go Go.Ab List Tryz
attribute [local simp] FzZ aC aF aG aH aM aZ aa ab ae af ag ah ai aj an ao aq av bc dG
variable(L:Lst)(run:aw)(k:Nat)(fr:Ψ)(hp:Ω)(wr:Θ)
theorem wU (run:aw)(kk:Nat)(b:PV)(p s:Bool)(x:Ω)(Y:Nat)(hx:T.Dok x)(hx9:x.length<7000000)(hY:0<Y)(hY9:(T.aK Y).length<7000000)(hkk:11≤kk) :
  ∀ (J R:Nat) (fr:Ψ) (hp:Θ) (wr:Ω) (out:Ω) (q:PV),J≤x.length→R<Y→out.length+J≤x.length→T.Dok out→T.val (x.drop J)=Y*T.val out.reverse+R→QF fr b p s x (T.aK Y) q (.sc (.int .i64 ((J:Int) - 1)))→nth fr 18=bx (T.aK R)→dw iv 0 hp out q →
  ∃ (fr':Ψ) (hp':Θ) (wr':Ω) (out':Ω) (q':PV),ch (af (CC LT6) run kk iQ) (J+1) ⟨fr,hp,wr⟩=some (.exit 0,⟨fr',hp',wr'⟩)∧QF fr' b p s x (T.aK Y) q' (.sc (.int .i64 (-1)))∧nth fr' 18=bx (T.aK (T.val x % Y))∧dw iv 0 hp' out' q'∧T.Dok out'∧T.val out'.reverse=T.val x / Y∧out'.length≤x.length
 | 0,R,fr,hp,wr,out,q,hJ,hR,hol,hod,hv,h,h18,hO=>by
  have h':QF fr b p s x (T.aK Y) q (.sc (.int .i64 (-1))):=h
  obtain⟨fr',g1,g2,g3⟩:=NF LT6 run kk fr hp wr b p s x _ _ q h' h18
  rw[drop_zero] at hv
  have e1:T.val x % Y=R:=by rw[hv,Nat.mul_add_mod,Nat.mod_eq_of_lt hR]
  have e2:T.val x / Y=T.val out.reverse:=by rw[hv,Nat.mul_add_div hY,Nat.div_eq_of_lt hR,Nat.add_zero]
  exact⟨fr',hp,wr,out,q,bE g1,g2,by rw[g3,e1],hO,hod,e2.symm,by omega⟩
 | i+1,R,fr,hp,wr,out,q,hJ,hR,hol,hod,hv,h,h18,hO=>by
  have hi:i<x.length:=by omega
  have h':QF fr b p s x (T.aK Y) q (iv i):=by
   have e:PV.sc (.int .i64 (((i+1:Nat):Int) - 1))=iv i:=by simp[iv]
   rw[← e];exact h
  have hR9:=T.cG (Nat.le_of_lt hR)
  have hd9:=T.cu hx i
  obtain⟨f1,a1,a2,a3⟩:=Tj LT6 run kk fr hp wr b p s x _ _ q i h' h18
  obtain⟨f2,hp2,wr2,b1,b2,b3,b4,b5⟩:=NH run kk f1 hp wr b p s x _ _ q i hx (T.bS R) hi (by omega) a2 a3
  rw[T.bV] at b3
  have hlt:at0 x i+10*R<(9+1)*Y:=by omega
  have hl9:(T.aK (at0 x i+10*R)).length<9000000:=by
   have h1:=T.cG (show at0 x i+10*R≤10*Y by omega)
   have h2:(T.aK (10*Y)).length≤(T.aK Y).length+1:=T.di (by
    rw[Nat.pow_succ,Nat.mul_comm]
    exact Nat.mul_lt_mul_of_pos_right (T.fD Y) (by omega))
   omega
  obtain⟨f3,c1,c2,c3,c4⟩:=wV run kk hp2 wr2 b p s x q (iv i) Y hY (by omega) 9 0 _ f2 hlt (by omega) hl9 b2 b3 b4
  rw[Nat.zero_add] at c4
  obtain⟨f4,hp4,wr4,q4,d1,d2,d3,d4⟩:=Hw LT6 run kk f3 hp2 wr2 b p s x _ _ out q (iv i) _ (by omega) c2 c3 c4 (dw.grow hO b5)
  obtain⟨f5,e1,e2,e3⟩:=Th LT6 run kk f4 hp4 wr4 b p s x _ _ q4 i (by omega) d2 d3
  have hB:af (CC LT6) run kk ud ⟨f1,hp,wr⟩=some (.normal,⟨f4,hp4,wr4⟩):=by
   rw[aQ 2 b1,NG,ar (bK (bT c1 (by omega)))]
   exact d1
  have hO1:af (CC LT6) run kk iQ ⟨fr,hp,wr⟩=some (.normal,⟨f5,hp4,wr4⟩):=by
   rw[Ti,ar a1,ar (fF hB)]
   exact e1
  have hq9:(at0 x i+10*R) / Y<10:=Nat.div_lt_of_lt_mul (by omega)
  have hdm:=Nat.div_add_mod (at0 x i+10*R) Y
  obtain⟨fr',hp',wr',out',q',r1,r2⟩:=wU run kk b p s x Y hx hx9 hY hY9 hkk i ((at0 x i+10*R) % Y) f5 hp4 wr4 (out++[(at0 x i+10*R) / Y]) q4 (by omega) (Nat.mod_lt _ hY) (by simp;omega) (hod.append (T.Dok.nil.cons hq9)) (by
   rw[T.iu x i hi,hv,reverse_append]
   show at0 x i+10*(Y*T.val out.reverse+R)=Y*((at0 x i+10*R) / Y+10*T.val out.reverse)+(at0 x i+10*R) % Y
   rw[Nat.mul_add Y,← Nat.mul_assoc Y 10,Nat.mul_comm Y 10,Nat.mul_assoc 10,Nat.mul_add 10]
   omega) e2 e3 d4
  exact⟨fr',hp',wr',out',q',by rw[ca hO1];exact r1,r2⟩
def qT:Code:=(aA (ag 10 dG)).getD .skip
def sH:Code:=match bn qT with | .seq (.block _ c) _=>c | c=>c
theorem ZH:((Region.before (iP sH))[21]?.getD 0).testBit 15=true:=by kernel_rfl
theorem ZG:((Region.before (iP sH))[21]?.getD 0).testBit 19=true:=by kernel_rfl
theorem ZF:((Region.before (iP sH))[23]?.getD 0).testBit 15=true:=by kernel_rfl
theorem ZE:((Region.before (iP sH))[23]?.getD 0).testBit 19=true:=by kernel_rfl
theorem ZD:((Region.before (iP sH))[23]?.getD 0).testBit 21=true:=by kernel_rfl
def SF (fr:Ψ)(b:PV)(p s:Bool)(r:Ω)(q:PV):Prop :=
 fr.length=164∧nth fr 1=b∧nth fr 12 = .sc (.bool p)∧nth fr 14 = .sc (.bool s)∧nth fr 18=bx r∧nth fr 17=q
theorem zZ (L:Lst)(run:aw)(k:Nat)(fr:Ψ)(hp:Θ)(wr:Ω)(b:PV)(p s:Bool)(r:Ω)(q:PV)(n i:Nat)(hn9:n<20000000)(hq:dy q=some n)(hi:n / 2≤i)(h:SF fr b p s r q)(h21:nth fr 21=iv i) :
  ∃ fr',af (CC L) run k qT ⟨fr,hp,wr⟩=some (.exit 4,⟨fr',hp,wr⟩)∧SF fr' b p s r q:=by
 obtain⟨h0,h1,h12,h14,h18,h17⟩:=h
 obtain⟨m,hm⟩:∃ m,m=n / 2:=⟨_,rfl⟩
 rw[← hm] at hi
 have hd:((n:Int) / 2)=(m:Int):=by omega
 have hm9:m<20000000:=by rw[hm];exact Nat.lt_of_le_of_lt (Nat.div_le_self _ _) hn9
 clear hm
 have hw:=cq .i64 m (hiI (by omega))
 have hlt2 : ¬ (i<m):=by omega
 simp only[iv] at h21
 simp[SF,qT,f121,aA,au,bg,bL,bf,h0,h1,h12,h14,h18,h17,h21,uL,hq,hd,hw,hlt2]
set_option maxHeartbeats 8000000 in
theorem Eo (L:Lst)(run:aw)(k:Nat)(fr:Ψ)(hp:Θ)(wr:Ω)(b:PV)(p s:Bool)(r l z:Ω)(id n i j:Nat)(hn9:n<20000000)(hn:l.length=n)(hb:aP hp id=some ⟨.live,(l++z).map iv⟩)(hi:i<n / 2)(hj:n=i+j+1)(h:SF fr b p s r (.own id 1 0 n false))(h21:nth fr 21=iv i) :
  ∃ fr' wr',af (CC L) run k qT ⟨fr,hp,wr⟩=some (.normal,⟨fr',bZ (bZ hp id ⟨.live,((l++z).set i (at0 l j)).map iv⟩) id ⟨.live,(((l++z).set i (at0 l j)).set j (at0 l i)).map iv⟩,wr'⟩)∧SF fr' b p s r (.own id 1 0 n false)∧nth fr' 21=iv (i+1):=by
 obtain⟨h0,h1,h12,h14,h18,h17⟩:=h
 obtain⟨m,hm⟩:∃ m,m=n / 2:=⟨_,rfl⟩
 have hin:i<n:=by omega
 have hjn:j<n:=by omega
 have hij:i≠j:=by omega
 rw[← hm] at hi
 have hm9:m<20000000:=by rw[hm];exact Nat.lt_of_le_of_lt (Nat.div_le_self _ _) hn9
 have hw:=cq .i64 m (hiI (Nat.le_trans (Nat.le_of_lt hm9) (by decide)))
 have hw1:=cM n (Nat.lt_trans hn9 (by decide))
 have hw2:bF .i64 ((n:Int) - 1 - (i:Int))=(j:Int):=by rw[show ((n:Int) - 1 - (i:Int))=(j:Int) by omega];exact cq .i64 j (hiI (Nat.le_trans (Nat.le_of_lt (Nat.lt_trans hjn hn9)) (by decide)))
 have hwi:=bA i (Nat.lt_trans (Nat.lt_trans hin hn9) (by decide))
 have hd:((n:Int) / 2)=(m:Int):=by rw[hm];rfl
 clear hm
 have hil:i<(l++z).length:=by simp;omega
 have hjl:j<(l++z).length:=by simp;omega
 have ha:at0 (l++z) i=at0 l i:=by unfold at0;rw[getElem?_append_left (by omega)]
 have hb':at0 (l++z) j=at0 l j:=by unfold at0;rw[getElem?_append_left (by omega)]
 have hd1:=fE (l++z) i hil
 have hd2:=fE (l++z) j hjl
 rw[ha] at hd1
 rw[hb'] at hd2
 have hov:=mu (e:=iv) (l++z) i (at0 l j) hil
 have hov2:=mu (e:=iv) ((l++z).set i (at0 l j)) j (at0 l i) (by rw[length_set];exact hjl)
 have hsb:aP (bZ hp id ⟨.live,((l++z).set i (at0 l j)).map iv⟩) id=some ⟨.live,((l++z).set i (at0 l j)).map iv⟩:=by rw[cI hb,if_pos rfl]
 generalize at0 l i=a at *
 generalize at0 l j=c at *
 generalize l++z=lz at *
 have hb1:=ZH
 have hb2:=ZG
 have hb3:=ZF
 have hb4:=ZE
 have hb5:=ZD
 simp[-Nat.testBit_zero,sH,qT,f121,aA,bn,iP] at hb1 hb2 hb3 hb4 hb5
 simp only[iv] at h21 ⊢
 simp[-Nat.testBit_zero,-map_set,hb1,hb2,hb3,hb4,hb5,SF,qT,f121,aA,au,bg,bL,aU,bh,partOf,bf,and_assoc,iq,bd,rQ,dW,h0,h1,h12,h14,h18,h17,h21,uL,sI,aI,aX,hb,hsb,hi,hin,hjn,hd,hw,hw1,hw2,hwi,hd1,hd2,hov,hov2,qI a,qI c,number,FP.free,cD,FP.apart]
theorem mP (l:Ω)(i y m:Nat)(h:i<l.length):at0 (l.set i y) m=if m=i then y else at0 l m:=by
 by_cases e:m=i
 ·subst e;rw[if_pos rfl,df (by simpa using h)];simp
 ·rw[if_neg e,gk (fun h=>e h.symm)]
theorem Ci {a b:Ω}(hl:a.length=b.length)(h:∀ m,m<a.length→at0 a m=at0 b m):a=b:=by
 refine ext_getElem hl fun m h1 h2 => ?_
 have:=h m h1
 rwa [df h1,df h2] at this
theorem LC (l:Ω)(m:Nat)(h:m<l.length):at0 l.reverse m=at0 l (l.length - 1 - m):=by
 rw[df (by simpa using h),df (by omega),getElem_reverse]
theorem wT (L:Lst)(run:aw)(k:Nat)(b:PV)(p s:Bool)(r l z:Ω)(id n:Nat)(hn9:n<20000000)(hn:l.length=n):∀ (d i:Nat) (fr:Ψ) (hp:Θ) (wr cur:Ω),i+d=n / 2→cur.length=n→id<hp.length→aP hp id=some ⟨.live,(cur++z).map iv⟩ →
  (∀ m,m<n→at0 cur m=if m<i∨n - i≤m then at0 l (n - 1 - m) else at0 l m)→SF fr b p s r (.own id 1 0 n false)→nth fr 21=iv i →
  ∃ (fr':Ψ) (hp':Θ) (wr':Ω),ch (af (CC L) run k qT) (d+1) ⟨fr,hp,wr⟩=some (.exit 4,⟨fr',hp',wr'⟩)∧SF fr' b p s r (.own id 1 0 n false)∧dw iv 0 hp' l.reverse (.own id 1 0 n false)
 | 0,i,fr,hp,wr,cur,hd,hc,hid,hb,hI,h,h21=>by
  obtain⟨fr',g1,g2⟩:=zZ L run k fr hp wr b p s r _ n i hn9 rfl (by omega) h h21
  have e:cur=l.reverse:=Ci (by simp[hc,hn]) fun m hm=>by
   rw[hc] at hm
   rw[hI m hm,LC l m (by omega),hn]
   by_cases h1:m<i∨n - i≤m
   ·rw[if_pos h1]
   ·rw[if_neg h1]
    congr 1
    omega
  refine⟨fr',hp,wr,bE g1,g2,Nat.zero_le _,.inr ⟨id,z,Nat.zero_le _,hid,by simp[hn],?_⟩⟩
  rw[← e];exact hb
 | d+1,i,fr,hp,wr,cur,hd,hc,hid,hb,hI,h,h21=>by
  obtain⟨j,hj⟩:∃ j,n=i+j+1:=⟨n - i - 1,by omega⟩
  have hij:i<j:=by omega
  obtain⟨fr1,wr1,g1,g2,g3⟩:=Eo L run k fr hp wr b p s r cur z id n i j hn9 hc hb (by omega) hj h h21
  have e1:((cur++z).set i (at0 cur j)).set j (at0 cur i)=((cur.set i (at0 cur j)).set j (at0 cur i))++z:=by
   rw[set_append_left _ _ (by omega),set_append_left _ _ (by rw[length_set];omega)]
  rw[e1] at g1
  have hb1:aP (bZ (bZ hp id ⟨.live,((cur++z).set i (at0 cur j)).map iv⟩) id ⟨.live,(((cur.set i (at0 cur j)).set j (at0 cur i))++z).map iv⟩) id=some ⟨.live,(((cur.set i (at0 cur j)).set j (at0 cur i))++z).map iv⟩:=by
   rw[cI (b0:=⟨.live,((cur++z).set i (at0 cur j)).map iv⟩) (by rw[cI hb,if_pos rfl]),if_pos rfl]
  have hai:=hI i (by omega)
  have haj:=hI j (by omega)
  rw[if_neg (by omega)] at hai haj
  obtain⟨fr',hp',wr',q1,q2⟩:=wT L run k b p s r l z id n hn9 hn d (i+1) fr1 _ wr1 ((cur.set i (at0 cur j)).set j (at0 cur i)) (by omega) (by simp[hc]) (by rw[bC,bC];exact hid) hb1
   (fun m hm=>by
    rw[mP _ _ _ _ (by rw[length_set];omega),mP _ _ _ _ (by omega)]
    by_cases e2:m=j
    ·rw[if_pos e2,hai,if_pos (by omega)]
     congr 1
     omega
    ·rw[if_neg e2]
     by_cases e3:m=i
     ·rw[if_pos e3,haj,if_pos (by omega)]
      congr 1
      omega
     ·rw[if_neg e3,hI m hm]
      by_cases e4:m<i∨n - i≤m
      ·rw[if_pos e4,if_pos (by omega)]
      ·rw[if_neg e4,if_neg (by omega)]) g2 g3
  exact⟨fr',hp',wr',by rw[ca g1];exact q1,q2⟩
theorem ND (L:Lst)(run:aw)(k:Nat)(b:PV)(p s:Bool)(r l:Ω)(q:PV)(hn9:l.length<20000000)(fr:Ψ)(hp:Θ)(wr:Ω)(hO:dw iv 0 hp l q)(h:SF fr b p s r q)(h21:nth fr 21=iv 0) :
  ∃ (fr':Ψ) (hp':Θ) (wr':Ω),ch (af (CC L) run k qT) (l.length / 2+1) ⟨fr,hp,wr⟩=some (.exit 4,⟨fr',hp',wr'⟩)∧SF fr' b p s r q∧dw iv 0 hp' l.reverse q:=by
 obtain⟨hb,hO⟩:=hO
 rcases hO with ⟨rfl,rfl⟩| ⟨id,z,h1,h2,rfl,h3⟩
 ·obtain⟨fr',g1,g2⟩:=zZ L run k fr hp wr b p s r _ 0 0 (by omega) rfl (by omega) h h21
  exact⟨fr',hp,wr,bE g1,g2,dw.nil hb⟩
 ·obtain⟨fr',hp',wr',g1,g2,g3⟩:=wT L run k b p s r l z id l.length hn9 rfl (l.length / 2) 0 fr hp wr l (by omega) rfl h2 h3 (fun m hm=>by rw[if_neg (by omega)]) h h21
  exact⟨fr',hp',wr',g1,g2,g3⟩
theorem Lb(z:Int)(h:Zm z):az LT6 run 115 [zs z] (.tup [.sc (.bool (bw z)),bx (T.aK z.natAbs)]):=fun dr hp =>
 bu tH aae run dr hp _ [.sc (.bool (bw z)),bx (T.aK z.natAbs)] rfl rfl (Wn z h)
theorem AG(z:Int)(h:Zm z):az LT6 run 113 [zs z] (.tup (bif (eA z).ble 9 then [Ab.bJ z,.sc (.bool true)] else [Ab.bJ 0,.sc (.bool false)])):=fun dr hp=>by
 have:=bu we N6 run dr hp [zs z] _ rfl rfl (RQ z h)
 rw[this]
 cases (eA z).ble 9 <;> rfl
theorem vt(z:Int)(h1 : -9223372036854775808≤z)(h2:z≤9223372036854775807):az LT6 run 114 [.sc (.int .i64 z)] (zs z):=fun dr hp =>
 bu tI aac run dr hp _ [zs z] rfl rfl (by simp only[ug,decide_eq_true h1,decide_eq_true h2,Bool.and_self,cond_true])
set_option maxHeartbeats 1000000 in
theorem Te (L:Lst)(run:aw)(k:Nat)(s t:ByteArray)(u v:Int)(f1 f2:Bool)(hf:(f1 && f2)=false)(g1:az L run 113 [.sc (.string s)] (.tup [Ab.bJ u,.sc (.bool f1)]))(g2:az L run 113 [.sc (.string t)] (.tup [Ab.bJ v,.sc (.bool f2)])) :
  ∃ fr,ba (CC L) run k 4 dG ⟨entry 164 [.sc (.string s),.sc (.string t)],[],[]⟩=some ⟨fr,[],[]⟩∧fr.length=164∧nth fr 0 = .sc (.string s)∧nth fr 1 = .sc (.string t):=by
 obtain⟨e1,e2,e3⟩:=cC 162 (.sc (.string s)) (.sc (.string t))
 generalize entry 164 [.sc (.string s),.sc (.string t)]=fr0 at *
 unfold az at *
 simp only[Ab.bJ] at *
 cases f1 <;> cases f2 <;> simp only[Bool.and_true,Bool.and_false,Bool.and_self,Bool.true_eq_false] at hf <;> simp[f121,ba,e1,e2,e3,g1,g2,undef]
theorem Tf(s t:ByteArray)(m n:Bool)(a b:Ω)(g1:az L run 115 [.sc (.string s)] (.tup [.sc (.bool m),bx a]))(g2:az L run 115 [.sc (.string t)] (.tup [.sc (.bool n),bx b]))
  (h0':fr.length=164) (h0:nth fr 0 = .sc (.string s)) (h1:nth fr 1 = .sc (.string t)) :
  ∃ fr',ba (CC L) run k 2 (ag 4 dG) ⟨fr,[],[]⟩=some ⟨fr',[],[]⟩∧fr'.length=164∧nth fr' 1 = .sc (.string t)∧nth fr' 12 = .sc (.bool m)∧nth fr' 13=bx a∧nth fr' 14 = .sc (.bool n)∧nth fr' 15=bx b:=by
 unfold az at *
 simp[f121,ba,h0',h0,h1,g1,g2]
set_option maxHeartbeats 1000000 in
theorem Hv(b:PV)(m n:Bool)(x y:Ω)(t st:Nat)(hx9:x.length<7000000)(hy9:y.length<7000000)(ht:y.length=t+1)(hst:st=x.length - t)
  (h0':fr.length=164) (h1:nth fr 1=b) (h12:nth fr 12 = .sc (.bool m)) (h13:nth fr 13=bx x) (h14:nth fr 14 = .sc (.bool n)) (h15:nth fr 15=bx y) :
  ∃ fr',ba (CC L) run k 2 (ag 6 dG) ⟨fr,[],[]⟩=some ⟨fr',[],[]⟩∧fr'.length=164∧nth fr' 1=b∧nth fr' 12 = .sc (.bool m)∧nth fr' 13=bx x∧nth fr' 14 = .sc (.bool n)∧nth fr' 15=bx y∧nth fr' 16=iv st∧nth fr' 17 = .sc (.slice none 0 0):=by
 have hw1:bF .i64 ((y.length:Int) - 1)=(t:Int):=by rw[cM y.length (by omega)];omega
 have hmx:(if (0:Int)<(t:Int) then (t:Int) else 0)=(t:Int):=by split <;> omega
 have hmx1:mE true [.sc (.int .i64 0),.sc (.int .i64 (t:Int))]=some (.sc (.int .i64 (t:Int))):=by
  simp[mE]
  omega
 have hw2:bF .i64 ((x.length:Int) - (t:Int))=(x.length:Int) - (t:Int):=fA _ (by omega) (by omega)
 have hmx2:(if (0:Int)<(x.length:Int) - (t:Int) then (x.length:Int) - (t:Int) else 0)=(st:Int):=by split <;> omega
 have hmx3:mE true [.sc (.int .i64 0),.sc (.int .i64 ((x.length:Int) - (t:Int)))]=some (.sc (.int .i64 (st:Int))):=by
  simp[mE]
  split <;> omega
 simp only[iv]
 simp[f121,ba,h0',h1,h12,h13,h14,h15,au,bg,bL,bf,dV,uL,hw1,hmx1,hw2,hmx3]
theorem aip:eM TT 24 0 []=some (1,[]):=by
 simp[eM,uL,sI,zI,rep,dq]
theorem slT (x:Ω)(st:Nat)(hp:Θ)(h:st≤x.length):dh TT hp 24 (bx x) (some (.sc (.int .i64 (st:Int)))) none none=some (.imm (x.length - st) false ((x.drop st).map iv)):=by
 have e:bx x = .imm x.length false (x.map iv):=rfl
 rw[e]
 simp only[dh,uL,iy,sI,bnd,eD,bh]
 simp[fz,h]
 rw[cA,← map_drop,dc (by simp)]
 rw[take_of_length_le (by simp)]
set_option maxHeartbeats 1000000 in
theorem Td(b:PV)(m n:Bool)(x y:Ω)(st:Nat)(hx:T.Dok x)(hx9:x.length<7000000)(hst:st≤x.length)
  (h0':fr.length=164) (h1:nth fr 1=b) (h12:nth fr 12 = .sc (.bool m)) (h13:nth fr 13=bx x) (h14:nth fr 14 = .sc (.bool n)) (h15:nth fr 15=bx y) (h16:nth fr 16=iv st) (h17:nth fr 17 = .sc (.slice none 0 0)) :
  ∃ fr' hp' wr',ba (CC LT6) run k 1 (ag 8 dG) ⟨fr,[],[]⟩=some ⟨fr',hp',wr'⟩∧fr'.length=164∧nth fr' 1=b∧nth fr' 12 = .sc (.bool m)∧nth fr' 13=bx x∧nth fr' 14 = .sc (.bool n)∧nth fr' 15=bx y∧nth fr' 16=iv st∧nth fr' 17 = .sc (.slice none 0 0)∧nth fr' 18=bx (T.aK (T.val (x.drop st))):=by
 have hdk:=hx.drop st
 obtain⟨p',hp1,fp,hp2,fp',g1,g2,g3⟩:=FZ run false [] [] (x.drop st) T.Dok.nil hdk (by simp;omega)
 have hl:(x.drop st).length=x.length - st:=length_drop
 rw[nil_append] at g2
 have g1':cw [] 1 (.imm 0 true []) (x.length - st) ((x.drop st).map iv)=some (p',hp1,fp):=by rw[← hl];exact g1
 have hsl:=slT x st [] hst
 have hrd:fk [] 1 (.imm (x.length - st) false ((x.drop st).map iv))=some (x.length - st,(x.drop st).map iv,[]):=by simp[fk]
 have hok:=iY.N4 (x.drop st)
 have hlit:=aip
 generalize (x.drop st).map iv=cs at *
 generalize T.val (x.drop st)=V at *
 simp only[iv] at h16 ⊢
 simp[f121,ba,h0',h1,h12,h13,h14,h15,h16,h17,soft,eu,bf,and_assoc,uL,sI,bI,zI,bQ,hlit,hsl,hrd,hok,bM,g1',g2]
def BV:Code:=seq1 (seq1 (ag 9 dG))
def BU:Code:=seq1 (seq1 (ag 10 dG))
theorem SZ:ag 9 dG = .seq (.seq BV (.block 0 (.loop iQ))) (ag 10 dG):=rfl
theorem NC:ag 10 dG = .seq (.seq BU (.block 4 (.loop qT))) (ag 11 dG):=rfl
theorem Tc (L:Lst)(run:aw)(k:Nat)(fr:Ψ)(hp:Θ)(wr:Ω)(b:PV)(m n:Bool)(x y r:Ω)(st:Nat)(hst:st<20000000)
  (h0':fr.length=164) (h1:nth fr 1=b) (h12:nth fr 12 = .sc (.bool m)) (h13:nth fr 13=bx x) (h14:nth fr 14 = .sc (.bool n)) (h15:nth fr 15=bx y) (h16:nth fr 16=iv st) (h17:nth fr 17 = .sc (.slice none 0 0)) (h18:nth fr 18=bx r) :
  ∃ fr',af (CC L) run k BV ⟨fr,hp,wr⟩=some (.normal,⟨fr',hp,wr⟩)∧QF fr' b m n x y (.sc (.slice none 0 0)) (.sc (.int .i64 ((st:Int) - 1)))∧nth fr' 18=bx r:=by
 have hw:=cM st (by omega)
 simp only[iv] at h16
 simp[QF,BV,f121,seq1,h0',h1,h12,h13,h14,h15,h16,h17,h18,au,bg,and_assoc,hw]
theorem Tb (L:Lst)(run:aw)(k:Nat)(fr:Ψ)(hp:Θ)(wr:Ω)(b:PV)(m n:Bool)(x y r:Ω)(q i:PV)(h:QF fr b m n x y q i)(h18:nth fr 18=bx r) :
  ∃ fr',af (CC L) run k BU ⟨fr,hp,wr⟩=some (.normal,⟨fr',hp,wr⟩)∧SF fr' b m n r q∧nth fr' 21=iv 0:=by
 obtain⟨h0,h1,h12,h13,h14,h15,h17,h19⟩:=h
 simp[SF,BU,f121,seq1,h0,h1,h12,h14,h17,h18,and_assoc,iv]
theorem VH(m:Bool)(l:Ω)(h1:T.Dok l)(h2:l.length<10000000):az LT6 run 116 [.sc (.bool m),bx l] (zs (gL m (T.val l))):=fun dr hp =>
 bu kd EK run dr hp _ [zs (gL m (T.val l))] rfl (FL m l) (A9 m l h1 h2)
theorem Ta (run:aw)(k:Nat)(fr:Ψ)(hp hp':Θ)(wr:Ω)(b:PV)(p s:Bool)(r:Ω)(q:PV)(sq sr:ByteArray)(fp:FP)(h:SF fr b p s r q)
  (hc1:bU (CC LT6) run false hp 116 [.sc (.bool (p != s)),q]=some (.sc (.string sq),hp',fp)) (hc2:az LT6 run 116 [.sc (.bool p),bx r] (.sc (.string sr))) :
  ∃ fr' wr',ba (CC LT6) run k 1 (ag 11 dG) ⟨fr,hp,wr⟩=some ⟨fr',hp',wr'⟩∧fr'.length=164∧nth fr' 1=b∧nth fr' 12 = .sc (.bool p)∧nth fr' 14 = .sc (.bool s)∧nth fr' 22 = .sc (.string sq)∧nth fr' 23 = .sc (.string sr):=by
 obtain⟨h0,h1,h12,h14,h18,h17⟩:=h
 unfold az at hc2
 cases p <;> cases s <;> simp only[bne_self_eq_false,Bool.bne_true,Bool.bne_false,Bool.not_false] at hc1 <;> simp[f121,ba,h0,h1,h12,h14,h18,h17,dP,bf,and_assoc,uB,hc1,hc2]
set_option maxHeartbeats 1000000 in
theorem wS (L:Lst)(run:aw)(k:Nat)(fr:Ψ)(hp:Θ)(wr:Ω)(b:PV)(p s v:Bool)(sq sr:ByteArray)(hv:fc .neq sr { data:=#[48] } = some (.bool v))(hno:(v && (p != s))=false)
  (h0:fr.length=164) (h1:nth fr 1=b) (h12:nth fr 12 = .sc (.bool p)) (h14:nth fr 14 = .sc (.bool s)) (h22:nth fr 22 = .sc (.string sq)) (h23:nth fr 23 = .sc (.string sr)) :
  ∃ st,af (CC L) run k (ag 12 dG) ⟨fr,hp,wr⟩=some (.ret,st)∧bc TT st.fr st.hp f121.results.toList=some [.sc (.string sq),.sc (.string sr)]:=by
 cases v <;> cases p <;> cases s <;> simp only[bne_self_eq_false,Bool.bne_true,Bool.bne_false,Bool.not_false,Bool.and_true,Bool.and_false,Bool.and_self,Bool.true_eq_false] at hno <;> simp[f121,h0,h12,h14,h22,h23,dP,bf,uB,hv,undef]
set_option maxHeartbeats 1000000 in
theorem Tg (L:Lst)(run:aw)(k:Nat)(fr:Ψ)(hp:Θ)(wr:Ω)(b sq sr q2 r2:ByteArray)(hv:fc .neq sr { data:=#[48] } = some (.bool true))(g1:az L run 157 [.sc (.string sq),.sc (.string { data:=#[49] })] (.sc (.string q2)))(g2:az L run 66 [.sc (.string sr),.sc (.string b)] (.sc (.string r2)))
  (h0:fr.length=164) (h1:nth fr 1 = .sc (.string b)) (h12:nth fr 12 = .sc (.bool true)) (h14:nth fr 14 = .sc (.bool false)) (h22:nth fr 22 = .sc (.string sq)) (h23:nth fr 23 = .sc (.string sr)) :
  ∃ st,af (CC L) run k (ag 12 dG) ⟨fr,hp,wr⟩=some (.ret,st)∧bc TT st.fr st.hp f121.results.toList=some [.sc (.string q2),.sc (.string r2)]:=by
 unfold az at *
 simp[f121,h0,h1,h12,h14,h22,h23,dP,bf,uB,hv,g1,g2]
theorem vw:∀ (a b:List UInt8),eqL a b=decide (a=b)
 | [],[]=>rfl
 | [],_::_=>by simp[eqL]
 | _::_,[]=>by simp[eqL]
 | a::l,b::m=>by
  have:=vw l m
  simp only[eqL,this]
  have hn:(a.toNat == b.toNat)=decide (a=b):=by
   by_cases h:a=b
   ·subst h;simp
   ·rw[decide_eq_false h,beq_eq_false_iff_ne];exact fun e=>h (UInt8.toNat_inj.1 e)
  rw[hn]
  by_cases h:a=b <;> by_cases h2:l=m <;> simp[h,h2]
theorem adk (z:Int):ztx z=[48] ↔ z=0:=by
 constructor
 ·intro h
  have h1:=cO z (by rw[h];decide)
  have h2:=cO 0 (by decide)
  have:zs z=zs 0:=by unfold zs;rw[h];rfl
  rw[this,h2] at h1
  exact (Option.some.inj h1).symm
 ·intro h;subst h;rfl
theorem Dc {a b:Ω}(ha:Bok a)(hb:Bok b):tx a=tx b ↔ a=b:=by
 constructor
 ·intro h
  rw[← jO ha,h,jO hb]
 ·intro h;rw[h]
theorem re (z:Int):fc .neq (tx (ztx z)) { data:=#[48] } = some (.bool (!decide (z=0))):=by
 have e:({ data:=#[48] } : ByteArray)=tx [48]:=rfl
 have h1:decide (bO (tx (ztx z))=bO (tx [48]))=decide (z=0):=by
  have:(bO (tx (ztx z))=bO (tx [48])) ↔ z=0:=by
   rw[← adk z]
   constructor
   ·intro h
    have:tx (ztx z)=tx [48]:=by rw[← gE (tx (ztx z)),h,gE]
    exact (Dc (kX z) (Bok.nil.cons (by omega))).1 this
   ·intro h;rw[h]
  simp only[this]
 rw[e]
 simp only[fc,vw,h1]
set_option maxHeartbeats 2000000 in
theorem ZJ(s t sq sr:ByteArray)(u v q r:Int)(g1:az L run 113 [.sc (.string s)] (.tup [Ab.bJ u,.sc (.bool true)]))(g2:az L run 113 [.sc (.string t)] (.tup [Ab.bJ v,.sc (.bool true)]))
  (hv0 : ¬ v=0) (hv : ¬ v<0) (hq:bF .i64 (u.tdiv v)=q) (hr:u.tmod v=r) (hr0 : ¬ r<0) (g3:az L run 114 [.sc (.int .i64 q)] (.sc (.string sq))) (g4:az L run 114 [.sc (.int .i64 r)] (.sc (.string sr))) :
  ∃ st,af (CC L) run k dG ⟨entry 164 [.sc (.string s),.sc (.string t)],[],[]⟩=some (.ret,st)∧bc TT st.fr st.hp f121.results.toList=some [.sc (.string sq),.sc (.string sr)]:=by
 obtain⟨e1,e2,e3⟩:=cC 162 (.sc (.string s)) (.sc (.string t))
 generalize entry 164 [.sc (.string s),.sc (.string t)]=fr0 at *
 unfold az at *
 simp only[Ab.bJ] at *
 by_cases h0:r=0
 ·subst h0
  simp[f121,e1,e2,e3,au,bg,g1,g2,hv0,hq,hr,g3,g4,undef,number,FP.free]
 ·have h1:(r != 0)=true:=by simpa using h0
  simp[f121,e1,e2,e3,au,bg,dP,bf,uB,g1,g2,hv0,hv,hq,hr,hr0,h1,g3,g4,number,FP.free]
set_option maxHeartbeats 2000000 in
theorem ZI(s t sq sr:ByteArray)(u v q0 r0 q r:Int)(g1:az L run 113 [.sc (.string s)] (.tup [Ab.bJ u,.sc (.bool true)]))(g2:az L run 113 [.sc (.string t)] (.tup [Ab.bJ v,.sc (.bool true)]))
  (hv0 : ¬ v=0) (hv : ¬ v<0) (hq:bF .i64 (u.tdiv v)=q0) (hr:u.tmod v=r0) (hr0:r0<0) (hq1:bF .i64 (q0 - 1)=q) (hr1:bF .i64 (r0+v)=r) (g3:az L run 114 [.sc (.int .i64 q)] (.sc (.string sq))) (g4:az L run 114 [.sc (.int .i64 r)] (.sc (.string sr))) :
  ∃ st,af (CC L) run k dG ⟨entry 164 [.sc (.string s),.sc (.string t)],[],[]⟩=some (.ret,st)∧bc TT st.fr st.hp f121.results.toList=some [.sc (.string sq),.sc (.string sr)]:=by
 obtain⟨e1,e2,e3⟩:=cC 162 (.sc (.string s)) (.sc (.string t))
 generalize entry 164 [.sc (.string s),.sc (.string t)]=fr0 at *
 unfold az at *
 simp only[Ab.bJ] at *
 have h0 : ¬ r0=0:=by omega
 have h1:(r0 != 0)=true:=by simpa using h0
 simp[f121,e1,e2,e3,au,bg,dP,bf,uB,g1,g2,hv0,hv,hq,hr,hr0,h1,hq1,hr1,g3,g4,number,FP.free]
def uc:Ψ→Option Ψ
 | [p,q]=>match fL p,fL q with
  | some x,some y=>bif decide (0<y) then some [zs (x / y),zs (x % y)] else none
  | _,_=>none
 | _=>none
theorem sG (K:Nat)(x y:Int)(hx:Zm x)(hy:Zm y)(hy0:0<y)(hK:(T.aK x.natAbs).length+20≤K)(u v:Int)(f1 f2:Bool)(hf:(f1 && f2)=false)(q1:az LT6 (runK (CC LT6) K) 113 [zs x] (.tup [Ab.bJ u,.sc (.bool f1)]))(q2:az LT6 (runK (CC LT6) K) 113 [zs y] (.tup [Ab.bJ v,.sc (.bool f2)])) :
  ∃ st,af (CC LT6) (runK (CC LT6) K) K dG ⟨entry 164 [zs x,zs y],[],[]⟩=some (.ret,st)∧bc TT st.fr st.hp f121.results.toList=some [zs (x / y),zs (x % y)]:=by
 have hx3:=Zm.Ls hx
 have hy3:=Zm.Ls hy
 have hY:0<y.natAbs:=by omega
 have hny:bw y=false:=by rw[cK];simp;omega
 obtain⟨a1,b1,b2,b3,b4⟩:=Te LT6 (runK (CC LT6) K) K _ _ u v f1 f2 hf q1 q2
 obtain⟨a2,c1,c2,c3,c4,c5,c6,c7⟩:=Tf LT6 (runK (CC LT6) K) K a1 _ _ _ _ _ _ (Lb _ x hx) (Lb _ y hy) b2 b3 b4
 have hyl:=T.cT.2 (show y.natAbs≠0 by omega)
 obtain⟨t,ht⟩:∃ t,(T.aK y.natAbs).length=t+1:=⟨(T.aK y.natAbs).length - 1,by omega⟩
 obtain⟨st,hst⟩:∃ st,st=(T.aK x.natAbs).length - t:=⟨_,rfl⟩
 obtain⟨a3,d1,d2,d3,d4,d5,d6,d7,d8,d9⟩:=Hv LT6 (runK (CC LT6) K) K a2 _ _ _ _ _ t st (by omega) (by omega) ht hst c2 c3 c4 c5 c6 c7
 obtain⟨a4,hp4,wr4,e1,e2,e3,e4,e5,e6,e7,e8,e9,e10⟩:=Td (runK (CC LT6) K) K a3 _ _ _ _ _ st (T.bS x.natAbs) (by omega) (by omega) d2 d3 d4 d5 d6 d7 d8 d9
 obtain⟨a5,g1,g2,g3⟩:=Tc LT6 (runK (CC LT6) K) K a4 hp4 wr4 _ _ _ _ _ _ st (by omega) e2 e3 e4 e5 e6 e7 e8 e9 e10
 have hR0:T.val ((T.aK x.natAbs).drop st)<y.natAbs:=by
  have h1:=T.eX ((T.bS x.natAbs).drop st)
  rw[length_drop] at h1
  have h2:10 ^ t≤y.natAbs:=by
   rcases Nat.lt_or_ge y.natAbs (10 ^ t) with h | h
   ·have:=T.di h;omega
   ·exact h
  have h3:10 ^ ((T.aK x.natAbs).length - st)≤10 ^ t:=Nat.pow_le_pow_right (by omega) (by omega)
  omega
 obtain⟨a6,hp6,wr6,out,q6,k1,k2,k3,k4,k5,k6,k7⟩:=wU (runK (CC LT6) K) K _ _ _ (T.aK x.natAbs) y.natAbs (T.bS _) (by omega) hY (by omega) (by omega) st _ a5 hp4 wr4 [] _ (by omega) hR0 (by simp;omega) T.Dok.nil (by simp[T.val]) g2 g3 (dw.nil (Nat.zero_le _))
 rw[T.bV] at k3 k6
 obtain⟨a7,l1,l2,l3⟩:=Tb LT6 (runK (CC LT6) K) K a6 hp6 wr6 _ _ _ _ _ _ _ _ k2 k3
 obtain⟨a8,hp8,wr8,m1,m2,m3⟩:=ND LT6 (runK (CC LT6) K) K _ _ _ _ out q6 (by omega) a7 hp6 wr6 k4 l2 l3
 have hor:T.Dok out.reverse:=yq k5
 have htx:=A9 (bw x != bw y) out.reverse hor (by rw[length_reverse];omega)
 rw[k6] at htx
 obtain⟨hp9,fp,n1,-⟩:=o9 kd EK (runK (CC LT6) K) false iY (bw x != bw y) m3.s _ htx
 have hrl:(T.aK (x.natAbs % y.natAbs)).length<10000000:=Nat.lt_of_le_of_lt (T.cG (Nat.le_of_lt (Nat.mod_lt _ hY))) (by omega)
 have n2:=VH (runK (CC LT6) K) (bw x) (T.aK (x.natAbs % y.natAbs)) (T.bS _) hrl
 rw[T.bV] at n2
 obtain⟨a9,wr9,o1,o2,o3,o4,o5,o6,o7⟩:=Ta (runK (CC LT6) K) K a8 hp8 hp9 wr8 _ _ _ _ _ _ _ fp m2 n1 n2
 have hex:∀ {z},af (CC LT6) (runK (CC LT6) K) K (ag 12 dG) ⟨a9,hp9,wr9⟩=z→af (CC LT6) (runK (CC LT6) K) K dG ⟨entry 164 [zs x,zs y],[],[]⟩=z:=by
  intro z hz
  have h1:af (CC LT6) (runK (CC LT6) K) K dG ⟨entry 164 [zs x,zs y],[],[]⟩=af (CC LT6) (runK (CC LT6) K) K (ag 4 dG) ⟨a1,[],[]⟩:=aQ 4 b1
  rw[h1,aQ 2 c1,show ag 2 (ag 4 dG)=ag 6 dG from rfl,aQ 2 d1,show ag 2 (ag 6 dG)=ag 8 dG from rfl,aQ 1 e1,show ag 1 (ag 8 dG)=ag 9 dG from rfl,
   SZ,ar ((ar g1).trans (bK (bT k1 (by omega)))),NC,ar ((ar l1).trans (bK (bT m1 (by omega)))),aQ 1 o1]
  exact hz
 rw[hny] at o5
 by_cases hxn:x<0
 ·have hnx:bw x=true:=by rw[cK];simpa using hxn
  rw[hnx] at o4
  have eq1:gL (bw x != bw y) (x.natAbs / y.natAbs) = -((x.natAbs / y.natAbs:Nat):Int):=by rw[hnx,hny,kI];rfl
  have er1:gL (bw x) (x.natAbs % y.natAbs) = -((x.natAbs % y.natAbs:Nat):Int):=by rw[hnx,kI];rfl
  rw[eq1] at o6
  rw[er1] at o7
  by_cases h0:x.natAbs % y.natAbs=0
  ·obtain⟨w1,w2⟩:=abH hy0 hxn h0
   have hv:=re (-((x.natAbs % y.natAbs:Nat):Int))
   obtain⟨st',x1,x2⟩:=wS LT6 (runK (CC LT6) K) K a9 hp9 wr9 _ true false _ _ _ hv (by rw[h0];rfl) o2 o3 o4 o5 o6 o7
   refine⟨st',hex x1,?_⟩
   rw[x2,w1,w2,h0];rfl
  ·obtain⟨w1,w2⟩:=afL hy0 hxn h0
   have hv:=re (-((x.natAbs % y.natAbs:Nat):Int))
   rw[decide_eq_false (by omega)] at hv
   have zx:∀ z:Int,z≤0→z.natAbs≤x.natAbs→Zm z:=by
    intro z hz0 hz
    have h1:(ztx x).length≤fO:=hx
    unfold Zm
    rw[gu,hnx] at h1
    rw[gu]
    have h2:=oA hz
    cases bw z <;> simp at h1 ⊢ <;> omega
   have hq1:Zm (-((x.natAbs / y.natAbs:Nat):Int)):=zx _ (by omega) (by rw[Int.natAbs_neg,Int.natAbs_natCast];exact Nat.div_le_self _ _)
   have hr1:Zm (-((x.natAbs % y.natAbs:Nat):Int)):=zx _ (by omega) (by rw[Int.natAbs_neg,Int.natAbs_natCast];exact Nat.mod_le _ _)
   have p1:az LT6 (runK (CC LT6) K) 157 [zs (-((x.natAbs / y.natAbs:Nat):Int)),.sc (.string { data:=#[49] })] (zs (x / y)):=fun dr hp =>
    bu GV aad _ dr hp [zs (-((x.natAbs / y.natAbs:Nat):Int)),zs 1] [zs (x / y)] rfl rfl (by
     have h2:(eA 1).blt fO=true:=by decide
     have h3:fL (zs 1)=some 1:=cO 1 (by decide)
     simp only[wX,cO _ hq1,h3,h2,cond_true,w1])
   have p2:az LT6 (runK (CC LT6) K) 66 [zs (-((x.natAbs % y.natAbs:Nat):Int)),zs y] (zs (x % y)):=fun dr hp =>
    bu so Ua _ dr hp _ [zs (x % y)] rfl rfl (by simp only[iE,cO _ hr1,cO _ hy,w2])
   obtain⟨st',x1,x2⟩:=Tg LT6 (runK (CC LT6) K) K a9 hp9 wr9 _ _ _ _ _ hv p1 p2 o2 o3 o4 o5 o6 o7
   exact⟨st',hex x1,x2⟩
 ·have hnx:bw x=false:=by rw[cK];simpa using hxn
  obtain⟨w1,w2⟩:=afK hy0 (show 0≤x by omega)
  have eq1:gL (bw x != bw y) (x.natAbs / y.natAbs)=((x.natAbs / y.natAbs:Nat):Int):=by rw[hnx,hny,kI];rfl
  have er1:gL (bw x) (x.natAbs % y.natAbs)=((x.natAbs % y.natAbs:Nat):Int):=by rw[hnx,kI];rfl
  rw[eq1] at o6
  rw[er1] at o7
  rw[hnx] at o4
  have hv:=re ((x.natAbs % y.natAbs:Nat):Int)
  obtain⟨st',x1,x2⟩:=wS LT6 (runK (CC LT6) K) K a9 hp9 wr9 _ false false _ _ _ hv (by simp) o2 o3 o4 o5 o6 o7
  refine⟨st',hex x1,?_⟩
  rw[x2,w1,w2];rfl
theorem zY:Ab.Spec base.P 121 uc:=Ab.Spec.bN (C:=CC LT6) (cP agC) fun args rs h=>by
 unfold uc at h
 split at h
 ·split at h
  ·rename_i x y ex ey
   obtain⟨rfl,hx⟩:=dk ex
   obtain⟨rfl,hy⟩:=dk ey
   by_cases hy0:0<y
   ·rw[decide_eq_true hy0] at h
    simp only[cond_true,OiE] at h
    subst h
    generalize hK:(T.aK x.natAbs).length+20=K
    have gs1:=AG (runK (CC LT6) K) x hx
    have gs2:=AG (runK (CC LT6) K) y hy
    suffices hgo:∃ st,af (CC LT6) (runK (CC LT6) K) K dG ⟨entry 164 [zs x,zs y],[],[]⟩=some (.ret,st)∧bc TT st.fr st.hp f121.results.toList=some [zs (x / y),zs (x % y)] by
     obtain⟨st,x1,x2⟩:=hgo
     exact⟨K+1,_,_,_,_,_,aV Jl rfl x1 x2,rfl,Wk.refl rfl,Wk.refl rfl,trivial⟩
    cases h1:(eA x).ble 9 with
    | false =>
     rw[h1] at gs1
     cases h2:(eA y).ble 9 with
     | false=>rw[h2] at gs2;exact sG K x y hx hy hy0 (by omega) _ _ false false rfl gs1 gs2
     | true=>rw[h2] at gs2;exact sG K x y hx hy hy0 (by omega) _ _ false true rfl gs1 gs2
    | true =>
     rw[h1] at gs1
     cases h2:(eA y).ble 9 with
     | false=>rw[h2] at gs2;exact sG K x y hx hy hy0 (by omega) _ _ true false rfl gs1 gs2
     | true =>
      rw[h2] at gs2
      have b1:=yW h1
      have b2:=yW h2
      have c1:=Int.mul_tdiv_add_tmod x y
      have c2:=Int.tmod_lt_of_pos x hy0
      have c3:=Int.lt_tmod_of_pos x hy0
      have c4:=Int.natAbs_tdiv_le_natAbs x y
      generalize hq:x.tdiv y=q at *
      generalize hr:x.tmod y=r at *
      by_cases hr0:r<0
      ·obtain⟨w1,w2⟩:=lY (x:=x) (y:=y) (q:=q - 1) (r:=r+y) hy0 (by rw[Int.mul_sub,Int.mul_one];omega) (by omega) (by omega)
       rw[w1,w2]
       exact ZI LT6 (runK (CC LT6) K) K _ _ _ _ x y q r (q - 1) (r+y) gs1 gs2 (by omega) (by omega) (by rw[hq];exact fA _ (by omega) (by omega)) hr hr0 (fA _ (by omega) (by omega)) (fA _ (by omega) (by omega)) (vt _ _ (by omega) (by omega)) (vt _ _ (by omega) (by omega))
      ·obtain⟨w1,w2⟩:=lY (x:=x) (y:=y) (q:=q) (r:=r) hy0 (by omega) (by omega) (by omega)
       rw[w1,w2]
       exact ZJ LT6 (runK (CC LT6) K) K _ _ _ _ x y q r gs1 gs2 (by omega) (by omega) (by rw[hq];exact fA _ (by omega) (by omega)) hr hr0 (vt _ _ (by omega) (by omega)) (vt _ _ (by omega) (by omega))
   ·rw[decide_eq_false hy0] at h
    cases h
  ·cases h
 ·cases h
def LT7:Lst:=[(155,sJ),(121,uc)]
theorem agB:dt base.P LT7:=⟨Hx,zY,trivial⟩
theorem KL:bt LT7 155=fun a=>sJ (aJ a):=rfl
theorem aab:bt LT7 121=fun a=>uc (aJ a):=rfl
def qU:Code:=f112.body.getD .skip
def Ad:Code:=((f112.body).bind aA).getD .skip
theorem Ts (L:Lst)(run:aw)(k:Nat)(fr:Ψ)(hp:Θ)(wr:Ω)(a b:ByteArray)(hv:fc .neq b { data:=#[48] } = some (.bool false))(h24:fr.length=24)(h5:nth fr 5 = .sc (.string a))(h6:nth fr 6 = .sc (.string b)) :
  ∃ fr',af (CC L) run k Ad ⟨fr,hp,wr⟩=some (.exit 0,⟨fr',hp,wr⟩)∧fr'.length=24∧nth fr' 5 = .sc (.string a):=by
 simp[Ad,f112,aA,h24,h5,h6,hv]
theorem ZM (L:Lst)(run:aw)(k:Nat)(fr:Ψ)(hp:Θ)(wr:Ω)(a b q r:ByteArray)(hv:fc .neq b { data:=#[48] } = some (.bool true))(g:az L run 121 [.sc (.string a),.sc (.string b)] (.tup [.sc (.string q),.sc (.string r)]))(h24:fr.length=24)(h5:nth fr 5 = .sc (.string a))(h6:nth fr 6 = .sc (.string b)) :
  ∃ fr',af (CC L) run k Ad ⟨fr,hp,wr⟩=some (.normal,⟨fr',hp,wr⟩)∧fr'.length=24∧nth fr' 5 = .sc (.string b)∧nth fr' 6 = .sc (.string r):=by
 unfold az at g
 simp[Ad,f112,aA,h24,h5,h6,hv,g]
theorem Zm.ahM {x y:Nat}(h:Zm (y:Int))(hl:x≤y):Zm (x:Int):=by
 unfold Zm at *
 rw[gu] at *
 have h1:bw (x:Int)=false:=rfl
 have h2:bw (y:Int)=false:=rfl
 rw[h1]
 rw[h2] at h
 have h3:=oA (x:=(x:Int)) (y:=(y:Int)) (by simpa using hl)
 simp only[cond_false] at h ⊢
 omega
theorem abw (run:aw)(x y:Nat)(hx:Zm (x:Int))(hy:Zm (y:Int))(h0:0<y):az LT7 run 121 [zs (x:Int),zs (y:Int)] (.tup [zs ((x:Int) / (y:Int)),zs ((x % y:Nat):Int)]):=fun dr hp =>
 bu Dw aab run dr hp _ [zs ((x:Int) / (y:Int)),zs ((x % y:Nat):Int)] rfl rfl (by
  have h1:(0:Int)<(y:Int):=by omega
  simp only[uc,cO _ hx,cO _ hy,decide_eq_true h1,cond_true]
  rfl)
theorem Ac (run:aw)(k:Nat)(hp:Θ)(wr:Ω):∀ (n y x:Nat) (fr:Ψ),y<n→Zm (x:Int)→Zm (y:Int)→fr.length=24→nth fr 5=zs (x:Int)→nth fr 6=zs (y:Int) →
  ∃ fr',ch (af (CC LT7) run k Ad) n ⟨fr,hp,wr⟩=some (.exit 0,⟨fr',hp,wr⟩)∧fr'.length=24∧nth fr' 5=zs ((Nat.gcd x y:Nat):Int)
 | 0,y,x,fr,hn,_,_,_,_,_=>by omega
 | n+1,y,x,fr,hn,hx,hy,h24,h5,h6=>by
  have hv:=re (y:Int)
  by_cases h0:y=0
  ·subst h0
   obtain⟨fr',g1,g2,g3⟩:=Ts LT7 run k fr hp wr _ _ hv h24 h5 h6
   exact⟨fr',bE g1,g2,by rw[g3,Nat.gcd_zero_right];rfl⟩
  ·rw[decide_eq_false (by omega)] at hv
   obtain⟨fr1,g1,g2,g3,g4⟩:=ZM LT7 run k fr hp wr _ _ _ _ hv (abw run x y hx hy (by omega)) h24 h5 h6
   have hm:=Nat.mod_lt x (show 0<y by omega)
   obtain⟨fr',q1,q2,q3⟩:=Ac run k hp wr n (x % y) y fr1 (by omega) hy (hy.ahM (by omega)) g2 g3 g4
   refine⟨fr',by rw[ca g1];exact q1,q2,?_⟩
   rw[q3,Nat.gcd_comm y (x % y),← Nat.gcd_rec,Nat.gcd_comm]
theorem HJ:ag 2 qU = .seq (.block 0 (.loop Ad)) (ag 3 qU):=rfl
theorem Tq (L:Lst)(run:aw)(k:Nat)(s t u v:ByteArray)(g1:az L run 155 [.sc (.string s)] (.sc (.string u)))(g2:az L run 155 [.sc (.string t)] (.sc (.string v))) :
  ∃ fr,ba (CC L) run k 2 qU ⟨entry 24 [.sc (.string s),.sc (.string t)],[],[]⟩=some ⟨fr,[],[]⟩∧fr.length=24∧nth fr 5 = .sc (.string u)∧nth fr 6 = .sc (.string v):=by
 obtain⟨e1,e2,e3⟩:=cC 22 (.sc (.string s)) (.sc (.string t))
 generalize entry 24 [.sc (.string s),.sc (.string t)]=fr0 at *
 unfold az at *
 simp[qU,f112,ba,e1,e2,e3,g1,g2]
theorem NN (L:Lst)(run:aw)(k:Nat)(fr:Ψ)(hp:Θ)(wr:Ω)(a:ByteArray)(h24:fr.length=24)(h5:nth fr 5 = .sc (.string a)) :
  ∃ st,af (CC L) run k (ag 3 qU) ⟨fr,hp,wr⟩=some (.ret,st)∧bc TT st.fr st.hp f112.results.toList=some [.sc (.string a)]:=by
 simp[qU,f112,h24,h5]
def uh:Ψ→Option Ψ
 | [p,q]=>match fL p,fL q with
  | some x,some y=>some [zs ((Nat.gcd x.natAbs y.natAbs:Nat):Int)]
  | _,_=>none
 | _=>none
theorem Zm.abs {x:Int}(h:Zm x):Zm (x.natAbs:Int):=by
 unfold Zm at *
 rw[gu] at *
 have h1:bw (x.natAbs:Int)=false:=rfl
 rw[h1]
 have h3:=oA (x:=(x.natAbs:Int)) (y:=x) (by simp)
 simp only[cond_false]
 omega
theorem Aa:Ab.Spec base.P 112 uh:=Ab.Spec.bN (C:=CC LT7) (cP agB) fun args rs h=>by
 unfold uh at h
 split at h
 ·split at h
  ·rename_i x y ex ey
   obtain⟨rfl,hx⟩:=dk ex
   obtain⟨rfl,hy⟩:=dk ey
   simp only[OiE] at h
   subst h
   generalize hK:y.natAbs+1=K
   have g1:az LT7 (runK (CC LT7) K) 155 [zs x] (zs (x.natAbs:Int)):=fun dr hp=>bu Dx KL _ dr hp _ [zs (x.natAbs:Int)] rfl rfl (by simp only[sJ,cO x hx];rfl)
   have g2:az LT7 (runK (CC LT7) K) 155 [zs y] (zs (y.natAbs:Int)):=fun dr hp=>bu Dx KL _ dr hp _ [zs (y.natAbs:Int)] rfl rfl (by simp only[sJ,cO y hy];rfl)
   obtain⟨f1,a1,a2,a3,a4⟩:=Tq LT7 (runK (CC LT7) K) K _ _ _ _ g1 g2
   obtain⟨f2,b1,b2,b3⟩:=Ac (runK (CC LT7) K) K [] [] K y.natAbs x.natAbs f1 (by omega) (Zm.abs hx) (Zm.abs hy) a2 a3 a4
   obtain⟨st,x1,x2⟩:=NN LT7 (runK (CC LT7) K) K f2 [] [] _ b2 b3
   have h1:af (CC LT7) (runK (CC LT7) K) K qU ⟨entry 24 [zs x,zs y],[],[]⟩=af (CC LT7) (runK (CC LT7) K) K (ag 2 qU) ⟨f1,[],[]⟩:=aQ 2 a1
   have hx':af (CC LT7) (runK (CC LT7) K) K qU ⟨entry 24 [zs x,zs y],[],[]⟩=some (.ret,st):=by
    rw[h1,HJ,ar (bK b1)]
    exact x1
   exact⟨K+1,_,_,_,_,_,aV Jo rfl hx' x2,rfl,Wk.refl rfl,trivial⟩
  ·cases h
 ·cases h
def spl (l:Ω):Ω × Ω × Bool:=match fK l with
 | some j=>(l.take j,l.drop (j+1),true)
 | none=>(l,[49],false)
theorem QZ {l:Ω}(h:Bok l):Bok (spl l).1∧Bok (spl l).2.1:=by
 unfold spl
 split
 ·exact⟨h.take _,h.drop _⟩
 ·exact⟨h,Bok.nil.cons (by omega)⟩
theorem uZ (l:Ω):(spl l).1.length≤l.length∧(spl l).2.1.length≤l.length+1:=by
 unfold spl
 split
 ·simp;omega
 ·simp
theorem GB (l:Ω)(h:Bok l)(h9:l.length<20000000):lM [.sc (.string (tx l))]=some [.sc (.string (tx (spl l).1)),.sc (.string (tx (spl l).2.1)),.sc (.bool (spl l).2.2)]:=by
 have hb:l.length.blt 20000000=true:=by rw[Nat.blt_eq];exact h9
 simp only[lM,jO h,hb,cond_true,spl]
 cases fK l <;> rfl
def LT8:Lst:=[(65,lM),(100,oO)]
theorem agA:dt base.P LT8:=⟨oL,uk,trivial⟩
theorem aeA:bt LT8 65=fun a=>lM (aJ a):=rfl
theorem T0:bt LT8 100=fun a=>oO (aJ a):=rfl
theorem afI(l:Ω)(h:Bok l)(h9:l.length<20000000):az LT8 run 65 [.sc (.string (tx l))] (.tup [.sc (.string (tx (spl l).1)),.sc (.string (tx (spl l).2.1)),.sc (.bool (spl l).2.2)]):=fun dr hp =>
 bu mf aeA run dr hp _ [.sc (.string (tx (spl l).1)),.sc (.string (tx (spl l).2.1)),.sc (.bool (spl l).2.2)] rfl rfl (GB l h h9)
theorem Fk (run:aw)(l:Ω)(h:Bok l)(h9:l.length<30000000):az LT8 run 100 [.sc (.string (tx l))] (.sc (.bool (decide (1000<eZ l)))):=fun dr hp =>
 bu MD T0 run dr hp _ [.sc (.bool (decide (1000<eZ l)))] rfl rfl (by
  have hb:l.length.blt 100000000=true:=by rw[Nat.blt_eq];omega
  simp only[oO,jO h,hb,cond_true])
theorem DY(s a b:ByteArray)(sl u v:Bool)(g1:az L run 65 [.sc (.string s)] (.tup [.sc (.string a),.sc (.string b),.sc (.bool sl)]))(g2:az L run 100 [.sc (.string a)] (.sc (.bool u)))(g3:az L run 100 [.sc (.string b)] (.sc (.bool v))) :
  ∃ st,af (CC L) run k (f48.body.getD .skip) ⟨entry 18 [.sc (.string s)],[],[]⟩=some (.ret,st)∧bc TT st.fr st.hp f48.results.toList=some [.sc (.bool (u || v))]:=by
 obtain⟨e1,e2⟩:=cL 17 (.sc (.string s))
 generalize entry 18 [.sc (.string s)]=fr0 at *
 unfold az at *
 cases u <;> simp[f48,e1,e2,g1,g2,g3,undef]
def Aw (l:Ω):Bool:=decide (1000<eZ (spl l).1) || decide (1000<eZ (spl l).2.1)
def oN:Ψ→Option Ψ
 | [.sc (.string s)]=>bif (bys s).length.blt 20000000 then some [.sc (.bool (Aw (bys s)))] else none
 | _=>none
theorem tR:Ab.Spec base.P 48 oN:=Ab.Spec.bN (C:=CC LT8) (cP agA) fun args rs h=>by
 unfold oN at h
 split at h
 ·rename_i s
  cases hb:(bys s).length.blt 20000000 with
  | false=>rw[hb] at h;cases h
  | true =>
   rw[hb] at h
   simp only[cond_true,OiE] at h
   subst h
   rw[Nat.blt_eq] at hb
   have hok:=mO s
   obtain⟨h1,h2⟩:=QZ hok
   obtain⟨h3,h4⟩:=uZ (bys s)
   obtain⟨st,x1,x2⟩:=DY LT8 (runK (CC LT8) 1) 1 _ _ _ _ _ _ (afI _ (bys s) hok hb) (Fk _ _ h1 (by omega)) (Fk _ _ h2 (by omega))
   rw[iw] at x1
   exact⟨2,_,_,_,_,_,aV Gb rfl x1 x2,rfl,Wk.refl rfl,trivial⟩
 ·cases h
theorem Bu (n d:Int):spl (qtx n d)=(ztx n,ztx d, !decide (d=1)):=by
 unfold spl
 rw[OS]
 unfold qtx
 by_cases h:d=1
 ·subst h
  simp[X3]
 ·simp[h]
def qs (n d:Int):PV:=.sc (.string (tx (qtx n d)))
def LT9:Lst:=[(65,lM),(120,nG),(69,mr),(112,uh),(121,uc)]
theorem XA:dt base.P LT9:=⟨oL,wW,pH,Aa,zY,trivial⟩
theorem aez:bt LT9 65=fun a=>lM (aJ a):=rfl
theorem Z8:bt LT9 120=fun a=>nG (aJ a):=rfl
theorem aaa:bt LT9 69=fun a=>mr (aJ a):=rfl
theorem Z9:bt LT9 112=fun a=>uh (aJ a):=rfl
theorem Z7:bt LT9 121=fun a=>uc (aJ a):=rfl
theorem ZP (n d:Int):(qtx n d).length≤(ztx n).length+(ztx d).length+1:=by
 unfold qtx
 split
 ·omega
 ·simp;omega
theorem Q4 (n d:Int)(hn:Zm n)(hd:Zm d):lM [qs n d]=some [zs n,zs d,.sc (.bool (!decide (d=1)))]:=by
 have h1:(ztx n).length≤3000000:=hn
 have h2:(ztx d).length≤3000000:=hd
 have h3:=ZP n d
 have:=GB (qtx n d) (HP n d) (by omega)
 rw[Bu] at this
 exact this
theorem afH(n d:Int)(hn:Zm n)(hd:Zm d):az LT9 run 65 [qs n d] (.tup [zs n,zs d,.sc (.bool (!decide (d=1)))]):=fun dr hp =>
 bu mf aez run dr hp _ [zs n,zs d,.sc (.bool (!decide (d=1)))] rfl rfl (Q4 n d hn hd)
theorem Ch(n:Int)(hn:Zm n):az LT9 run 120 [zs n] (zs (-n)):=fun dr hp =>
 bu Dy Z8 run dr hp _ [zs (-n)] rfl rfl (by simp only[nG,cO n hn])
theorem PE (a b:Ω)(h:a.length+b.length<100000000):fc .add (tx a) (tx b)=some (.string (tx (a++b))):=by
 simp only[fc,dT]
 rw[if_neg (by omega)]
 simp[tx,fm]
theorem Hj(n d m:Int)(hm9:(ztx m).length≤4000000)(hd9:(ztx d).length≤4000000)(g1:az L run 65 [qs n d] (.tup [zs n,zs d,.sc (.bool (!decide (d=1)))]))(g2:az L run 120 [zs n] (zs m)) :
  ∃ st,af (CC L) run k (f122.body.getD .skip) ⟨entry 21 [qs n d],[],[]⟩=some (.ret,st)∧bc TT st.fr st.hp f122.results.toList=some [qs m d]:=by
 obtain⟨e1,e2⟩:=cL 20 (qs n d)
 generalize entry 21 [qs n d]=fr0 at *
 unfold az at *
 have h47:({ data:=#[47] } : ByteArray)=tx [47]:=rfl
 have b1:=PE (ztx m) [47] (by simp;omega)
 have b2:=PE (ztx m++[47]) (ztx d) (by simp;omega)
 by_cases h:d=1
 ·subst h
  have hq:qtx m 1=ztx m:=rfl
  simp only[decide_true,Bool.not_true,qs,zs,hq] at *
  simp[f122,e1,e2,unP,g1,g2]
 ·have hq:qtx m d=(ztx m++[47])++ztx d:=by rw[qtx,if_neg h];simp
  rw[decide_eq_false h] at g1
  simp only[Bool.not_false,qs,zs,hq] at *
  simp[-append_assoc,f122,e1,e2,unP,g1,g2,h47,b1,b2]
def kK:Code:=f67.body.getD .skip
theorem SC (L:Lst)(run:aw)(k:Nat)(a b:ByteArray)(c:Int)(hc : ¬ c<0)(g:az L run 69 [.sc (.string b),.sc (.string { data:=#[48] })] (Ab.bJ c)) :
  ∃ fr,ba (CC L) run k 2 kK ⟨entry 37 [.sc (.string a),.sc (.string b)],[],[]⟩=some ⟨fr,[],[]⟩∧fr.length=37∧nth fr 0 = .sc (.string a)∧nth fr 1 = .sc (.string b):=by
 obtain⟨e1,e2,e3⟩:=cC 35 (.sc (.string a)) (.sc (.string b))
 generalize entry 37 [.sc (.string a),.sc (.string b)]=fr0 at *
 unfold az at *
 simp only[Ab.bJ] at *
 simp[kK,f67,ba,e1,e2,e3,au,bg,g,hc]
theorem SE (L:Lst)(run:aw)(k:Nat)(a b a' b':ByteArray)(c:Int)(hc:c<0)(g:az L run 69 [.sc (.string b),.sc (.string { data:=#[48] })] (Ab.bJ c))(g1:az L run 120 [.sc (.string a)] (.sc (.string a')))(g2:az L run 120 [.sc (.string b)] (.sc (.string b'))) :
  ∃ fr,ba (CC L) run k 2 kK ⟨entry 37 [.sc (.string a),.sc (.string b)],[],[]⟩=some ⟨fr,[],[]⟩∧fr.length=37∧nth fr 0 = .sc (.string a')∧nth fr 1 = .sc (.string b'):=by
 obtain⟨e1,e2,e3⟩:=cC 35 (.sc (.string a)) (.sc (.string b))
 generalize entry 37 [.sc (.string a),.sc (.string b)]=fr0 at *
 unfold az at *
 simp only[Ab.bJ] at *
 simp[kK,f67,ba,e1,e2,e3,au,bg,g,hc,g1,g2]
theorem SD(a b g:ByteArray)(hv:fc .neq g { data:=#[49] } = some (.bool false))(g1:az L run 112 [.sc (.string a),.sc (.string b)] (.sc (.string g)))(h37:fr.length=37)(h0:nth fr 0 = .sc (.string a))(h1:nth fr 1 = .sc (.string b)) :
  ∃ fr',ba (CC L) run k 2 (ag 2 kK) ⟨fr,[],[]⟩=some ⟨fr',[],[]⟩∧fr'.length=37∧nth fr' 0 = .sc (.string a)∧nth fr' 1 = .sc (.string b):=by
 unfold az at *
 simp[kK,f67,ba,h37,h0,h1,g1,hv]
theorem Nl(a b g a' b' x y:ByteArray)(hv:fc .neq g { data:=#[49] } = some (.bool true))(g1:az L run 112 [.sc (.string a),.sc (.string b)] (.sc (.string g)))(g2:az L run 121 [.sc (.string a),.sc (.string g)] (.tup [.sc (.string a'),.sc (.string x)]))(g3:az L run 121 [.sc (.string b),.sc (.string g)] (.tup [.sc (.string b'),.sc (.string y)]))
  (h37:fr.length=37) (h0:nth fr 0 = .sc (.string a)) (h1:nth fr 1 = .sc (.string b)) :
  ∃ fr',ba (CC L) run k 2 (ag 2 kK) ⟨fr,[],[]⟩=some ⟨fr',[],[]⟩∧fr'.length=37∧nth fr' 0 = .sc (.string a')∧nth fr' 1 = .sc (.string b'):=by
 unfold az at *
 simp[kK,f67,ba,h37,h0,h1,g1,g2,g3,hv]
theorem zg (z:Int):decide (bO (tx (ztx z))=bO (tx [49]))=decide (z=1):=by
 have:(bO (tx (ztx z))=bO (tx [49])) ↔ z=1:=by
  constructor
  ·intro h
   have h1:tx (ztx z)=tx [49]:=by rw[← gE (tx (ztx z)),h,gE]
   have h2:=(Dc (kX z) (Bok.nil.cons (by omega))).1 h1
   have h3:=cO z (by rw[h2];decide)
   have h4:=cO 1 (by decide)
   have:zs z=zs 1:=by unfold zs;rw[h2];rfl
   rw[this,h4] at h3
   exact (Option.some.inj h3).symm
  ·intro h;subst h;rfl
 simp only[this]
theorem aaK (z:Int):fc .neq (tx (ztx z)) { data:=#[49] } = some (.bool (!decide (z=1))):=by
 have e:({ data:=#[49] } : ByteArray)=tx [49]:=rfl
 rw[e]
 simp only[fc,vw,zg]
theorem oW (z:Int):fc .eql (tx (ztx z)) { data:=#[49] } = some (.bool (decide (z=1))):=by
 have e:({ data:=#[49] } : ByteArray)=tx [49]:=rfl
 rw[e]
 simp only[fc,vw,zg]
theorem zN(n d:Int)(hn9:(ztx n).length≤4000000)(hd9:(ztx d).length≤4000000)(h37:fr.length=37)(h0:nth fr 0=zs n)(h1:nth fr 1=zs d) :
  ∃ st,af (CC L) run k (ag 4 kK) ⟨fr,[],[]⟩=some (.ret,st)∧bc TT st.fr st.hp f67.results.toList=some [qs n d]:=by
 have h47:({ data:=#[47] } : ByteArray)=tx [47]:=rfl
 have b1:=PE (ztx n) [47] (by simp;omega)
 have b2:=PE (ztx n++[47]) (ztx d) (by simp;omega)
 have hv:=oW d
 by_cases h:d=1
 ·subst h
  have hq:qtx n 1=ztx n:=rfl
  simp only[decide_true,qs,zs,hq] at *
  simp[kK,f67,h37,h0,h1,hv]
 ·have hq:qtx n d=(ztx n++[47])++ztx d:=by rw[qtx,if_neg h];simp
  rw[decide_eq_false h] at hv
  simp only[qs,zs,hq] at *
  simp[-append_assoc,kK,f67,h37,h0,h1,hv,h47,b1,b2]
theorem abv(x y:Int)(hx:Zm x)(hy:Zm y):az LT9 run 69 [zs x,zs y] (Ab.bJ (fP x y)):=fun dr hp =>
 bu DB aaa run dr hp _ [Ab.bJ (fP x y)] rfl rfl (by simp only[mr,cO x hx,cO y hy])
theorem abu(x y:Int)(hx:Zm x)(hy:Zm y):az LT9 run 112 [zs x,zs y] (zs ((Nat.gcd x.natAbs y.natAbs:Nat):Int)):=fun dr hp =>
 bu Dz Z9 run dr hp _ [zs ((Nat.gcd x.natAbs y.natAbs:Nat):Int)] rfl rfl (by simp only[uh,cO x hx,cO y hy])
theorem La(x y:Int)(hx:Zm x)(hy:Zm y)(h0:0<y):az LT9 run 121 [zs x,zs y] (.tup [zs (x / y),zs (x % y)]):=fun dr hp =>
 bu Dw Z7 run dr hp _ [zs (x / y),zs (x % y)] rfl rfl (by simp only[uc,cO x hx,cO y hy,decide_eq_true h0,cond_true])
theorem zL(n d:Int)(hn:Zm n)(hd:Zm d)(hd0:0<d)(h37:fr.length=37)(h0:nth fr 0=zs n)(h1:nth fr 1=zs d) :
  ∃ st,af (CC LT9) run k (ag 2 kK) ⟨fr,[],[]⟩=some (.ret,st)∧bc TT st.fr st.hp f67.results.toList=some [qs (n / (Nat.gcd n.natAbs d.natAbs:Nat)) (d / (Nat.gcd n.natAbs d.natAbs:Nat))]:=by
 have hgp:0<Nat.gcd n.natAbs d.natAbs:=Nat.gcd_pos_of_pos_right _ (by omega)
 have hgd:Nat.gcd n.natAbs d.natAbs≤d.natAbs:=Nat.gcd_le_right _ (by omega)
 have hg:=abu run n d hn hd
 have hgz:Zm ((Nat.gcd n.natAbs d.natAbs:Nat):Int):=Zm.ahM (Zm.abs hd) hgd
 have hv:=aaK ((Nat.gcd n.natAbs d.natAbs:Nat):Int)
 generalize Nat.gcd n.natAbs d.natAbs=g at *
 have hn1:(ztx n).length≤3000000:=hn
 have hd1:(ztx d).length≤3000000:=hd
 by_cases h:(g:Int)=1
 ·rw[decide_eq_true h] at hv
  obtain⟨f1,a1,a2,a3,a4⟩:=SD LT9 run k fr _ _ _ hv hg h37 h0 h1
  obtain⟨st,x1,x2⟩:=zN LT9 run k f1 n d (by omega) (by omega) a2 a3 a4
  refine⟨st,by rw[aQ 2 a1];exact x1,?_⟩
  rw[x2,h,Int.ediv_one,Int.ediv_one]
 ·rw[decide_eq_false h] at hv
  have hg0:(0:Int)<(g:Int):=by omega
  have b:∀ z:Int,(ztx z).length≤3000000→(ztx (z / (g:Int))).length≤4000000:=by
   intro z hz
   rw[gu] at hz ⊢
   have:=oA (x:=z / (g:Int)) (y:=z) (by
    rcases Int.lt_or_le z 0 with h1 | h1
    ·have h2:z≤z / (g:Int):=by
      rw[Int.le_ediv_iff_mul_le hg0]
      have:(g:Int) ≥ 1:=by omega
      have:=Int.mul_le_mul_of_nonpos_left (a:=z) (b:=(g:Int)) (c:=1) (by omega) (by omega)
      omega
     have h3:z / (g:Int)≤0:=by
      rcases Int.lt_or_le 0 (z / (g:Int)) with h | h
      ·have:=(Int.le_ediv_iff_mul_le hg0).1 (show 1≤z / (g:Int) from h)
       omega
      ·exact h
     omega
    ·have h2:z / (g:Int)≤z:=Int.ediv_le_self _ h1
     have h3:0≤z / (g:Int):=Int.ediv_nonneg h1 (by omega)
     omega)
   cases bw (z / (g:Int)) <;> simp <;> omega
  obtain⟨f1,a1,a2,a3,a4⟩:=Nl LT9 run k fr _ _ _ _ _ _ _ hv hg (La run n g hn hgz hg0) (La run d g hd hgz hg0) h37 h0 h1
  obtain⟨st,x1,x2⟩:=zN LT9 run k f1 (n / (g:Int)) (d / (g:Int)) (b n hn1) (b d hd1) a2 a3 a4
  exact⟨st,by rw[aQ 2 a1];exact x1,x2⟩
def qM (n d:Int):Int:=n / (Nat.gcd n.natAbs d.natAbs:Nat)
def pF (n d:Int):Int:=d / (Nat.gcd n.natAbs d.natAbs:Nat)
def zO:Ψ→Option Ψ
 | [p,q]=>match fL p,fL q with
  | some n,some d=>bif decide (0<d) then some [qs (qM n d) (pF n d)] else
    bif decide (d<0) && ((eA n).blt fO && (eA d).blt fO) then some [qs (qM (-n) (-d)) (pF (-n) (-d))] else none
  | _,_=>none
 | _=>none
theorem zM:Ab.Spec base.P 67 zO:=Ab.Spec.bN (C:=CC LT9) (cP XA) fun args rs h=>by
 unfold zO at h
 split at h
 ·split at h
  ·rename_i n d ex ey
   obtain⟨rfl,hn⟩:=dk ex
   obtain⟨rfl,hd⟩:=dk ey
   have h00:Zm 0:=by unfold Zm;decide
   have gc:=abv (runK (CC LT9) 1) d 0 hd h00
   by_cases hp:0<d
   ·rw[decide_eq_true hp] at h
    simp only[cond_true,OiE] at h
    subst h
    obtain⟨f1,a1,a2,a3,a4⟩:=SC LT9 (runK (CC LT9) 1) 1 (tx (ztx n)) (tx (ztx d)) _ (by unfold fP;rw[if_neg (by omega),if_neg (by omega)];omega) gc
    obtain⟨st,x1,x2⟩:=zL (runK (CC LT9) 1) 1 f1 n d hn hd hp a2 a3 a4
    have hx:af (CC LT9) (runK (CC LT9) 1) 1 kK ⟨entry 37 [zs n,zs d],[],[]⟩=some (.ret,st):=(aQ 2 a1).trans x1
    exact⟨2,_,_,_,_,_,aV yw rfl hx x2,rfl,Wk.refl rfl,trivial⟩
   ·rw[decide_eq_false hp] at h
    simp only[cond_false] at h
    by_cases hng:d<0
    ·rw[decide_eq_true hng,Bool.true_and] at h
     cases hb:(eA n).blt fO && (eA d).blt fO with
     | false=>rw[hb] at h;cases h
     | true =>
      rw[hb] at h
      simp only[cond_true,OiE] at h
      subst h
      simp only[Bool.and_eq_true,Nat.blt_eq] at hb
      obtain⟨f1,a1,a2,a3,a4⟩:=SE LT9 (runK (CC LT9) 1) 1 (tx (ztx n)) (tx (ztx d)) _ _ _ (by unfold fP;rw[if_pos hng];omega) gc (Ch _ n hn) (Ch _ d hd)
      obtain⟨st,x1,x2⟩:=zL (runK (CC LT9) 1) 1 f1 (-n) (-d) (Zm.neg hn hb.1) (Zm.neg hd hb.2) (by omega) a2 a3 a4
      have hx:af (CC LT9) (runK (CC LT9) 1) 1 kK ⟨entry 37 [zs n,zs d],[],[]⟩=some (.ret,st):=(aQ 2 a1).trans x1
      exact⟨2,_,_,_,_,_,aV yw rfl hx x2,rfl,Wk.refl rfl,trivial⟩
    ·rw[decide_eq_false hng] at h
     cases h
  ·cases h
 ·cases h
def pt:PV→Option (Int × Int)
 | .sc (.string s)=>match fL (.sc (.string (tx (spl (bys s)).1))),fL (.sc (.string (tx (spl (bys s)).2.1))) with
  | some n,some d=>bif decide (bys s=qtx n d) && decide (0<d) then some (n,d) else none
  | _,_=>none
 | _=>none
theorem ky {p:PV}{n d:Int}(h:pt p=some (n,d)):p=qs n d∧Zm n∧Zm d∧0<d:=by
 unfold pt at h
 split at h
 ·rename_i s
  split at h
  ·rename_i n' d' e1 e2
   cases hb:decide (bys s=qtx n' d') && decide (0<d') with
   | false=>rw[hb] at h;cases h
   | true =>
    rw[hb] at h
    simp only[cond_true,OiE,PiE] at h
    obtain⟨rfl,rfl⟩:=h
    simp only[Bool.and_eq_true,decide_eq_true_eq] at hb
    refine⟨?_,(dk e1).2,(dk e2).2,hb.2⟩
    rw[qs,← hb.1,iw]
  ·cases h
 ·cases h
theorem Ww {n d:Int}(hn:Zm n)(hd:Zm d)(h0:0<d):pt (qs n d)=some (n,d):=by
 have e1:fL (.sc (.string (tx (ztx n))))=some n:=cO n hn
 have e2:fL (.sc (.string (tx (ztx d))))=some d:=cO d hd
 simp only[pt,qs,jO (HP n d),Bu,e1,e2,decide_eq_true h0,decide_true,Bool.and_self,cond_true]
def BN:Ψ→Option Ψ
 | [p]=>match pt p with
  | some (n,d)=>some [qs (-n) d]
  | none=>none
 | _=>none
theorem wI:Ab.Spec base.P 122 BN:=Ab.Spec.bN (C:=CC LT9) (cP XA) fun args rs h=>by
 unfold BN at h
 split at h
 ·split at h
  ·rename_i n d e
   obtain⟨rfl,hn,hd,h0⟩:=ky e
   simp only[OiE] at h
   subst h
   have h1:(ztx n).length≤3000000:=hn
   have h2:(ztx d).length≤3000000:=hd
   have h3:(ztx (-n)).length≤4000000:=by
    rw[gu] at h1 ⊢
    rw[CQ]
    cases bw (-n) <;> simp <;> omega
   obtain⟨st,x1,x2⟩:=Hj LT9 (runK (CC LT9) 1) 1 n d (-n) h3 (by omega) (afH _ n d hn hd) (Ch _ n hn)
   exact⟨2,_,_,_,_,_,aV Jj rfl x1 x2,rfl,Wk.refl rfl,trivial⟩
  ·cases h
 ·cases h
def ow:Lst:=[(65,lM),(68,zU),(66,iE),(69,mr),(67,zO),(122,BN)]
theorem LN:dt base.P ow:=⟨oL,zT,nE,pH,zM,wI,trivial⟩
theorem aan:bt ow 65=fun a=>lM (aJ a):=rfl
theorem aam:bt ow 68=fun a=>zU (aJ a):=rfl
theorem aao:bt ow 66=fun a=>iE (aJ a):=rfl
theorem Ud:bt ow 67=fun a=>zO (aJ a):=rfl
theorem oU(n d:Int)(hn:Zm n)(hd:Zm d):az ow run 65 [qs n d] (.tup [zs n,zs d,.sc (.bool (!decide (d=1)))]):=fun dr hp =>
 bu mf aan run dr hp _ [zs n,zs d,.sc (.bool (!decide (d=1)))] rfl rfl (Q4 n d hn hd)
theorem rA(x y:Int)(hx:Zm x)(hy:Zm y):az ow run 68 [zs x,zs y] (zs (x*y)):=fun dr hp =>
 bu GU aam run dr hp _ [zs (x*y)] rfl rfl (by simp only[zU,cO x hx,cO y hy])
theorem Fl(n d:Int)(hn:Zm n)(hd:Zm d)(h0:0<d):az ow run 67 [zs n,zs d] (qs (qM n d) (pF n d)):=fun dr hp =>
 bu Rk Ud run dr hp _ [qs (qM n d) (pF n d)] rfl rfl (by simp only[zO,cO n hn,cO d hd,decide_eq_true h0,cond_true])
theorem Nj(s t a b c d e f r:ByteArray)(u v:Bool)(g1:az L run 65 [.sc (.string s)] (.tup [.sc (.string a),.sc (.string b),.sc (.bool u)]))(g2:az L run 65 [.sc (.string t)] (.tup [.sc (.string c),.sc (.string d),.sc (.bool v)]))
  (g3:az L run 68 [.sc (.string a),.sc (.string c)] (.sc (.string e))) (g4:az L run 68 [.sc (.string b),.sc (.string d)] (.sc (.string f))) (g5:az L run 67 [.sc (.string e),.sc (.string f)] (.sc (.string r))) :
  ∃ st,af (CC L) run k (f34.body.getD .skip) ⟨entry 30 [.sc (.string s),.sc (.string t)],[],[]⟩=some (.ret,st)∧bc TT st.fr st.hp f34.results.toList=some [.sc (.string r)]:=by
 obtain⟨e1,e2,e3⟩:=cC 28 (.sc (.string s)) (.sc (.string t))
 generalize entry 30 [.sc (.string s),.sc (.string t)]=fr0 at *
 unfold az at *
 simp[f34,e1,e2,e3,g1,g2,g3,g4,g5]
def zmB (z:Int):Bool:=(ztx z).length.ble fO
theorem se {z:Int}(h:zmB z=true):Zm z:=by unfold zmB at h;rw[Nat.ble_eq] at h;exact h
def zJ:Ψ→Option Ψ
 | [p,q]=>match pt p,pt q with
  | some (n,d),some (m,k)=>bif zmB (n*m) && zmB (d*k) then some [qs (qM (n*m) (d*k)) (pF (n*m) (d*k))] else none
  | _,_=>none
 | _=>none
theorem Ni:Ab.Spec base.P 34 zJ:=Ab.Spec.bN (C:=CC ow) (cP LN) fun args rs h=>by
 unfold zJ at h
 split at h
 ·split at h
  ·rename_i n d m k ex ey
   obtain⟨rfl,hn,hd,hd0⟩:=ky ex
   obtain⟨rfl,hm,hk,hk0⟩:=ky ey
   cases hb:zmB (n*m) && zmB (d*k) with
   | false=>rw[hb] at h;cases h
   | true =>
    rw[hb] at h
    simp only[cond_true,OiE] at h
    subst h
    simp only[Bool.and_eq_true] at hb
    obtain⟨st,x1,x2⟩:=Nj ow (runK (CC ow) 1) 1 _ _ _ _ _ _ _ _ _ _ _ (oU _ n d hn hd) (oU _ m k hm hk) (rA _ n m hn hm) (rA _ d k hd hk) (Fl _ _ _ (se hb.1) (se hb.2) (Int.mul_pos hd0 hk0))
    exact⟨2,_,_,_,_,_,aV CJ rfl x1 x2,rfl,Wk.refl rfl,trivial⟩
  ·cases h
 ·cases h
end Go.Proofs.YtjdmodeenbdfpaaGreat
end
