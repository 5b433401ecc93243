/- Contracts of numbers kept as digits in text, part 31 of the proof; each lemma states its own conditions. -/
import Derived.Test.YtjdmodeenbdfpaaGreatT30
set_option linter.unusedSimpArgs false
set_option linter.unusedVariables false
noncomputable section
namespace Go.Proofs.YtjdmodeenbdfpaaGreat
open Go Go.Ab Tryz
attribute [local simp] FzZ aA aF aG aH aL aU aX aa ab ae af ag ah ai aj an ao aq az bc dM
variable(L:Lst)(run:ar)(k:Nat)(fr:List PV)(hp:List Blk)(wr:List Nat)
theorem K9(z:Int)(h:Zm z):au LT6 run 115 [zs z] (.tup [.sc (.bool (bA z)),bC (T.aK z.natAbs)]):=fun dr hp =>
 bw tL aal run dr hp _ [.sc (.bool (bA z)),bC (T.aK z.natAbs)] rfl rfl (Wm z h)
theorem AJ(z:Int)(h:Zm z):au LT6 run 113 [zs z] (.tup (bif (eH z).ble 9 then [Ab.bz z,.sc (.bool true)] else [Ab.bz 0,.sc (.bool false)])):=fun dr hp=>by
 have:=bw wz Oa run dr hp [zs z] _ rfl rfl (RC z h)
 rw[this]
 cases (eH z).ble 9 <;> rfl
theorem vF(z:Int)(h1 : -9223372036854775808≤z)(h2:z≤9223372036854775807):au LT6 run 114 [.sc (.int .i64 z)] (zs z):=fun dr hp =>
 bw tM aaj run dr hp _ [zs z] rfl rfl (by simp only[uk,decide_eq_true h1,decide_eq_true h2,Bool.and_self,cond_true])
set_option maxHeartbeats 1000000 in
theorem SV (L:Lst)(run:ar)(k:Nat)(s t:ByteArray)(u v:Int)(f1 f2:Bool)(hf:(f1 && f2)=false)(g1:au L run 113 [.sc (.string s)] (.tup [Ab.bz u,.sc (.bool f1)]))(g2:au L run 113 [.sc (.string t)] (.tup [Ab.bz v,.sc (.bool f2)])) :
  ∃ fr,aX (CC L) run k 4 dM ⟨entry 164 [.sc (.string s),.sc (.string t)],[],[]⟩=some ⟨fr,[],[]⟩∧fr.length=164∧nth fr 0 = .sc (.string s)∧nth fr 1 = .sc (.string t):=by
 obtain⟨e1,e2,e3⟩:=cn 162 (.sc (.string s)) (.sc (.string t))
 generalize entry 164 [.sc (.string s),.sc (.string t)]=fr0 at *
 unfold au at *
 simp only[Ab.bz] at *
 cases f1 <;> cases f2 <;> simp only[Bool.and_true,Bool.and_false,Bool.and_self,Bool.true_eq_false] at hf <;> simp[f121,e1,e2,e3,g1,g2,undef]
theorem SW(s t:ByteArray)(m n:Bool)(a b:List Nat)(g1:au L run 115 [.sc (.string s)] (.tup [.sc (.bool m),bC a]))(g2:au L run 115 [.sc (.string t)] (.tup [.sc (.bool n),bC b]))
  (h0':fr.length=164) (h0:nth fr 0 = .sc (.string s)) (h1:nth fr 1 = .sc (.string t)) :
  ∃ fr',aX (CC L) run k 2 (ah 4 dM) ⟨fr,[],[]⟩=some ⟨fr',[],[]⟩∧fr'.length=164∧nth fr' 1 = .sc (.string t)∧nth fr' 12 = .sc (.bool m)∧nth fr' 13=bC a∧nth fr' 14 = .sc (.bool n)∧nth fr' 15=bC b:=by
 unfold au at *
 simp[f121,h0',h0,h1,g1,g2]
set_option maxHeartbeats 1000000 in
theorem Hu(b:PV)(m n:Bool)(x y:List Nat)(t st:Nat)(hx9:x.length<7000000)(hy9:y.length<7000000)(ht:y.length=t+1)(hst:st=x.length - t)
  (h0':fr.length=164) (h1:nth fr 1=b) (h12:nth fr 12 = .sc (.bool m)) (h13:nth fr 13=bC x) (h14:nth fr 14 = .sc (.bool n)) (h15:nth fr 15=bC y) :
  ∃ fr',aX (CC L) run k 2 (ah 6 dM) ⟨fr,[],[]⟩=some ⟨fr',[],[]⟩∧fr'.length=164∧nth fr' 1=b∧nth fr' 12 = .sc (.bool m)∧nth fr' 13=bC x∧nth fr' 14 = .sc (.bool n)∧nth fr' 15=bC y∧nth fr' 16=iv st∧nth fr' 17 = .sc (.slice none 0 0):=by
 have hw1:bE .i64 ((y.length:Int) - 1)=(t:Int):=by rw[cU y.length (by omega)];omega
 have hmx:(if (0:Int)<(t:Int) then (t:Int) else 0)=(t:Int):=by split <;> omega
 have hmx1:mN true [.sc (.int .i64 0),.sc (.int .i64 (t:Int))]=some (.sc (.int .i64 (t:Int))):=by
  simp[mN]
  omega
 have hw2:bE .i64 ((x.length:Int) - (t:Int))=(x.length:Int) - (t:Int):=fI _ (by omega) (by omega)
 have hmx2:(if (0:Int)<(x.length:Int) - (t:Int) then (x.length:Int) - (t:Int) else 0)=(st:Int):=by split <;> omega
 have hmx3:mN true [.sc (.int .i64 0),.sc (.int .i64 ((x.length:Int) - (t:Int)))]=some (.sc (.int .i64 (st:Int))):=by
  simp[mN]
  split <;> omega
 simp only[iv]
 simp[f121,h0',h1,h12,h13,h14,h15,aw,bj,bO,bd,dY,uL,hw1,hmx1,hw2,hmx3]
theorem adl:eL TT 24 0 []=some (1,[]):=by
 simp[eL,uL,sI,zI,rep,dA]
theorem slT (x:List Nat)(st:Nat)(hp:List Blk)(h:st≤x.length):dq TT hp 24 (bC x) (some (.sc (.int .i64 (st:Int)))) none none=some (.imm (x.length - st) false ((x.drop st).map iv)):=by
 have e:bC x = .imm x.length false (x.map iv):=rfl
 rw[e]
 simp only[dq,uL,gQ,sI,bnd,fk,bm]
 simp[gE,h]
 rw[cA,← List.map_drop,dh (by simp)]
 rw[List.take_of_length_le (by simp)]
set_option maxHeartbeats 1000000 in
theorem SU(b:PV)(m n:Bool)(x y:List Nat)(st:Nat)(hx:T.Dok x)(hx9:x.length<7000000)(hst:st≤x.length)
  (h0':fr.length=164) (h1:nth fr 1=b) (h12:nth fr 12 = .sc (.bool m)) (h13:nth fr 13=bC x) (h14:nth fr 14 = .sc (.bool n)) (h15:nth fr 15=bC y) (h16:nth fr 16=iv st) (h17:nth fr 17 = .sc (.slice none 0 0)) :
  ∃ fr' hp' wr',aX (CC LT6) run k 1 (ah 8 dM) ⟨fr,[],[]⟩=some ⟨fr',hp',wr'⟩∧fr'.length=164∧nth fr' 1=b∧nth fr' 12 = .sc (.bool m)∧nth fr' 13=bC x∧nth fr' 14 = .sc (.bool n)∧nth fr' 15=bC y∧nth fr' 16=iv st∧nth fr' 17 = .sc (.slice none 0 0)∧nth fr' 18=bC (T.aK (T.val (x.drop st))):=by
 have hdk:=hx.drop st
 obtain⟨p',hp1,fp,hp2,fp',g1,g2,g3⟩:=FF run false [] [] (x.drop st) T.Dok.nil hdk (by simp;omega)
 have hl:(x.drop st).length=x.length - st:=List.length_drop
 rw[List.nil_append] at g2
 have g1':cJ [] 1 (.imm 0 true []) (x.length - st) ((x.drop st).map iv)=some (p',hp1,fp):=by rw[← hl];exact g1
 have hsl:=slT x st [] hst
 have hrd:ew [] 1 (.imm (x.length - st) false ((x.drop st).map iv))=some (x.length - st,(x.drop st).map iv,[]):=by simp[ew]
 have hok:=jh.yR (x.drop st)
 have hlit:=adl
 generalize (x.drop st).map iv=cs at *
 generalize T.val (x.drop st)=V at *
 simp only[iv] at h16 ⊢
 simp[f121,h0',h1,h12,h13,h14,h15,h16,h17,bd,and_assoc,uL,sI,bI,zI,cg,hlit,hsl,hrd,hok,bU,g1',g2]
def BI:Code:=seq1 (seq1 (ah 9 dM))
def BH:Code:=seq1 (seq1 (ah 10 dM))
theorem SP:ah 9 dM = .seq (.seq BI (.block 0 (.loop jc))) (ah 10 dM):=rfl
theorem NH:ah 10 dM = .seq (.seq BH (.block 4 (.loop qW))) (ah 11 dM):=rfl
theorem SS(b:PV)(m n:Bool)(x y r:List Nat)(st:Nat)(hst:st<20000000)
  (h0':fr.length=164) (h1:nth fr 1=b) (h12:nth fr 12 = .sc (.bool m)) (h13:nth fr 13=bC x) (h14:nth fr 14 = .sc (.bool n)) (h15:nth fr 15=bC y) (h16:nth fr 16=iv st) (h17:nth fr 17 = .sc (.slice none 0 0)) (h18:nth fr 18=bC r) :
  ∃ fr',af (CC L) run k BI ⟨fr,hp,wr⟩=some (.normal,⟨fr',hp,wr⟩)∧QF fr' b m n x y (.sc (.slice none 0 0)) (.sc (.int .i64 ((st:Int) - 1)))∧nth fr' 18=bC r:=by
 have hw:=cU st (by omega)
 simp only[iv] at h16
 simp[QF,BI,f121,seq1,h0',h1,h12,h13,h14,h15,h16,h17,h18,aw,bj,and_assoc,hw]
theorem SR(b:PV)(m n:Bool)(x y r:List Nat)(q i:PV)(h:QF fr b m n x y q i)(h18:nth fr 18=bC r) :
  ∃ fr',af (CC L) run k BH ⟨fr,hp,wr⟩=some (.normal,⟨fr',hp,wr⟩)∧SF fr' b m n r q∧nth fr' 21=iv 0:=by
 obtain⟨h0,h1,h12,h13,h14,h15,h17,h19⟩:=h
 simp[SF,BH,f121,seq1,h0,h1,h12,h14,h17,h18,and_assoc,iv]
theorem Vy(m:Bool)(l:List Nat)(h1:T.Dok l)(h2:l.length<10000000):au LT6 run 116 [.sc (.bool m),bC l] (zs (ia m (T.val l))):=fun dr hp =>
 bw kj Ej run dr hp _ [zs (ia m (T.val l))] rfl (Ft m l) (Bb m l h1 h2)
theorem SQ (run:ar)(k:Nat)(fr:List PV)(hp hp':List Blk)(wr:List Nat)(b:PV)(p s:Bool)(r:List Nat)(q:PV)(sq sr:ByteArray)(fp:FP)(h:SF fr b p s r q)
  (hc1:bX (CC LT6) run false hp 116 [.sc (.bool (p != s)),q]=some (.sc (.string sq),hp',fp)) (hc2:au LT6 run 116 [.sc (.bool p),bC r] (.sc (.string sr))) :
  ∃ fr' wr',aX (CC LT6) run k 1 (ah 11 dM) ⟨fr,hp,wr⟩=some ⟨fr',hp',wr'⟩∧fr'.length=164∧nth fr' 1=b∧nth fr' 12 = .sc (.bool p)∧nth fr' 14 = .sc (.bool s)∧nth fr' 22 = .sc (.string sq)∧nth fr' 23 = .sc (.string sr):=by
 obtain⟨h0,h1,h12,h14,h18,h17⟩:=h
 unfold au at hc2
 cases p <;> cases s <;> simp only[bne_self_eq_false,Bool.bne_true,Bool.bne_false,Bool.not_false] at hc1 <;> simp[f121,h0,h1,h12,h14,h18,h17,dT,bd,and_assoc,uB,hc1,hc2]
set_option maxHeartbeats 1000000 in
theorem xf(b:PV)(p s v:Bool)(sq sr:ByteArray)(hv:eD .neq sr { data:=#[48] } = some (.bool v))(hno:(v && (p != s))=false)
  (h0:fr.length=164) (h1:nth fr 1=b) (h12:nth fr 12 = .sc (.bool p)) (h14:nth fr 14 = .sc (.bool s)) (h22:nth fr 22 = .sc (.string sq)) (h23:nth fr 23 = .sc (.string sr)) :
  ∃ st,af (CC L) run k (ah 12 dM) ⟨fr,hp,wr⟩=some (.ret,st)∧aU TT st.fr st.hp f121.results.toList=some [.sc (.string sq),.sc (.string sr)]:=by
 cases v <;> cases p <;> cases s <;> simp only[bne_self_eq_false,Bool.bne_true,Bool.bne_false,Bool.not_false,Bool.and_true,Bool.and_false,Bool.and_self,Bool.true_eq_false] at hno <;> simp[f121,h0,h12,h14,h22,h23,dT,bd,uB,hv,undef]
set_option maxHeartbeats 1000000 in
theorem SX(b sq sr q2 r2:ByteArray)(hv:eD .neq sr { data:=#[48] } = some (.bool true))(g1:au L run 157 [.sc (.string sq),.sc (.string { data:=#[49] })] (.sc (.string q2)))(g2:au L run 66 [.sc (.string sr),.sc (.string b)] (.sc (.string r2)))
  (h0:fr.length=164) (h1:nth fr 1 = .sc (.string b)) (h12:nth fr 12 = .sc (.bool true)) (h14:nth fr 14 = .sc (.bool false)) (h22:nth fr 22 = .sc (.string sq)) (h23:nth fr 23 = .sc (.string sr)) :
  ∃ st,af (CC L) run k (ah 12 dM) ⟨fr,hp,wr⟩=some (.ret,st)∧aU TT st.fr st.hp f121.results.toList=some [.sc (.string q2),.sc (.string r2)]:=by
 unfold au at *
 simp[f121,h0,h1,h12,h14,h22,h23,dT,bd,uB,hv,g1,g2]
theorem vJ:∀ (a b:List UInt8),eqL a b=decide (a=b)
 | [],[]=>rfl
 | [],_::_=>by simp[eqL]
 | _::_,[]=>by simp[eqL]
 | a::l,b::m=>by
  have:=vJ l m
  simp only[eqL,this]
  have hn:(a.toNat == b.toNat)=decide (a=b):=by
   by_cases h:a=b
   ·subst h;simp
   ·rw[decide_eq_false h,beq_eq_false_iff_ne];exact fun e=>h (UInt8.toNat_inj.1 e)
  rw[hn]
  by_cases h:a=b <;> by_cases h2:l=m <;> simp[h,h2]
theorem adC (z:Int):ztx z=[48] ↔ z=0:=by
 constructor
 ·intro h
  have h1:=cQ z (by rw[h];decide)
  have h2:=cQ 0 (by decide)
  have:zs z=zs 0:=by unfold zs;rw[h];rfl
  rw[this,h2] at h1
  exact (Option.some.inj h1).symm
 ·intro h;subst h;rfl
theorem CO {a b:List Nat}(ha:Bok a)(hb:Bok b):tx a=tx b ↔ a=b:=by
 constructor
 ·intro h
  rw[← jZ ha,h,jZ hb]
 ·intro h;rw[h]
theorem ri (z:Int):eD .neq (tx (ztx z)) { data:=#[48] } = some (.bool (!decide (z=0))):=by
 have e:({ data:=#[48] } : ByteArray)=tx [48]:=rfl
 have h1:decide (bT (tx (ztx z))=bT (tx [48]))=decide (z=0):=by
  have:(bT (tx (ztx z))=bT (tx [48])) ↔ z=0:=by
   rw[← adC z]
   constructor
   ·intro h
    have:tx (ztx z)=tx [48]:=by rw[← gV (tx (ztx z)),h,gV]
    exact (CO (lp z) (Bok.nil.cons (by omega))).1 this
   ·intro h;rw[h]
  simp only[this]
 rw[e]
 simp only[eD,vJ,h1]
set_option maxHeartbeats 2000000 in
theorem ZR(s t sq sr:ByteArray)(u v q r:Int)(g1:au L run 113 [.sc (.string s)] (.tup [Ab.bz u,.sc (.bool true)]))(g2:au L run 113 [.sc (.string t)] (.tup [Ab.bz v,.sc (.bool true)]))
  (hv0 : ¬ v=0) (hv : ¬ v<0) (hq:bE .i64 (u.tdiv v)=q) (hr:u.tmod v=r) (hr0 : ¬ r<0) (g3:au L run 114 [.sc (.int .i64 q)] (.sc (.string sq))) (g4:au L run 114 [.sc (.int .i64 r)] (.sc (.string sr))) :
  ∃ st,af (CC L) run k dM ⟨entry 164 [.sc (.string s),.sc (.string t)],[],[]⟩=some (.ret,st)∧aU TT st.fr st.hp f121.results.toList=some [.sc (.string sq),.sc (.string sr)]:=by
 obtain⟨e1,e2,e3⟩:=cn 162 (.sc (.string s)) (.sc (.string t))
 generalize entry 164 [.sc (.string s),.sc (.string t)]=fr0 at *
 unfold au at *
 simp only[Ab.bz] at *
 by_cases h0:r=0
 ·subst h0
  simp[f121,e1,e2,e3,aw,bj,g1,g2,hv0,hq,hr,g3,g4,undef,number,FP.free]
 ·have h1:(r != 0)=true:=by simpa using h0
  simp[f121,e1,e2,e3,aw,bj,dT,bd,uB,g1,g2,hv0,hv,hq,hr,hr0,h1,g3,g4,number,FP.free]
set_option maxHeartbeats 2000000 in
theorem ZQ(s t sq sr:ByteArray)(u v q0 r0 q r:Int)(g1:au L run 113 [.sc (.string s)] (.tup [Ab.bz u,.sc (.bool true)]))(g2:au L run 113 [.sc (.string t)] (.tup [Ab.bz v,.sc (.bool true)]))
  (hv0 : ¬ v=0) (hv : ¬ v<0) (hq:bE .i64 (u.tdiv v)=q0) (hr:u.tmod v=r0) (hr0:r0<0) (hq1:bE .i64 (q0 - 1)=q) (hr1:bE .i64 (r0+v)=r) (g3:au L run 114 [.sc (.int .i64 q)] (.sc (.string sq))) (g4:au L run 114 [.sc (.int .i64 r)] (.sc (.string sr))) :
  ∃ st,af (CC L) run k dM ⟨entry 164 [.sc (.string s),.sc (.string t)],[],[]⟩=some (.ret,st)∧aU TT st.fr st.hp f121.results.toList=some [.sc (.string sq),.sc (.string sr)]:=by
 obtain⟨e1,e2,e3⟩:=cn 162 (.sc (.string s)) (.sc (.string t))
 generalize entry 164 [.sc (.string s),.sc (.string t)]=fr0 at *
 unfold au at *
 simp only[Ab.bz] at *
 have h0 : ¬ r0=0:=by omega
 have h1:(r0 != 0)=true:=by simpa using h0
 simp[f121,e1,e2,e3,aw,bj,dT,bd,uB,g1,g2,hv0,hv,hq,hr,hr0,h1,hq1,hr1,g3,g4,number,FP.free]
def uh:List PV→Option (List PV)
 | [p,q]=>match fT p,fT q with
  | some x,some y=>bif decide (0<y) then some [zs (x / y),zs (x % y)] else none
  | _,_=>none
 | _=>none
theorem sM (K:Nat)(x y:Int)(hx:Zm x)(hy:Zm y)(hy0:0<y)(hK:(T.aK x.natAbs).length+20≤K)(u v:Int)(f1 f2:Bool)(hf:(f1 && f2)=false)(q1:au LT6 (runK (CC LT6) K) 113 [zs x] (.tup [Ab.bz u,.sc (.bool f1)]))(q2:au LT6 (runK (CC LT6) K) 113 [zs y] (.tup [Ab.bz v,.sc (.bool f2)])) :
  ∃ st,af (CC LT6) (runK (CC LT6) K) K dM ⟨entry 164 [zs x,zs y],[],[]⟩=some (.ret,st)∧aU TT st.fr st.hp f121.results.toList=some [zs (x / y),zs (x % y)]:=by
 have hx3:=Zm.Lq hx
 have hy3:=Zm.Lq hy
 have hY:0<y.natAbs:=by omega
 have hny:bA y=false:=by rw[cR];simp;omega
 obtain⟨a1,b1,b2,b3,b4⟩:=SV LT6 (runK (CC LT6) K) K _ _ u v f1 f2 hf q1 q2
 obtain⟨a2,c1,c2,c3,c4,c5,c6,c7⟩:=SW LT6 (runK (CC LT6) K) K a1 _ _ _ _ _ _ (K9 _ x hx) (K9 _ y hy) b2 b3 b4
 have hyl:=T.da.2 (show y.natAbs≠0 by omega)
 obtain⟨t,ht⟩:∃ t,(T.aK y.natAbs).length=t+1:=⟨(T.aK y.natAbs).length - 1,by omega⟩
 obtain⟨st,hst⟩:∃ st,st=(T.aK x.natAbs).length - t:=⟨_,rfl⟩
 obtain⟨a3,d1,d2,d3,d4,d5,d6,d7,d8,d9⟩:=Hu LT6 (runK (CC LT6) K) K a2 _ _ _ _ _ t st (by omega) (by omega) ht hst c2 c3 c4 c5 c6 c7
 obtain⟨a4,hp4,wr4,e1,e2,e3,e4,e5,e6,e7,e8,e9,e10⟩:=SU (runK (CC LT6) K) K a3 _ _ _ _ _ st (T.cb x.natAbs) (by omega) (by omega) d2 d3 d4 d5 d6 d7 d8 d9
 obtain⟨a5,g1,g2,g3⟩:=SS LT6 (runK (CC LT6) K) K a4 hp4 wr4 _ _ _ _ _ _ st (by omega) e2 e3 e4 e5 e6 e7 e8 e9 e10
 have hR0:T.val ((T.aK x.natAbs).drop st)<y.natAbs:=by
  have h1:=T.fh ((T.cb x.natAbs).drop st)
  rw[List.length_drop] at h1
  have h2:10 ^ t≤y.natAbs:=by
   rcases Nat.lt_or_ge y.natAbs (10 ^ t) with h | h
   ·have:=T.du h;omega
   ·exact h
  have h3:10 ^ ((T.aK x.natAbs).length - st)≤10 ^ t:=Nat.pow_le_pow_right (by omega) (by omega)
  omega
 obtain⟨a6,hp6,wr6,out,q6,k1,k2,k3,k4,k5,k6,k7⟩:=xh (runK (CC LT6) K) K _ _ _ (T.aK x.natAbs) y.natAbs (T.cb _) (by omega) hY (by omega) (by omega) st _ a5 hp4 wr4 [] _ (by omega) hR0 (by simp;omega) T.Dok.nil (by simp[T.val]) g2 g3 (dF.nil (Nat.zero_le _))
 rw[T.cj] at k3 k6
 obtain⟨a7,l1,l2,l3⟩:=SR LT6 (runK (CC LT6) K) K a6 hp6 wr6 _ _ _ _ _ _ _ _ k2 k3
 obtain⟨a8,hp8,wr8,m1,m2,m3⟩:=NI LT6 (runK (CC LT6) K) K _ _ _ _ out q6 (by omega) a7 hp6 wr6 k4 l2 l3
 have hor:T.Dok out.reverse:=yw k5
 have htx:=Bb (bA x != bA y) out.reverse hor (by rw[List.length_reverse];omega)
 rw[k6] at htx
 obtain⟨hp9,fp,n1,-⟩:=pg kj Ej (runK (CC LT6) K) false jh (bA x != bA y) m3.s _ htx
 have hrl:(T.aK (x.natAbs % y.natAbs)).length<10000000:=Nat.lt_of_le_of_lt (T.cK (Nat.le_of_lt (Nat.mod_lt _ hY))) (by omega)
 have n2:=Vy (runK (CC LT6) K) (bA x) (T.aK (x.natAbs % y.natAbs)) (T.cb _) hrl
 rw[T.cj] at n2
 obtain⟨a9,wr9,o1,o2,o3,o4,o5,o6,o7⟩:=SQ (runK (CC LT6) K) K a8 hp8 hp9 wr8 _ _ _ _ _ _ _ fp m2 n1 n2
 have hex:∀ {z},af (CC LT6) (runK (CC LT6) K) K (ah 12 dM) ⟨a9,hp9,wr9⟩=z→af (CC LT6) (runK (CC LT6) K) K dM ⟨entry 164 [zs x,zs y],[],[]⟩=z:=by
  intro z hz
  have h1:af (CC LT6) (runK (CC LT6) K) K dM ⟨entry 164 [zs x,zs y],[],[]⟩=af (CC LT6) (runK (CC LT6) K) K (ah 4 dM) ⟨a1,[],[]⟩:=aO 4 b1
  rw[h1,aO 2 c1,show ah 2 (ah 4 dM)=ah 6 dM from rfl,aO 2 d1,show ah 2 (ah 6 dM)=ah 8 dM from rfl,aO 1 e1,show ah 1 (ah 8 dM)=ah 9 dM from rfl,
   SP,av ((av g1).trans (bN (ca k1 (by omega)))),NH,av ((av l1).trans (bN (ca m1 (by omega)))),aO 1 o1]
  exact hz
 rw[hny] at o5
 by_cases hxn:x<0
 ·have hnx:bA x=true:=by rw[cR];simpa using hxn
  rw[hnx] at o4
  have eq1:ia (bA x != bA y) (x.natAbs / y.natAbs) = -((x.natAbs / y.natAbs:Nat):Int):=by rw[hnx,hny,kQ];rfl
  have er1:ia (bA x) (x.natAbs % y.natAbs) = -((x.natAbs % y.natAbs:Nat):Int):=by rw[hnx,kQ];rfl
  rw[eq1] at o6
  rw[er1] at o7
  by_cases h0:x.natAbs % y.natAbs=0
  ·obtain⟨w1,w2⟩:=acd hy0 hxn h0
   have hv:=ri (-((x.natAbs % y.natAbs:Nat):Int))
   obtain⟨st',x1,x2⟩:=xf LT6 (runK (CC LT6) K) K a9 hp9 wr9 _ true false _ _ _ hv (by rw[h0];rfl) o2 o3 o4 o5 o6 o7
   refine⟨st',hex x1,?_⟩
   rw[x2,w1,w2,h0];rfl
  ·obtain⟨w1,w2⟩:=agc hy0 hxn h0
   have hv:=ri (-((x.natAbs % y.natAbs:Nat):Int))
   rw[decide_eq_false (by omega)] at hv
   have zx:∀ z:Int,z≤0→z.natAbs≤x.natAbs→Zm z:=by
    intro z hz0 hz
    have h1:(ztx x).length≤fX:=hx
    unfold Zm
    rw[gN,hnx] at h1
    rw[gN]
    have h2:=oJ hz
    cases bA z <;> simp at h1 ⊢ <;> omega
   have hq1:Zm (-((x.natAbs / y.natAbs:Nat):Int)):=zx _ (by omega) (by rw[Int.natAbs_neg,Int.natAbs_natCast];exact Nat.div_le_self _ _)
   have hr1:Zm (-((x.natAbs % y.natAbs:Nat):Int)):=zx _ (by omega) (by rw[Int.natAbs_neg,Int.natAbs_natCast];exact Nat.mod_le _ _)
   have p1:au LT6 (runK (CC LT6) K) 157 [zs (-((x.natAbs / y.natAbs:Nat):Int)),.sc (.string { data:=#[49] })] (zs (x / y)):=fun dr hp =>
    bw GD aak _ dr hp [zs (-((x.natAbs / y.natAbs:Nat):Int)),zs 1] [zs (x / y)] rfl rfl (by
     have h2:(eH 1).blt fX=true:=by decide
     have h3:fT (zs 1)=some 1:=cQ 1 (by decide)
     simp only[xk,cQ _ hq1,h3,h2,cond_true,w1])
   have p2:au LT6 (runK (CC LT6) K) 66 [zs (-((x.natAbs % y.natAbs:Nat):Int)),zs y] (zs (x % y)):=fun dr hp =>
    bw ss TN _ dr hp _ [zs (x % y)] rfl rfl (by simp only[iV,cQ _ hr1,cQ _ hy,w2])
   obtain⟨st',x1,x2⟩:=SX LT6 (runK (CC LT6) K) K a9 hp9 wr9 _ _ _ _ _ hv p1 p2 o2 o3 o4 o5 o6 o7
   exact⟨st',hex x1,x2⟩
 ·have hnx:bA x=false:=by rw[cR];simpa using hxn
  obtain⟨w1,w2⟩:=agb hy0 (show 0≤x by omega)
  have eq1:ia (bA x != bA y) (x.natAbs / y.natAbs)=((x.natAbs / y.natAbs:Nat):Int):=by rw[hnx,hny,kQ];rfl
  have er1:ia (bA x) (x.natAbs % y.natAbs)=((x.natAbs % y.natAbs:Nat):Int):=by rw[hnx,kQ];rfl
  rw[eq1] at o6
  rw[er1] at o7
  rw[hnx] at o4
  have hv:=ri ((x.natAbs % y.natAbs:Nat):Int)
  obtain⟨st',x1,x2⟩:=xf LT6 (runK (CC LT6) K) K a9 hp9 wr9 _ false false _ _ _ hv (by simp) o2 o3 o4 o5 o6 o7
  refine⟨st',hex x1,?_⟩
  rw[x2,w1,w2];rfl
theorem z7:Ab.Spec base.P 121 uh:=Ab.Spec.bM (C:=CC LT6) (cP agU) fun args rs h=>by
 unfold uh at h
 split at h
 ·split at h
  ·rename_i x y ex ey
   obtain⟨rfl,hx⟩:=dx ex
   obtain⟨rfl,hy⟩:=dx ey
   by_cases hy0:0<y
   ·rw[decide_eq_true hy0] at h
    simp only[cond_true,OiE] at h
    subst h
    generalize hK:(T.aK x.natAbs).length+20=K
    have gs1:=AJ (runK (CC LT6) K) x hx
    have gs2:=AJ (runK (CC LT6) K) y hy
    suffices hgo:∃ st,af (CC LT6) (runK (CC LT6) K) K dM ⟨entry 164 [zs x,zs y],[],[]⟩=some (.ret,st)∧aU TT st.fr st.hp f121.results.toList=some [zs (x / y),zs (x % y)] by
     obtain⟨st,x1,x2⟩:=hgo
     exact⟨K+1,_,_,_,_,_,aP Jo rfl x1 x2,rfl,Wk.refl rfl,Wk.refl rfl,trivial⟩
    cases h1:(eH x).ble 9 with
    | false =>
     rw[h1] at gs1
     cases h2:(eH y).ble 9 with
     | false=>rw[h2] at gs2;exact sM K x y hx hy hy0 (by omega) _ _ false false rfl gs1 gs2
     | true=>rw[h2] at gs2;exact sM K x y hx hy hy0 (by omega) _ _ false true rfl gs1 gs2
    | true =>
     rw[h1] at gs1
     cases h2:(eH y).ble 9 with
     | false=>rw[h2] at gs2;exact sM K x y hx hy hy0 (by omega) _ _ true false rfl gs1 gs2
     | true =>
      rw[h2] at gs2
      have b1:=ze h1
      have b2:=ze h2
      have c1:=Int.mul_tdiv_add_tmod x y
      have c2:=Int.tmod_lt_of_pos x hy0
      have c3:=Int.lt_tmod_of_pos x hy0
      have c4:=Int.natAbs_tdiv_le_natAbs x y
      generalize hq:x.tdiv y=q at *
      generalize hr:x.tmod y=r at *
      by_cases hr0:r<0
      ·obtain⟨w1,w2⟩:=lZ (x:=x) (y:=y) (q:=q - 1) (r:=r+y) hy0 (by rw[Int.mul_sub,Int.mul_one];omega) (by omega) (by omega)
       rw[w1,w2]
       exact ZQ LT6 (runK (CC LT6) K) K _ _ _ _ x y q r (q - 1) (r+y) gs1 gs2 (by omega) (by omega) (by rw[hq];exact fI _ (by omega) (by omega)) hr hr0 (fI _ (by omega) (by omega)) (fI _ (by omega) (by omega)) (vF _ _ (by omega) (by omega)) (vF _ _ (by omega) (by omega))
      ·obtain⟨w1,w2⟩:=lZ (x:=x) (y:=y) (q:=q) (r:=r) hy0 (by omega) (by omega) (by omega)
       rw[w1,w2]
       exact ZR LT6 (runK (CC LT6) K) K _ _ _ _ x y q r gs1 gs2 (by omega) (by omega) (by rw[hq];exact fI _ (by omega) (by omega)) hr hr0 (vF _ _ (by omega) (by omega)) (vF _ _ (by omega) (by omega))
   ·rw[decide_eq_false hy0] at h
    cases h
  ·cases h
 ·cases h
def LT7:Lst:=[(155,sO),(121,uh)]
theorem agT:dw base.P LT7:=⟨Hw,z7,trivial⟩
theorem KJ:bu LT7 155=fun a=>sO (aJ a):=rfl
theorem aai:bu LT7 121=fun a=>uh (aJ a):=rfl
def qX:Code:=f112.body.getD .skip
def Ah:Code:=((f112.body).bind aC).getD .skip
theorem Th(a b:ByteArray)(hv:eD .neq b { data:=#[48] } = some (.bool false))(h24:fr.length=24)(h5:nth fr 5 = .sc (.string a))(h6:nth fr 6 = .sc (.string b)) :
  ∃ fr',af (CC L) run k Ah ⟨fr,hp,wr⟩=some (.exit 0,⟨fr',hp,wr⟩)∧fr'.length=24∧nth fr' 5 = .sc (.string a):=by
 simp[Ah,f112,aC,h24,h5,h6,hv]
theorem ZU(a b q r:ByteArray)(hv:eD .neq b { data:=#[48] } = some (.bool true))(g:au L run 121 [.sc (.string a),.sc (.string b)] (.tup [.sc (.string q),.sc (.string r)]))(h24:fr.length=24)(h5:nth fr 5 = .sc (.string a))(h6:nth fr 6 = .sc (.string b)) :
  ∃ fr',af (CC L) run k Ah ⟨fr,hp,wr⟩=some (.normal,⟨fr',hp,wr⟩)∧fr'.length=24∧nth fr' 5 = .sc (.string b)∧nth fr' 6 = .sc (.string r):=by
 unfold au at g
 simp[Ah,f112,aC,h24,h5,h6,hv,g]
theorem Zm.ah8 {x y:Nat}(h:Zm (y:Int))(hl:x≤y):Zm (x:Int):=by
 unfold Zm at *
 rw[gN] at *
 have h1:bA (x:Int)=false:=rfl
 have h2:bA (y:Int)=false:=rfl
 rw[h1]
 rw[h2] at h
 have h3:=oJ (x:=(x:Int)) (y:=(y:Int)) (by simpa using hl)
 simp only[cond_false] at h ⊢
 omega
theorem abY (run:ar)(x y:Nat)(hx:Zm (x:Int))(hy:Zm (y:Int))(h0:0<y):au LT7 run 121 [zs (x:Int),zs (y:Int)] (.tup [zs ((x:Int) / (y:Int)),zs ((x % y:Nat):Int)]):=fun dr hp =>
 bw C4 aai run dr hp _ [zs ((x:Int) / (y:Int)),zs ((x % y:Nat):Int)] rfl rfl (by
  have h1:(0:Int)<(y:Int):=by omega
  simp only[uh,cQ _ hx,cQ _ hy,decide_eq_true h1,cond_true]
  rfl)
theorem Af (run:ar)(k:Nat)(hp:List Blk)(wr:List Nat):∀ (n y x:Nat) (fr:List PV),y<n→Zm (x:Int)→Zm (y:Int)→fr.length=24→nth fr 5=zs (x:Int)→nth fr 6=zs (y:Int) →
  ∃ fr',cu (af (CC LT7) run k Ah) n ⟨fr,hp,wr⟩=some (.exit 0,⟨fr',hp,wr⟩)∧fr'.length=24∧nth fr' 5=zs ((Nat.gcd x y:Nat):Int)
 | 0,y,x,fr,hn,_,_,_,_,_=>by omega
 | n+1,y,x,fr,hn,hx,hy,h24,h5,h6=>by
  have hv:=ri (y:Int)
  by_cases h0:y=0
  ·subst h0
   obtain⟨fr',g1,g2,g3⟩:=Th LT7 run k fr hp wr _ _ hv h24 h5 h6
   exact⟨fr',bD g1,g2,by rw[g3,Nat.gcd_zero_right];rfl⟩
  ·rw[decide_eq_false (by omega)] at hv
   obtain⟨fr1,g1,g2,g3,g4⟩:=ZU LT7 run k fr hp wr _ _ _ _ hv (abY run x y hx hy (by omega)) h24 h5 h6
   have hm:=Nat.mod_lt x (show 0<y by omega)
   obtain⟨fr',q1,q2,q3⟩:=Af run k hp wr n (x % y) y fr1 (by omega) hy (hy.ah8 (by omega)) g2 g3 g4
   refine⟨fr',by rw[ct g1];exact q1,q2,?_⟩
   rw[q3,Nat.gcd_comm y (x % y),← Nat.gcd_rec,Nat.gcd_comm]
theorem HI:ah 2 qX = .seq (.block 0 (.loop Ah)) (ah 3 qX):=rfl
theorem Tg (L:Lst)(run:ar)(k:Nat)(s t u v:ByteArray)(g1:au L run 155 [.sc (.string s)] (.sc (.string u)))(g2:au L run 155 [.sc (.string t)] (.sc (.string v))) :
  ∃ fr,aX (CC L) run k 2 qX ⟨entry 24 [.sc (.string s),.sc (.string t)],[],[]⟩=some ⟨fr,[],[]⟩∧fr.length=24∧nth fr 5 = .sc (.string u)∧nth fr 6 = .sc (.string v):=by
 obtain⟨e1,e2,e3⟩:=cn 22 (.sc (.string s)) (.sc (.string t))
 generalize entry 24 [.sc (.string s),.sc (.string t)]=fr0 at *
 unfold au at *
 simp[qX,f112,e1,e2,e3,g1,g2]
theorem NR(a:ByteArray)(h24:fr.length=24)(h5:nth fr 5 = .sc (.string a)) :
  ∃ st,af (CC L) run k (ah 3 qX) ⟨fr,hp,wr⟩=some (.ret,st)∧aU TT st.fr st.hp f112.results.toList=some [.sc (.string a)]:=by
 simp[qX,f112,h24,h5]
def um:List PV→Option (List PV)
 | [p,q]=>match fT p,fT q with
  | some x,some y=>some [zs ((Nat.gcd x.natAbs y.natAbs:Nat):Int)]
  | _,_=>none
 | _=>none
theorem Zm.abs {x:Int}(h:Zm x):Zm (x.natAbs:Int):=by
 unfold Zm at *
 rw[gN] at *
 have h1:bA (x.natAbs:Int)=false:=rfl
 rw[h1]
 have h3:=oJ (x:=(x.natAbs:Int)) (y:=x) (by simp)
 simp only[cond_false]
 omega
theorem Ae:Ab.Spec base.P 112 um:=Ab.Spec.bM (C:=CC LT7) (cP agT) fun args rs h=>by
 unfold um at h
 split at h
 ·split at h
  ·rename_i x y ex ey
   obtain⟨rfl,hx⟩:=dx ex
   obtain⟨rfl,hy⟩:=dx ey
   simp only[OiE] at h
   subst h
   generalize hK:y.natAbs+1=K
   have g1:au LT7 (runK (CC LT7) K) 155 [zs x] (zs (x.natAbs:Int)):=fun dr hp=>bw C5 KJ _ dr hp _ [zs (x.natAbs:Int)] rfl rfl (by simp only[sO,cQ x hx];rfl)
   have g2:au LT7 (runK (CC LT7) K) 155 [zs y] (zs (y.natAbs:Int)):=fun dr hp=>bw C5 KJ _ dr hp _ [zs (y.natAbs:Int)] rfl rfl (by simp only[sO,cQ y hy];rfl)
   obtain⟨f1,a1,a2,a3,a4⟩:=Tg LT7 (runK (CC LT7) K) K _ _ _ _ g1 g2
   obtain⟨f2,b1,b2,b3⟩:=Af (runK (CC LT7) K) K [] [] K y.natAbs x.natAbs f1 (by omega) (Zm.abs hx) (Zm.abs hy) a2 a3 a4
   obtain⟨st,x1,x2⟩:=NR LT7 (runK (CC LT7) K) K f2 [] [] _ b2 b3
   have h1:af (CC LT7) (runK (CC LT7) K) K qX ⟨entry 24 [zs x,zs y],[],[]⟩=af (CC LT7) (runK (CC LT7) K) K (ah 2 qX) ⟨f1,[],[]⟩:=aO 2 a1
   have hx':af (CC LT7) (runK (CC LT7) K) K qX ⟨entry 24 [zs x,zs y],[],[]⟩=some (.ret,st):=by
    rw[h1,HI,av (bN b1)]
    exact x1
   exact⟨K+1,_,_,_,_,_,aP Jr rfl hx' x2,rfl,Wk.refl rfl,trivial⟩
  ·cases h
 ·cases h
def spl (l:List Nat):List Nat × List Nat × Bool:=match fS l with
 | some j=>(l.take j,l.drop (j+1),true)
 | none=>(l,[49],false)
theorem QR {l:List Nat}(h:Bok l):Bok (spl l).1∧Bok (spl l).2.1:=by
 unfold spl
 split
 ·exact⟨h.take _,h.drop _⟩
 ·exact⟨h,Bok.nil.cons (by omega)⟩
theorem vp (l:List Nat):(spl l).1.length≤l.length∧(spl l).2.1.length≤l.length+1:=by
 unfold spl
 split
 ·simp;omega
 ·simp
theorem Gm (l:List Nat)(h:Bok l)(h9:l.length<20000000):kT [.sc (.string (tx l))]=some [.sc (.string (tx (spl l).1)),.sc (.string (tx (spl l).2.1)),.sc (.bool (spl l).2.2)]:=by
 have hb:l.length.blt 20000000=true:=by rw[Nat.blt_eq];exact h9
 simp only[kT,jZ h,hb,cond_true,spl]
 cases fS l <;> rfl
def LT8:Lst:=[(65,kT),(100,oX)]
theorem agS:dw base.P LT8:=⟨oW,ur,trivial⟩
theorem aeP:bu LT8 65=fun a=>kT (aJ a):=rfl
theorem TL:bu LT8 100=fun a=>oX (aJ a):=rfl
theorem af6(l:List Nat)(h:Bok l)(h9:l.length<20000000):au LT8 run 65 [.sc (.string (tx l))] (.tup [.sc (.string (tx (spl l).1)),.sc (.string (tx (spl l).2.1)),.sc (.bool (spl l).2.2)]):=fun dr hp =>
 bw ko aeP run dr hp _ [.sc (.string (tx (spl l).1)),.sc (.string (tx (spl l).2.1)),.sc (.bool (spl l).2.2)] rfl rfl (Gm l h h9)
theorem EU (run:ar)(l:List Nat)(h:Bok l)(h9:l.length<30000000):au LT8 run 100 [.sc (.string (tx l))] (.sc (.bool (decide (1000<fi l)))):=fun dr hp =>
 bw My TL run dr hp _ [.sc (.bool (decide (1000<fi l)))] rfl rfl (by
  have hb:l.length.blt 100000000=true:=by rw[Nat.blt_eq];omega
  simp only[oX,jZ h,hb,cond_true])
theorem Dx(s a b:ByteArray)(sl u v:Bool)(g1:au L run 65 [.sc (.string s)] (.tup [.sc (.string a),.sc (.string b),.sc (.bool sl)]))(g2:au L run 100 [.sc (.string a)] (.sc (.bool u)))(g3:au L run 100 [.sc (.string b)] (.sc (.bool v))) :
  ∃ st,af (CC L) run k (f48.body.getD .skip) ⟨entry 18 [.sc (.string s)],[],[]⟩=some (.ret,st)∧aU TT st.fr st.hp f48.results.toList=some [.sc (.bool (u || v))]:=by
 obtain⟨e1,e2⟩:=cW 17 (.sc (.string s))
 generalize entry 18 [.sc (.string s)]=fr0 at *
 unfold au at *
 cases u <;> simp[f48,e1,e2,g1,g2,g3,undef]
def uC (l:List Nat):Bool:=decide (1000<fi (spl l).1) || decide (1000<fi (spl l).2.1)
def j7:List PV→Option (List PV)
 | [.sc (.string s)]=>bif (bys s).length.blt 20000000 then some [.sc (.bool (uC (bys s)))] else none
 | _=>none
theorem nO:Ab.Spec base.P 48 j7:=Ab.Spec.bM (C:=CC LT8) (cP agS) fun args rs h=>by
 unfold j7 at h
 split at h
 ·rename_i s
  cases hb:(bys s).length.blt 20000000 with
  | false=>rw[hb] at h;cases h
  | true =>
   rw[hb] at h
   simp only[cond_true,OiE] at h
   subst h
   rw[Nat.blt_eq] at hb
   have hok:=mY s
   obtain⟨h1,h2⟩:=QR hok
   obtain⟨h3,h4⟩:=vp (bys s)
   obtain⟨st,x1,x2⟩:=Dx LT8 (runK (CC LT8) 1) 1 _ _ _ _ _ _ (af6 _ (bys s) hok hb) (EU _ _ h1 (by omega)) (EU _ _ h2 (by omega))
   rw[iO] at x1
   exact⟨2,_,_,_,_,_,aP FM rfl x1 x2,rfl,Wk.refl rfl,trivial⟩
 ·cases h
theorem Bf (n d:Int):spl (qtx n d)=(ztx n,ztx d, !decide (d=1)):=by
 unfold spl
 rw[OO]
 unfold qtx
 by_cases h:d=1
 ·subst h
  simp[X9]
 ·simp[h]
def qs (n d:Int):PV:=.sc (.string (tx (qtx n d)))
def LT9:Lst:=[(65,kT),(120,nQ),(69,mG),(112,um),(121,uh)]
theorem XC:dw base.P LT9:=⟨oW,xj,pQ,Ae,z7,trivial⟩
theorem aeO:bu LT9 65=fun a=>kT (aJ a):=rfl
theorem aaf:bu LT9 120=fun a=>nQ (aJ a):=rfl
theorem aah:bu LT9 69=fun a=>mG (aJ a):=rfl
theorem aag:bu LT9 112=fun a=>um (aJ a):=rfl
theorem aae:bu LT9 121=fun a=>uh (aJ a):=rfl
theorem ZX (n d:Int):(qtx n d).length≤(ztx n).length+(ztx d).length+1:=by
 unfold qtx
 split
 ·omega
 ·simp;omega
theorem Gn (n d:Int)(hn:Zm n)(hd:Zm d):kT [qs n d]=some [zs n,zs d,.sc (.bool (!decide (d=1)))]:=by
 have h1:(ztx n).length≤3000000:=hn
 have h2:(ztx d).length≤3000000:=hd
 have h3:=ZX n d
 have:=Gm (qtx n d) (HO n d) (by omega)
 rw[Bf] at this
 exact this
theorem af5(n d:Int)(hn:Zm n)(hd:Zm d):au LT9 run 65 [qs n d] (.tup [zs n,zs d,.sc (.bool (!decide (d=1)))]):=fun dr hp =>
 bw ko aeO run dr hp _ [zs n,zs d,.sc (.bool (!decide (d=1)))] rfl rfl (Gn n d hn hd)
theorem BV(n:Int)(hn:Zm n):au LT9 run 120 [zs n] (zs (-n)):=fun dr hp =>
 bw C6 aaf run dr hp _ [zs (-n)] rfl rfl (by simp only[nQ,cQ n hn])
theorem Pz (a b:List Nat)(h:a.length+b.length<100000000):eD .add (tx a) (tx b)=some (.string (tx (a++b))):=by
 simp only[eD,dX]
 rw[if_neg (by omega)]
 simp[tx,fy]
theorem Hi(n d m:Int)(hm9:(ztx m).length≤4000000)(hd9:(ztx d).length≤4000000)(g1:au L run 65 [qs n d] (.tup [zs n,zs d,.sc (.bool (!decide (d=1)))]))(g2:au L run 120 [zs n] (zs m)) :
  ∃ st,af (CC L) run k (f122.body.getD .skip) ⟨entry 21 [qs n d],[],[]⟩=some (.ret,st)∧aU TT st.fr st.hp f122.results.toList=some [qs m d]:=by
 obtain⟨e1,e2⟩:=cW 20 (qs n d)
 generalize entry 21 [qs n d]=fr0 at *
 unfold au at *
 have h47:({ data:=#[47] } : ByteArray)=tx [47]:=rfl
 have b1:=Pz (ztx m) [47] (by simp;omega)
 have b2:=Pz (ztx m++[47]) (ztx d) (by simp;omega)
 by_cases h:d=1
 ·subst h
  have hq:qtx m 1=ztx m:=rfl
  simp only[decide_true,Bool.not_true,qs,zs,hq] at *
  simp[f122,e1,e2,unP,g1,g2]
 ·have hq:qtx m d=(ztx m++[47])++ztx d:=by rw[qtx,if_neg h];simp
  rw[decide_eq_false h] at g1
  simp only[Bool.not_false,qs,zs,hq] at *
  simp[-List.append_assoc,f122,e1,e2,unP,g1,g2,h47,b1,b2]
def kU:Code:=f67.body.getD .skip
theorem Ss (L:Lst)(run:ar)(k:Nat)(a b:ByteArray)(c:Int)(hc : ¬ c<0)(g:au L run 69 [.sc (.string b),.sc (.string { data:=#[48] })] (Ab.bz c)) :
  ∃ fr,aX (CC L) run k 2 kU ⟨entry 37 [.sc (.string a),.sc (.string b)],[],[]⟩=some ⟨fr,[],[]⟩∧fr.length=37∧nth fr 0 = .sc (.string a)∧nth fr 1 = .sc (.string b):=by
 obtain⟨e1,e2,e3⟩:=cn 35 (.sc (.string a)) (.sc (.string b))
 generalize entry 37 [.sc (.string a),.sc (.string b)]=fr0 at *
 unfold au at *
 simp only[Ab.bz] at *
 simp[kU,f67,e1,e2,e3,aw,bj,g,hc]
theorem Sv (L:Lst)(run:ar)(k:Nat)(a b a' b':ByteArray)(c:Int)(hc:c<0)(g:au L run 69 [.sc (.string b),.sc (.string { data:=#[48] })] (Ab.bz c))(g1:au L run 120 [.sc (.string a)] (.sc (.string a')))(g2:au L run 120 [.sc (.string b)] (.sc (.string b'))) :
  ∃ fr,aX (CC L) run k 2 kU ⟨entry 37 [.sc (.string a),.sc (.string b)],[],[]⟩=some ⟨fr,[],[]⟩∧fr.length=37∧nth fr 0 = .sc (.string a')∧nth fr 1 = .sc (.string b'):=by
 obtain⟨e1,e2,e3⟩:=cn 35 (.sc (.string a)) (.sc (.string b))
 generalize entry 37 [.sc (.string a),.sc (.string b)]=fr0 at *
 unfold au at *
 simp only[Ab.bz] at *
 simp[kU,f67,e1,e2,e3,aw,bj,g,hc,g1,g2]
theorem Su(a b g:ByteArray)(hv:eD .neq g { data:=#[49] } = some (.bool false))(g1:au L run 112 [.sc (.string a),.sc (.string b)] (.sc (.string g)))(h37:fr.length=37)(h0:nth fr 0 = .sc (.string a))(h1:nth fr 1 = .sc (.string b)) :
  ∃ fr',aX (CC L) run k 2 (ah 2 kU) ⟨fr,[],[]⟩=some ⟨fr',[],[]⟩∧fr'.length=37∧nth fr' 0 = .sc (.string a)∧nth fr' 1 = .sc (.string b):=by
 unfold au at *
 simp[kU,f67,h37,h0,h1,g1,hv]
theorem Nq(a b g a' b' x y:ByteArray)(hv:eD .neq g { data:=#[49] } = some (.bool true))(g1:au L run 112 [.sc (.string a),.sc (.string b)] (.sc (.string g)))(g2:au L run 121 [.sc (.string a),.sc (.string g)] (.tup [.sc (.string a'),.sc (.string x)]))(g3:au L run 121 [.sc (.string b),.sc (.string g)] (.tup [.sc (.string b'),.sc (.string y)]))
  (h37:fr.length=37) (h0:nth fr 0 = .sc (.string a)) (h1:nth fr 1 = .sc (.string b)) :
  ∃ fr',aX (CC L) run k 2 (ah 2 kU) ⟨fr,[],[]⟩=some ⟨fr',[],[]⟩∧fr'.length=37∧nth fr' 0 = .sc (.string a')∧nth fr' 1 = .sc (.string b'):=by
 unfold au at *
 simp[kU,f67,h37,h0,h1,g1,g2,g3,hv]
theorem zq (z:Int):decide (bT (tx (ztx z))=bT (tx [49]))=decide (z=1):=by
 have:(bT (tx (ztx z))=bT (tx [49])) ↔ z=1:=by
  constructor
  ·intro h
   have h1:tx (ztx z)=tx [49]:=by rw[← gV (tx (ztx z)),h,gV]
   have h2:=(CO (lp z) (Bok.nil.cons (by omega))).1 h1
   have h3:=cQ z (by rw[h2];decide)
   have h4:=cQ 1 (by decide)
   have:zs z=zs 1:=by unfold zs;rw[h2];rfl
   rw[this,h4] at h3
   exact (Option.some.inj h3).symm
  ·intro h;subst h;rfl
 simp only[this]
theorem aa9 (z:Int):eD .neq (tx (ztx z)) { data:=#[49] } = some (.bool (!decide (z=1))):=by
 have e:({ data:=#[49] } : ByteArray)=tx [49]:=rfl
 rw[e]
 simp only[eD,vJ,zq]
theorem jy (z:Int):eD .eql (tx (ztx z)) { data:=#[49] } = some (.bool (decide (z=1))):=by
 have e:({ data:=#[49] } : ByteArray)=tx [49]:=rfl
 rw[e]
 simp only[eD,vJ,zq]
theorem zT(n d:Int)(hn9:(ztx n).length≤4000000)(hd9:(ztx d).length≤4000000)(h37:fr.length=37)(h0:nth fr 0=zs n)(h1:nth fr 1=zs d) :
  ∃ st,af (CC L) run k (ah 4 kU) ⟨fr,[],[]⟩=some (.ret,st)∧aU TT st.fr st.hp f67.results.toList=some [qs n d]:=by
 have h47:({ data:=#[47] } : ByteArray)=tx [47]:=rfl
 have b1:=Pz (ztx n) [47] (by simp;omega)
 have b2:=Pz (ztx n++[47]) (ztx d) (by simp;omega)
 have hv:=jy d
 by_cases h:d=1
 ·subst h
  have hq:qtx n 1=ztx n:=rfl
  simp only[decide_true,qs,zs,hq] at *
  simp[kU,f67,h37,h0,h1,hv]
 ·have hq:qtx n d=(ztx n++[47])++ztx d:=by rw[qtx,if_neg h];simp
  rw[decide_eq_false h] at hv
  simp only[qs,zs,hq] at *
  simp[-List.append_assoc,kU,f67,h37,h0,h1,hv,h47,b1,b2]
end Go.Proofs.YtjdmodeenbdfpaaGreat
end
