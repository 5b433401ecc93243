/- Contracts of numbers kept as digits in text, part 35 of the proof; each lemma states its own conditions. -/
import Derived.Test.YtjdmodeenbdfpaaGreatQ34
set_option linter.unusedSimpArgs false
set_option linter.unusedVariables false
namespace Go.Proofs.YtjdmodeenbdfpaaGreat
open Go Go.Ab
theorem JI (run:aq)(z:Int)(h:Zm z):ar LT6 run 115 [zs z] (.tup [.sc (.bool (bt z)),bw (T.aA z.natAbs)]):=fun dr hp =>
 bp sa XW run dr hp _ [.sc (.bool (bt z)),bw (T.aA z.natAbs)] rfl rfl (Uc z h)
theorem zC (run:aq)(z:Int)(h:Zm z):ar LT6 run 113 [zs z] (.tup (bif (dN z).ble 9 then [Ab.bC z,.sc (.bool true)] else [Ab.bC 0,.sc (.bool false)])):=fun dr hp=>by
 have:=bp uN MK run dr hp [zs z] _ rfl rfl (Po z h)
 rw[this]
 cases (dN z).ble 9 <;> rfl
theorem tU (run:aq)(z:Int)(h1 : -9223372036854775808≤z)(h2:z≤9223372036854775807):ar LT6 run 114 [.sc (.int .i64 z)] (zs z):=fun dr hp =>
 bp sb XU run dr hp _ [zs z] rfl rfl (by simp only[sN,decide_eq_true h1,decide_eq_true h2,Bool.and_self,cond_true])
set_option maxHeartbeats 1000000 in
theorem Q3 (L:Lst)(run:aq)(k:Nat)(s t:ByteArray)(u v:Int)(f1 f2:Bool)(hf:(f1 && f2)=false)(g1:ar L run 113 [.sc (.string s)] (.tup [Ab.bC u,.sc (.bool f1)]))(g2:ar L run 113 [.sc (.string t)] (.tup [Ab.bC v,.sc (.bool f2)])) :
  ∃ fr,aX (CC L) run k 4 dw ⟨entry 164 [.sc (.string s),.sc (.string t)],[],[]⟩=some ⟨fr,[],[]⟩∧fr.length=164∧nth fr 0 = .sc (.string s)∧nth fr 1 = .sc (.string t):=by
 obtain⟨e1,e2,e3⟩:=cn 162 (.sc (.string s)) (.sc (.string t))
 generalize entry 164 [.sc (.string s),.sc (.string t)]=fr0 at *
 unfold ar at *
 simp only[Ab.bC] at *
 cases f1 <;> cases f2 <;> simp only[Bool.and_true,Bool.and_false,Bool.and_self,Bool.true_eq_false] at hf <;> simp[dw,Tryz.f121,aX,e1,e2,e3,af,aH,an,ao,aG,ag,ai,aO,aj,ak,aC,az,FP.none,av,aa,ae,ab,g1,g2,undef]
theorem Q4 (L:Lst)(run:aq)(k:Nat)(fr:List PV)(s t:ByteArray)(m n:Bool)(a b:List Nat)(g1:ar L run 115 [.sc (.string s)] (.tup [.sc (.bool m),bw a]))(g2:ar L run 115 [.sc (.string t)] (.tup [.sc (.bool n),bw b]))
  (h0':fr.length=164) (h0:nth fr 0 = .sc (.string s)) (h1:nth fr 1 = .sc (.string t)) :
  ∃ fr',aX (CC L) run k 2 (ah 4 dw) ⟨fr,[],[]⟩=some ⟨fr',[],[]⟩∧fr'.length=164∧nth fr' 1 = .sc (.string t)∧nth fr' 12 = .sc (.bool m)∧nth fr' 13=bw a∧nth fr' 14 = .sc (.bool n)∧nth fr' 15=bw b:=by
 unfold ar at *
 simp[dw,Tryz.f121,ah,aX,h0',h0,h1,af,aH,an,ao,aG,ag,ai,aO,aj,ak,aC,az,FP.none,aa,ae,ab,g1,g2]
set_option maxHeartbeats 1000000 in
theorem Gw (L:Lst)(run:aq)(k:Nat)(fr:List PV)(b:PV)(m n:Bool)(x y:List Nat)(t st:Nat)(hx9:x.length<7000000)(hy9:y.length<7000000)(ht:y.length=t+1)(hst:st=x.length - t)
  (h0':fr.length=164) (h1:nth fr 1=b) (h12:nth fr 12 = .sc (.bool m)) (h13:nth fr 13=bw x) (h14:nth fr 14 = .sc (.bool n)) (h15:nth fr 15=bw y) :
  ∃ fr',aX (CC L) run k 2 (ah 6 dw) ⟨fr,[],[]⟩=some ⟨fr',[],[]⟩∧fr'.length=164∧nth fr' 1=b∧nth fr' 12 = .sc (.bool m)∧nth fr' 13=bw x∧nth fr' 14 = .sc (.bool n)∧nth fr' 15=bw y∧nth fr' 16=iv st∧nth fr' 17 = .sc (.slice none 0 0):=by
 have hw1:bA .i64 ((y.length:Int) - 1)=(t:Int):=by rw[cK y.length (by omega)];omega
 have hmx:(if (0:Int)<(t:Int) then (t:Int) else 0)=(t:Int):=by split <;> omega
 have hmx1:kq true [.sc (.int .i64 0),.sc (.int .i64 (t:Int))]=some (.sc (.int .i64 (t:Int))):=by
  simp[kq]
  omega
 have hw2:bA .i64 ((x.length:Int) - (t:Int))=(x.length:Int) - (t:Int):=ft _ (by omega) (by omega)
 have hmx2:(if (0:Int)<(x.length:Int) - (t:Int) then (x.length:Int) - (t:Int) else 0)=(st:Int):=by split <;> omega
 have hmx3:kq true [.sc (.int .i64 0),.sc (.int .i64 ((x.length:Int) - (t:Int)))]=some (.sc (.int .i64 (st:Int))):=by
  simp[kq]
  split <;> omega
 simp only[iv]
 simp[dw,Tryz.f121,ah,aX,h0',h1,h12,h13,h14,h15,af,aH,an,ao,aG,ag,ai,aj,ak,aC,az,FP.none,aY,au,bf,av,bK,aa,ae,ab,bh,dH,uL,hw1,hmx1,hw2,hmx3]
theorem ae4:eY TT 24 0 []=some (1,[]):=by
 simp[eY,uL,sI,zI,rep,dn]
theorem slT (x:List Nat)(st:Nat)(hp:List Blk)(h:st≤x.length):dC TT hp 24 (bw x) (some (.sc (.int .i64 (st:Int)))) none none=some (.imm (x.length - st) false ((x.drop st).map iv)):=by
 have e:bw x = .imm x.length false (x.map iv):=rfl
 rw[e]
 simp only[dC,uL,iJ,sI,bnd,fN,bk]
 simp[gE,h]
 rw[cM,← List.map_drop,dS (by simp)]
 rw[List.take_of_length_le (by simp)]
set_option maxHeartbeats 1000000 in
theorem Q2 (run:aq)(k:Nat)(fr:List PV)(b:PV)(m n:Bool)(x y:List Nat)(st:Nat)(hx:T.Dok x)(hx9:x.length<7000000)(hst:st≤x.length)
  (h0':fr.length=164) (h1:nth fr 1=b) (h12:nth fr 12 = .sc (.bool m)) (h13:nth fr 13=bw x) (h14:nth fr 14 = .sc (.bool n)) (h15:nth fr 15=bw y) (h16:nth fr 16=iv st) (h17:nth fr 17 = .sc (.slice none 0 0)) :
  ∃ fr' hp' wr',aX (CC LT6) run k 1 (ah 8 dw) ⟨fr,[],[]⟩=some ⟨fr',hp',wr'⟩∧fr'.length=164∧nth fr' 1=b∧nth fr' 12 = .sc (.bool m)∧nth fr' 13=bw x∧nth fr' 14 = .sc (.bool n)∧nth fr' 15=bw y∧nth fr' 16=iv st∧nth fr' 17 = .sc (.slice none 0 0)∧nth fr' 18=bw (T.aA (T.val (x.drop st))):=by
 have hdk:=hx.drop st
 obtain⟨p',hp1,fp,hp2,fp',g1,g2,g3⟩:=EL run false [] [] (x.drop st) T.Dok.nil hdk (by simp;omega)
 have hl:(x.drop st).length=x.length - st:=List.length_drop
 rw[List.nil_append] at g2
 have g1':cV [] 1 (.imm 0 true []) (x.length - st) ((x.drop st).map iv)=some (p',hp1,fp):=by rw[← hl];exact g1
 have hsl:=slT x st [] hst
 have hrd:fi [] 1 (.imm (x.length - st) false ((x.drop st).map iv))=some (x.length - st,(x.drop st).map iv,[]):=by simp[fi]
 have hok:=iz.R1 (x.drop st)
 have hlit:=ae4
 generalize (x.drop st).map iv=cs at *
 generalize T.val (x.drop st)=V at *
 simp only[iv] at h16 ⊢
 simp[dw,Tryz.f121,ah,aX,h0',h1,h12,h13,h14,h15,h16,h17,af,aH,an,ao,aG,ag,ai,aO,aj,ak,aC,az,FP.none,av,aa,ae,ab,bh,and_assoc,uL,sI,bI,zI,bZ,hlit,hsl,hrd,hok,bM,g1',g2]
noncomputable def AW:Code:=seq1 (seq1 (ah 9 dw))
noncomputable def AV:Code:=seq1 (seq1 (ah 10 dw))
theorem QY:ah 9 dw = .seq (.seq AW (.block 0 (.loop iq))) (ah 10 dw):=rfl
theorem Mh:ah 10 dw = .seq (.seq AV (.block 4 (.loop pD))) (ah 11 dw):=rfl
theorem Q1 (L:Lst)(run:aq)(k:Nat)(fr:List PV)(hp:List Blk)(wr:List Nat)(b:PV)(m n:Bool)(x y r:List Nat)(st:Nat)(hst:st<20000000)
  (h0':fr.length=164) (h1:nth fr 1=b) (h12:nth fr 12 = .sc (.bool m)) (h13:nth fr 13=bw x) (h14:nth fr 14 = .sc (.bool n)) (h15:nth fr 15=bw y) (h16:nth fr 16=iv st) (h17:nth fr 17 = .sc (.slice none 0 0)) (h18:nth fr 18=bw r) :
  ∃ fr',af (CC L) run k AW ⟨fr,hp,wr⟩=some (.normal,⟨fr',hp,wr⟩)∧QF fr' b m n x y (.sc (.slice none 0 0)) (.sc (.int .i64 ((st:Int) - 1)))∧nth fr' 18=bw r:=by
 have hw:=cK st (by omega)
 simp only[iv] at h16
 simp[QF,AW,dw,Tryz.f121,ah,seq1,h0',h1,h12,h13,h14,h15,h16,h17,h18,af,aH,an,ao,aG,ag,ai,aj,ak,aC,az,FP.none,aY,au,bf,av,aa,ae,ab,and_assoc,hw]
theorem Q0 (L:Lst)(run:aq)(k:Nat)(fr:List PV)(hp:List Blk)(wr:List Nat)(b:PV)(m n:Bool)(x y r:List Nat)(q i:PV)(h:QF fr b m n x y q i)(h18:nth fr 18=bw r) :
  ∃ fr',af (CC L) run k AV ⟨fr,hp,wr⟩=some (.normal,⟨fr',hp,wr⟩)∧SF fr' b m n r q∧nth fr' 21=iv 0:=by
 obtain⟨h0,h1,h12,h13,h14,h15,h17,h19⟩:=h
 simp[SF,AV,dw,Tryz.f121,ah,seq1,h0,h1,h12,h14,h17,h18,af,aH,an,ao,aG,ag,ai,aj,ak,aC,az,FP.none,av,aa,ae,ab,and_assoc,iv]
theorem Tx (run:aq)(m:Bool)(l:List Nat)(h1:T.Dok l)(h2:l.length<10000000):ar LT6 run 116 [.sc (.bool m),bw l] (zs (gG m (T.val l))):=fun dr hp =>
 bp jC Dl run dr hp _ [zs (gG m (T.val l))] rfl (Ez m l) (Am m l h1 h2)
theorem QZ (run:aq)(k:Nat)(fr:List PV)(hp hp':List Blk)(wr:List Nat)(b:PV)(p s:Bool)(r:List Nat)(q:PV)(sq sr:ByteArray)(fp:FP)(h:SF fr b p s r q)
  (hc1:cb (CC LT6) run false hp 116 [.sc (.bool (p != s)),q]=some (.sc (.string sq),hp',fp)) (hc2:ar LT6 run 116 [.sc (.bool p),bw r] (.sc (.string sr))) :
  ∃ fr' wr',aX (CC LT6) run k 1 (ah 11 dw) ⟨fr,hp,wr⟩=some ⟨fr',hp',wr'⟩∧fr'.length=164∧nth fr' 1=b∧nth fr' 12 = .sc (.bool p)∧nth fr' 14 = .sc (.bool s)∧nth fr' 22 = .sc (.string sq)∧nth fr' 23 = .sc (.string sr):=by
 obtain⟨h0,h1,h12,h14,h18,h17⟩:=h
 unfold ar at hc2
 cases p <;> cases s <;> simp only[bne_self_eq_false,Bool.bne_true,Bool.bne_false,Bool.not_false] at hc1 <;> simp[dw,Tryz.f121,ah,aX,h0,h1,h12,h14,h18,h17,af,aH,an,ao,aG,ag,ai,aO,aj,ak,aC,az,FP.none,aY,dB,aa,ae,ab,bh,and_assoc,uB,hc1,hc2]
set_option maxHeartbeats 1000000 in
theorem vz (L:Lst)(run:aq)(k:Nat)(fr:List PV)(hp:List Blk)(wr:List Nat)(b:PV)(p s v:Bool)(sq sr:ByteArray)(hv:ef .neq sr { data:=#[48] } = some (.bool v))(hno:(v && (p != s))=false)
  (h0:fr.length=164) (h1:nth fr 1=b) (h12:nth fr 12 = .sc (.bool p)) (h14:nth fr 14 = .sc (.bool s)) (h22:nth fr 22 = .sc (.string sq)) (h23:nth fr 23 = .sc (.string sr)) :
  ∃ st,af (CC L) run k (ah 12 dw) ⟨fr,hp,wr⟩=some (.ret,st)∧aV TT st.fr st.hp Tryz.f121.results.toList=some [.sc (.string sq),.sc (.string sr)]:=by
 cases v <;> cases p <;> cases s <;> simp only[bne_self_eq_false,Bool.bne_true,Bool.bne_false,Bool.not_false,Bool.and_true,Bool.and_false,Bool.and_self,Bool.true_eq_false] at hno <;> simp[dw,Tryz.f121,ah,h0,h12,h14,h22,h23,af,aH,an,ao,aG,ag,ai,aj,ak,aC,az,FP.none,aY,dB,av,aa,ae,ab,bh,uB,hv,undef,aV]
set_option maxHeartbeats 1000000 in
theorem Q5 (L:Lst)(run:aq)(k:Nat)(fr:List PV)(hp:List Blk)(wr:List Nat)(b sq sr q2 r2:ByteArray)(hv:ef .neq sr { data:=#[48] } = some (.bool true))(g1:ar L run 157 [.sc (.string sq),.sc (.string { data:=#[49] })] (.sc (.string q2)))(g2:ar L run 66 [.sc (.string sr),.sc (.string b)] (.sc (.string r2)))
  (h0:fr.length=164) (h1:nth fr 1 = .sc (.string b)) (h12:nth fr 12 = .sc (.bool true)) (h14:nth fr 14 = .sc (.bool false)) (h22:nth fr 22 = .sc (.string sq)) (h23:nth fr 23 = .sc (.string sr)) :
  ∃ st,af (CC L) run k (ah 12 dw) ⟨fr,hp,wr⟩=some (.ret,st)∧aV TT st.fr st.hp Tryz.f121.results.toList=some [.sc (.string q2),.sc (.string r2)]:=by
 unfold ar at *
 simp[dw,Tryz.f121,ah,h0,h1,h12,h14,h22,h23,af,aH,an,ao,aG,ag,ai,aO,aj,ak,aC,az,FP.none,aY,dB,av,aa,ae,ab,bh,uB,hv,g1,g2,aV]
theorem tX:∀ (a b:List UInt8),eqL a b=decide (a=b)
 | [],[]=>rfl
 | [],_::_=>by simp[eqL]
 | _::_,[]=>by simp[eqL]
 | a::l,b::m=>by
  have:=tX l m
  simp only[eqL,this]
  have hn:(a.toNat == b.toNat)=decide (a=b):=by
   by_cases h:a=b
   ·subst h;simp
   ·rw[decide_eq_false h,beq_eq_false_iff_ne];exact fun e=>h (UInt8.toNat_inj.1 e)
  rw[hn]
  by_cases h:a=b <;> by_cases h2:l=m <;> simp[h,h2]
theorem aaS (z:Int):ztx z=[48] ↔ z=0:=by
 constructor
 ·intro h
  have h1:=cD z (by rw[h];decide)
  have h2:=cD 0 (by decide)
  have:zs z=zs 0:=by unfold zs;rw[h];rfl
  rw[this,h2] at h1
  exact (Option.some.inj h1).symm
 ·intro h;subst h;rfl
theorem BV {a b:List Nat}(ha:Bok a)(hb:Bok b):tx a=tx b ↔ a=b:=by
 constructor
 ·intro h
  rw[← jm ha,h,jm hb]
 ·intro h;rw[h]
theorem pM (z:Int):ef .neq (tx (ztx z)) { data:=#[48] } = some (.bool (!decide (z=0))):=by
 have e:({ data:=#[48] } : ByteArray)=tx [48]:=rfl
 have h1:decide (bH (tx (ztx z))=bH (tx [48]))=decide (z=0):=by
  have:(bH (tx (ztx z))=bH (tx [48])) ↔ z=0:=by
   rw[← aaS z]
   constructor
   ·intro h
    have:tx (ztx z)=tx [48]:=by rw[← fx (tx (ztx z)),h,fx]
    exact (BV (ki z) (Bok.nil.cons (by omega))).1 this
   ·intro h;rw[h]
  simp only[this]
 rw[e]
 simp only[ef,tX,h1]
set_option maxHeartbeats 2000000 in
theorem Xj (L:Lst)(run:aq)(k:Nat)(s t sq sr:ByteArray)(u v q r:Int)(g1:ar L run 113 [.sc (.string s)] (.tup [Ab.bC u,.sc (.bool true)]))(g2:ar L run 113 [.sc (.string t)] (.tup [Ab.bC v,.sc (.bool true)]))
  (hv0 : ¬ v=0) (hv : ¬ v<0) (hq:bA .i64 (u.tdiv v)=q) (hr:u.tmod v=r) (hr0 : ¬ r<0) (g3:ar L run 114 [.sc (.int .i64 q)] (.sc (.string sq))) (g4:ar L run 114 [.sc (.int .i64 r)] (.sc (.string sr))) :
  ∃ st,af (CC L) run k dw ⟨entry 164 [.sc (.string s),.sc (.string t)],[],[]⟩=some (.ret,st)∧aV TT st.fr st.hp Tryz.f121.results.toList=some [.sc (.string sq),.sc (.string sr)]:=by
 obtain⟨e1,e2,e3⟩:=cn 162 (.sc (.string s)) (.sc (.string t))
 generalize entry 164 [.sc (.string s),.sc (.string t)]=fr0 at *
 unfold ar at *
 simp only[Ab.bC] at *
 by_cases h0:r=0
 ·subst h0
  simp[dw,Tryz.f121,e1,e2,e3,af,aH,an,ao,aG,ag,ai,aO,aj,ak,aC,az,FP.none,aY,au,bf,av,aa,ae,ab,g1,g2,hv0,hq,hr,g3,g4,undef,number,FP.free,aV]
 ·have h1:(r != 0)=true:=by simpa using h0
  simp[dw,Tryz.f121,e1,e2,e3,af,aH,an,ao,aG,ag,ai,aO,aj,ak,aC,az,FP.none,aY,au,bf,dB,av,aa,ae,ab,bh,uB,g1,g2,hv0,hv,hq,hr,hr0,h1,g3,g4,number,FP.free,aV]
set_option maxHeartbeats 2000000 in
theorem Xi (L:Lst)(run:aq)(k:Nat)(s t sq sr:ByteArray)(u v q0 r0 q r:Int)(g1:ar L run 113 [.sc (.string s)] (.tup [Ab.bC u,.sc (.bool true)]))(g2:ar L run 113 [.sc (.string t)] (.tup [Ab.bC v,.sc (.bool true)]))
  (hv0 : ¬ v=0) (hv : ¬ v<0) (hq:bA .i64 (u.tdiv v)=q0) (hr:u.tmod v=r0) (hr0:r0<0) (hq1:bA .i64 (q0 - 1)=q) (hr1:bA .i64 (r0+v)=r) (g3:ar L run 114 [.sc (.int .i64 q)] (.sc (.string sq))) (g4:ar L run 114 [.sc (.int .i64 r)] (.sc (.string sr))) :
  ∃ st,af (CC L) run k dw ⟨entry 164 [.sc (.string s),.sc (.string t)],[],[]⟩=some (.ret,st)∧aV TT st.fr st.hp Tryz.f121.results.toList=some [.sc (.string sq),.sc (.string sr)]:=by
 obtain⟨e1,e2,e3⟩:=cn 162 (.sc (.string s)) (.sc (.string t))
 generalize entry 164 [.sc (.string s),.sc (.string t)]=fr0 at *
 unfold ar at *
 simp only[Ab.bC] at *
 have h0 : ¬ r0=0:=by omega
 have h1:(r0 != 0)=true:=by simpa using h0
 simp[dw,Tryz.f121,e1,e2,e3,af,aH,an,ao,aG,ag,ai,aO,aj,ak,aC,az,FP.none,aY,au,bf,dB,av,aa,ae,ab,bh,uB,g1,g2,hv0,hv,hq,hr,hr0,h1,hq1,hr1,g3,g4,number,FP.free,aV]
def sK:List PV→Option (List PV)
 | [p,q]=>match fK p,fK q with
  | some x,some y=>bif decide (0<y) then some [zs (x / y),zs (x % y)] else none
  | _,_=>none
 | _=>none
theorem re (K:Nat)(x y:Int)(hx:Zm x)(hy:Zm y)(hy0:0<y)(hK:(T.aA x.natAbs).length+20≤K)(u v:Int)(f1 f2:Bool)(hf:(f1 && f2)=false)(q1:ar LT6 (runK (CC LT6) K) 113 [zs x] (.tup [Ab.bC u,.sc (.bool f1)]))(q2:ar LT6 (runK (CC LT6) K) 113 [zs y] (.tup [Ab.bC v,.sc (.bool f2)])) :
  ∃ st,af (CC LT6) (runK (CC LT6) K) K dw ⟨entry 164 [zs x,zs y],[],[]⟩=some (.ret,st)∧aV TT st.fr st.hp Tryz.f121.results.toList=some [zs (x / y),zs (x % y)]:=by
 have hx3:=Zm.JY hx
 have hy3:=Zm.JY hy
 have hY:0<y.natAbs:=by omega
 have hny:bt y=false:=by rw[cI];simp;omega
 obtain⟨a1,b1,b2,b3,b4⟩:=Q3 LT6 (runK (CC LT6) K) K _ _ u v f1 f2 hf q1 q2
 obtain⟨a2,c1,c2,c3,c4,c5,c6,c7⟩:=Q4 LT6 (runK (CC LT6) K) K a1 _ _ _ _ _ _ (JI _ x hx) (JI _ y hy) b2 b3 b4
 have hyl:=T.cP.2 (show y.natAbs≠0 by omega)
 obtain⟨t,ht⟩:∃ t,(T.aA y.natAbs).length=t+1:=⟨(T.aA y.natAbs).length - 1,by omega⟩
 obtain⟨st,hst⟩:∃ st,st=(T.aA x.natAbs).length - t:=⟨_,rfl⟩
 obtain⟨a3,d1,d2,d3,d4,d5,d6,d7,d8,d9⟩:=Gw LT6 (runK (CC LT6) K) K a2 _ _ _ _ _ t st (by omega) (by omega) ht hst c2 c3 c4 c5 c6 c7
 obtain⟨a4,hp4,wr4,e1,e2,e3,e4,e5,e6,e7,e8,e9,e10⟩:=Q2 (runK (CC LT6) K) K a3 _ _ _ _ _ st (T.bP x.natAbs) (by omega) (by omega) d2 d3 d4 d5 d6 d7 d8 d9
 obtain⟨a5,g1,g2,g3⟩:=Q1 LT6 (runK (CC LT6) K) K a4 hp4 wr4 _ _ _ _ _ _ st (by omega) e2 e3 e4 e5 e6 e7 e8 e9 e10
 have hR0:T.val ((T.aA x.natAbs).drop st)<y.natAbs:=by
  have h1:=T.eM ((T.bP x.natAbs).drop st)
  rw[List.length_drop] at h1
  have h2:10 ^ t≤y.natAbs:=by
   rcases Nat.lt_or_ge y.natAbs (10 ^ t) with h | h
   ·have:=T.da h;omega
   ·exact h
  have h3:10 ^ ((T.aA x.natAbs).length - st)≤10 ^ t:=Nat.pow_le_pow_right (by omega) (by omega)
  omega
 obtain⟨a6,hp6,wr6,out,q6,k1,k2,k3,k4,k5,k6,k7⟩:=vB (runK (CC LT6) K) K _ _ _ (T.aA x.natAbs) y.natAbs (T.bP _) (by omega) hY (by omega) (by omega) st _ a5 hp4 wr4 [] _ (by omega) hR0 (by simp;omega) T.Dok.nil (by simp[T.val]) g2 g3 (dk.nil (Nat.zero_le _))
 rw[T.bQ] at k3 k6
 obtain⟨a7,l1,l2,l3⟩:=Q0 LT6 (runK (CC LT6) K) K a6 hp6 wr6 _ _ _ _ _ _ _ _ k2 k3
 obtain⟨a8,hp8,wr8,m1,m2,m3⟩:=Mi LT6 (runK (CC LT6) K) K _ _ _ _ out q6 (by omega) a7 hp6 wr6 k4 l2 l3
 have hor:T.Dok out.reverse:=xq k5
 have htx:=Am (bt x != bt y) out.reverse hor (by rw[List.length_reverse];omega)
 rw[k6] at htx
 obtain⟨hp9,fp,n1,-⟩:=nU jC Dl (runK (CC LT6) K) false iz (bt x != bt y) m3.s _ htx
 have hrl:(T.aA (x.natAbs % y.natAbs)).length<10000000:=Nat.lt_of_le_of_lt (T.cw (Nat.le_of_lt (Nat.mod_lt _ hY))) (by omega)
 have n2:=Tx (runK (CC LT6) K) (bt x) (T.aA (x.natAbs % y.natAbs)) (T.bP _) hrl
 rw[T.bQ] at n2
 obtain⟨a9,wr9,o1,o2,o3,o4,o5,o6,o7⟩:=QZ (runK (CC LT6) K) K a8 hp8 hp9 wr8 _ _ _ _ _ _ _ fp m2 n1 n2
 have hex:∀ {z},af (CC LT6) (runK (CC LT6) K) K (ah 12 dw) ⟨a9,hp9,wr9⟩=z→af (CC LT6) (runK (CC LT6) K) K dw ⟨entry 164 [zs x,zs y],[],[]⟩=z:=by
  intro z hz
  have h1:af (CC LT6) (runK (CC LT6) K) K dw ⟨entry 164 [zs x,zs y],[],[]⟩=af (CC LT6) (runK (CC LT6) K) K (ah 4 dw) ⟨a1,[],[]⟩:=aM 4 b1
  rw[h1,aM 2 c1,show ah 2 (ah 4 dw)=ah 6 dw from rfl,aM 2 d1,show ah 2 (ah 6 dw)=ah 8 dw from rfl,aM 1 e1,show ah 1 (ah 8 dw)=ah 9 dw from rfl,
   QY,aw ((aw g1).trans (bF (bT k1 (by omega)))),Mh,aw ((aw l1).trans (bF (bT m1 (by omega)))),aM 1 o1]
  exact hz
 rw[hny] at o5
 by_cases hxn:x<0
 ·have hnx:bt x=true:=by rw[cI];simpa using hxn
  rw[hnx] at o4
  have eq1:gG (bt x != bt y) (x.natAbs / y.natAbs) = -((x.natAbs / y.natAbs:Nat):Int):=by rw[hnx,hny,jY];rfl
  have er1:gG (bt x) (x.natAbs % y.natAbs) = -((x.natAbs % y.natAbs:Nat):Int):=by rw[hnx,jY];rfl
  rw[eq1] at o6
  rw[er1] at o7
  by_cases h0:x.natAbs % y.natAbs=0
  ·obtain⟨w1,w2⟩:=Zl hy0 hxn h0
   have hv:=pM (-((x.natAbs % y.natAbs:Nat):Int))
   obtain⟨st',x1,x2⟩:=vz LT6 (runK (CC LT6) K) K a9 hp9 wr9 _ true false _ _ _ hv (by rw[h0];rfl) o2 o3 o4 o5 o6 o7
   refine⟨st',hex x1,?_⟩
   rw[x2,w1,w2,h0];rfl
  ·obtain⟨w1,w2⟩:=ac2 hy0 hxn h0
   have hv:=pM (-((x.natAbs % y.natAbs:Nat):Int))
   rw[decide_eq_false (by omega)] at hv
   have zx:∀ z:Int,z≤0→z.natAbs≤x.natAbs→Zm z:=by
    intro z hz0 hz
    have h1:(ztx x).length≤eL:=hx
    unfold Zm
    rw[gk,hnx] at h1
    rw[gk]
    have h2:=nk hz
    cases bt z <;> simp at h1 ⊢ <;> omega
   have hq1:Zm (-((x.natAbs / y.natAbs:Nat):Int)):=zx _ (by omega) (by rw[Int.natAbs_neg,Int.natAbs_natCast];exact Nat.div_le_self _ _)
   have hr1:Zm (-((x.natAbs % y.natAbs:Nat):Int)):=zx _ (by omega) (by rw[Int.natAbs_neg,Int.natAbs_natCast];exact Nat.mod_le _ _)
   have p1:ar LT6 (runK (CC LT6) K) 157 [zs (-((x.natAbs / y.natAbs:Nat):Int)),.sc (.string { data:=#[49] })] (zs (x / y)):=fun dr hp =>
    bp FG XV _ dr hp [zs (-((x.natAbs / y.natAbs:Nat):Int)),zs 1] [zs (x / y)] rfl rfl (by
     have h2:(dN 1).blt eL=true:=by decide
     have h3:fK (zs 1)=some 1:=cD 1 (by decide)
     simp only[vE,cD _ hq1,h3,h2,cond_true,w1])
   have p2:ar LT6 (runK (CC LT6) K) 66 [zs (-((x.natAbs % y.natAbs:Nat):Int)),zs y] (zs (x % y)):=fun dr hp =>
    bp qO R6 _ dr hp _ [zs (x % y)] rfl rfl (by simp only[ij,cD _ hr1,cD _ hy,w2])
   obtain⟨st',x1,x2⟩:=Q5 LT6 (runK (CC LT6) K) K a9 hp9 wr9 _ _ _ _ _ hv p1 p2 o2 o3 o4 o5 o6 o7
   exact⟨st',hex x1,x2⟩
 ·have hnx:bt x=false:=by rw[cI];simpa using hxn
  obtain⟨w1,w2⟩:=ac1 hy0 (show 0≤x by omega)
  have eq1:gG (bt x != bt y) (x.natAbs / y.natAbs)=((x.natAbs / y.natAbs:Nat):Int):=by rw[hnx,hny,jY];rfl
  have er1:gG (bt x) (x.natAbs % y.natAbs)=((x.natAbs % y.natAbs:Nat):Int):=by rw[hnx,jY];rfl
  rw[eq1] at o6
  rw[er1] at o7
  rw[hnx] at o4
  have hv:=pM ((x.natAbs % y.natAbs:Nat):Int)
  obtain⟨st',x1,x2⟩:=vz LT6 (runK (CC LT6) K) K a9 hp9 wr9 _ false false _ _ _ hv (by simp) o2 o3 o4 o5 o6 o7
  refine⟨st',hex x1,?_⟩
  rw[x2,w1,w2];rfl
theorem yN:Ab.Spec base.P 121 sK:=Ab.Spec.bN (C:=CC LT6) (cU adY) fun args rs h=>by
 unfold sK at h
 split at h
 ·split at h
  ·rename_i x y ex ey
   obtain⟨rfl,hx⟩:=dc ex
   obtain⟨rfl,hy⟩:=dc ey
   by_cases hy0:0<y
   ·rw[decide_eq_true hy0] at h
    simp only[cond_true,Option.some.injEq] at h
    subst h
    generalize hK:(T.aA x.natAbs).length+20=K
    have gs1:=zC (runK (CC LT6) K) x hx
    have gs2:=zC (runK (CC LT6) K) y hy
    suffices hgo:∃ st,af (CC LT6) (runK (CC LT6) K) K dw ⟨entry 164 [zs x,zs y],[],[]⟩=some (.ret,st)∧aV TT st.fr st.hp Tryz.f121.results.toList=some [zs (x / y),zs (x % y)] by
     obtain⟨st,x1,x2⟩:=hgo
     exact⟨K+1,_,_,_,_,_,aQ Ih rfl x1 x2,rfl,Wk.refl rfl,Wk.refl rfl,trivial⟩
    cases h1:(dN x).ble 9 with
    | false =>
     rw[h1] at gs1
     cases h2:(dN y).ble 9 with
     | false=>rw[h2] at gs2;exact re K x y hx hy hy0 (by omega) _ _ false false rfl gs1 gs2
     | true=>rw[h2] at gs2;exact re K x y hx hy hy0 (by omega) _ _ false true rfl gs1 gs2
    | true =>
     rw[h1] at gs1
     cases h2:(dN y).ble 9 with
     | false=>rw[h2] at gs2;exact re K x y hx hy hy0 (by omega) _ _ true false rfl gs1 gs2
     | true =>
      rw[h2] at gs2
      have b1:=x6 h1
      have b2:=x6 h2
      have c1:=Int.mul_tdiv_add_tmod x y
      have c2:=Int.tmod_lt_of_pos x hy0
      have c3:=Int.lt_tmod_of_pos x hy0
      have c4:=Int.natAbs_tdiv_le_natAbs x y
      generalize hq:x.tdiv y=q at *
      generalize hr:x.tmod y=r at *
      by_cases hr0:r<0
      ·obtain⟨w1,w2⟩:=kX (x:=x) (y:=y) (q:=q - 1) (r:=r+y) hy0 (by rw[Int.mul_sub,Int.mul_one];omega) (by omega) (by omega)
       rw[w1,w2]
       exact Xi LT6 (runK (CC LT6) K) K _ _ _ _ x y q r (q - 1) (r+y) gs1 gs2 (by omega) (by omega) (by rw[hq];exact ft _ (by omega) (by omega)) hr hr0 (ft _ (by omega) (by omega)) (ft _ (by omega) (by omega)) (tU _ _ (by omega) (by omega)) (tU _ _ (by omega) (by omega))
      ·obtain⟨w1,w2⟩:=kX (x:=x) (y:=y) (q:=q) (r:=r) hy0 (by omega) (by omega) (by omega)
       rw[w1,w2]
       exact Xj LT6 (runK (CC LT6) K) K _ _ _ _ x y q r gs1 gs2 (by omega) (by omega) (by rw[hq];exact ft _ (by omega) (by omega)) hr hr0 (tU _ _ (by omega) (by omega)) (tU _ _ (by omega) (by omega))
   ·rw[decide_eq_false hy0] at h
    cases h
  ·cases h
 ·cases h
noncomputable def LT7:Lst:=[(155,ri),(121,sK)]
theorem adX:dM base.P LT7:=⟨Gy,yN,trivial⟩
theorem Jq:bu LT7 155=fun a=>ri (aJ a):=rfl
theorem XT:bu LT7 121=fun a=>sK (aJ a):=rfl
noncomputable def pF:Code:=Tryz.f112.body.getD .skip
noncomputable def yU:Code:=((Tryz.f112.body).bind aF).getD .skip
theorem Ru (L:Lst)(run:aq)(k:Nat)(fr:List PV)(hp:List Blk)(wr:List Nat)(a b:ByteArray)(hv:ef .neq b { data:=#[48] } = some (.bool false))(h24:fr.length=24)(h5:nth fr 5 = .sc (.string a))(h6:nth fr 6 = .sc (.string b)) :
  ∃ fr',af (CC L) run k yU ⟨fr,hp,wr⟩=some (.exit 0,⟨fr',hp,wr⟩)∧fr'.length=24∧nth fr' 5 = .sc (.string a):=by
 simp[yU,Tryz.f112,aF,af,aH,an,ao,aG,ag,ai,aj,ak,aC,az,FP.none,aY,av,aa,ae,ab,h24,h5,h6,hv]
theorem Xm (L:Lst)(run:aq)(k:Nat)(fr:List PV)(hp:List Blk)(wr:List Nat)(a b q r:ByteArray)(hv:ef .neq b { data:=#[48] } = some (.bool true))(g:ar L run 121 [.sc (.string a),.sc (.string b)] (.tup [.sc (.string q),.sc (.string r)]))(h24:fr.length=24)(h5:nth fr 5 = .sc (.string a))(h6:nth fr 6 = .sc (.string b)) :
  ∃ fr',af (CC L) run k yU ⟨fr,hp,wr⟩=some (.normal,⟨fr',hp,wr⟩)∧fr'.length=24∧nth fr' 5 = .sc (.string b)∧nth fr' 6 = .sc (.string r):=by
 unfold ar at g
 simp[yU,Tryz.f112,aF,af,aH,an,ao,aG,ag,ai,aO,aj,ak,aC,az,FP.none,aY,av,aa,ae,ab,h24,h5,h6,hv,g]
theorem Zm.aeT {x y:Nat}(h:Zm (y:Int))(hl:x≤y):Zm (x:Int):=by
 unfold Zm at *
 rw[gk] at *
 have h1:bt (x:Int)=false:=rfl
 have h2:bt (y:Int)=false:=rfl
 rw[h1]
 rw[h2] at h
 have h3:=nk (x:=(x:Int)) (y:=(y:Int)) (by simpa using hl)
 simp only[cond_false] at h ⊢
 omega
theorem Zb (run:aq)(x y:Nat)(hx:Zm (x:Int))(hy:Zm (y:Int))(h0:0<y):ar LT7 run 121 [zs (x:Int),zs (y:Int)] (.tup [zs ((x:Int) / (y:Int)),zs ((x % y:Nat):Int)]):=fun dr hp =>
 bp Cd XT run dr hp _ [zs ((x:Int) / (y:Int)),zs ((x % y:Nat):Int)] rfl rfl (by
  have h1:(0:Int)<(y:Int):=by omega
  simp only[sK,cD _ hx,cD _ hy,decide_eq_true h1,cond_true]
  rfl)
theorem yT (run:aq)(k:Nat)(hp:List Blk)(wr:List Nat):∀ (n y x:Nat) (fr:List PV),y<n→Zm (x:Int)→Zm (y:Int)→fr.length=24→nth fr 5=zs (x:Int)→nth fr 6=zs (y:Int) →
  ∃ fr',ca (af (CC LT7) run k yU) n ⟨fr,hp,wr⟩=some (.exit 0,⟨fr',hp,wr⟩)∧fr'.length=24∧nth fr' 5=zs ((Nat.gcd x y:Nat):Int)
 | 0,y,x,fr,hn,_,_,_,_,_=>by omega
 | n+1,y,x,fr,hn,hx,hy,h24,h5,h6=>by
  have hv:=pM (y:Int)
  by_cases h0:y=0
  ·subst h0
   obtain⟨fr',g1,g2,g3⟩:=Ru LT7 run k fr hp wr _ _ hv h24 h5 h6
   exact⟨fr',bz g1,g2,by rw[g3,Nat.gcd_zero_right];rfl⟩
  ·rw[decide_eq_false (by omega)] at hv
   obtain⟨fr1,g1,g2,g3,g4⟩:=Xm LT7 run k fr hp wr _ _ _ _ hv (Zb run x y hx hy (by omega)) h24 h5 h6
   have hm:=Nat.mod_lt x (show 0<y by omega)
   obtain⟨fr',q1,q2,q3⟩:=yT run k hp wr n (x % y) y fr1 (by omega) hy (hy.aeT (by omega)) g2 g3 g4
   refine⟨fr',by rw[bU g1];exact q1,q2,?_⟩
   rw[q3,Nat.gcd_comm y (x % y),← Nat.gcd_rec,Nat.gcd_comm]
theorem GN:ah 2 pF = .seq (.block 0 (.loop yU)) (ah 3 pF):=rfl
theorem Rm (L:Lst)(run:aq)(k:Nat)(s t u v:ByteArray)(g1:ar L run 155 [.sc (.string s)] (.sc (.string u)))(g2:ar L run 155 [.sc (.string t)] (.sc (.string v))) :
  ∃ fr,aX (CC L) run k 2 pF ⟨entry 24 [.sc (.string s),.sc (.string t)],[],[]⟩=some ⟨fr,[],[]⟩∧fr.length=24∧nth fr 5 = .sc (.string u)∧nth fr 6 = .sc (.string v):=by
 obtain⟨e1,e2,e3⟩:=cn 22 (.sc (.string s)) (.sc (.string t))
 generalize entry 24 [.sc (.string s),.sc (.string t)]=fr0 at *
 unfold ar at *
 simp[pF,Tryz.f112,aX,e1,e2,e3,af,aH,an,ao,aG,ag,ai,aO,aj,ak,aC,az,FP.none,av,aa,ae,ab,g1,g2]
theorem Mr (L:Lst)(run:aq)(k:Nat)(fr:List PV)(hp:List Blk)(wr:List Nat)(a:ByteArray)(h24:fr.length=24)(h5:nth fr 5 = .sc (.string a)) :
  ∃ st,af (CC L) run k (ah 3 pF) ⟨fr,hp,wr⟩=some (.ret,st)∧aV TT st.fr st.hp Tryz.f112.results.toList=some [.sc (.string a)]:=by
 simp[pF,Tryz.f112,ah,af,aH,an,ao,aG,ag,ai,aj,ak,aC,az,FP.none,aa,ab,h24,h5,aV]
def sO:List PV→Option (List PV)
 | [p,q]=>match fK p,fK q with
  | some x,some y=>some [zs ((Nat.gcd x.natAbs y.natAbs:Nat):Int)]
  | _,_=>none
 | _=>none
theorem Zm.abs {x:Int}(h:Zm x):Zm (x.natAbs:Int):=by
 unfold Zm at *
 rw[gk] at *
 have h1:bt (x.natAbs:Int)=false:=rfl
 rw[h1]
 have h3:=nk (x:=(x.natAbs:Int)) (y:=x) (by simp)
 simp only[cond_false]
 omega
theorem yS:Ab.Spec base.P 112 sO:=Ab.Spec.bN (C:=CC LT7) (cU adX) fun args rs h=>by
 unfold sO at h
 split at h
 ·split at h
  ·rename_i x y ex ey
   obtain⟨rfl,hx⟩:=dc ex
   obtain⟨rfl,hy⟩:=dc ey
   simp only[Option.some.injEq] at h
   subst h
   generalize hK:y.natAbs+1=K
   have g1:ar LT7 (runK (CC LT7) K) 155 [zs x] (zs (x.natAbs:Int)):=fun dr hp=>bp Ce Jq _ dr hp _ [zs (x.natAbs:Int)] rfl rfl (by simp only[ri,cD x hx];rfl)
   have g2:ar LT7 (runK (CC LT7) K) 155 [zs y] (zs (y.natAbs:Int)):=fun dr hp=>bp Ce Jq _ dr hp _ [zs (y.natAbs:Int)] rfl rfl (by simp only[ri,cD y hy];rfl)
   obtain⟨f1,a1,a2,a3,a4⟩:=Rm LT7 (runK (CC LT7) K) K _ _ _ _ g1 g2
   obtain⟨f2,b1,b2,b3⟩:=yT (runK (CC LT7) K) K [] [] K y.natAbs x.natAbs f1 (by omega) (Zm.abs hx) (Zm.abs hy) a2 a3 a4
   obtain⟨st,x1,x2⟩:=Mr LT7 (runK (CC LT7) K) K f2 [] [] _ b2 b3
   have h1:af (CC LT7) (runK (CC LT7) K) K pF ⟨entry 24 [zs x,zs y],[],[]⟩=af (CC LT7) (runK (CC LT7) K) K (ah 2 pF) ⟨f1,[],[]⟩:=aM 2 a1
   have hx':af (CC LT7) (runK (CC LT7) K) K pF ⟨entry 24 [zs x,zs y],[],[]⟩=some (.ret,st):=by
    rw[h1,GN,aw (bF b1)]
    exact x1
   exact⟨K+1,_,_,_,_,_,aQ Ik rfl hx' x2,rfl,Wk.refl rfl,trivial⟩
  ·cases h
 ·cases h
def spl (l:List Nat):List Nat × List Nat × Bool:=match fI l with
 | some j=>(l.take j,l.drop (j+1),true)
 | none=>(l,[49],false)
theorem OU {l:List Nat}(h:Bok l):Bok (spl l).1∧Bok (spl l).2.1:=by
 unfold spl
 split
 ·exact⟨h.take _,h.drop _⟩
 ·exact⟨h,Bok.nil.cons (by omega)⟩
theorem tH (l:List Nat):(spl l).1.length≤l.length∧(spl l).2.1.length≤l.length+1:=by
 unfold spl
 split
 ·simp;omega
 ·simp
theorem Fo (l:List Nat)(h:Bok l)(h9:l.length<20000000):j5 [.sc (.string (tx l))]=some [.sc (.string (tx (spl l).1)),.sc (.string (tx (spl l).2.1)),.sc (.bool (spl l).2.2)]:=by
 have hb:l.length.blt 20000000=true:=by rw[Nat.blt_eq];exact h9
 simp only[j5,jm h,hb,cond_true,spl]
 cases fI l <;> rfl
noncomputable def LT8:Lst:=[(65,j5),(100,nG)]
theorem adV:dM base.P LT8:=⟨nE,sT,trivial⟩
theorem aci:bu LT8 65=fun a=>j5 (aJ a):=rfl
theorem R4:bu LT8 100=fun a=>nG (aJ a):=rfl
theorem acZ (run:aq)(l:List Nat)(h:Bok l)(h9:l.length<20000000):ar LT8 run 65 [.sc (.string (tx l))] (.tup [.sc (.string (tx (spl l).1)),.sc (.string (tx (spl l).2.1)),.sc (.bool (spl l).2.2)]):=fun dr hp =>
 bp jF aci run dr hp _ [.sc (.string (tx (spl l).1)),.sc (.string (tx (spl l).2.1)),.sc (.bool (spl l).2.2)] rfl rfl (Fo l h h9)
theorem DV (run:aq)(l:List Nat)(h:Bok l)(h9:l.length<30000000):ar LT8 run 100 [.sc (.string (tx l))] (.sc (.bool (decide (1000<eO l)))):=fun dr hp =>
 bp La R4 run dr hp _ [.sc (.bool (decide (1000<eO l)))] rfl rfl (by
  have hb:l.length.blt 100000000=true:=by rw[Nat.blt_eq];omega
  simp only[nG,jm h,hb,cond_true])
theorem CN (L:Lst)(run:aq)(k:Nat)(s a b:ByteArray)(sl u v:Bool)(g1:ar L run 65 [.sc (.string s)] (.tup [.sc (.string a),.sc (.string b),.sc (.bool sl)]))(g2:ar L run 100 [.sc (.string a)] (.sc (.bool u)))(g3:ar L run 100 [.sc (.string b)] (.sc (.bool v))) :
  ∃ st,af (CC L) run k (Tryz.f48.body.getD .skip) ⟨entry 18 [.sc (.string s)],[],[]⟩=some (.ret,st)∧aV TT st.fr st.hp Tryz.f48.results.toList=some [.sc (.bool (u || v))]:=by
 obtain⟨e1,e2⟩:=cQ 17 (.sc (.string s))
 generalize entry 18 [.sc (.string s)]=fr0 at *
 unfold ar at *
 cases u <;> simp[Tryz.f48,e1,e2,af,aH,an,ao,aG,ag,ai,aO,aj,ak,aC,az,FP.none,av,aa,ae,ab,g1,g2,g3,undef,aV]
def zo (l:List Nat):Bool:=decide (1000<eO (spl l).1) || decide (1000<eO (spl l).2.1)
def nF:List PV→Option (List PV)
 | [.sc (.string s)]=>bif (bys s).length.blt 20000000 then some [.sc (.bool (zo (bys s)))] else none
 | _=>none
theorem su:Ab.Spec base.P 48 nF:=Ab.Spec.bN (C:=CC LT8) (cU adV) fun args rs h=>by
 unfold nF at h
 split at h
 ·rename_i s
  cases hb:(bys s).length.blt 20000000 with
  | false=>rw[hb] at h;cases h
  | true =>
   rw[hb] at h
   simp only[cond_true,Option.some.injEq] at h
   subst h
   rw[Nat.blt_eq] at hb
   have hok:=lT s
   obtain⟨h1,h2⟩:=OU hok
   obtain⟨h3,h4⟩:=tH (bys s)
   obtain⟨st,x1,x2⟩:=CN LT8 (runK (CC LT8) 1) 1 _ _ _ _ _ _ (acZ _ (bys s) hok hb) (DV _ _ h1 (by omega)) (DV _ _ h2 (by omega))
   rw[ib] at x1
   exact⟨2,_,_,_,_,_,aQ EU rfl x1 x2,rfl,Wk.refl rfl,trivial⟩
 ·cases h
theorem Ap (n d:Int):spl (qtx n d)=(ztx n,ztx d, !decide (d=1)):=by
 unfold spl
 rw[No]
 unfold qtx
 by_cases h:d=1
 ·subst h
  simp[VK]
 ·simp[h]
def qs (n d:Int):PV:=.sc (.string (tx (qtx n d)))
noncomputable def LT9:Lst:=[(65,j5),(120,mz),(69,lE),(112,sO),(121,sK)]
theorem Vn:dM base.P LT9:=⟨nE,vD,oE,yS,yN,trivial⟩
theorem ach:bu LT9 65=fun a=>j5 (aJ a):=rfl
theorem XQ:bu LT9 120=fun a=>mz (aJ a):=rfl
theorem XS:bu LT9 69=fun a=>lE (aJ a):=rfl
theorem XR:bu LT9 112=fun a=>sO (aJ a):=rfl
theorem XP:bu LT9 121=fun a=>sK (aJ a):=rfl
theorem Xp (n d:Int):(qtx n d).length≤(ztx n).length+(ztx d).length+1:=by
 unfold qtx
 split
 ·omega
 ·simp;omega
theorem Fp (n d:Int)(hn:Zm n)(hd:Zm d):j5 [qs n d]=some [zs n,zs d,.sc (.bool (!decide (d=1)))]:=by
 have h1:(ztx n).length≤3000000:=hn
 have h2:(ztx d).length≤3000000:=hd
 have h3:=Xp n d
 have:=Fo (qtx n d) (GW n d) (by omega)
 rw[Ap] at this
 exact this
theorem acY (run:aq)(n d:Int)(hn:Zm n)(hd:Zm d):ar LT9 run 65 [qs n d] (.tup [zs n,zs d,.sc (.bool (!decide (d=1)))]):=fun dr hp =>
 bp jF ach run dr hp _ [zs n,zs d,.sc (.bool (!decide (d=1)))] rfl rfl (Fp n d hn hd)
theorem A8 (run:aq)(n:Int)(hn:Zm n):ar LT9 run 120 [zs n] (zs (-n)):=fun dr hp =>
 bp Cf XQ run dr hp _ [zs (-n)] rfl rfl (by simp only[mz,cD n hn])
theorem N6 (a b:List Nat)(h:a.length+b.length<100000000):ef .add (tx a) (tx b)=some (.string (tx (a++b))):=by
 simp only[ef,dG]
 rw[if_neg (by omega)]
 simp[tx,fg]
theorem Gj (L:Lst)(run:aq)(k:Nat)(n d m:Int)(hm9:(ztx m).length≤4000000)(hd9:(ztx d).length≤4000000)(g1:ar L run 65 [qs n d] (.tup [zs n,zs d,.sc (.bool (!decide (d=1)))]))(g2:ar L run 120 [zs n] (zs m)) :
  ∃ st,af (CC L) run k (Tryz.f122.body.getD .skip) ⟨entry 21 [qs n d],[],[]⟩=some (.ret,st)∧aV TT st.fr st.hp Tryz.f122.results.toList=some [qs m d]:=by
 obtain⟨e1,e2⟩:=cQ 20 (qs n d)
 generalize entry 21 [qs n d]=fr0 at *
 unfold ar at *
 have h47:({ data:=#[47] } : ByteArray)=tx [47]:=rfl
 have b1:=N6 (ztx m) [47] (by simp;omega)
 have b2:=N6 (ztx m++[47]) (ztx d) (by simp;omega)
 by_cases h:d=1
 ·subst h
  have hq:qtx m 1=ztx m:=rfl
  simp only[decide_true,Bool.not_true,qs,zs,hq] at *
  simp[Tryz.f122,e1,e2,af,aH,an,ao,aG,ag,ai,aO,aj,ak,aC,az,FP.none,av,unP,aa,ae,ab,g1,g2,aV]
 ·have hq:qtx m d=(ztx m++[47])++ztx d:=by rw[qtx,if_neg h];simp
  rw[decide_eq_false h] at g1
  simp only[Bool.not_false,qs,zs,hq] at *
  simp[-List.append_assoc,Tryz.f122,e1,e2,af,aH,an,ao,aG,ag,ai,aO,aj,ak,aC,az,FP.none,aY,av,unP,aa,ae,ab,g1,g2,h47,b1,b2,aV]
noncomputable def j6:Code:=Tryz.f67.body.getD .skip
theorem QB (L:Lst)(run:aq)(k:Nat)(a b:ByteArray)(c:Int)(hc : ¬ c<0)(g:ar L run 69 [.sc (.string b),.sc (.string { data:=#[48] })] (Ab.bC c)) :
  ∃ fr,aX (CC L) run k 2 j6 ⟨entry 37 [.sc (.string a),.sc (.string b)],[],[]⟩=some ⟨fr,[],[]⟩∧fr.length=37∧nth fr 0 = .sc (.string a)∧nth fr 1 = .sc (.string b):=by
 obtain⟨e1,e2,e3⟩:=cn 35 (.sc (.string a)) (.sc (.string b))
 generalize entry 37 [.sc (.string a),.sc (.string b)]=fr0 at *
 unfold ar at *
 simp only[Ab.bC] at *
 simp[j6,Tryz.f67,aX,e1,e2,e3,af,aH,an,ao,aG,ag,ai,aO,aj,ak,aC,az,FP.none,aY,au,bf,av,aa,ae,ab,g,hc]
theorem QD (L:Lst)(run:aq)(k:Nat)(a b a' b':ByteArray)(c:Int)(hc:c<0)(g:ar L run 69 [.sc (.string b),.sc (.string { data:=#[48] })] (Ab.bC c))(g1:ar L run 120 [.sc (.string a)] (.sc (.string a')))(g2:ar L run 120 [.sc (.string b)] (.sc (.string b'))) :
  ∃ fr,aX (CC L) run k 2 j6 ⟨entry 37 [.sc (.string a),.sc (.string b)],[],[]⟩=some ⟨fr,[],[]⟩∧fr.length=37∧nth fr 0 = .sc (.string a')∧nth fr 1 = .sc (.string b'):=by
 obtain⟨e1,e2,e3⟩:=cn 35 (.sc (.string a)) (.sc (.string b))
 generalize entry 37 [.sc (.string a),.sc (.string b)]=fr0 at *
 unfold ar at *
 simp only[Ab.bC] at *
 simp[j6,Tryz.f67,aX,e1,e2,e3,af,aH,an,ao,aG,ag,ai,aO,aj,ak,aC,az,FP.none,aY,au,bf,av,aa,ae,ab,g,hc,g1,g2]
theorem QC (L:Lst)(run:aq)(k:Nat)(fr:List PV)(a b g:ByteArray)(hv:ef .neq g { data:=#[49] } = some (.bool false))(g1:ar L run 112 [.sc (.string a),.sc (.string b)] (.sc (.string g)))(h37:fr.length=37)(h0:nth fr 0 = .sc (.string a))(h1:nth fr 1 = .sc (.string b)) :
  ∃ fr',aX (CC L) run k 2 (ah 2 j6) ⟨fr,[],[]⟩=some ⟨fr',[],[]⟩∧fr'.length=37∧nth fr' 0 = .sc (.string a)∧nth fr' 1 = .sc (.string b):=by
 unfold ar at *
 simp[j6,Tryz.f67,ah,aX,h37,h0,h1,af,aH,an,ao,aG,ag,ai,aO,aj,ak,aC,az,FP.none,aY,av,aa,ae,ab,g1,hv]
theorem LO (L:Lst)(run:aq)(k:Nat)(fr:List PV)(a b g a' b' x y:ByteArray)(hv:ef .neq g { data:=#[49] } = some (.bool true))(g1:ar L run 112 [.sc (.string a),.sc (.string b)] (.sc (.string g)))(g2:ar L run 121 [.sc (.string a),.sc (.string g)] (.tup [.sc (.string a'),.sc (.string x)]))(g3:ar L run 121 [.sc (.string b),.sc (.string g)] (.tup [.sc (.string b'),.sc (.string y)]))
  (h37:fr.length=37) (h0:nth fr 0 = .sc (.string a)) (h1:nth fr 1 = .sc (.string b)) :
  ∃ fr',aX (CC L) run k 2 (ah 2 j6) ⟨fr,[],[]⟩=some ⟨fr',[],[]⟩∧fr'.length=37∧nth fr' 0 = .sc (.string a')∧nth fr' 1 = .sc (.string b'):=by
 unfold ar at *
 simp[j6,Tryz.f67,ah,aX,h37,h0,h1,af,aH,an,ao,aG,ag,ai,aO,aj,ak,aC,az,FP.none,aY,av,aa,ae,ab,g1,g2,g3,hv]
theorem yk (z:Int):decide (bH (tx (ztx z))=bH (tx [49]))=decide (z=1):=by
 have:(bH (tx (ztx z))=bH (tx [49])) ↔ z=1:=by
  constructor
  ·intro h
   have h1:tx (ztx z)=tx [49]:=by rw[← fx (tx (ztx z)),h,fx]
   have h2:=(BV (ki z) (Bok.nil.cons (by omega))).1 h1
   have h3:=cD z (by rw[h2];decide)
   have h4:=cD 1 (by decide)
   have:zs z=zs 1:=by unfold zs;rw[h2];rfl
   rw[this,h4] at h3
   exact (Option.some.inj h3).symm
  ·intro h;subst h;rfl
 simp only[this]
theorem Yu (z:Int):ef .neq (tx (ztx z)) { data:=#[49] } = some (.bool (!decide (z=1))):=by
 have e:({ data:=#[49] } : ByteArray)=tx [49]:=rfl
 rw[e]
 simp only[ef,tX,yk]
theorem iO (z:Int):ef .eql (tx (ztx z)) { data:=#[49] } = some (.bool (decide (z=1))):=by
 have e:({ data:=#[49] } : ByteArray)=tx [49]:=rfl
 rw[e]
 simp only[ef,tX,yk]
theorem yH (L:Lst)(run:aq)(k:Nat)(fr:List PV)(n d:Int)(hn9:(ztx n).length≤4000000)(hd9:(ztx d).length≤4000000)(h37:fr.length=37)(h0:nth fr 0=zs n)(h1:nth fr 1=zs d) :
  ∃ st,af (CC L) run k (ah 4 j6) ⟨fr,[],[]⟩=some (.ret,st)∧aV TT st.fr st.hp Tryz.f67.results.toList=some [qs n d]:=by
 have h47:({ data:=#[47] } : ByteArray)=tx [47]:=rfl
 have b1:=N6 (ztx n) [47] (by simp;omega)
 have b2:=N6 (ztx n++[47]) (ztx d) (by simp;omega)
 have hv:=iO d
 by_cases h:d=1
 ·subst h
  have hq:qtx n 1=ztx n:=rfl
  simp only[decide_true,qs,zs,hq] at *
  simp[j6,Tryz.f67,ah,h37,h0,h1,af,aH,an,ao,aG,ag,ai,aj,ak,aC,az,FP.none,aY,av,aa,ae,ab,hv,aV]
 ·have hq:qtx n d=(ztx n++[47])++ztx d:=by rw[qtx,if_neg h];simp
  rw[decide_eq_false h] at hv
  simp only[qs,zs,hq] at *
  simp[-List.append_assoc,j6,Tryz.f67,ah,h37,h0,h1,af,aH,an,ao,aG,ag,ai,aj,ak,aC,az,FP.none,aY,av,aa,ae,ab,hv,h47,b1,b2,aV]
end Go.Proofs.YtjdmodeenbdfpaaGreat
