/- Contracts of numbers kept as digits in text, part 33 of the proof; each lemma states its own conditions. -/
import Derived.Test.YtjdmodeenbdfpaaGreatR32
set_option linter.unusedSimpArgs false
set_option linter.unusedVariables false
namespace Go.Proofs.YtjdmodeenbdfpaaGreat
open Go Go.Ab
theorem I4 (run:ar)(z:Int)(h:Zm z):aA LT6 run 115 [zs z] (.tup [.sc (.bool (bx z)),bz (T.aG z.natAbs)]):=fun dr hp =>
 bu sh XJ run dr hp _ [.sc (.bool (bx z)),bz (T.aG z.natAbs)] rfl rfl (TE z h)
theorem yX (run:ar)(z:Int)(h:Zm z):aA LT6 run 113 [zs z] (.tup (bif (eh z).ble 9 then [Ab.bJ z,.sc (.bool true)] else [Ab.bJ 0,.sc (.bool false)])):=fun dr hp=>by
 have:=bu uG LY run dr hp [zs z] _ rfl rfl (OO z h)
 rw[this]
 cases (eh z).ble 9 <;> rfl
theorem tU (run:ar)(z:Int)(h1 : -9223372036854775808≤z)(h2:z≤9223372036854775807):aA LT6 run 114 [.sc (.int .i64 z)] (zs z):=fun dr hp =>
 bu si XG run dr hp _ [zs z] rfl rfl (by simp only[sO,decide_eq_true h1,decide_eq_true h2,Bool.and_self,cond_true])
set_option maxHeartbeats 1000000 in
theorem P4 (L:Lst)(run:ar)(k:Nat)(s t:ByteArray)(u v:Int)(f1 f2:Bool)(hf:(f1 && f2)=false)(g1:aA L run 113 [.sc (.string s)] (.tup [Ab.bJ u,.sc (.bool f1)]))(g2:aA L run 113 [.sc (.string t)] (.tup [Ab.bJ v,.sc (.bool f2)])) :
  ∃ fr,aY (CC L) run k 4 dD ⟨entry 164 [.sc (.string s),.sc (.string t)],[],[]⟩=some ⟨fr,[],[]⟩∧fr.length=164∧nth fr 0 = .sc (.string s)∧nth fr 1 = .sc (.string t):=by
 obtain⟨e1,e2,e3⟩:=cC 162 (.sc (.string s)) (.sc (.string t))
 generalize entry 164 [.sc (.string s),.sc (.string t)]=fr0 at *
 unfold aA at *
 simp only[Ab.bJ] at *
 cases f1 <;> cases f2 <;> simp only[Bool.and_true,Bool.and_false,Bool.and_self,Bool.true_eq_false] at hf <;> simp[dD,Tryz.f121,aY,e1,e2,e3,af,aJ,ao,aq,aH,ag,ai,aQ,aj,an,aF,aC,FP.none,aw,aa,ae,ab,g1,g2,undef]
theorem P5 (L:Lst)(run:ar)(k:Nat)(fr:List PV)(s t:ByteArray)(m n:Bool)(a b:List Nat)(g1:aA L run 115 [.sc (.string s)] (.tup [.sc (.bool m),bz a]))(g2:aA L run 115 [.sc (.string t)] (.tup [.sc (.bool n),bz b]))
  (h0':fr.length=164) (h0:nth fr 0 = .sc (.string s)) (h1:nth fr 1 = .sc (.string t)) :
  ∃ fr',aY (CC L) run k 2 (ah 4 dD) ⟨fr,[],[]⟩=some ⟨fr',[],[]⟩∧fr'.length=164∧nth fr' 1 = .sc (.string t)∧nth fr' 12 = .sc (.bool m)∧nth fr' 13=bz a∧nth fr' 14 = .sc (.bool n)∧nth fr' 15=bz b:=by
 unfold aA at *
 simp[dD,Tryz.f121,ah,aY,h0',h0,h1,af,aJ,ao,aq,aH,ag,ai,aQ,aj,an,aF,aC,FP.none,aa,ae,ab,g1,g2]
set_option maxHeartbeats 1000000 in
theorem FE (L:Lst)(run:ar)(k:Nat)(fr:List PV)(b:PV)(m n:Bool)(x y:List Nat)(t st:Nat)(hx9:x.length<7000000)(hy9:y.length<7000000)(ht:y.length=t+1)(hst:st=x.length - t)
  (h0':fr.length=164) (h1:nth fr 1=b) (h12:nth fr 12 = .sc (.bool m)) (h13:nth fr 13=bz x) (h14:nth fr 14 = .sc (.bool n)) (h15:nth fr 15=bz y) :
  ∃ fr',aY (CC L) run k 2 (ah 6 dD) ⟨fr,[],[]⟩=some ⟨fr',[],[]⟩∧fr'.length=164∧nth fr' 1=b∧nth fr' 12 = .sc (.bool m)∧nth fr' 13=bz x∧nth fr' 14 = .sc (.bool n)∧nth fr' 15=bz y∧nth fr' 16=iv st∧nth fr' 17 = .sc (.slice none 0 0):=by
 have hw1:bA .i64 ((y.length:Int) - 1)=(t:Int):=by rw[cR y.length (by omega)];omega
 have hmx:(if (0:Int)<(t:Int) then (t:Int) else 0)=(t:Int):=by split <;> omega
 have hmx1:lZ true [.sc (.int .i64 0),.sc (.int .i64 (t:Int))]=some (.sc (.int .i64 (t:Int))):=by
  simp[lZ]
  omega
 have hw2:bA .i64 ((x.length:Int) - (t:Int))=(x.length:Int) - (t:Int):=fh _ (by omega) (by omega)
 have hmx2:(if (0:Int)<(x.length:Int) - (t:Int) then (x.length:Int) - (t:Int) else 0)=(st:Int):=by split <;> omega
 have hmx3:lZ true [.sc (.int .i64 0),.sc (.int .i64 ((x.length:Int) - (t:Int)))]=some (.sc (.int .i64 (st:Int))):=by
  simp[lZ]
  split <;> omega
 simp only[iv]
 simp[dD,Tryz.f121,ah,aY,h0',h1,h12,h13,h14,h15,af,aJ,ao,aq,aH,ag,ai,aj,an,aF,aC,FP.none,bd,au,bj,aw,bM,aa,ae,ab,bh,dK,uL,hw1,hmx1,hw2,hmx3]
theorem ae6:ie TT 24 0 []=some (1,[]):=by
 simp[ie,uL,sI,zI,rep,dR]
theorem slT (x:List Nat)(st:Nat)(hp:List Blk)(h:st≤x.length):dt TT hp 24 (bz x) (some (.sc (.int .i64 (st:Int)))) none none=some (.imm (x.length - st) false ((x.drop st).map iv)):=by
 have e:bz x = .imm x.length false (x.map iv):=rfl
 rw[e]
 simp only[dt,uL,im,sI,bnd,fk,bm]
 simp[gT,h]
 rw[cL,← List.map_drop,dM (by simp)]
 rw[List.take_of_length_le (by simp)]
set_option maxHeartbeats 1000000 in
theorem P3 (run:ar)(k:Nat)(fr:List PV)(b:PV)(m n:Bool)(x y:List Nat)(st:Nat)(hx:T.Dok x)(hx9:x.length<7000000)(hst:st≤x.length)
  (h0':fr.length=164) (h1:nth fr 1=b) (h12:nth fr 12 = .sc (.bool m)) (h13:nth fr 13=bz x) (h14:nth fr 14 = .sc (.bool n)) (h15:nth fr 15=bz y) (h16:nth fr 16=iv st) (h17:nth fr 17 = .sc (.slice none 0 0)) :
  ∃ fr' hp' wr',aY (CC LT6) run k 1 (ah 8 dD) ⟨fr,[],[]⟩=some ⟨fr',hp',wr'⟩∧fr'.length=164∧nth fr' 1=b∧nth fr' 12 = .sc (.bool m)∧nth fr' 13=bz x∧nth fr' 14 = .sc (.bool n)∧nth fr' 15=bz y∧nth fr' 16=iv st∧nth fr' 17 = .sc (.slice none 0 0)∧nth fr' 18=bz (T.aG (T.val (x.drop st))):=by
 have hdk:=hx.drop st
 obtain⟨p',hp1,fp,hp2,fp',g1,g2,g3⟩:=DR run false [] [] (x.drop st) T.Dok.nil hdk (by simp;omega)
 have hl:(x.drop st).length=x.length - st:=List.length_drop
 rw[List.nil_append] at g2
 have g1':df [] 1 (.imm 0 true []) (x.length - st) ((x.drop st).map iv)=some (p',hp1,fp):=by rw[← hl];exact g1
 have hsl:=slT x st [] hst
 have hrd:fO [] 1 (.imm (x.length - st) false ((x.drop st).map iv))=some (x.length - st,(x.drop st).map iv,[]):=by simp[fO]
 have hok:=iM.Q8 (x.drop st)
 have hlit:=ae6
 generalize (x.drop st).map iv=cs at *
 generalize T.val (x.drop st)=V at *
 simp only[iv] at h16 ⊢
 simp[dD,Tryz.f121,ah,aY,h0',h1,h12,h13,h14,h15,h16,h17,af,aJ,ao,aq,aH,ag,ai,aQ,aj,an,aF,aC,FP.none,aw,aa,ae,ab,bh,and_assoc,uL,sI,bI,zI,cn,hlit,hsl,hrd,hok,cq,g1',g2]
noncomputable def Al:Code:=seq1 (seq1 (ah 9 dD))
noncomputable def Ak:Code:=seq1 (seq1 (ah 10 dD))
theorem PZ:ah 9 dD = .seq (.seq Al (.block 0 (.loop iH))) (ah 10 dD):=rfl
theorem Lp:ah 10 dD = .seq (.seq Ak (.block 4 (.loop pH))) (ah 11 dD):=rfl
theorem P2 (L:Lst)(run:ar)(k:Nat)(fr:List PV)(hp:List Blk)(wr:List Nat)(b:PV)(m n:Bool)(x y r:List Nat)(st:Nat)(hst:st<20000000)
  (h0':fr.length=164) (h1:nth fr 1=b) (h12:nth fr 12 = .sc (.bool m)) (h13:nth fr 13=bz x) (h14:nth fr 14 = .sc (.bool n)) (h15:nth fr 15=bz y) (h16:nth fr 16=iv st) (h17:nth fr 17 = .sc (.slice none 0 0)) (h18:nth fr 18=bz r) :
  ∃ fr',af (CC L) run k Al ⟨fr,hp,wr⟩=some (.normal,⟨fr',hp,wr⟩)∧QF fr' b m n x y (.sc (.slice none 0 0)) (.sc (.int .i64 ((st:Int) - 1)))∧nth fr' 18=bz r:=by
 have hw:=cR st (by omega)
 simp only[iv] at h16
 simp[QF,Al,dD,Tryz.f121,ah,seq1,h0',h1,h12,h13,h14,h15,h16,h17,h18,af,aJ,ao,aq,aH,ag,ai,aj,an,aF,aC,FP.none,bd,au,bj,aw,aa,ae,ab,and_assoc,hw]
theorem P1 (L:Lst)(run:ar)(k:Nat)(fr:List PV)(hp:List Blk)(wr:List Nat)(b:PV)(m n:Bool)(x y r:List Nat)(q i:PV)(h:QF fr b m n x y q i)(h18:nth fr 18=bz r) :
  ∃ fr',af (CC L) run k Ak ⟨fr,hp,wr⟩=some (.normal,⟨fr',hp,wr⟩)∧SF fr' b m n r q∧nth fr' 21=iv 0:=by
 obtain⟨h0,h1,h12,h13,h14,h15,h17,h19⟩:=h
 simp[SF,Ak,dD,Tryz.f121,ah,seq1,h0,h1,h12,h14,h17,h18,af,aJ,ao,aq,aH,ag,ai,aj,an,aF,aC,FP.none,aw,aa,ae,ab,and_assoc,iv]
theorem SV (run:ar)(m:Bool)(l:List Nat)(h1:T.Dok l)(h2:l.length<10000000):aA LT6 run 116 [.sc (.bool m),bz l] (zs (gG m (T.val l))):=fun dr hp =>
 bu jE CB run dr hp _ [zs (gG m (T.val l))] rfl (DD m l) (zF m l h1 h2)
theorem P0 (run:ar)(k:Nat)(fr:List PV)(hp hp':List Blk)(wr:List Nat)(b:PV)(p s:Bool)(r:List Nat)(q:PV)(sq sr:ByteArray)(fp:FP)(h:SF fr b p s r q)
  (hc1:cg (CC LT6) run false hp 116 [.sc (.bool (p != s)),q]=some (.sc (.string sq),hp',fp)) (hc2:aA LT6 run 116 [.sc (.bool p),bz r] (.sc (.string sr))) :
  ∃ fr' wr',aY (CC LT6) run k 1 (ah 11 dD) ⟨fr,hp,wr⟩=some ⟨fr',hp',wr'⟩∧fr'.length=164∧nth fr' 1=b∧nth fr' 12 = .sc (.bool p)∧nth fr' 14 = .sc (.bool s)∧nth fr' 22 = .sc (.string sq)∧nth fr' 23 = .sc (.string sr):=by
 obtain⟨h0,h1,h12,h14,h18,h17⟩:=h
 unfold aA at hc2
 cases p <;> cases s <;> simp only[bne_self_eq_false,Bool.bne_true,Bool.bne_false,Bool.not_false] at hc1 <;> simp[dD,Tryz.f121,ah,aY,h0,h1,h12,h14,h18,h17,af,aJ,ao,aq,aH,ag,ai,aQ,aj,an,aF,aC,FP.none,bd,dE,aa,ae,ab,bh,and_assoc,uB,hc1,hc2]
set_option maxHeartbeats 1000000 in
theorem vj (L:Lst)(run:ar)(k:Nat)(fr:List PV)(hp:List Blk)(wr:List Nat)(b:PV)(p s v:Bool)(sq sr:ByteArray)(hv:fl .neq sr { data:=#[48] } = some (.bool v))(hno:(v && (p != s))=false)
  (h0:fr.length=164) (h1:nth fr 1=b) (h12:nth fr 12 = .sc (.bool p)) (h14:nth fr 14 = .sc (.bool s)) (h22:nth fr 22 = .sc (.string sq)) (h23:nth fr 23 = .sc (.string sr)) :
  ∃ st,af (CC L) run k (ah 12 dD) ⟨fr,hp,wr⟩=some (.ret,st)∧aZ TT st.fr st.hp Tryz.f121.results.toList=some [.sc (.string sq),.sc (.string sr)]:=by
 cases v <;> cases p <;> cases s <;> simp only[bne_self_eq_false,Bool.bne_true,Bool.bne_false,Bool.not_false,Bool.and_true,Bool.and_false,Bool.and_self,Bool.true_eq_false] at hno <;> simp[dD,Tryz.f121,ah,h0,h12,h14,h22,h23,af,aJ,ao,aq,aH,ag,ai,aj,an,aF,aC,FP.none,bd,dE,aw,aa,ae,ab,bh,uB,hv,undef,aZ]
set_option maxHeartbeats 1000000 in
theorem P6 (L:Lst)(run:ar)(k:Nat)(fr:List PV)(hp:List Blk)(wr:List Nat)(b sq sr q2 r2:ByteArray)(hv:fl .neq sr { data:=#[48] } = some (.bool true))(g1:aA L run 157 [.sc (.string sq),.sc (.string { data:=#[49] })] (.sc (.string q2)))(g2:aA L run 66 [.sc (.string sr),.sc (.string b)] (.sc (.string r2)))
  (h0:fr.length=164) (h1:nth fr 1 = .sc (.string b)) (h12:nth fr 12 = .sc (.bool true)) (h14:nth fr 14 = .sc (.bool false)) (h22:nth fr 22 = .sc (.string sq)) (h23:nth fr 23 = .sc (.string sr)) :
  ∃ st,af (CC L) run k (ah 12 dD) ⟨fr,hp,wr⟩=some (.ret,st)∧aZ TT st.fr st.hp Tryz.f121.results.toList=some [.sc (.string q2),.sc (.string r2)]:=by
 unfold aA at *
 simp[dD,Tryz.f121,ah,h0,h1,h12,h14,h22,h23,af,aJ,ao,aq,aH,ag,ai,aQ,aj,an,aF,aC,FP.none,bd,dE,aw,aa,ae,ab,bh,uB,hv,g1,g2,aZ]
theorem tX:∀ (a b:List UInt8),eqL a b=decide (a=b)
 | [],[]=>rfl
 | [],_::_=>by simp[eqL]
 | _::_,[]=>by simp[eqL]
 | a::l,b::m=>by
  have:=tX l m
  simp only[eqL,this]
  have hn:(a.toNat == b.toNat)=decide (a=b):=by
   by_cases h:a=b
   ·subst h;simp
   ·rw[decide_eq_false h,beq_eq_false_iff_ne];exact fun e=>h (UInt8.toNat_inj.1 e)
  rw[hn]
  by_cases h:a=b <;> by_cases h2:l=m <;> simp[h,h2]
theorem aaJ (z:Int):ztx z=[48] ↔ z=0:=by
 constructor
 ·intro h
  have h1:=cT z (by rw[h];decide)
  have h2:=cT 0 (by decide)
  have:zs z=zs 0:=by unfold zs;rw[h];rfl
  rw[this,h2] at h1
  exact (Option.some.inj h1).symm
 ·intro h;subst h;rfl
theorem Bg {a b:List Nat}(ha:Bok a)(hb:Bok b):tx a=tx b ↔ a=b:=by
 constructor
 ·intro h
  rw[← jX ha,h,jX hb]
 ·intro h;rw[h]
theorem pS (z:Int):fl .neq (tx (ztx z)) { data:=#[48] } = some (.bool (!decide (z=0))):=by
 have e:({ data:=#[48] } : ByteArray)=tx [48]:=rfl
 have h1:decide (bK (tx (ztx z))=bK (tx [48]))=decide (z=0):=by
  have:(bK (tx (ztx z))=bK (tx [48])) ↔ z=0:=by
   rw[← aaJ z]
   constructor
   ·intro h
    have:tx (ztx z)=tx [48]:=by rw[← fx (tx (ztx z)),h,fx]
    exact (Bg (kr z) (Bok.nil.cons (by omega))).1 this
   ·intro h;rw[h]
  simp only[this]
 rw[e]
 simp only[fl,tX,h1]
set_option maxHeartbeats 2000000 in
theorem WV (L:Lst)(run:ar)(k:Nat)(s t sq sr:ByteArray)(u v q r:Int)(g1:aA L run 113 [.sc (.string s)] (.tup [Ab.bJ u,.sc (.bool true)]))(g2:aA L run 113 [.sc (.string t)] (.tup [Ab.bJ v,.sc (.bool true)]))
  (hv0 : ¬ v=0) (hv : ¬ v<0) (hq:bA .i64 (u.tdiv v)=q) (hr:u.tmod v=r) (hr0 : ¬ r<0) (g3:aA L run 114 [.sc (.int .i64 q)] (.sc (.string sq))) (g4:aA L run 114 [.sc (.int .i64 r)] (.sc (.string sr))) :
  ∃ st,af (CC L) run k dD ⟨entry 164 [.sc (.string s),.sc (.string t)],[],[]⟩=some (.ret,st)∧aZ TT st.fr st.hp Tryz.f121.results.toList=some [.sc (.string sq),.sc (.string sr)]:=by
 obtain⟨e1,e2,e3⟩:=cC 162 (.sc (.string s)) (.sc (.string t))
 generalize entry 164 [.sc (.string s),.sc (.string t)]=fr0 at *
 unfold aA at *
 simp only[Ab.bJ] at *
 by_cases h0:r=0
 ·subst h0
  simp[dD,Tryz.f121,e1,e2,e3,af,aJ,ao,aq,aH,ag,ai,aQ,aj,an,aF,aC,FP.none,bd,au,bj,aw,aa,ae,ab,g1,g2,hv0,hq,hr,g3,g4,undef,number,FP.free,aZ]
 ·have h1:(r != 0)=true:=by simpa using h0
  simp[dD,Tryz.f121,e1,e2,e3,af,aJ,ao,aq,aH,ag,ai,aQ,aj,an,aF,aC,FP.none,bd,au,bj,dE,aw,aa,ae,ab,bh,uB,g1,g2,hv0,hv,hq,hr,hr0,h1,g3,g4,number,FP.free,aZ]
set_option maxHeartbeats 2000000 in
theorem WU (L:Lst)(run:ar)(k:Nat)(s t sq sr:ByteArray)(u v q0 r0 q r:Int)(g1:aA L run 113 [.sc (.string s)] (.tup [Ab.bJ u,.sc (.bool true)]))(g2:aA L run 113 [.sc (.string t)] (.tup [Ab.bJ v,.sc (.bool true)]))
  (hv0 : ¬ v=0) (hv : ¬ v<0) (hq:bA .i64 (u.tdiv v)=q0) (hr:u.tmod v=r0) (hr0:r0<0) (hq1:bA .i64 (q0 - 1)=q) (hr1:bA .i64 (r0+v)=r) (g3:aA L run 114 [.sc (.int .i64 q)] (.sc (.string sq))) (g4:aA L run 114 [.sc (.int .i64 r)] (.sc (.string sr))) :
  ∃ st,af (CC L) run k dD ⟨entry 164 [.sc (.string s),.sc (.string t)],[],[]⟩=some (.ret,st)∧aZ TT st.fr st.hp Tryz.f121.results.toList=some [.sc (.string sq),.sc (.string sr)]:=by
 obtain⟨e1,e2,e3⟩:=cC 162 (.sc (.string s)) (.sc (.string t))
 generalize entry 164 [.sc (.string s),.sc (.string t)]=fr0 at *
 unfold aA at *
 simp only[Ab.bJ] at *
 have h0 : ¬ r0=0:=by omega
 have h1:(r0 != 0)=true:=by simpa using h0
 simp[dD,Tryz.f121,e1,e2,e3,af,aJ,ao,aq,aH,ag,ai,aQ,aj,an,aF,aC,FP.none,bd,au,bj,dE,aw,aa,ae,ab,bh,uB,g1,g2,hv0,hv,hq,hr,hr0,h1,hq1,hr1,g3,g4,number,FP.free,aZ]
def sL:List PV→Option (List PV)
 | [p,q]=>match fT p,fT q with
  | some x,some y=>bif decide (0<y) then some [zs (x / y),zs (x % y)] else none
  | _,_=>none
 | _=>none
theorem rb (K:Nat)(x y:Int)(hx:Zm x)(hy:Zm y)(hy0:0<y)(hK:(T.aG x.natAbs).length+20≤K)(u v:Int)(f1 f2:Bool)(hf:(f1 && f2)=false)(q1:aA LT6 (runK (CC LT6) K) 113 [zs x] (.tup [Ab.bJ u,.sc (.bool f1)]))(q2:aA LT6 (runK (CC LT6) K) 113 [zs y] (.tup [Ab.bJ v,.sc (.bool f2)])) :
  ∃ st,af (CC LT6) (runK (CC LT6) K) K dD ⟨entry 164 [zs x,zs y],[],[]⟩=some (.ret,st)∧aZ TT st.fr st.hp Tryz.f121.results.toList=some [zs (x / y),zs (x % y)]:=by
 have hx3:=Zm.Jh hx
 have hy3:=Zm.Jh hy
 have hY:0<y.natAbs:=by omega
 have hny:bx y=false:=by rw[cN];simp;omega
 obtain⟨a1,b1,b2,b3,b4⟩:=P4 LT6 (runK (CC LT6) K) K _ _ u v f1 f2 hf q1 q2
 obtain⟨a2,c1,c2,c3,c4,c5,c6,c7⟩:=P5 LT6 (runK (CC LT6) K) K a1 _ _ _ _ _ _ (I4 _ x hx) (I4 _ y hy) b2 b3 b4
 have hyl:=T.cU.2 (show y.natAbs≠0 by omega)
 obtain⟨t,ht⟩:∃ t,(T.aG y.natAbs).length=t+1:=⟨(T.aG y.natAbs).length - 1,by omega⟩
 obtain⟨st,hst⟩:∃ st,st=(T.aG x.natAbs).length - t:=⟨_,rfl⟩
 obtain⟨a3,d1,d2,d3,d4,d5,d6,d7,d8,d9⟩:=FE LT6 (runK (CC LT6) K) K a2 _ _ _ _ _ t st (by omega) (by omega) ht hst c2 c3 c4 c5 c6 c7
 obtain⟨a4,hp4,wr4,e1,e2,e3,e4,e5,e6,e7,e8,e9,e10⟩:=P3 (runK (CC LT6) K) K a3 _ _ _ _ _ st (T.bU x.natAbs) (by omega) (by omega) d2 d3 d4 d5 d6 d7 d8 d9
 obtain⟨a5,g1,g2,g3⟩:=P2 LT6 (runK (CC LT6) K) K a4 hp4 wr4 _ _ _ _ _ _ st (by omega) e2 e3 e4 e5 e6 e7 e8 e9 e10
 have hR0:T.val ((T.aG x.natAbs).drop st)<y.natAbs:=by
  have h1:=T.eL ((T.bU x.natAbs).drop st)
  rw[List.length_drop] at h1
  have h2:10 ^ t≤y.natAbs:=by
   rcases Nat.lt_or_ge y.natAbs (10 ^ t) with h | h
   ·have:=T.di h;omega
   ·exact h
  have h3:10 ^ ((T.aG x.natAbs).length - st)≤10 ^ t:=Nat.pow_le_pow_right (by omega) (by omega)
  omega
 obtain⟨a6,hp6,wr6,out,q6,k1,k2,k3,k4,k5,k6,k7⟩:=vp (runK (CC LT6) K) K _ _ _ (T.aG x.natAbs) y.natAbs (T.bU _) (by omega) hY (by omega) (by omega) st _ a5 hp4 wr4 [] _ (by omega) hR0 (by simp;omega) T.Dok.nil (by simp[T.val]) g2 g3 (dx.nil (Nat.zero_le _))
 rw[T.bZ] at k3 k6
 obtain⟨a7,l1,l2,l3⟩:=P1 LT6 (runK (CC LT6) K) K a6 hp6 wr6 _ _ _ _ _ _ _ _ k2 k3
 obtain⟨a8,hp8,wr8,m1,m2,m3⟩:=Lq LT6 (runK (CC LT6) K) K _ _ _ _ out q6 (by omega) a7 hp6 wr6 k4 l2 l3
 have hor:T.Dok out.reverse:=wW k5
 have htx:=zF (bx x != bx y) out.reverse hor (by rw[List.length_reverse];omega)
 rw[k6] at htx
 obtain⟨hp9,fp,n1,-⟩:=om jE CB (runK (CC LT6) K) false iM (bx x != bx y) m3.s _ htx
 have hrl:(T.aG (x.natAbs % y.natAbs)).length<10000000:=Nat.lt_of_le_of_lt (T.cH (Nat.le_of_lt (Nat.mod_lt _ hY))) (by omega)
 have n2:=SV (runK (CC LT6) K) (bx x) (T.aG (x.natAbs % y.natAbs)) (T.bU _) hrl
 rw[T.bZ] at n2
 obtain⟨a9,wr9,o1,o2,o3,o4,o5,o6,o7⟩:=P0 (runK (CC LT6) K) K a8 hp8 hp9 wr8 _ _ _ _ _ _ _ fp m2 n1 n2
 have hex:∀ {z},af (CC LT6) (runK (CC LT6) K) K (ah 12 dD) ⟨a9,hp9,wr9⟩=z→af (CC LT6) (runK (CC LT6) K) K dD ⟨entry 164 [zs x,zs y],[],[]⟩=z:=by
  intro z hz
  have h1:af (CC LT6) (runK (CC LT6) K) K dD ⟨entry 164 [zs x,zs y],[],[]⟩=af (CC LT6) (runK (CC LT6) K) K (ah 4 dD) ⟨a1,[],[]⟩:=aP 4 b1
  rw[h1,aP 2 c1,show ah 2 (ah 4 dD)=ah 6 dD from rfl,aP 2 d1,show ah 2 (ah 6 dD)=ah 8 dD from rfl,aP 1 e1,show ah 1 (ah 8 dD)=ah 9 dD from rfl,
   PZ,av ((av g1).trans (bH (ca k1 (by omega)))),Lp,av ((av l1).trans (bH (ca m1 (by omega)))),aP 1 o1]
  exact hz
 rw[hny] at o5
 by_cases hxn:x<0
 ·have hnx:bx x=true:=by rw[cN];simpa using hxn
  rw[hnx] at o4
  have eq1:gG (bx x != bx y) (x.natAbs / y.natAbs) = -((x.natAbs / y.natAbs:Nat):Int):=by rw[hnx,hny,j6];rfl
  have er1:gG (bx x) (x.natAbs % y.natAbs) = -((x.natAbs % y.natAbs:Nat):Int):=by rw[hnx,j6];rfl
  rw[eq1] at o6
  rw[er1] at o7
  by_cases h0:x.natAbs % y.natAbs=0
  ·obtain⟨w1,w2⟩:=Zq hy0 hxn h0
   have hv:=pS (-((x.natAbs % y.natAbs:Nat):Int))
   obtain⟨st',x1,x2⟩:=vj LT6 (runK (CC LT6) K) K a9 hp9 wr9 _ true false _ _ _ hv (by rw[h0];rfl) o2 o3 o4 o5 o6 o7
   refine⟨st',hex x1,?_⟩
   rw[x2,w1,w2,h0];rfl
  ·obtain⟨w1,w2⟩:=ade hy0 hxn h0
   have hv:=pS (-((x.natAbs % y.natAbs:Nat):Int))
   rw[decide_eq_false (by omega)] at hv
   have zx:∀ z:Int,z≤0→z.natAbs≤x.natAbs→Zm z:=by
    intro z hz0 hz
    have h1:(ztx x).length≤fE:=hx
    unfold Zm
    rw[fZ,hnx] at h1
    rw[fZ]
    have h2:=nL hz
    cases bx z <;> simp at h1 ⊢ <;> omega
   have hq1:Zm (-((x.natAbs / y.natAbs:Nat):Int)):=zx _ (by omega) (by rw[Int.natAbs_neg,Int.natAbs_natCast];exact Nat.div_le_self _ _)
   have hr1:Zm (-((x.natAbs % y.natAbs:Nat):Int)):=zx _ (by omega) (by rw[Int.natAbs_neg,Int.natAbs_natCast];exact Nat.mod_le _ _)
   have p1:aA LT6 (runK (CC LT6) K) 157 [zs (-((x.natAbs / y.natAbs:Nat):Int)),.sc (.string { data:=#[49] })] (zs (x / y)):=fun dr hp =>
    bu ES XI _ dr hp [zs (-((x.natAbs / y.natAbs:Nat):Int)),zs 1] [zs (x / y)] rfl rfl (by
     have h2:(eh 1).blt fE=true:=by decide
     have h3:fT (zs 1)=some 1:=cT 1 (by decide)
     simp only[vt,cT _ hq1,h3,h2,cond_true,w1])
   have p2:aA LT6 (runK (CC LT6) K) 66 [zs (-((x.natAbs % y.natAbs:Nat):Int)),zs y] (zs (x % y)):=fun dr hp =>
    bu qP Rl _ dr hp _ [zs (x % y)] rfl rfl (by simp only[iw,cT _ hr1,cT _ hy,w2])
   obtain⟨st',x1,x2⟩:=P6 LT6 (runK (CC LT6) K) K a9 hp9 wr9 _ _ _ _ _ hv p1 p2 o2 o3 o4 o5 o6 o7
   exact⟨st',hex x1,x2⟩
 ·have hnx:bx x=false:=by rw[cN];simpa using hxn
  obtain⟨w1,w2⟩:=adb hy0 (show 0≤x by omega)
  have eq1:gG (bx x != bx y) (x.natAbs / y.natAbs)=((x.natAbs / y.natAbs:Nat):Int):=by rw[hnx,hny,j6];rfl
  have er1:gG (bx x) (x.natAbs % y.natAbs)=((x.natAbs % y.natAbs:Nat):Int):=by rw[hnx,j6];rfl
  rw[eq1] at o6
  rw[er1] at o7
  rw[hnx] at o4
  have hv:=pS ((x.natAbs % y.natAbs:Nat):Int)
  obtain⟨st',x1,x2⟩:=vj LT6 (runK (CC LT6) K) K a9 hp9 wr9 _ false false _ _ _ hv (by simp) o2 o3 o4 o5 o6 o7
  refine⟨st',hex x1,?_⟩
  rw[x2,w1,w2];rfl
theorem yn:Ab.Spec base.P 121 sL:=Ab.Spec.bQ (C:=CC LT6) (cV adY) fun args rs h=>by
 unfold sL at h
 split at h
 ·split at h
  ·rename_i x y ex ey
   obtain⟨rfl,hx⟩:=dj ex
   obtain⟨rfl,hy⟩:=dj ey
   by_cases hy0:0<y
   ·rw[decide_eq_true hy0] at h
    simp only[cond_true,Option.some.injEq] at h
    subst h
    generalize hK:(T.aG x.natAbs).length+20=K
    have gs1:=yX (runK (CC LT6) K) x hx
    have gs2:=yX (runK (CC LT6) K) y hy
    suffices hgo:∃ st,af (CC LT6) (runK (CC LT6) K) K dD ⟨entry 164 [zs x,zs y],[],[]⟩=some (.ret,st)∧aZ TT st.fr st.hp Tryz.f121.results.toList=some [zs (x / y),zs (x % y)] by
     obtain⟨st,x1,x2⟩:=hgo
     exact⟨K+1,_,_,_,_,_,aX HF rfl x1 x2,rfl,Wk.refl rfl,Wk.refl rfl,trivial⟩
    cases h1:(eh x).ble 9 with
    | false =>
     rw[h1] at gs1
     cases h2:(eh y).ble 9 with
     | false=>rw[h2] at gs2;exact rb K x y hx hy hy0 (by omega) _ _ false false rfl gs1 gs2
     | true=>rw[h2] at gs2;exact rb K x y hx hy hy0 (by omega) _ _ false true rfl gs1 gs2
    | true =>
     rw[h1] at gs1
     cases h2:(eh y).ble 9 with
     | false=>rw[h2] at gs2;exact rb K x y hx hy hy0 (by omega) _ _ true false rfl gs1 gs2
     | true =>
      rw[h2] at gs2
      have b1:=xF h1
      have b2:=xF h2
      have c1:=Int.mul_tdiv_add_tmod x y
      have c2:=Int.tmod_lt_of_pos x hy0
      have c3:=Int.lt_tmod_of_pos x hy0
      have c4:=Int.natAbs_tdiv_le_natAbs x y
      generalize hq:x.tdiv y=q at *
      generalize hr:x.tmod y=r at *
      by_cases hr0:r<0
      ·obtain⟨w1,w2⟩:=lk (x:=x) (y:=y) (q:=q - 1) (r:=r+y) hy0 (by rw[Int.mul_sub,Int.mul_one];omega) (by omega) (by omega)
       rw[w1,w2]
       exact WU LT6 (runK (CC LT6) K) K _ _ _ _ x y q r (q - 1) (r+y) gs1 gs2 (by omega) (by omega) (by rw[hq];exact fh _ (by omega) (by omega)) hr hr0 (fh _ (by omega) (by omega)) (fh _ (by omega) (by omega)) (tU _ _ (by omega) (by omega)) (tU _ _ (by omega) (by omega))
      ·obtain⟨w1,w2⟩:=lk (x:=x) (y:=y) (q:=q) (r:=r) hy0 (by omega) (by omega) (by omega)
       rw[w1,w2]
       exact WV LT6 (runK (CC LT6) K) K _ _ _ _ x y q r gs1 gs2 (by omega) (by omega) (by rw[hq];exact fh _ (by omega) (by omega)) hr hr0 (tU _ _ (by omega) (by omega)) (tU _ _ (by omega) (by omega))
   ·rw[decide_eq_false hy0] at h
    cases h
  ·cases h
 ·cases h
noncomputable def LT7:Lst:=[(155,rh),(121,sL)]
theorem adX:dL base.P LT7:=⟨FG,yn,trivial⟩
theorem IH:bw LT7 155=fun a=>rh (aK a):=rfl
theorem XE:bw LT7 121=fun a=>sL (aK a):=rfl
noncomputable def pI:Code:=Tryz.f112.body.getD .skip
noncomputable def yv:Code:=((Tryz.f112.body).bind az).getD .skip
theorem QH (L:Lst)(run:ar)(k:Nat)(fr:List PV)(hp:List Blk)(wr:List Nat)(a b:ByteArray)(hv:fl .neq b { data:=#[48] } = some (.bool false))(h24:fr.length=24)(h5:nth fr 5 = .sc (.string a))(h6:nth fr 6 = .sc (.string b)) :
  ∃ fr',af (CC L) run k yv ⟨fr,hp,wr⟩=some (.exit 0,⟨fr',hp,wr⟩)∧fr'.length=24∧nth fr' 5 = .sc (.string a):=by
 simp[yv,Tryz.f112,az,af,aJ,ao,aq,aH,ag,ai,aj,an,aF,aC,FP.none,bd,aw,aa,ae,ab,h24,h5,h6,hv]
theorem WY (L:Lst)(run:ar)(k:Nat)(fr:List PV)(hp:List Blk)(wr:List Nat)(a b q r:ByteArray)(hv:fl .neq b { data:=#[48] } = some (.bool true))(g:aA L run 121 [.sc (.string a),.sc (.string b)] (.tup [.sc (.string q),.sc (.string r)]))(h24:fr.length=24)(h5:nth fr 5 = .sc (.string a))(h6:nth fr 6 = .sc (.string b)) :
  ∃ fr',af (CC L) run k yv ⟨fr,hp,wr⟩=some (.normal,⟨fr',hp,wr⟩)∧fr'.length=24∧nth fr' 5 = .sc (.string b)∧nth fr' 6 = .sc (.string r):=by
 unfold aA at g
 simp[yv,Tryz.f112,az,af,aJ,ao,aq,aH,ag,ai,aQ,aj,an,aF,aC,FP.none,bd,aw,aa,ae,ab,h24,h5,h6,hv,g]
theorem Zm.aeM {x y:Nat}(h:Zm (y:Int))(hl:x≤y):Zm (x:Int):=by
 unfold Zm at *
 rw[fZ] at *
 have h1:bx (x:Int)=false:=rfl
 have h2:bx (y:Int)=false:=rfl
 rw[h1]
 rw[h2] at h
 have h3:=nL (x:=(x:Int)) (y:=(y:Int)) (by simpa using hl)
 simp only[cond_false] at h ⊢
 omega
theorem Zf (run:ar)(x y:Nat)(hx:Zm (x:Int))(hy:Zm (y:Int))(h0:0<y):aA LT7 run 121 [zs (x:Int),zs (y:Int)] (.tup [zs ((x:Int) / (y:Int)),zs ((x % y:Nat):Int)]):=fun dr hp =>
 bu Bw XE run dr hp _ [zs ((x:Int) / (y:Int)),zs ((x % y:Nat):Int)] rfl rfl (by
  have h1:(0:Int)<(y:Int):=by omega
  simp only[sL,cT _ hx,cT _ hy,decide_eq_true h1,cond_true]
  rfl)
theorem yu (run:ar)(k:Nat)(hp:List Blk)(wr:List Nat):∀ (n y x:Nat) (fr:List PV),y<n→Zm (x:Int)→Zm (y:Int)→fr.length=24→nth fr 5=zs (x:Int)→nth fr 6=zs (y:Int) →
  ∃ fr',cl (af (CC LT7) run k yv) n ⟨fr,hp,wr⟩=some (.exit 0,⟨fr',hp,wr⟩)∧fr'.length=24∧nth fr' 5=zs ((Nat.gcd x y:Nat):Int)
 | 0,y,x,fr,hn,_,_,_,_,_=>by omega
 | n+1,y,x,fr,hn,hx,hy,h24,h5,h6=>by
  have hv:=pS (y:Int)
  by_cases h0:y=0
  ·subst h0
   obtain⟨fr',g1,g2,g3⟩:=QH LT7 run k fr hp wr _ _ hv h24 h5 h6
   exact⟨fr',bD g1,g2,by rw[g3,Nat.gcd_zero_right];rfl⟩
  ·rw[decide_eq_false (by omega)] at hv
   obtain⟨fr1,g1,g2,g3,g4⟩:=WY LT7 run k fr hp wr _ _ _ _ hv (Zf run x y hx hy (by omega)) h24 h5 h6
   have hm:=Nat.mod_lt x (show 0<y by omega)
   obtain⟨fr',q1,q2,q3⟩:=yu run k hp wr n (x % y) y fr1 (by omega) hy (hy.aeM (by omega)) g2 g3 g4
   refine⟨fr',by rw[ch g1];exact q1,q2,?_⟩
   rw[q3,Nat.gcd_comm y (x % y),← Nat.gcd_rec,Nat.gcd_comm]
theorem FV:ah 2 pI = .seq (.block 0 (.loop yv)) (ah 3 pI):=rfl
theorem QG (L:Lst)(run:ar)(k:Nat)(s t u v:ByteArray)(g1:aA L run 155 [.sc (.string s)] (.sc (.string u)))(g2:aA L run 155 [.sc (.string t)] (.sc (.string v))) :
  ∃ fr,aY (CC L) run k 2 pI ⟨entry 24 [.sc (.string s),.sc (.string t)],[],[]⟩=some ⟨fr,[],[]⟩∧fr.length=24∧nth fr 5 = .sc (.string u)∧nth fr 6 = .sc (.string v):=by
 obtain⟨e1,e2,e3⟩:=cC 22 (.sc (.string s)) (.sc (.string t))
 generalize entry 24 [.sc (.string s),.sc (.string t)]=fr0 at *
 unfold aA at *
 simp[pI,Tryz.f112,aY,e1,e2,e3,af,aJ,ao,aq,aH,ag,ai,aQ,aj,an,aF,aC,FP.none,aw,aa,ae,ab,g1,g2]
theorem Lz (L:Lst)(run:ar)(k:Nat)(fr:List PV)(hp:List Blk)(wr:List Nat)(a:ByteArray)(h24:fr.length=24)(h5:nth fr 5 = .sc (.string a)) :
  ∃ st,af (CC L) run k (ah 3 pI) ⟨fr,hp,wr⟩=some (.ret,st)∧aZ TT st.fr st.hp Tryz.f112.results.toList=some [.sc (.string a)]:=by
 simp[pI,Tryz.f112,ah,af,aJ,ao,aq,aH,ag,ai,aj,an,aF,aC,FP.none,aa,ab,h24,h5,aZ]
def sP:List PV→Option (List PV)
 | [p,q]=>match fT p,fT q with
  | some x,some y=>some [zs ((Nat.gcd x.natAbs y.natAbs:Nat):Int)]
  | _,_=>none
 | _=>none
theorem Zm.abs {x:Int}(h:Zm x):Zm (x.natAbs:Int):=by
 unfold Zm at *
 rw[fZ] at *
 have h1:bx (x.natAbs:Int)=false:=rfl
 rw[h1]
 have h3:=nL (x:=(x.natAbs:Int)) (y:=x) (by simp)
 simp only[cond_false]
 omega
theorem yt:Ab.Spec base.P 112 sP:=Ab.Spec.bQ (C:=CC LT7) (cV adX) fun args rs h=>by
 unfold sP at h
 split at h
 ·split at h
  ·rename_i x y ex ey
   obtain⟨rfl,hx⟩:=dj ex
   obtain⟨rfl,hy⟩:=dj ey
   simp only[Option.some.injEq] at h
   subst h
   generalize hK:y.natAbs+1=K
   have g1:aA LT7 (runK (CC LT7) K) 155 [zs x] (zs (x.natAbs:Int)):=fun dr hp=>bu Bx IH _ dr hp _ [zs (x.natAbs:Int)] rfl rfl (by simp only[rh,cT x hx];rfl)
   have g2:aA LT7 (runK (CC LT7) K) 155 [zs y] (zs (y.natAbs:Int)):=fun dr hp=>bu Bx IH _ dr hp _ [zs (y.natAbs:Int)] rfl rfl (by simp only[rh,cT y hy];rfl)
   obtain⟨f1,a1,a2,a3,a4⟩:=QG LT7 (runK (CC LT7) K) K _ _ _ _ g1 g2
   obtain⟨f2,b1,b2,b3⟩:=yu (runK (CC LT7) K) K [] [] K y.natAbs x.natAbs f1 (by omega) (Zm.abs hx) (Zm.abs hy) a2 a3 a4
   obtain⟨st,x1,x2⟩:=Lz LT7 (runK (CC LT7) K) K f2 [] [] _ b2 b3
   have h1:af (CC LT7) (runK (CC LT7) K) K pI ⟨entry 24 [zs x,zs y],[],[]⟩=af (CC LT7) (runK (CC LT7) K) K (ah 2 pI) ⟨f1,[],[]⟩:=aP 2 a1
   have hx':af (CC LT7) (runK (CC LT7) K) K pI ⟨entry 24 [zs x,zs y],[],[]⟩=some (.ret,st):=by
    rw[h1,FV,av (bH b1)]
    exact x1
   exact⟨K+1,_,_,_,_,_,aX HI rfl hx' x2,rfl,Wk.refl rfl,trivial⟩
  ·cases h
 ·cases h
def spl (l:List Nat):List Nat × List Nat × Bool:=match fC l with
 | some j=>(l.take j,l.drop (j+1),true)
 | none=>(l,[49],false)
theorem Ol {l:List Nat}(h:Bok l):Bok (spl l).1∧Bok (spl l).2.1:=by
 unfold spl
 split
 ·exact⟨h.take _,h.drop _⟩
 ·exact⟨h,Bok.nil.cons (by omega)⟩
theorem tE (l:List Nat):(spl l).1.length≤l.length∧(spl l).2.1.length≤l.length+1:=by
 unfold spl
 split
 ·simp;omega
 ·simp
theorem EC (l:List Nat)(h:Bok l)(h9:l.length<20000000):kW [.sc (.string (tx l))]=some [.sc (.string (tx (spl l).1)),.sc (.string (tx (spl l).2.1)),.sc (.bool (spl l).2.2)]:=by
 have hb:l.length.blt 20000000=true:=by rw[Nat.blt_eq];exact h9
 simp only[kW,jX h,hb,cond_true,spl]
 cases fC l <;> rfl
noncomputable def LT8:Lst:=[(65,kW),(100,nZ)]
theorem adW:dL base.P LT8:=⟨nX,sT,trivial⟩
theorem abO:bw LT8 65=fun a=>kW (aK a):=rfl
theorem Rj:bw LT8 100=fun a=>nZ (aK a):=rfl
theorem ac9 (run:ar)(l:List Nat)(h:Bok l)(h9:l.length<20000000):aA LT8 run 65 [.sc (.string (tx l))] (.tup [.sc (.string (tx (spl l).1)),.sc (.string (tx (spl l).2.1)),.sc (.bool (spl l).2.2)]):=fun dr hp =>
 bu lG abO run dr hp _ [.sc (.string (tx (spl l).1)),.sc (.string (tx (spl l).2.1)),.sc (.bool (spl l).2.2)] rfl rfl (EC l h h9)
theorem Dd (run:ar)(l:List Nat)(h:Bok l)(h9:l.length<30000000):aA LT8 run 100 [.sc (.string (tx l))] (.sc (.bool (decide (1000<eM l)))):=fun dr hp =>
 bu J1 Rj run dr hp _ [.sc (.bool (decide (1000<eM l)))] rfl rfl (by
  have hb:l.length.blt 100000000=true:=by rw[Nat.blt_eq];omega
  simp only[nZ,jX h,hb,cond_true])
theorem B1 (L:Lst)(run:ar)(k:Nat)(s a b:ByteArray)(sl u v:Bool)(g1:aA L run 65 [.sc (.string s)] (.tup [.sc (.string a),.sc (.string b),.sc (.bool sl)]))(g2:aA L run 100 [.sc (.string a)] (.sc (.bool u)))(g3:aA L run 100 [.sc (.string b)] (.sc (.bool v))) :
  ∃ st,af (CC L) run k (Tryz.f48.body.getD .skip) ⟨entry 18 [.sc (.string s)],[],[]⟩=some (.ret,st)∧aZ TT st.fr st.hp Tryz.f48.results.toList=some [.sc (.bool (u || v))]:=by
 obtain⟨e1,e2⟩:=cW 17 (.sc (.string s))
 generalize entry 18 [.sc (.string s)]=fr0 at *
 unfold aA at *
 cases u <;> simp[Tryz.f48,e1,e2,af,aJ,ao,aq,aH,ag,ai,aQ,aj,an,aF,aC,FP.none,aw,aa,ae,ab,g1,g2,g3,undef,aZ]
def yO (l:List Nat):Bool:=decide (1000<eM (spl l).1) || decide (1000<eM (spl l).2.1)
def nY:List PV→Option (List PV)
 | [.sc (.string s)]=>bif (bys s).length.blt 20000000 then some [.sc (.bool (yO (bys s)))] else none
 | _=>none
theorem sx:Ab.Spec base.P 48 nY:=Ab.Spec.bQ (C:=CC LT8) (cV adW) fun args rs h=>by
 unfold nY at h
 split at h
 ·rename_i s
  cases hb:(bys s).length.blt 20000000 with
  | false=>rw[hb] at h;cases h
  | true =>
   rw[hb] at h
   simp only[cond_true,Option.some.injEq] at h
   subst h
   rw[Nat.blt_eq] at hb
   have hok:=mh s
   obtain⟨h1,h2⟩:=Ol hok
   obtain⟨h3,h4⟩:=tE (bys s)
   obtain⟨st,x1,x2⟩:=B1 LT8 (runK (CC LT8) 1) 1 _ _ _ _ _ _ (ac9 _ (bys s) hok hb) (Dd _ _ h1 (by omega)) (Dd _ _ h2 (by omega))
   rw[il] at x1
   exact⟨2,_,_,_,_,_,aX DY rfl x1 x2,rfl,Wk.refl rfl,trivial⟩
 ·cases h
theorem Ic (n d:Int):spl (qtx n d)=(ztx n,ztx d, !decide (d=1)):=by
 unfold spl
 rw[MK]
 unfold qtx
 by_cases h:d=1
 ·subst h
  simp[Vo]
 ·simp[h]
def qs (n d:Int):PV:=.sc (.string (tx (qtx n d)))
noncomputable def LT9:Lst:=[(65,kW),(120,mR),(69,lT),(112,sP),(121,sL)]
theorem UN:dL base.P LT9:=⟨nX,vr,oN,yt,yn,trivial⟩
theorem abN:bw LT9 65=fun a=>kW (aK a):=rfl
theorem XB:bw LT9 120=fun a=>mR (aK a):=rfl
theorem XD:bw LT9 69=fun a=>lT (aK a):=rfl
theorem XC:bw LT9 112=fun a=>sP (aK a):=rfl
theorem XA:bw LT9 121=fun a=>sL (aK a):=rfl
theorem W1 (n d:Int):(qtx n d).length≤(ztx n).length+(ztx d).length+1:=by
 unfold qtx
 split
 ·omega
 ·simp;omega
theorem Om (n d:Int)(hn:Zm n)(hd:Zm d):kW [qs n d]=some [zs n,zs d,.sc (.bool (!decide (d=1)))]:=by
 have h1:(ztx n).length≤3000000:=hn
 have h2:(ztx d).length≤3000000:=hd
 have h3:=W1 n d
 have:=EC (qtx n d) (QL n d) (by omega)
 rw[Ic] at this
 exact this
theorem ac8 (run:ar)(n d:Int)(hn:Zm n)(hd:Zm d):aA LT9 run 65 [qs n d] (.tup [zs n,zs d,.sc (.bool (!decide (d=1)))]):=fun dr hp =>
 bu lG abN run dr hp _ [zs n,zs d,.sc (.bool (!decide (d=1)))] rfl rfl (Om n d hn hd)
theorem Ay (run:ar)(n:Int)(hn:Zm n):aA LT9 run 120 [zs n] (zs (-n)):=fun dr hp =>
 bu Bz XB run dr hp _ [zs (-n)] rfl rfl (by simp only[mR,cT n hn])
theorem Nx (a b:List Nat)(h:a.length+b.length<100000000):fl .add (tx a) (tx b)=some (.string (tx (a++b))):=by
 simp only[fl,dJ]
 rw[if_neg (by omega)]
 simp[tx,ff]
theorem Fs (L:Lst)(run:ar)(k:Nat)(n d m:Int)(hm9:(ztx m).length≤4000000)(hd9:(ztx d).length≤4000000)(g1:aA L run 65 [qs n d] (.tup [zs n,zs d,.sc (.bool (!decide (d=1)))]))(g2:aA L run 120 [zs n] (zs m)) :
  ∃ st,af (CC L) run k (Tryz.f122.body.getD .skip) ⟨entry 21 [qs n d],[],[]⟩=some (.ret,st)∧aZ TT st.fr st.hp Tryz.f122.results.toList=some [qs m d]:=by
 obtain⟨e1,e2⟩:=cW 20 (qs n d)
 generalize entry 21 [qs n d]=fr0 at *
 unfold aA at *
 have h47:({ data:=#[47] } : ByteArray)=tx [47]:=rfl
 have b1:=Nx (ztx m) [47] (by simp;omega)
 have b2:=Nx (ztx m++[47]) (ztx d) (by simp;omega)
 by_cases h:d=1
 ·subst h
  have hq:qtx m 1=ztx m:=rfl
  simp only[decide_true,Bool.not_true,qs,zs,hq] at *
  simp[Tryz.f122,e1,e2,af,aJ,ao,aq,aH,ag,ai,aQ,aj,an,aF,aC,FP.none,aw,unP,aa,ae,ab,g1,g2,aZ]
 ·have hq:qtx m d=(ztx m++[47])++ztx d:=by rw[qtx,if_neg h];simp
  rw[decide_eq_false h] at g1
  simp only[Bool.not_false,qs,zs,hq] at *
  simp[-List.append_assoc,Tryz.f122,e1,e2,af,aJ,ao,aq,aH,ag,ai,aQ,aj,an,aF,aC,FP.none,bd,aw,unP,aa,ae,ab,g1,g2,h47,b1,b2,aZ]
noncomputable def kb:Code:=Tryz.f67.body.getD .skip
theorem PA (L:Lst)(run:ar)(k:Nat)(a b:ByteArray)(c:Int)(hc : ¬ c<0)(g:aA L run 69 [.sc (.string b),.sc (.string { data:=#[48] })] (Ab.bJ c)) :
  ∃ fr,aY (CC L) run k 2 kb ⟨entry 37 [.sc (.string a),.sc (.string b)],[],[]⟩=some ⟨fr,[],[]⟩∧fr.length=37∧nth fr 0 = .sc (.string a)∧nth fr 1 = .sc (.string b):=by
 obtain⟨e1,e2,e3⟩:=cC 35 (.sc (.string a)) (.sc (.string b))
 generalize entry 37 [.sc (.string a),.sc (.string b)]=fr0 at *
 unfold aA at *
 simp only[Ab.bJ] at *
 simp[kb,Tryz.f67,aY,e1,e2,e3,af,aJ,ao,aq,aH,ag,ai,aQ,aj,an,aF,aC,FP.none,bd,au,bj,aw,aa,ae,ab,g,hc]
theorem PC (L:Lst)(run:ar)(k:Nat)(a b a' b':ByteArray)(c:Int)(hc:c<0)(g:aA L run 69 [.sc (.string b),.sc (.string { data:=#[48] })] (Ab.bJ c))(g1:aA L run 120 [.sc (.string a)] (.sc (.string a')))(g2:aA L run 120 [.sc (.string b)] (.sc (.string b'))) :
  ∃ fr,aY (CC L) run k 2 kb ⟨entry 37 [.sc (.string a),.sc (.string b)],[],[]⟩=some ⟨fr,[],[]⟩∧fr.length=37∧nth fr 0 = .sc (.string a')∧nth fr 1 = .sc (.string b'):=by
 obtain⟨e1,e2,e3⟩:=cC 35 (.sc (.string a)) (.sc (.string b))
 generalize entry 37 [.sc (.string a),.sc (.string b)]=fr0 at *
 unfold aA at *
 simp only[Ab.bJ] at *
 simp[kb,Tryz.f67,aY,e1,e2,e3,af,aJ,ao,aq,aH,ag,ai,aQ,aj,an,aF,aC,FP.none,bd,au,bj,aw,aa,ae,ab,g,hc,g1,g2]
theorem PB (L:Lst)(run:ar)(k:Nat)(fr:List PV)(a b g:ByteArray)(hv:fl .neq g { data:=#[49] } = some (.bool false))(g1:aA L run 112 [.sc (.string a),.sc (.string b)] (.sc (.string g)))(h37:fr.length=37)(h0:nth fr 0 = .sc (.string a))(h1:nth fr 1 = .sc (.string b)) :
  ∃ fr',aY (CC L) run k 2 (ah 2 kb) ⟨fr,[],[]⟩=some ⟨fr',[],[]⟩∧fr'.length=37∧nth fr' 0 = .sc (.string a)∧nth fr' 1 = .sc (.string b):=by
 unfold aA at *
 simp[kb,Tryz.f67,ah,aY,h37,h0,h1,af,aJ,ao,aq,aH,ag,ai,aQ,aj,an,aF,aC,FP.none,bd,aw,aa,ae,ab,g1,hv]
theorem KZ (L:Lst)(run:ar)(k:Nat)(fr:List PV)(a b g a' b' x y:ByteArray)(hv:fl .neq g { data:=#[49] } = some (.bool true))(g1:aA L run 112 [.sc (.string a),.sc (.string b)] (.sc (.string g)))(g2:aA L run 121 [.sc (.string a),.sc (.string g)] (.tup [.sc (.string a'),.sc (.string x)]))(g3:aA L run 121 [.sc (.string b),.sc (.string g)] (.tup [.sc (.string b'),.sc (.string y)]))
  (h37:fr.length=37) (h0:nth fr 0 = .sc (.string a)) (h1:nth fr 1 = .sc (.string b)) :
  ∃ fr',aY (CC L) run k 2 (ah 2 kb) ⟨fr,[],[]⟩=some ⟨fr',[],[]⟩∧fr'.length=37∧nth fr' 0 = .sc (.string a')∧nth fr' 1 = .sc (.string b'):=by
 unfold aA at *
 simp[kb,Tryz.f67,ah,aY,h37,h0,h1,af,aJ,ao,aq,aH,ag,ai,aQ,aj,an,aF,aC,FP.none,bd,aw,aa,ae,ab,g1,g2,g3,hv]
theorem xP (z:Int):decide (bK (tx (ztx z))=bK (tx [49]))=decide (z=1):=by
 have:(bK (tx (ztx z))=bK (tx [49])) ↔ z=1:=by
  constructor
  ·intro h
   have h1:tx (ztx z)=tx [49]:=by rw[← fx (tx (ztx z)),h,fx]
   have h2:=(Bg (kr z) (Bok.nil.cons (by omega))).1 h1
   have h3:=cT z (by rw[h2];decide)
   have h4:=cT 1 (by decide)
   have:zs z=zs 1:=by unfold zs;rw[h2];rfl
   rw[this,h4] at h3
   exact (Option.some.inj h3).symm
  ·intro h;subst h;rfl
 simp only[this]
theorem YB (z:Int):fl .neq (tx (ztx z)) { data:=#[49] } = some (.bool (!decide (z=1))):=by
 have e:({ data:=#[49] } : ByteArray)=tx [49]:=rfl
 rw[e]
 simp only[fl,tX,xP]
theorem ob (z:Int):fl .eql (tx (ztx z)) { data:=#[49] } = some (.bool (decide (z=1))):=by
 have e:({ data:=#[49] } : ByteArray)=tx [49]:=rfl
 rw[e]
 simp only[fl,tX,xP]
theorem yf (L:Lst)(run:ar)(k:Nat)(fr:List PV)(n d:Int)(hn9:(ztx n).length≤4000000)(hd9:(ztx d).length≤4000000)(h37:fr.length=37)(h0:nth fr 0=zs n)(h1:nth fr 1=zs d) :
  ∃ st,af (CC L) run k (ah 4 kb) ⟨fr,[],[]⟩=some (.ret,st)∧aZ TT st.fr st.hp Tryz.f67.results.toList=some [qs n d]:=by
 have h47:({ data:=#[47] } : ByteArray)=tx [47]:=rfl
 have b1:=Nx (ztx n) [47] (by simp;omega)
 have b2:=Nx (ztx n++[47]) (ztx d) (by simp;omega)
 have hv:=ob d
 by_cases h:d=1
 ·subst h
  have hq:qtx n 1=ztx n:=rfl
  simp only[decide_true,qs,zs,hq] at *
  simp[kb,Tryz.f67,ah,h37,h0,h1,af,aJ,ao,aq,aH,ag,ai,aj,an,aF,aC,FP.none,bd,aw,aa,ae,ab,hv,aZ]
 ·have hq:qtx n d=(ztx n++[47])++ztx d:=by rw[qtx,if_neg h];simp
  rw[decide_eq_false h] at hv
  simp only[qs,zs,hq] at *
  simp[-List.append_assoc,kb,Tryz.f67,ah,h37,h0,h1,af,aJ,ao,aq,aH,ag,ai,aj,an,aF,aC,FP.none,bd,aw,aa,ae,ab,hv,h47,b1,b2,aZ]
end Go.Proofs.YtjdmodeenbdfpaaGreat
