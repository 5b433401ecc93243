/- Contracts of numbers kept as digits in text, part 35 of the proof; each lemma states its own conditions. -/
import Derived.Test.YtjdmodeenbdfpaaGreatP34
set_option linter.unusedSimpArgs false
set_option linter.unusedVariables false
namespace Go.Proofs.YtjdmodeenbdfpaaGreat
open Go Go.Ab
theorem Jh (run:aq)(z:Int)(h:Zm z):av LT6 run 115 [zs z] (.tup [.sc (.bool (bq z)),br (T.aA z.natAbs)]):=fun dr hp =>
 bp rN Xa run dr hp _ [.sc (.bool (bq z)),br (T.aA z.natAbs)] rfl rfl (Tt z h)
theorem zc (run:aq)(z:Int)(h:Zm z):av LT6 run 113 [zs z] (.tup (bif (dQ z).ble 9 then [Ab.bC z,.sc (.bool true)] else [Ab.bC 0,.sc (.bool false)])):=fun dr hp=>by
 have:=bp uu Mj run dr hp [zs z] _ rfl rfl (OX z h)
 rw[this]
 cases (dQ z).ble 9 <;> rfl
theorem tE (run:aq)(z:Int)(h1 : -9223372036854775808≤z)(h2:z≤9223372036854775807):av LT6 run 114 [.sc (.int .i64 z)] (zs z):=fun dr hp =>
 bp rO W8 run dr hp _ [zs z] rfl rfl (by simp only[ss,decide_eq_true h1,decide_eq_true h2,Bool.and_self,cond_true])
set_option maxHeartbeats 1000000 in
theorem QA (L:Lst)(run:aq)(k:Nat)(s t:ByteArray)(u v:Int)(f1 f2:Bool)(hf:(f1 && f2)=false)(g1:av L run 113 [.sc (.string s)] (.tup [Ab.bC u,.sc (.bool f1)]))(g2:av L run 113 [.sc (.string t)] (.tup [Ab.bC v,.sc (.bool f2)])) :
  ∃ fr,aY (CC L) run k 4 dt ⟨entry 164 [.sc (.string s),.sc (.string t)],[],[]⟩=some ⟨fr,[],[]⟩∧fr.length=164∧nth fr 0 = .sc (.string s)∧nth fr 1 = .sc (.string t):=by
 obtain⟨e1,e2,e3⟩:=cA 162 (.sc (.string s)) (.sc (.string t))
 generalize entry 164 [.sc (.string s),.sc (.string t)]=fr0 at *
 unfold av at *
 simp only[Ab.bC] at *
 cases f1 <;> cases f2 <;> simp only[Bool.and_true,Bool.and_false,Bool.and_self,Bool.true_eq_false] at hf <;> simp[dt,Tryz.f121,aY,e1,e2,e3,af,aH,an,ao,aG,ag,ai,aP,aj,ak,aC,az,FP.none,au,aa,ae,ab,g1,g2,undef]
theorem QB (L:Lst)(run:aq)(k:Nat)(fr:List PV)(s t:ByteArray)(m n:Bool)(a b:List Nat)(g1:av L run 115 [.sc (.string s)] (.tup [.sc (.bool m),br a]))(g2:av L run 115 [.sc (.string t)] (.tup [.sc (.bool n),br b]))
  (h0':fr.length=164) (h0:nth fr 0 = .sc (.string s)) (h1:nth fr 1 = .sc (.string t)) :
  ∃ fr',aY (CC L) run k 2 (ah 4 dt) ⟨fr,[],[]⟩=some ⟨fr',[],[]⟩∧fr'.length=164∧nth fr' 1 = .sc (.string t)∧nth fr' 12 = .sc (.bool m)∧nth fr' 13=br a∧nth fr' 14 = .sc (.bool n)∧nth fr' 15=br b:=by
 unfold av at *
 simp[dt,Tryz.f121,ah,aY,h0',h0,h1,af,aH,an,ao,aG,ag,ai,aP,aj,ak,aC,az,FP.none,aa,ae,ab,g1,g2]
set_option maxHeartbeats 1000000 in
theorem F0 (L:Lst)(run:aq)(k:Nat)(fr:List PV)(b:PV)(m n:Bool)(x y:List Nat)(t st:Nat)(hx9:x.length<7000000)(hy9:y.length<7000000)(ht:y.length=t+1)(hst:st=x.length - t)
  (h0':fr.length=164) (h1:nth fr 1=b) (h12:nth fr 12 = .sc (.bool m)) (h13:nth fr 13=br x) (h14:nth fr 14 = .sc (.bool n)) (h15:nth fr 15=br y) :
  ∃ fr',aY (CC L) run k 2 (ah 6 dt) ⟨fr,[],[]⟩=some ⟨fr',[],[]⟩∧fr'.length=164∧nth fr' 1=b∧nth fr' 12 = .sc (.bool m)∧nth fr' 13=br x∧nth fr' 14 = .sc (.bool n)∧nth fr' 15=br y∧nth fr' 16=iv st∧nth fr' 17 = .sc (.slice none 0 0):=by
 have hw1:bu .i64 ((y.length:Int) - 1)=(t:Int):=by rw[cG y.length (by omega)];omega
 have hmx:(if (0:Int)<(t:Int) then (t:Int) else 0)=(t:Int):=by split <;> omega
 have hmx1:kc true [.sc (.int .i64 0),.sc (.int .i64 (t:Int))]=some (.sc (.int .i64 (t:Int))):=by
  simp[kc]
  omega
 have hw2:bu .i64 ((x.length:Int) - (t:Int))=(x.length:Int) - (t:Int):=fk _ (by omega) (by omega)
 have hmx2:(if (0:Int)<(x.length:Int) - (t:Int) then (x.length:Int) - (t:Int) else 0)=(st:Int):=by split <;> omega
 have hmx3:kc true [.sc (.int .i64 0),.sc (.int .i64 ((x.length:Int) - (t:Int)))]=some (.sc (.int .i64 (st:Int))):=by
  simp[kc]
  split <;> omega
 simp only[iv]
 simp[dt,Tryz.f121,ah,aY,h0',h1,h12,h13,h14,h15,af,aH,an,ao,aG,ag,ai,aj,ak,aC,az,FP.none,bc,ar,bd,au,bH,aa,ae,ab,bf,dE,uL,hw1,hmx1,hw2,hmx3]
theorem ZY:fZ TT 24 0 []=some (1,[]):=by
 simp[fZ,uL,sI,zI,rep,dF]
theorem slT (x:List Nat)(st:Nat)(hp:List Blk)(h:st≤x.length):dA TT hp 24 (br x) (some (.sc (.int .i64 (st:Int)))) none none=some (.imm (x.length - st) false ((x.drop st).map iv)):=by
 have e:br x = .imm x.length false (x.map iv):=rfl
 rw[e]
 simp only[dA,uL,iz,sI,bnd,fF,bj]
 simp[gl,h]
 rw[cK,← List.map_drop,dL (by simp)]
 rw[List.take_of_length_le (by simp)]
set_option maxHeartbeats 1000000 in
theorem P9 (run:aq)(k:Nat)(fr:List PV)(b:PV)(m n:Bool)(x y:List Nat)(st:Nat)(hx:T.Dok x)(hx9:x.length<7000000)(hst:st≤x.length)
  (h0':fr.length=164) (h1:nth fr 1=b) (h12:nth fr 12 = .sc (.bool m)) (h13:nth fr 13=br x) (h14:nth fr 14 = .sc (.bool n)) (h15:nth fr 15=br y) (h16:nth fr 16=iv st) (h17:nth fr 17 = .sc (.slice none 0 0)) :
  ∃ fr' hp' wr',aY (CC LT6) run k 1 (ah 8 dt) ⟨fr,[],[]⟩=some ⟨fr',hp',wr'⟩∧fr'.length=164∧nth fr' 1=b∧nth fr' 12 = .sc (.bool m)∧nth fr' 13=br x∧nth fr' 14 = .sc (.bool n)∧nth fr' 15=br y∧nth fr' 16=iv st∧nth fr' 17 = .sc (.slice none 0 0)∧nth fr' 18=br (T.aA (T.val (x.drop st))):=by
 have hdk:=hx.drop st
 obtain⟨p',hp1,fp,hp2,fp',g1,g2,g3⟩:=Eo run false [] [] (x.drop st) T.Dok.nil hdk (by simp;omega)
 have hl:(x.drop st).length=x.length - st:=List.length_drop
 rw[List.nil_append] at g2
 have g1':cO [] 1 (.imm 0 true []) (x.length - st) ((x.drop st).map iv)=some (p',hp1,fp):=by rw[← hl];exact g1
 have hsl:=slT x st [] hst
 have hrd:fe [] 1 (.imm (x.length - st) false ((x.drop st).map iv))=some (x.length - st,(x.drop st).map iv,[]):=by simp[fe]
 have hok:=il.Mg (x.drop st)
 have hlit:=ZY
 generalize (x.drop st).map iv=cs at *
 generalize T.val (x.drop st)=V at *
 simp only[iv] at h16 ⊢
 simp[dt,Tryz.f121,ah,aY,h0',h1,h12,h13,h14,h15,h16,h17,af,aH,an,ao,aG,ag,ai,aP,aj,ak,aC,az,FP.none,au,aa,ae,ab,bf,and_assoc,uL,sI,bI,zI,bS,hlit,hsl,hrd,hok,bK,g1',g2]
noncomputable def AA:Code:=seq1 (seq1 (ah 9 dt))
noncomputable def Az:Code:=seq1 (seq1 (ah 10 dt))
theorem P5:ah 9 dt = .seq (.seq AA (.block 0 (.loop ig))) (ah 10 dt):=rfl
theorem Ly:ah 10 dt = .seq (.seq Az (.block 4 (.loop pn))) (ah 11 dt):=rfl
theorem P8 (L:Lst)(run:aq)(k:Nat)(fr:List PV)(hp:List Blk)(wr:List Nat)(b:PV)(m n:Bool)(x y r:List Nat)(st:Nat)(hst:st<20000000)
  (h0':fr.length=164) (h1:nth fr 1=b) (h12:nth fr 12 = .sc (.bool m)) (h13:nth fr 13=br x) (h14:nth fr 14 = .sc (.bool n)) (h15:nth fr 15=br y) (h16:nth fr 16=iv st) (h17:nth fr 17 = .sc (.slice none 0 0)) (h18:nth fr 18=br r) :
  ∃ fr',af (CC L) run k AA ⟨fr,hp,wr⟩=some (.normal,⟨fr',hp,wr⟩)∧QF fr' b m n x y (.sc (.slice none 0 0)) (.sc (.int .i64 ((st:Int) - 1)))∧nth fr' 18=br r:=by
 have hw:=cG st (by omega)
 simp only[iv] at h16
 simp[QF,AA,dt,Tryz.f121,ah,seq1,h0',h1,h12,h13,h14,h15,h16,h17,h18,af,aH,an,ao,aG,ag,ai,aj,ak,aC,az,FP.none,bc,ar,bd,au,aa,ae,ab,and_assoc,hw]
theorem P7 (L:Lst)(run:aq)(k:Nat)(fr:List PV)(hp:List Blk)(wr:List Nat)(b:PV)(m n:Bool)(x y r:List Nat)(q i:PV)(h:QF fr b m n x y q i)(h18:nth fr 18=br r) :
  ∃ fr',af (CC L) run k Az ⟨fr,hp,wr⟩=some (.normal,⟨fr',hp,wr⟩)∧SF fr' b m n r q∧nth fr' 21=iv 0:=by
 obtain⟨h0,h1,h12,h13,h14,h15,h17,h19⟩:=h
 simp[SF,Az,dt,Tryz.f121,ah,seq1,h0,h1,h12,h14,h17,h18,af,aH,an,ao,aG,ag,ai,aj,ak,aC,az,FP.none,au,aa,ae,ab,and_assoc,iv]
theorem SM (run:aq)(m:Bool)(l:List Nat)(h1:T.Dok l)(h2:l.length<10000000):av LT6 run 116 [.sc (.bool m),br l] (zs (gq m (T.val l))):=fun dr hp =>
 bp ju CZ run dr hp _ [zs (gq m (T.val l))] rfl (DZ m l) (zU m l h1 h2)
theorem P6 (run:aq)(k:Nat)(fr:List PV)(hp hp':List Blk)(wr:List Nat)(b:PV)(p s:Bool)(r:List Nat)(q:PV)(sq sr:ByteArray)(fp:FP)(h:SF fr b p s r q)
  (hc1:bU (CC LT6) run false hp 116 [.sc (.bool (p != s)),q]=some (.sc (.string sq),hp',fp)) (hc2:av LT6 run 116 [.sc (.bool p),br r] (.sc (.string sr))) :
  ∃ fr' wr',aY (CC LT6) run k 1 (ah 11 dt) ⟨fr,hp,wr⟩=some ⟨fr',hp',wr'⟩∧fr'.length=164∧nth fr' 1=b∧nth fr' 12 = .sc (.bool p)∧nth fr' 14 = .sc (.bool s)∧nth fr' 22 = .sc (.string sq)∧nth fr' 23 = .sc (.string sr):=by
 obtain⟨h0,h1,h12,h14,h18,h17⟩:=h
 unfold av at hc2
 cases p <;> cases s <;> simp only[bne_self_eq_false,Bool.bne_true,Bool.bne_false,Bool.not_false] at hc1 <;> simp[dt,Tryz.f121,ah,aY,h0,h1,h12,h14,h18,h17,af,aH,an,ao,aG,ag,ai,aP,aj,ak,aC,az,FP.none,bc,dz,aa,ae,ab,bf,and_assoc,uB,hc1,hc2]
set_option maxHeartbeats 1000000 in
theorem vd (L:Lst)(run:aq)(k:Nat)(fr:List PV)(hp:List Blk)(wr:List Nat)(b:PV)(p s v:Bool)(sq sr:ByteArray)(hv:eY .neq sr { data:=#[48] } = some (.bool v))(hno:(v && (p != s))=false)
  (h0:fr.length=164) (h1:nth fr 1=b) (h12:nth fr 12 = .sc (.bool p)) (h14:nth fr 14 = .sc (.bool s)) (h22:nth fr 22 = .sc (.string sq)) (h23:nth fr 23 = .sc (.string sr)) :
  ∃ st,af (CC L) run k (ah 12 dt) ⟨fr,hp,wr⟩=some (.ret,st)∧aZ TT st.fr st.hp Tryz.f121.results.toList=some [.sc (.string sq),.sc (.string sr)]:=by
 cases v <;> cases p <;> cases s <;> simp only[bne_self_eq_false,Bool.bne_true,Bool.bne_false,Bool.not_false,Bool.and_true,Bool.and_false,Bool.and_self,Bool.true_eq_false] at hno <;> simp[dt,Tryz.f121,ah,h0,h12,h14,h22,h23,af,aH,an,ao,aG,ag,ai,aj,ak,aC,az,FP.none,bc,dz,au,aa,ae,ab,bf,uB,hv,undef,aZ]
set_option maxHeartbeats 1000000 in
theorem QC (L:Lst)(run:aq)(k:Nat)(fr:List PV)(hp:List Blk)(wr:List Nat)(b sq sr q2 r2:ByteArray)(hv:eY .neq sr { data:=#[48] } = some (.bool true))(g1:av L run 157 [.sc (.string sq),.sc (.string { data:=#[49] })] (.sc (.string q2)))(g2:av L run 66 [.sc (.string sr),.sc (.string b)] (.sc (.string r2)))
  (h0:fr.length=164) (h1:nth fr 1 = .sc (.string b)) (h12:nth fr 12 = .sc (.bool true)) (h14:nth fr 14 = .sc (.bool false)) (h22:nth fr 22 = .sc (.string sq)) (h23:nth fr 23 = .sc (.string sr)) :
  ∃ st,af (CC L) run k (ah 12 dt) ⟨fr,hp,wr⟩=some (.ret,st)∧aZ TT st.fr st.hp Tryz.f121.results.toList=some [.sc (.string q2),.sc (.string r2)]:=by
 unfold av at *
 simp[dt,Tryz.f121,ah,h0,h1,h12,h14,h22,h23,af,aH,an,ao,aG,ag,ai,aP,aj,ak,aC,az,FP.none,bc,dz,au,aa,ae,ab,bf,uB,hv,g1,g2,aZ]
theorem tH:∀ (a b:List UInt8),eqL a b=decide (a=b)
 | [],[]=>rfl
 | [],_::_=>by simp[eqL]
 | _::_,[]=>by simp[eqL]
 | a::l,b::m=>by
  have:=tH l m
  simp only[eqL,this]
  have hn:(a.toNat == b.toNat)=decide (a=b):=by
   by_cases h:a=b
   ·subst h;simp
   ·rw[decide_eq_false h,beq_eq_false_iff_ne];exact fun e=>h (UInt8.toNat_inj.1 e)
  rw[hn]
  by_cases h:a=b <;> by_cases h2:l=m <;> simp[h,h2]
theorem Z9 (z:Int):ztx z=[48] ↔ z=0:=by
 constructor
 ·intro h
  have h1:=cJ z (by rw[h];decide)
  have h2:=cJ 0 (by decide)
  have:zs z=zs 0:=by unfold zs;rw[h];rfl
  rw[this,h2] at h1
  exact (Option.some.inj h1).symm
 ·intro h;subst h;rfl
theorem Bx {a b:List Nat}(ha:Bok a)(hb:Bok b):tx a=tx b ↔ a=b:=by
 constructor
 ·intro h
  rw[← ja ha,h,ja hb]
 ·intro h;rw[h]
theorem pz (z:Int):eY .neq (tx (ztx z)) { data:=#[48] } = some (.bool (!decide (z=0))):=by
 have e:({ data:=#[48] } : ByteArray)=tx [48]:=rfl
 have h1:decide (bD (tx (ztx z))=bD (tx [48]))=decide (z=0):=by
  have:(bD (tx (ztx z))=bD (tx [48])) ↔ z=0:=by
   rw[← Z9 z]
   constructor
   ·intro h
    have:tx (ztx z)=tx [48]:=by rw[← fo (tx (ztx z)),h,fo]
    exact (Bx (j5 z) (Bok.nil.cons (by omega))).1 this
   ·intro h;rw[h]
  simp only[this]
 rw[e]
 simp only[eY,tH,h1]
set_option maxHeartbeats 2000000 in
theorem WG (L:Lst)(run:aq)(k:Nat)(s t sq sr:ByteArray)(u v q r:Int)(g1:av L run 113 [.sc (.string s)] (.tup [Ab.bC u,.sc (.bool true)]))(g2:av L run 113 [.sc (.string t)] (.tup [Ab.bC v,.sc (.bool true)]))
  (hv0 : ¬ v=0) (hv : ¬ v<0) (hq:bu .i64 (u.tdiv v)=q) (hr:u.tmod v=r) (hr0 : ¬ r<0) (g3:av L run 114 [.sc (.int .i64 q)] (.sc (.string sq))) (g4:av L run 114 [.sc (.int .i64 r)] (.sc (.string sr))) :
  ∃ st,af (CC L) run k dt ⟨entry 164 [.sc (.string s),.sc (.string t)],[],[]⟩=some (.ret,st)∧aZ TT st.fr st.hp Tryz.f121.results.toList=some [.sc (.string sq),.sc (.string sr)]:=by
 obtain⟨e1,e2,e3⟩:=cA 162 (.sc (.string s)) (.sc (.string t))
 generalize entry 164 [.sc (.string s),.sc (.string t)]=fr0 at *
 unfold av at *
 simp only[Ab.bC] at *
 by_cases h0:r=0
 ·subst h0
  simp[dt,Tryz.f121,e1,e2,e3,af,aH,an,ao,aG,ag,ai,aP,aj,ak,aC,az,FP.none,bc,ar,bd,au,aa,ae,ab,g1,g2,hv0,hq,hr,g3,g4,undef,number,FP.free,aZ]
 ·have h1:(r != 0)=true:=by simpa using h0
  simp[dt,Tryz.f121,e1,e2,e3,af,aH,an,ao,aG,ag,ai,aP,aj,ak,aC,az,FP.none,bc,ar,bd,dz,au,aa,ae,ab,bf,uB,g1,g2,hv0,hv,hq,hr,hr0,h1,g3,g4,number,FP.free,aZ]
set_option maxHeartbeats 2000000 in
theorem WE (L:Lst)(run:aq)(k:Nat)(s t sq sr:ByteArray)(u v q0 r0 q r:Int)(g1:av L run 113 [.sc (.string s)] (.tup [Ab.bC u,.sc (.bool true)]))(g2:av L run 113 [.sc (.string t)] (.tup [Ab.bC v,.sc (.bool true)]))
  (hv0 : ¬ v=0) (hv : ¬ v<0) (hq:bu .i64 (u.tdiv v)=q0) (hr:u.tmod v=r0) (hr0:r0<0) (hq1:bu .i64 (q0 - 1)=q) (hr1:bu .i64 (r0+v)=r) (g3:av L run 114 [.sc (.int .i64 q)] (.sc (.string sq))) (g4:av L run 114 [.sc (.int .i64 r)] (.sc (.string sr))) :
  ∃ st,af (CC L) run k dt ⟨entry 164 [.sc (.string s),.sc (.string t)],[],[]⟩=some (.ret,st)∧aZ TT st.fr st.hp Tryz.f121.results.toList=some [.sc (.string sq),.sc (.string sr)]:=by
 obtain⟨e1,e2,e3⟩:=cA 162 (.sc (.string s)) (.sc (.string t))
 generalize entry 164 [.sc (.string s),.sc (.string t)]=fr0 at *
 unfold av at *
 simp only[Ab.bC] at *
 have h0 : ¬ r0=0:=by omega
 have h1:(r0 != 0)=true:=by simpa using h0
 simp[dt,Tryz.f121,e1,e2,e3,af,aH,an,ao,aG,ag,ai,aP,aj,ak,aC,az,FP.none,bc,ar,bd,dz,au,aa,ae,ab,bf,uB,g1,g2,hv0,hv,hq,hr,hr0,h1,hq1,hr1,g3,g4,number,FP.free,aZ]
def sj:List PV→Option (List PV)
 | [p,q]=>match fB p,fB q with
  | some x,some y=>bif decide (0<y) then some [zs (x / y),zs (x % y)] else none
  | _,_=>none
 | _=>none
theorem qJ (K:Nat)(x y:Int)(hx:Zm x)(hy:Zm y)(hy0:0<y)(hK:(T.aA x.natAbs).length+20≤K)(u v:Int)(f1 f2:Bool)(hf:(f1 && f2)=false)(q1:av LT6 (runK (CC LT6) K) 113 [zs x] (.tup [Ab.bC u,.sc (.bool f1)]))(q2:av LT6 (runK (CC LT6) K) 113 [zs y] (.tup [Ab.bC v,.sc (.bool f2)])) :
  ∃ st,af (CC LT6) (runK (CC LT6) K) K dt ⟨entry 164 [zs x,zs y],[],[]⟩=some (.ret,st)∧aZ TT st.fr st.hp Tryz.f121.results.toList=some [zs (x / y),zs (x % y)]:=by
 have hx3:=Zm.Jy hx
 have hy3:=Zm.Jy hy
 have hY:0<y.natAbs:=by omega
 have hny:bq y=false:=by rw[cF];simp;omega
 obtain⟨a1,b1,b2,b3,b4⟩:=QA LT6 (runK (CC LT6) K) K _ _ u v f1 f2 hf q1 q2
 obtain⟨a2,c1,c2,c3,c4,c5,c6,c7⟩:=QB LT6 (runK (CC LT6) K) K a1 _ _ _ _ _ _ (Jh _ x hx) (Jh _ y hy) b2 b3 b4
 have hyl:=T.cN.2 (show y.natAbs≠0 by omega)
 obtain⟨t,ht⟩:∃ t,(T.aA y.natAbs).length=t+1:=⟨(T.aA y.natAbs).length - 1,by omega⟩
 obtain⟨st,hst⟩:∃ st,st=(T.aA x.natAbs).length - t:=⟨_,rfl⟩
 obtain⟨a3,d1,d2,d3,d4,d5,d6,d7,d8,d9⟩:=F0 LT6 (runK (CC LT6) K) K a2 _ _ _ _ _ t st (by omega) (by omega) ht hst c2 c3 c4 c5 c6 c7
 obtain⟨a4,hp4,wr4,e1,e2,e3,e4,e5,e6,e7,e8,e9,e10⟩:=P9 (runK (CC LT6) K) K a3 _ _ _ _ _ st (T.bM x.natAbs) (by omega) (by omega) d2 d3 d4 d5 d6 d7 d8 d9
 obtain⟨a5,g1,g2,g3⟩:=P8 LT6 (runK (CC LT6) K) K a4 hp4 wr4 _ _ _ _ _ _ st (by omega) e2 e3 e4 e5 e6 e7 e8 e9 e10
 have hR0:T.val ((T.aA x.natAbs).drop st)<y.natAbs:=by
  have h1:=T.eG ((T.bM x.natAbs).drop st)
  rw[List.length_drop] at h1
  have h2:10 ^ t≤y.natAbs:=by
   rcases Nat.lt_or_ge y.natAbs (10 ^ t) with h | h
   ·have:=T.cY h;omega
   ·exact h
  have h3:10 ^ ((T.aA x.natAbs).length - st)≤10 ^ t:=Nat.pow_le_pow_right (by omega) (by omega)
  omega
 obtain⟨a6,hp6,wr6,out,q6,k1,k2,k3,k4,k5,k6,k7⟩:=vf (runK (CC LT6) K) K _ _ _ (T.aA x.natAbs) y.natAbs (T.bM _) (by omega) hY (by omega) (by omega) st _ a5 hp4 wr4 [] _ (by omega) hR0 (by simp;omega) T.Dok.nil (by simp[T.val]) g2 g3 (dh.nil (Nat.zero_le _))
 rw[T.bN] at k3 k6
 obtain⟨a7,l1,l2,l3⟩:=P7 LT6 (runK (CC LT6) K) K a6 hp6 wr6 _ _ _ _ _ _ _ _ k2 k3
 obtain⟨a8,hp8,wr8,m1,m2,m3⟩:=Lz LT6 (runK (CC LT6) K) K _ _ _ _ out q6 (by omega) a7 hp6 wr6 k4 l2 l3
 have hor:T.Dok out.reverse:=wZ k5
 have htx:=zU (bq x != bq y) out.reverse hor (by rw[List.length_reverse];omega)
 rw[k6] at htx
 obtain⟨hp9,fp,n1,-⟩:=nI ju CZ (runK (CC LT6) K) false il (bq x != bq y) m3.s _ htx
 have hrl:(T.aA (x.natAbs % y.natAbs)).length<10000000:=Nat.lt_of_le_of_lt (T.cn (Nat.le_of_lt (Nat.mod_lt _ hY))) (by omega)
 have n2:=SM (runK (CC LT6) K) (bq x) (T.aA (x.natAbs % y.natAbs)) (T.bM _) hrl
 rw[T.bN] at n2
 obtain⟨a9,wr9,o1,o2,o3,o4,o5,o6,o7⟩:=P6 (runK (CC LT6) K) K a8 hp8 hp9 wr8 _ _ _ _ _ _ _ fp m2 n1 n2
 have hex:∀ {z},af (CC LT6) (runK (CC LT6) K) K (ah 12 dt) ⟨a9,hp9,wr9⟩=z→af (CC LT6) (runK (CC LT6) K) K dt ⟨entry 164 [zs x,zs y],[],[]⟩=z:=by
  intro z hz
  have h1:af (CC LT6) (runK (CC LT6) K) K dt ⟨entry 164 [zs x,zs y],[],[]⟩=af (CC LT6) (runK (CC LT6) K) K (ah 4 dt) ⟨a1,[],[]⟩:=aO 4 b1
  rw[h1,aO 2 c1,show ah 2 (ah 4 dt)=ah 6 dt from rfl,aO 2 d1,show ah 2 (ah 6 dt)=ah 8 dt from rfl,aO 1 e1,show ah 1 (ah 8 dt)=ah 9 dt from rfl,
   P5,aw ((aw g1).trans (bE (bQ k1 (by omega)))),Ly,aw ((aw l1).trans (bE (bQ m1 (by omega)))),aO 1 o1]
  exact hz
 rw[hny] at o5
 by_cases hxn:x<0
 ·have hnx:bq x=true:=by rw[cF];simpa using hxn
  rw[hnx] at o4
  have eq1:gq (bq x != bq y) (x.natAbs / y.natAbs) = -((x.natAbs / y.natAbs:Nat):Int):=by rw[hnx,hny,jM];rfl
  have er1:gq (bq x) (x.natAbs % y.natAbs) = -((x.natAbs % y.natAbs:Nat):Int):=by rw[hnx,jM];rfl
  rw[eq1] at o6
  rw[er1] at o7
  by_cases h0:x.natAbs % y.natAbs=0
  ·obtain⟨w1,w2⟩:=Yz hy0 hxn h0
   have hv:=pz (-((x.natAbs % y.natAbs:Nat):Int))
   obtain⟨st',x1,x2⟩:=vd LT6 (runK (CC LT6) K) K a9 hp9 wr9 _ true false _ _ _ hv (by rw[h0];rfl) o2 o3 o4 o5 o6 o7
   refine⟨st',hex x1,?_⟩
   rw[x2,w1,w2,h0];rfl
  ·obtain⟨w1,w2⟩:=ab1 hy0 hxn h0
   have hv:=pz (-((x.natAbs % y.natAbs:Nat):Int))
   rw[decide_eq_false (by omega)] at hv
   have zx:∀ z:Int,z≤0→z.natAbs≤x.natAbs→Zm z:=by
    intro z hz0 hz
    have h1:(ztx x).length≤fD:=hx
    unfold Zm
    rw[fT,hnx] at h1
    rw[fT]
    have h2:=mW hz
    cases bq z <;> simp at h1 ⊢ <;> omega
   have hq1:Zm (-((x.natAbs / y.natAbs:Nat):Int)):=zx _ (by omega) (by rw[Int.natAbs_neg,Int.natAbs_natCast];exact Nat.div_le_self _ _)
   have hr1:Zm (-((x.natAbs % y.natAbs:Nat):Int)):=zx _ (by omega) (by rw[Int.natAbs_neg,Int.natAbs_natCast];exact Nat.mod_le _ _)
   have p1:av LT6 (runK (CC LT6) K) 157 [zs (-((x.natAbs / y.natAbs:Nat):Int)),.sc (.string { data:=#[49] })] (zs (x / y)):=fun dr hp =>
    bp Fh W9 _ dr hp [zs (-((x.natAbs / y.natAbs:Nat):Int)),zs 1] [zs (x / y)] rfl rfl (by
     have h2:(dQ 1).blt fD=true:=by decide
     have h3:fB (zs 1)=some 1:=cJ 1 (by decide)
     simp only[vi,cJ _ hq1,h3,h2,cond_true,w1])
   have p2:av LT6 (runK (CC LT6) K) 66 [zs (-((x.natAbs % y.natAbs:Nat):Int)),zs y] (zs (x % y)):=fun dr hp =>
    bp qu Rz _ dr hp _ [zs (x % y)] rfl rfl (by simp only[gZ,cJ _ hr1,cJ _ hy,w2])
   obtain⟨st',x1,x2⟩:=QC LT6 (runK (CC LT6) K) K a9 hp9 wr9 _ _ _ _ _ hv p1 p2 o2 o3 o4 o5 o6 o7
   exact⟨st',hex x1,x2⟩
 ·have hnx:bq x=false:=by rw[cF];simpa using hxn
  obtain⟨w1,w2⟩:=ab0 hy0 (show 0≤x by omega)
  have eq1:gq (bq x != bq y) (x.natAbs / y.natAbs)=((x.natAbs / y.natAbs:Nat):Int):=by rw[hnx,hny,jM];rfl
  have er1:gq (bq x) (x.natAbs % y.natAbs)=((x.natAbs % y.natAbs:Nat):Int):=by rw[hnx,jM];rfl
  rw[eq1] at o6
  rw[er1] at o7
  rw[hnx] at o4
  have hv:=pz ((x.natAbs % y.natAbs:Nat):Int)
  obtain⟨st',x1,x2⟩:=vd LT6 (runK (CC LT6) K) K a9 hp9 wr9 _ false false _ _ _ hv (by simp) o2 o3 o4 o5 o6 o7
  refine⟨st',hex x1,?_⟩
  rw[x2,w1,w2];rfl
theorem yv:Ab.Spec base.P 121 sj:=Ab.Spec.bL (C:=CC LT6) (cU acZ) fun args rs h=>by
 unfold sj at h
 split at h
 ·split at h
  ·rename_i x y ex ey
   obtain⟨rfl,hx⟩:=cZ ex
   obtain⟨rfl,hy⟩:=cZ ey
   by_cases hy0:0<y
   ·rw[decide_eq_true hy0] at h
    simp only[cond_true,Option.some.injEq] at h
    subst h
    generalize hK:(T.aA x.natAbs).length+20=K
    have gs1:=zc (runK (CC LT6) K) x hx
    have gs2:=zc (runK (CC LT6) K) y hy
    suffices hgo:∃ st,af (CC LT6) (runK (CC LT6) K) K dt ⟨entry 164 [zs x,zs y],[],[]⟩=some (.ret,st)∧aZ TT st.fr st.hp Tryz.f121.results.toList=some [zs (x / y),zs (x % y)] by
     obtain⟨st,x1,x2⟩:=hgo
     exact⟨K+1,_,_,_,_,_,aQ HN rfl x1 x2,rfl,Wk.refl rfl,Wk.refl rfl,trivial⟩
    cases h1:(dQ x).ble 9 with
    | false =>
     rw[h1] at gs1
     cases h2:(dQ y).ble 9 with
     | false=>rw[h2] at gs2;exact qJ K x y hx hy hy0 (by omega) _ _ false false rfl gs1 gs2
     | true=>rw[h2] at gs2;exact qJ K x y hx hy hy0 (by omega) _ _ false true rfl gs1 gs2
    | true =>
     rw[h1] at gs1
     cases h2:(dQ y).ble 9 with
     | false=>rw[h2] at gs2;exact qJ K x y hx hy hy0 (by omega) _ _ true false rfl gs1 gs2
     | true =>
      rw[h2] at gs2
      have b1:=xG h1
      have b2:=xG h2
      have c1:=Int.mul_tdiv_add_tmod x y
      have c2:=Int.tmod_lt_of_pos x hy0
      have c3:=Int.lt_tmod_of_pos x hy0
      have c4:=Int.natAbs_tdiv_le_natAbs x y
      generalize hq:x.tdiv y=q at *
      generalize hr:x.tmod y=r at *
      by_cases hr0:r<0
      ·obtain⟨w1,w2⟩:=kK (x:=x) (y:=y) (q:=q - 1) (r:=r+y) hy0 (by rw[Int.mul_sub,Int.mul_one];omega) (by omega) (by omega)
       rw[w1,w2]
       exact WE LT6 (runK (CC LT6) K) K _ _ _ _ x y q r (q - 1) (r+y) gs1 gs2 (by omega) (by omega) (by rw[hq];exact fk _ (by omega) (by omega)) hr hr0 (fk _ (by omega) (by omega)) (fk _ (by omega) (by omega)) (tE _ _ (by omega) (by omega)) (tE _ _ (by omega) (by omega))
      ·obtain⟨w1,w2⟩:=kK (x:=x) (y:=y) (q:=q) (r:=r) hy0 (by omega) (by omega) (by omega)
       rw[w1,w2]
       exact WG LT6 (runK (CC LT6) K) K _ _ _ _ x y q r gs1 gs2 (by omega) (by omega) (by rw[hq];exact fk _ (by omega) (by omega)) hr hr0 (tE _ _ (by omega) (by omega)) (tE _ _ (by omega) (by omega))
   ·rw[decide_eq_false hy0] at h
    cases h
  ·cases h
 ·cases h
noncomputable def LT7:Lst:=[(155,qM),(121,sj)]
theorem acY:dK base.P LT7:=⟨Ga,yv,trivial⟩
theorem IZ:bt LT7 155=fun a=>qM (aJ a):=rfl
theorem W7:bt LT7 121=fun a=>sj (aJ a):=rfl
noncomputable def po:Code:=Tryz.f112.body.getD .skip
noncomputable def yC:Code:=((Tryz.f112.body).bind aF).getD .skip
theorem QN (L:Lst)(run:aq)(k:Nat)(fr:List PV)(hp:List Blk)(wr:List Nat)(a b:ByteArray)(hv:eY .neq b { data:=#[48] } = some (.bool false))(h24:fr.length=24)(h5:nth fr 5 = .sc (.string a))(h6:nth fr 6 = .sc (.string b)) :
  ∃ fr',af (CC L) run k yC ⟨fr,hp,wr⟩=some (.exit 0,⟨fr',hp,wr⟩)∧fr'.length=24∧nth fr' 5 = .sc (.string a):=by
 simp[yC,Tryz.f112,aF,af,aH,an,ao,aG,ag,ai,aj,ak,aC,az,FP.none,bc,au,aa,ae,ab,h24,h5,h6,hv]
theorem WJ (L:Lst)(run:aq)(k:Nat)(fr:List PV)(hp:List Blk)(wr:List Nat)(a b q r:ByteArray)(hv:eY .neq b { data:=#[48] } = some (.bool true))(g:av L run 121 [.sc (.string a),.sc (.string b)] (.tup [.sc (.string q),.sc (.string r)]))(h24:fr.length=24)(h5:nth fr 5 = .sc (.string a))(h6:nth fr 6 = .sc (.string b)) :
  ∃ fr',af (CC L) run k yC ⟨fr,hp,wr⟩=some (.normal,⟨fr',hp,wr⟩)∧fr'.length=24∧nth fr' 5 = .sc (.string b)∧nth fr' 6 = .sc (.string r):=by
 unfold av at g
 simp[yC,Tryz.f112,aF,af,aH,an,ao,aG,ag,ai,aP,aj,ak,aC,az,FP.none,bc,au,aa,ae,ab,h24,h5,h6,hv,g]
theorem Zm.adU {x y:Nat}(h:Zm (y:Int))(hl:x≤y):Zm (x:Int):=by
 unfold Zm at *
 rw[fT] at *
 have h1:bq (x:Int)=false:=rfl
 have h2:bq (y:Int)=false:=rfl
 rw[h1]
 rw[h2] at h
 have h3:=mW (x:=(x:Int)) (y:=(y:Int)) (by simpa using hl)
 simp only[cond_false] at h ⊢
 omega
theorem Yo (run:aq)(x y:Nat)(hx:Zm (x:Int))(hy:Zm (y:Int))(h0:0<y):av LT7 run 121 [zs (x:Int),zs (y:Int)] (.tup [zs ((x:Int) / (y:Int)),zs ((x % y:Nat):Int)]):=fun dr hp =>
 bp BO W7 run dr hp _ [zs ((x:Int) / (y:Int)),zs ((x % y:Nat):Int)] rfl rfl (by
  have h1:(0:Int)<(y:Int):=by omega
  simp only[sj,cJ _ hx,cJ _ hy,decide_eq_true h1,cond_true]
  rfl)
theorem yB (run:aq)(k:Nat)(hp:List Blk)(wr:List Nat):∀ (n y x:Nat) (fr:List PV),y<n→Zm (x:Int)→Zm (y:Int)→fr.length=24→nth fr 5=zs (x:Int)→nth fr 6=zs (y:Int) →
  ∃ fr',bX (af (CC LT7) run k yC) n ⟨fr,hp,wr⟩=some (.exit 0,⟨fr',hp,wr⟩)∧fr'.length=24∧nth fr' 5=zs ((Nat.gcd x y:Nat):Int)
 | 0,y,x,fr,hn,_,_,_,_,_=>by omega
 | n+1,y,x,fr,hn,hx,hy,h24,h5,h6=>by
  have hv:=pz (y:Int)
  by_cases h0:y=0
  ·subst h0
   obtain⟨fr',g1,g2,g3⟩:=QN LT7 run k fr hp wr _ _ hv h24 h5 h6
   exact⟨fr',bw g1,g2,by rw[g3,Nat.gcd_zero_right];rfl⟩
  ·rw[decide_eq_false (by omega)] at hv
   obtain⟨fr1,g1,g2,g3,g4⟩:=WJ LT7 run k fr hp wr _ _ _ _ hv (Yo run x y hx hy (by omega)) h24 h5 h6
   have hm:=Nat.mod_lt x (show 0<y by omega)
   obtain⟨fr',q1,q2,q3⟩:=yB run k hp wr n (x % y) y fr1 (by omega) hy (hy.adU (by omega)) g2 g3 g4
   refine⟨fr',by rw[bV g1];exact q1,q2,?_⟩
   rw[q3,Nat.gcd_comm y (x % y),← Nat.gcd_rec,Nat.gcd_comm]
theorem Gm:ah 2 po = .seq (.block 0 (.loop yC)) (ah 3 po):=rfl
theorem QM (L:Lst)(run:aq)(k:Nat)(s t u v:ByteArray)(g1:av L run 155 [.sc (.string s)] (.sc (.string u)))(g2:av L run 155 [.sc (.string t)] (.sc (.string v))) :
  ∃ fr,aY (CC L) run k 2 po ⟨entry 24 [.sc (.string s),.sc (.string t)],[],[]⟩=some ⟨fr,[],[]⟩∧fr.length=24∧nth fr 5 = .sc (.string u)∧nth fr 6 = .sc (.string v):=by
 obtain⟨e1,e2,e3⟩:=cA 22 (.sc (.string s)) (.sc (.string t))
 generalize entry 24 [.sc (.string s),.sc (.string t)]=fr0 at *
 unfold av at *
 simp[po,Tryz.f112,aY,e1,e2,e3,af,aH,an,ao,aG,ag,ai,aP,aj,ak,aC,az,FP.none,au,aa,ae,ab,g1,g2]
theorem LN (L:Lst)(run:aq)(k:Nat)(fr:List PV)(hp:List Blk)(wr:List Nat)(a:ByteArray)(h24:fr.length=24)(h5:nth fr 5 = .sc (.string a)) :
  ∃ st,af (CC L) run k (ah 3 po) ⟨fr,hp,wr⟩=some (.ret,st)∧aZ TT st.fr st.hp Tryz.f112.results.toList=some [.sc (.string a)]:=by
 simp[po,Tryz.f112,ah,af,aH,an,ao,aG,ag,ai,aj,ak,aC,az,FP.none,aa,ab,h24,h5,aZ]
def su:List PV→Option (List PV)
 | [p,q]=>match fB p,fB q with
  | some x,some y=>some [zs ((Nat.gcd x.natAbs y.natAbs:Nat):Int)]
  | _,_=>none
 | _=>none
theorem Zm.abs {x:Int}(h:Zm x):Zm (x.natAbs:Int):=by
 unfold Zm at *
 rw[fT] at *
 have h1:bq (x.natAbs:Int)=false:=rfl
 rw[h1]
 have h3:=mW (x:=(x.natAbs:Int)) (y:=x) (by simp)
 simp only[cond_false]
 omega
theorem yA:Ab.Spec base.P 112 su:=Ab.Spec.bL (C:=CC LT7) (cU acY) fun args rs h=>by
 unfold su at h
 split at h
 ·split at h
  ·rename_i x y ex ey
   obtain⟨rfl,hx⟩:=cZ ex
   obtain⟨rfl,hy⟩:=cZ ey
   simp only[Option.some.injEq] at h
   subst h
   generalize hK:y.natAbs+1=K
   have g1:av LT7 (runK (CC LT7) K) 155 [zs x] (zs (x.natAbs:Int)):=fun dr hp=>bp BP IZ _ dr hp _ [zs (x.natAbs:Int)] rfl rfl (by simp only[qM,cJ x hx];rfl)
   have g2:av LT7 (runK (CC LT7) K) 155 [zs y] (zs (y.natAbs:Int)):=fun dr hp=>bp BP IZ _ dr hp _ [zs (y.natAbs:Int)] rfl rfl (by simp only[qM,cJ y hy];rfl)
   obtain⟨f1,a1,a2,a3,a4⟩:=QM LT7 (runK (CC LT7) K) K _ _ _ _ g1 g2
   obtain⟨f2,b1,b2,b3⟩:=yB (runK (CC LT7) K) K [] [] K y.natAbs x.natAbs f1 (by omega) (Zm.abs hx) (Zm.abs hy) a2 a3 a4
   obtain⟨st,x1,x2⟩:=LN LT7 (runK (CC LT7) K) K f2 [] [] _ b2 b3
   have h1:af (CC LT7) (runK (CC LT7) K) K po ⟨entry 24 [zs x,zs y],[],[]⟩=af (CC LT7) (runK (CC LT7) K) K (ah 2 po) ⟨f1,[],[]⟩:=aO 2 a1
   have hx':af (CC LT7) (runK (CC LT7) K) K po ⟨entry 24 [zs x,zs y],[],[]⟩=some (.ret,st):=by
    rw[h1,Gm,aw (bE b1)]
    exact x1
   exact⟨K+1,_,_,_,_,_,aQ HQ rfl hx' x2,rfl,Wk.refl rfl,trivial⟩
  ·cases h
 ·cases h
def spl (l:List Nat):List Nat × List Nat × Bool:=match fA l with
 | some j=>(l.take j,l.drop (j+1),true)
 | none=>(l,[49],false)
theorem Ot {l:List Nat}(h:Bok l):Bok (spl l).1∧Bok (spl l).2.1:=by
 unfold spl
 split
 ·exact⟨h.take _,h.drop _⟩
 ·exact⟨h,Bok.nil.cons (by omega)⟩
theorem tq (l:List Nat):(spl l).1.length≤l.length∧(spl l).2.1.length≤l.length+1:=by
 unfold spl
 split
 ·simp;omega
 ·simp
theorem EW (l:List Nat)(h:Bok l)(h9:l.length<20000000):kC [.sc (.string (tx l))]=some [.sc (.string (tx (spl l).1)),.sc (.string (tx (spl l).2.1)),.sc (.bool (spl l).2.2)]:=by
 have hb:l.length.blt 20000000=true:=by rw[Nat.blt_eq];exact h9
 simp only[kC,ja h,hb,cond_true,spl]
 cases fA l <;> rfl
noncomputable def LT8:Lst:=[(65,kC),(100,ni)]
theorem acX:dK base.P LT8:=⟨nc,sx,trivial⟩
theorem abn:bt LT8 65=fun a=>kC (aJ a):=rfl
theorem Rx:bt LT8 100=fun a=>ni (aJ a):=rfl
theorem abY (run:aq)(l:List Nat)(h:Bok l)(h9:l.length<20000000):av LT8 run 65 [.sc (.string (tx l))] (.tup [.sc (.string (tx (spl l).1)),.sc (.string (tx (spl l).2.1)),.sc (.bool (spl l).2.2)]):=fun dr hp =>
 bp kZ abn run dr hp _ [.sc (.string (tx (spl l).1)),.sc (.string (tx (spl l).2.1)),.sc (.bool (spl l).2.2)] rfl rfl (EW l h h9)
theorem DA (run:aq)(l:List Nat)(h:Bok l)(h9:l.length<30000000):av LT8 run 100 [.sc (.string (tx l))] (.sc (.bool (decide (1000<eH l)))):=fun dr hp =>
 bp KI Rx run dr hp _ [.sc (.bool (decide (1000<eH l)))] rfl rfl (by
  have hb:l.length.blt 100000000=true:=by rw[Nat.blt_eq];omega
  simp only[ni,ja h,hb,cond_true])
theorem Cn (L:Lst)(run:aq)(k:Nat)(s a b:ByteArray)(sl u v:Bool)(g1:av L run 65 [.sc (.string s)] (.tup [.sc (.string a),.sc (.string b),.sc (.bool sl)]))(g2:av L run 100 [.sc (.string a)] (.sc (.bool u)))(g3:av L run 100 [.sc (.string b)] (.sc (.bool v))) :
  ∃ st,af (CC L) run k (Tryz.f48.body.getD .skip) ⟨entry 18 [.sc (.string s)],[],[]⟩=some (.ret,st)∧aZ TT st.fr st.hp Tryz.f48.results.toList=some [.sc (.bool (u || v))]:=by
 obtain⟨e1,e2⟩:=cP 17 (.sc (.string s))
 generalize entry 18 [.sc (.string s)]=fr0 at *
 unfold av at *
 cases u <;> simp[Tryz.f48,e1,e2,af,aH,an,ao,aG,ag,ai,aP,aj,ak,aC,az,FP.none,au,aa,ae,ab,g1,g2,g3,undef,aZ]
def yX (l:List Nat):Bool:=decide (1000<eH (spl l).1) || decide (1000<eH (spl l).2.1)
def nf:List PV→Option (List PV)
 | [.sc (.string s)]=>bif (bys s).length.blt 20000000 then some [.sc (.bool (yX (bys s)))] else none
 | _=>none
theorem rW:Ab.Spec base.P 48 nf:=Ab.Spec.bL (C:=CC LT8) (cU acX) fun args rs h=>by
 unfold nf at h
 split at h
 ·rename_i s
  cases hb:(bys s).length.blt 20000000 with
  | false=>rw[hb] at h;cases h
  | true =>
   rw[hb] at h
   simp only[cond_true,Option.some.injEq] at h
   subst h
   rw[Nat.blt_eq] at hb
   have hok:=lH s
   obtain⟨h1,h2⟩:=Ot hok
   obtain⟨h3,h4⟩:=tq (bys s)
   obtain⟨st,x1,x2⟩:=Cn LT8 (runK (CC LT8) 1) 1 _ _ _ _ _ _ (abY _ (bys s) hok hb) (DA _ _ h1 (by omega)) (DA _ _ h2 (by omega))
   rw[gV] at x1
   exact⟨2,_,_,_,_,_,aQ Ey rfl x1 x2,rfl,Wk.refl rfl,trivial⟩
 ·cases h
theorem zY (n d:Int):spl (qtx n d)=(ztx n,ztx d, !decide (d=1)):=by
 unfold spl
 rw[MR]
 unfold qtx
 by_cases h:d=1
 ·subst h
  simp[U1]
 ·simp[h]
def qs (n d:Int):PV:=.sc (.string (tx (qtx n d)))
noncomputable def LT9:Lst:=[(65,kC),(120,mj),(69,lp),(112,su),(121,sj)]
theorem UB:dK base.P LT9:=⟨nc,vh,oh,yA,yv,trivial⟩
theorem abm:bt LT9 65=fun a=>kC (aJ a):=rfl
theorem W4:bt LT9 120=fun a=>mj (aJ a):=rfl
theorem W6:bt LT9 69=fun a=>lp (aJ a):=rfl
theorem W5:bt LT9 112=fun a=>su (aJ a):=rfl
theorem W3:bt LT9 121=fun a=>sj (aJ a):=rfl
theorem WM (n d:Int):(qtx n d).length≤(ztx n).length+(ztx d).length+1:=by
 unfold qtx
 split
 ·omega
 ·simp;omega
theorem Ov (n d:Int)(hn:Zm n)(hd:Zm d):kC [qs n d]=some [zs n,zs d,.sc (.bool (!decide (d=1)))]:=by
 have h1:(ztx n).length≤3000000:=hn
 have h2:(ztx d).length≤3000000:=hd
 have h3:=WM n d
 have:=EW (qtx n d) (Gt n d) (by omega)
 rw[zY] at this
 exact this
theorem abX (run:aq)(n d:Int)(hn:Zm n)(hd:Zm d):av LT9 run 65 [qs n d] (.tup [zs n,zs d,.sc (.bool (!decide (d=1)))]):=fun dr hp =>
 bp kZ abm run dr hp _ [zs n,zs d,.sc (.bool (!decide (d=1)))] rfl rfl (Ov n d hn hd)
theorem AN (run:aq)(n:Int)(hn:Zm n):av LT9 run 120 [zs n] (zs (-n)):=fun dr hp =>
 bp BQ W4 run dr hp _ [zs (-n)] rfl rfl (by simp only[mj,cJ n hn])
theorem NF (a b:List Nat)(h:a.length+b.length<100000000):eY .add (tx a) (tx b)=some (.string (tx (a++b))):=by
 simp only[eY,dD]
 rw[if_neg (by omega)]
 simp[tx,fb]
theorem FL (L:Lst)(run:aq)(k:Nat)(n d m:Int)(hm9:(ztx m).length≤4000000)(hd9:(ztx d).length≤4000000)(g1:av L run 65 [qs n d] (.tup [zs n,zs d,.sc (.bool (!decide (d=1)))]))(g2:av L run 120 [zs n] (zs m)) :
  ∃ st,af (CC L) run k (Tryz.f122.body.getD .skip) ⟨entry 21 [qs n d],[],[]⟩=some (.ret,st)∧aZ TT st.fr st.hp Tryz.f122.results.toList=some [qs m d]:=by
 obtain⟨e1,e2⟩:=cP 20 (qs n d)
 generalize entry 21 [qs n d]=fr0 at *
 unfold av at *
 have h47:({ data:=#[47] } : ByteArray)=tx [47]:=rfl
 have b1:=NF (ztx m) [47] (by simp;omega)
 have b2:=NF (ztx m++[47]) (ztx d) (by simp;omega)
 by_cases h:d=1
 ·subst h
  have hq:qtx m 1=ztx m:=rfl
  simp only[decide_true,Bool.not_true,qs,zs,hq] at *
  simp[Tryz.f122,e1,e2,af,aH,an,ao,aG,ag,ai,aP,aj,ak,aC,az,FP.none,au,unP,aa,ae,ab,g1,g2,aZ]
 ·have hq:qtx m d=(ztx m++[47])++ztx d:=by rw[qtx,if_neg h];simp
  rw[decide_eq_false h] at g1
  simp only[Bool.not_false,qs,zs,hq] at *
  simp[-List.append_assoc,Tryz.f122,e1,e2,af,aH,an,ao,aG,ag,ai,aP,aj,ak,aC,az,FP.none,bc,au,unP,aa,ae,ab,g1,g2,h47,b1,b2,aZ]
noncomputable def jQ:Code:=Tryz.f67.body.getD .skip
theorem PI (L:Lst)(run:aq)(k:Nat)(a b:ByteArray)(c:Int)(hc : ¬ c<0)(g:av L run 69 [.sc (.string b),.sc (.string { data:=#[48] })] (Ab.bC c)) :
  ∃ fr,aY (CC L) run k 2 jQ ⟨entry 37 [.sc (.string a),.sc (.string b)],[],[]⟩=some ⟨fr,[],[]⟩∧fr.length=37∧nth fr 0 = .sc (.string a)∧nth fr 1 = .sc (.string b):=by
 obtain⟨e1,e2,e3⟩:=cA 35 (.sc (.string a)) (.sc (.string b))
 generalize entry 37 [.sc (.string a),.sc (.string b)]=fr0 at *
 unfold av at *
 simp only[Ab.bC] at *
 simp[jQ,Tryz.f67,aY,e1,e2,e3,af,aH,an,ao,aG,ag,ai,aP,aj,ak,aC,az,FP.none,bc,ar,bd,au,aa,ae,ab,g,hc]
theorem PK (L:Lst)(run:aq)(k:Nat)(a b a' b':ByteArray)(c:Int)(hc:c<0)(g:av L run 69 [.sc (.string b),.sc (.string { data:=#[48] })] (Ab.bC c))(g1:av L run 120 [.sc (.string a)] (.sc (.string a')))(g2:av L run 120 [.sc (.string b)] (.sc (.string b'))) :
  ∃ fr,aY (CC L) run k 2 jQ ⟨entry 37 [.sc (.string a),.sc (.string b)],[],[]⟩=some ⟨fr,[],[]⟩∧fr.length=37∧nth fr 0 = .sc (.string a')∧nth fr 1 = .sc (.string b'):=by
 obtain⟨e1,e2,e3⟩:=cA 35 (.sc (.string a)) (.sc (.string b))
 generalize entry 37 [.sc (.string a),.sc (.string b)]=fr0 at *
 unfold av at *
 simp only[Ab.bC] at *
 simp[jQ,Tryz.f67,aY,e1,e2,e3,af,aH,an,ao,aG,ag,ai,aP,aj,ak,aC,az,FP.none,bc,ar,bd,au,aa,ae,ab,g,hc,g1,g2]
theorem PJ (L:Lst)(run:aq)(k:Nat)(fr:List PV)(a b g:ByteArray)(hv:eY .neq g { data:=#[49] } = some (.bool false))(g1:av L run 112 [.sc (.string a),.sc (.string b)] (.sc (.string g)))(h37:fr.length=37)(h0:nth fr 0 = .sc (.string a))(h1:nth fr 1 = .sc (.string b)) :
  ∃ fr',aY (CC L) run k 2 (ah 2 jQ) ⟨fr,[],[]⟩=some ⟨fr',[],[]⟩∧fr'.length=37∧nth fr' 0 = .sc (.string a)∧nth fr' 1 = .sc (.string b):=by
 unfold av at *
 simp[jQ,Tryz.f67,ah,aY,h37,h0,h1,af,aH,an,ao,aG,ag,ai,aP,aj,ak,aC,az,FP.none,bc,au,aa,ae,ab,g1,hv]
theorem Li (L:Lst)(run:aq)(k:Nat)(fr:List PV)(a b g a' b' x y:ByteArray)(hv:eY .neq g { data:=#[49] } = some (.bool true))(g1:av L run 112 [.sc (.string a),.sc (.string b)] (.sc (.string g)))(g2:av L run 121 [.sc (.string a),.sc (.string g)] (.tup [.sc (.string a'),.sc (.string x)]))(g3:av L run 121 [.sc (.string b),.sc (.string g)] (.tup [.sc (.string b'),.sc (.string y)]))
  (h37:fr.length=37) (h0:nth fr 0 = .sc (.string a)) (h1:nth fr 1 = .sc (.string b)) :
  ∃ fr',aY (CC L) run k 2 (ah 2 jQ) ⟨fr,[],[]⟩=some ⟨fr',[],[]⟩∧fr'.length=37∧nth fr' 0 = .sc (.string a')∧nth fr' 1 = .sc (.string b'):=by
 unfold av at *
 simp[jQ,Tryz.f67,ah,aY,h37,h0,h1,af,aH,an,ao,aG,ag,ai,aP,aj,ak,aC,az,FP.none,bc,au,aa,ae,ab,g1,g2,g3,hv]
theorem xT (z:Int):decide (bD (tx (ztx z))=bD (tx [49]))=decide (z=1):=by
 have:(bD (tx (ztx z))=bD (tx [49])) ↔ z=1:=by
  constructor
  ·intro h
   have h1:tx (ztx z)=tx [49]:=by rw[← fo (tx (ztx z)),h,fo]
   have h2:=(Bx (j5 z) (Bok.nil.cons (by omega))).1 h1
   have h3:=cJ z (by rw[h2];decide)
   have h4:=cJ 1 (by decide)
   have:zs z=zs 1:=by unfold zs;rw[h2];rfl
   rw[this,h4] at h3
   exact (Option.some.inj h3).symm
  ·intro h;subst h;rfl
 simp only[this]
theorem XI (z:Int):eY .neq (tx (ztx z)) { data:=#[49] } = some (.bool (!decide (z=1))):=by
 have e:({ data:=#[49] } : ByteArray)=tx [49]:=rfl
 rw[e]
 simp only[eY,tH,xT]
theorem nC (z:Int):eY .eql (tx (ztx z)) { data:=#[49] } = some (.bool (decide (z=1))):=by
 have e:({ data:=#[49] } : ByteArray)=tx [49]:=rfl
 rw[e]
 simp only[eY,tH,xT]
theorem yl (L:Lst)(run:aq)(k:Nat)(fr:List PV)(n d:Int)(hn9:(ztx n).length≤4000000)(hd9:(ztx d).length≤4000000)(h37:fr.length=37)(h0:nth fr 0=zs n)(h1:nth fr 1=zs d) :
  ∃ st,af (CC L) run k (ah 4 jQ) ⟨fr,[],[]⟩=some (.ret,st)∧aZ TT st.fr st.hp Tryz.f67.results.toList=some [qs n d]:=by
 have h47:({ data:=#[47] } : ByteArray)=tx [47]:=rfl
 have b1:=NF (ztx n) [47] (by simp;omega)
 have b2:=NF (ztx n++[47]) (ztx d) (by simp;omega)
 have hv:=nC d
 by_cases h:d=1
 ·subst h
  have hq:qtx n 1=ztx n:=rfl
  simp only[decide_true,qs,zs,hq] at *
  simp[jQ,Tryz.f67,ah,h37,h0,h1,af,aH,an,ao,aG,ag,ai,aj,ak,aC,az,FP.none,bc,au,aa,ae,ab,hv,aZ]
 ·have hq:qtx n d=(ztx n++[47])++ztx d:=by rw[qtx,if_neg h];simp
  rw[decide_eq_false h] at hv
  simp only[qs,zs,hq] at *
  simp[-List.append_assoc,jQ,Tryz.f67,ah,h37,h0,h1,af,aH,an,ao,aG,ag,ai,aj,ak,aC,az,FP.none,bc,au,aa,ae,ab,hv,h47,b1,b2,aZ]
end Go.Proofs.YtjdmodeenbdfpaaGreat
