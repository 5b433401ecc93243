/- Contracts of numbers kept as digits in text, part 34; each lemma states its conditions. -/
import Derived.Test.YtjdmodeenbdfpaaGreatU33
import Derived.Test.YtjdmodeenbdfpaaGreatU13
set_option linter.unusedSimpArgs false
set_option linter.unusedVariables false
noncomputable section
namespace Go.Proofs.YtjdmodeenbdfpaaGreat
open Go Go.Ab Tryz
attribute [local simp] FzZ aC aF aG aH aM aY aa ab ae af ag ah ai aj an aq ar au ba dC
variable(L:Lst)(run:av)(k:Nat)(fr:Ψ)(hp:Θ)(wr:Ω)
theorem ai4:fP TT 24 0 []=some (1,[]):=by
 simp[fP,uL,sI,zI,rep,dJ]
theorem slT (x:Ω)(st:Nat)(hp:Θ)(h:st≤x.length):dH TT hp 24 (bA x) (some (.sc (.int .i64 (st:Int)))) none none=some (.imm (x.length - st) false ((x.drop st).map iv)):=by
 have e:bA x = .imm x.length false (x.map iv):=rfl
 rw[e]
 simp only[dH,uL,jg,sI,bnd,fG,bm]
 simp[gS,h]
 rw[cD,← List.map_drop,dk (by simp)]
 rw[List.take_of_length_le (by simp)]
set_option maxHeartbeats 1000000 in
theorem Tt(b:PV)(m n:Bool)(x y:Ω)(st:Nat)(hx:T.Dok x)(hx9:x.length<7000000)(hst:st≤x.length)
  (h0':fr.length=164) (h1:nth fr 1=b) (h12:nth fr 12 = .sc (.bool m)) (h13:nth fr 13=bA x) (h14:nth fr 14 = .sc (.bool n)) (h15:nth fr 15=bA y) (h16:nth fr 16=iv st) (h17:nth fr 17 = .sc (.slice none 0 0)) :
  ∃ fr' hp' wr',bh (CC LT6) run k 1 (ai 8 dC) ⟨fr,[],[]⟩=some ⟨fr',hp',wr'⟩∧fr'.length=164∧nth fr' 1=b∧nth fr' 12 = .sc (.bool m)∧nth fr' 13=bA x∧nth fr' 14 = .sc (.bool n)∧nth fr' 15=bA y∧nth fr' 16=iv st∧nth fr' 17 = .sc (.slice none 0 0)∧nth fr' 18=bA (T.aJ (T.val (x.drop st))):=by
 have hdk:=hx.drop st
 obtain⟨p',hp1,fp,hp2,fp',g1,g2,g3⟩:=F4 run false [] [] (x.drop st) T.Dok.nil hdk (by simp;omega)
 have hl:(x.drop st).length=x.length - st:=List.length_drop
 rw[List.nil_append] at g2
 have g1':cU [] 1 (.imm 0 true []) (x.length - st) ((x.drop st).map iv)=some (p',hp1,fp):=by rw[← hl];exact g1
 have hsl:=slT x st [] hst
 have hrd:eY [] 1 (.imm (x.length - st) false ((x.drop st).map iv))=some (x.length - st,(x.drop st).map iv,[]):=by simp[eY]
 have hok:=iX.Uk (x.drop st)
 have hlit:=ai4
 generalize (x.drop st).map iv=cs at *
 generalize T.val (x.drop st)=V at *
 simp only[iv] at h16 ⊢
 simp[f121,bh,h0',h1,h12,h13,h14,h15,h16,h17,bf,and_assoc,uL,sI,bI,zI,bZ,hlit,hsl,hrd,hok,bT,g1',g2]
def BN:Code:=seq1 (seq1 (ai 9 dC))
def BM:Code:=seq1 (seq1 (ai 10 dC))
theorem Tn:ai 9 dC = .seq (.seq BN (.block 0 (.loop iM))) (ai 10 dC):=rfl
theorem NP:ai 10 dC = .seq (.seq BM (.block 4 (.loop qQ))) (ai 11 dC):=rfl
theorem Ts(b:PV)(m n:Bool)(x y r:Ω)(st:Nat)(hst:st<20000000)
  (h0':fr.length=164) (h1:nth fr 1=b) (h12:nth fr 12 = .sc (.bool m)) (h13:nth fr 13=bA x) (h14:nth fr 14 = .sc (.bool n)) (h15:nth fr 15=bA y) (h16:nth fr 16=iv st) (h17:nth fr 17 = .sc (.slice none 0 0)) (h18:nth fr 18=bA r) :
  ∃ fr',ae (CC L) run k BN ⟨fr,hp,wr⟩=some (.normal,⟨fr',hp,wr⟩)∧QF fr' b m n x y (.sc (.slice none 0 0)) (.sc (.int .i64 ((st:Int) - 1)))∧nth fr' 18=bA r:=by
 have hw:=cM st (by omega)
 simp only[iv] at h16
 simp[QF,BN,f121,seq1,h0',h1,h12,h13,h14,h15,h16,h17,h18,aw,bg,and_assoc,hw]
theorem Tq(b:PV)(m n:Bool)(x y r:Ω)(q i:PV)(h:QF fr b m n x y q i)(h18:nth fr 18=bA r) :
  ∃ fr',ae (CC L) run k BM ⟨fr,hp,wr⟩=some (.normal,⟨fr',hp,wr⟩)∧SF fr' b m n r q∧nth fr' 21=iv 0:=by
 obtain⟨h0,h1,h12,h13,h14,h15,h17,h19⟩:=h
 simp[SF,BM,f121,seq1,h0,h1,h12,h14,h17,h18,and_assoc,iv]
theorem VR(m:Bool)(l:Ω)(h1:T.Dok l)(h2:l.length<10000000):aA LT6 run 116 [.sc (.bool m),bA l] (zs (gD m (T.val l))):=fun dr hp =>
 bq jU Ew run dr hp _ [zs (gD m (T.val l))] rfl (FK m l) (Bh m l h1 h2)
theorem Tp (run:av)(k:Nat)(fr:Ψ)(hp hp':Θ)(wr:Ω)(b:PV)(p s:Bool)(r:Ω)(q:PV)(sq sr:ByteArray)(fp:FP)(h:SF fr b p s r q)
  (hc1:bS (CC LT6) run false hp 116 [.sc (.bool (p != s)),q]=some (.sc (.string sq),hp',fp)) (hc2:aA LT6 run 116 [.sc (.bool p),bA r] (.sc (.string sr))) :
  ∃ fr' wr',bh (CC LT6) run k 1 (ai 11 dC) ⟨fr,hp,wr⟩=some ⟨fr',hp',wr'⟩∧fr'.length=164∧nth fr' 1=b∧nth fr' 12 = .sc (.bool p)∧nth fr' 14 = .sc (.bool s)∧nth fr' 22 = .sc (.string sq)∧nth fr' 23 = .sc (.string sr):=by
 obtain⟨h0,h1,h12,h14,h18,h17⟩:=h
 unfold aA at hc2
 cases p <;> cases s <;> simp only[bne_self_eq_false,Bool.bne_true,Bool.bne_false,Bool.not_false] at hc1 <;> simp[f121,bh,h0,h1,h12,h14,h18,h17,dG,bf,and_assoc,uB,hc1,hc2]
set_option maxHeartbeats 1000000 in
theorem wW(b:PV)(p s v:Bool)(sq sr:ByteArray)(hv:eo .neq sr { data:=#[48] } = some (.bool v))(hno:(v && (p != s))=false)
  (h0:fr.length=164) (h1:nth fr 1=b) (h12:nth fr 12 = .sc (.bool p)) (h14:nth fr 14 = .sc (.bool s)) (h22:nth fr 22 = .sc (.string sq)) (h23:nth fr 23 = .sc (.string sr)) :
  ∃ st,ae (CC L) run k (ai 12 dC) ⟨fr,hp,wr⟩=some (.ret,st)∧aY TT st.fr st.hp f121.results.toList=some [.sc (.string sq),.sc (.string sr)]:=by
 cases v <;> cases p <;> cases s <;> simp only[bne_self_eq_false,Bool.bne_true,Bool.bne_false,Bool.not_false,Bool.and_true,Bool.and_false,Bool.and_self,Bool.true_eq_false] at hno <;> simp[f121,h0,h12,h14,h22,h23,dG,bf,uB,hv,undef]
set_option maxHeartbeats 1000000 in
theorem Tw(b sq sr q2 r2:ByteArray)(hv:eo .neq sr { data:=#[48] } = some (.bool true))(g1:aA L run 157 [.sc (.string sq),.sc (.string { data:=#[49] })] (.sc (.string q2)))(g2:aA L run 66 [.sc (.string sr),.sc (.string b)] (.sc (.string r2)))
  (h0:fr.length=164) (h1:nth fr 1 = .sc (.string b)) (h12:nth fr 12 = .sc (.bool true)) (h14:nth fr 14 = .sc (.bool false)) (h22:nth fr 22 = .sc (.string sq)) (h23:nth fr 23 = .sc (.string sr)) :
  ∃ st,ae (CC L) run k (ai 12 dC) ⟨fr,hp,wr⟩=some (.ret,st)∧aY TT st.fr st.hp f121.results.toList=some [.sc (.string q2),.sc (.string r2)]:=by
 unfold aA at *
 simp[f121,h0,h1,h12,h14,h22,h23,dG,bf,uB,hv,g1,g2]
theorem rC:∀ (a b:List UInt8),eqL a b=decide (a=b)
 | [],[]=>rfl
 | [],_::_=>by simp[eqL]
 | _::_,[]=>by simp[eqL]
 | a::l,b::m=>by
  have:=rC l m
  simp only[eqL,this]
  have hn:(a.toNat == b.toNat)=decide (a=b):=by
   by_cases h:a=b
   ·subst h;simp
   ·rw[decide_eq_false h,beq_eq_false_iff_ne];exact fun e=>h (UInt8.toNat_inj.1 e)
  rw[hn]
  by_cases h:a=b <;> by_cases h2:l=m <;> simp[h,h2]
theorem ad2 (z:Int):ztx z=[48] ↔ z=0:=by
 constructor
 ·intro h
  have h1:=cJ z (by rw[h];decide)
  have h2:=cJ 0 (by decide)
  have:zs z=zs 0:=by unfold zs;rw[h];rfl
  rw[this,h2] at h1
  exact (Option.some.inj h1).symm
 ·intro h;subst h;rfl
theorem CZ {a b:Ω}(ha:Bok a)(hb:Bok b):tx a=tx b ↔ a=b:=by
 constructor
 ·intro h
  rw[← jH ha,h,jH hb]
 ·intro h;rw[h]
theorem qZ (z:Int):eo .neq (tx (ztx z)) { data:=#[48] } = some (.bool (!decide (z=0))):=by
 have e:({ data:=#[48] } : ByteArray)=tx [48]:=rfl
 have h1:decide (bO (tx (ztx z))=bO (tx [48]))=decide (z=0):=by
  have:(bO (tx (ztx z))=bO (tx [48])) ↔ z=0:=by
   rw[← ad2 z]
   constructor
   ·intro h
    have:tx (ztx z)=tx [48]:=by rw[← gq (tx (ztx z)),h,gq]
    exact (CZ (kO z) (Bok.nil.cons (by omega))).1 this
   ·intro h;rw[h]
  simp only[this]
 rw[e]
 simp only[eo,rC,h1]
set_option maxHeartbeats 2000000 in
theorem aay(s t sq sr:ByteArray)(u v q r:Int)(g1:aA L run 113 [.sc (.string s)] (.tup [Ab.bJ u,.sc (.bool true)]))(g2:aA L run 113 [.sc (.string t)] (.tup [Ab.bJ v,.sc (.bool true)]))
  (hv0 : ¬ v=0) (hv : ¬ v<0) (hq:bB .i64 (u.tdiv v)=q) (hr:u.tmod v=r) (hr0 : ¬ r<0) (g3:aA L run 114 [.sc (.int .i64 q)] (.sc (.string sq))) (g4:aA L run 114 [.sc (.int .i64 r)] (.sc (.string sr))) :
  ∃ st,ae (CC L) run k dC ⟨entry 164 [.sc (.string s),.sc (.string t)],[],[]⟩=some (.ret,st)∧aY TT st.fr st.hp f121.results.toList=some [.sc (.string sq),.sc (.string sr)]:=by
 obtain⟨e1,e2,e3⟩:=cb 162 (.sc (.string s)) (.sc (.string t))
 generalize entry 164 [.sc (.string s),.sc (.string t)]=fr0 at *
 unfold aA at *
 simp only[Ab.bJ] at *
 by_cases h0:r=0
 ·subst h0
  simp[f121,e1,e2,e3,aw,bg,g1,g2,hv0,hq,hr,g3,g4,undef,number,FP.free]
 ·have h1:(r != 0)=true:=by simpa using h0
  simp[f121,e1,e2,e3,aw,bg,dG,bf,uB,g1,g2,hv0,hv,hq,hr,hr0,h1,g3,g4,number,FP.free]
set_option maxHeartbeats 2000000 in
theorem aax(s t sq sr:ByteArray)(u v q0 r0 q r:Int)(g1:aA L run 113 [.sc (.string s)] (.tup [Ab.bJ u,.sc (.bool true)]))(g2:aA L run 113 [.sc (.string t)] (.tup [Ab.bJ v,.sc (.bool true)]))
  (hv0 : ¬ v=0) (hv : ¬ v<0) (hq:bB .i64 (u.tdiv v)=q0) (hr:u.tmod v=r0) (hr0:r0<0) (hq1:bB .i64 (q0 - 1)=q) (hr1:bB .i64 (r0+v)=r) (g3:aA L run 114 [.sc (.int .i64 q)] (.sc (.string sq))) (g4:aA L run 114 [.sc (.int .i64 r)] (.sc (.string sr))) :
  ∃ st,ae (CC L) run k dC ⟨entry 164 [.sc (.string s),.sc (.string t)],[],[]⟩=some (.ret,st)∧aY TT st.fr st.hp f121.results.toList=some [.sc (.string sq),.sc (.string sr)]:=by
 obtain⟨e1,e2,e3⟩:=cb 162 (.sc (.string s)) (.sc (.string t))
 generalize entry 164 [.sc (.string s),.sc (.string t)]=fr0 at *
 unfold aA at *
 simp only[Ab.bJ] at *
 have h0 : ¬ r0=0:=by omega
 have h1:(r0 != 0)=true:=by simpa using h0
 simp[f121,e1,e2,e3,aw,bg,dG,bf,uB,g1,g2,hv0,hv,hq,hr,hr0,h1,hq1,hr1,g3,g4,number,FP.free]
def ue:Ψ→Option Ψ
 | [p,q]=>match fL p,fL q with
  | some x,some y=>bif decide (0<y) then some [zs (x / y),zs (x % y)] else none
  | _,_=>none
 | _=>none
theorem sO (K:Nat)(x y:Int)(hx:Zm x)(hy:Zm y)(hy0:0<y)(hK:(T.aJ x.natAbs).length+20≤K)(u v:Int)(f1 f2:Bool)(hf:(f1 && f2)=false)(q1:aA LT6 (runK (CC LT6) K) 113 [zs x] (.tup [Ab.bJ u,.sc (.bool f1)]))(q2:aA LT6 (runK (CC LT6) K) 113 [zs y] (.tup [Ab.bJ v,.sc (.bool f2)])) :
  ∃ st,ae (CC LT6) (runK (CC LT6) K) K dC ⟨entry 164 [zs x,zs y],[],[]⟩=some (.ret,st)∧aY TT st.fr st.hp f121.results.toList=some [zs (x / y),zs (x % y)]:=by
 have hx3:=Zm.LO hx
 have hy3:=Zm.LO hy
 have hY:0<y.natAbs:=by omega
 have hny:bw y=false:=by rw[cK];simp;omega
 obtain⟨a1,b1,b2,b3,b4⟩:=Tu LT6 (runK (CC LT6) K) K _ _ u v f1 f2 hf q1 q2
 obtain⟨a2,c1,c2,c3,c4,c5,c6,c7⟩:=Tv LT6 (runK (CC LT6) K) K a1 _ _ _ _ _ _ (Lx _ x hx) (Lx _ y hy) b2 b3 b4
 have hyl:=T.cT.2 (show y.natAbs≠0 by omega)
 obtain⟨t,ht⟩:∃ t,(T.aJ y.natAbs).length=t+1:=⟨(T.aJ y.natAbs).length - 1,by omega⟩
 obtain⟨st,hst⟩:∃ st,st=(T.aJ x.natAbs).length - t:=⟨_,rfl⟩
 obtain⟨a3,d1,d2,d3,d4,d5,d6,d7,d8,d9⟩:=HO LT6 (runK (CC LT6) K) K a2 _ _ _ _ _ t st (by omega) (by omega) ht hst c2 c3 c4 c5 c6 c7
 obtain⟨a4,hp4,wr4,e1,e2,e3,e4,e5,e6,e7,e8,e9,e10⟩:=Tt (runK (CC LT6) K) K a3 _ _ _ _ _ st (T.bV x.natAbs) (by omega) (by omega) d2 d3 d4 d5 d6 d7 d8 d9
 obtain⟨a5,g1,g2,g3⟩:=Ts LT6 (runK (CC LT6) K) K a4 hp4 wr4 _ _ _ _ _ _ st (by omega) e2 e3 e4 e5 e6 e7 e8 e9 e10
 have hR0:T.val ((T.aJ x.natAbs).drop st)<y.natAbs:=by
  have h1:=T.eM ((T.bV x.natAbs).drop st)
  rw[List.length_drop] at h1
  have h2:10 ^ t≤y.natAbs:=by
   rcases Nat.lt_or_ge y.natAbs (10 ^ t) with h | h
   ·have:=T.di h;omega
   ·exact h
  have h3:10 ^ ((T.aJ x.natAbs).length - st)≤10 ^ t:=Nat.pow_le_pow_right (by omega) (by omega)
  omega
 obtain⟨a6,hp6,wr6,out,q6,k1,k2,k3,k4,k5,k6,k7⟩:=wY (runK (CC LT6) K) K _ _ _ (T.aJ x.natAbs) y.natAbs (T.bV _) (by omega) hY (by omega) (by omega) st _ a5 hp4 wr4 [] _ (by omega) hR0 (by simp;omega) T.Dok.nil (by simp[T.val]) g2 g3 (dw.nil (Nat.zero_le _))
 rw[T.bX] at k3 k6
 obtain⟨a7,l1,l2,l3⟩:=Tq LT6 (runK (CC LT6) K) K a6 hp6 wr6 _ _ _ _ _ _ _ _ k2 k3
 obtain⟨a8,hp8,wr8,m1,m2,m3⟩:=NQ LT6 (runK (CC LT6) K) K _ _ _ _ out q6 (by omega) a7 hp6 wr6 k4 l2 l3
 have hor:T.Dok out.reverse:=yA k5
 have htx:=Bh (bw x != bw y) out.reverse hor (by rw[List.length_reverse];omega)
 rw[k6] at htx
 obtain⟨hp9,fp,n1,-⟩:=o9 jU Ew (runK (CC LT6) K) false iX (bw x != bw y) m3.s _ htx
 have hrl:(T.aJ (x.natAbs % y.natAbs)).length<10000000:=Nat.lt_of_le_of_lt (T.cw (Nat.le_of_lt (Nat.mod_lt _ hY))) (by omega)
 have n2:=VR (runK (CC LT6) K) (bw x) (T.aJ (x.natAbs % y.natAbs)) (T.bV _) hrl
 rw[T.bX] at n2
 obtain⟨a9,wr9,o1,o2,o3,o4,o5,o6,o7⟩:=Tp (runK (CC LT6) K) K a8 hp8 hp9 wr8 _ _ _ _ _ _ _ fp m2 n1 n2
 have hex:∀ {z},ae (CC LT6) (runK (CC LT6) K) K (ai 12 dC) ⟨a9,hp9,wr9⟩=z→ae (CC LT6) (runK (CC LT6) K) K dC ⟨entry 164 [zs x,zs y],[],[]⟩=z:=by
  intro z hz
  have h1:ae (CC LT6) (runK (CC LT6) K) K dC ⟨entry 164 [zs x,zs y],[],[]⟩=ae (CC LT6) (runK (CC LT6) K) K (ai 4 dC) ⟨a1,[],[]⟩:=aU 4 b1
  rw[h1,aU 2 c1,show ai 2 (ai 4 dC)=ai 6 dC from rfl,aU 2 d1,show ai 2 (ai 6 dC)=ai 8 dC from rfl,aU 1 e1,show ai 1 (ai 8 dC)=ai 9 dC from rfl,
   Tn,ao ((ao g1).trans (bD (bG k1 (by omega)))),NP,ao ((ao l1).trans (bD (bG m1 (by omega)))),aU 1 o1]
  exact hz
 rw[hny] at o5
 by_cases hxn:x<0
 ·have hnx:bw x=true:=by rw[cK];simpa using hxn
  rw[hnx] at o4
  have eq1:gD (bw x != bw y) (x.natAbs / y.natAbs) = -((x.natAbs / y.natAbs:Nat):Int):=by rw[hnx,hny,kt];rfl
  have er1:gD (bw x) (x.natAbs % y.natAbs) = -((x.natAbs % y.natAbs:Nat):Int):=by rw[hnx,kt];rfl
  rw[eq1] at o6
  rw[er1] at o7
  by_cases h0:x.natAbs % y.natAbs=0
  ·obtain⟨w1,w2⟩:=acI hy0 hxn h0
   have hv:=qZ (-((x.natAbs % y.natAbs:Nat):Int))
   obtain⟨st',x1,x2⟩:=wW LT6 (runK (CC LT6) K) K a9 hp9 wr9 _ true false _ _ _ hv (by rw[h0];rfl) o2 o3 o4 o5 o6 o7
   refine⟨st',hex x1,?_⟩
   rw[x2,w1,w2,h0];rfl
  ·obtain⟨w1,w2⟩:=agf hy0 hxn h0
   have hv:=qZ (-((x.natAbs % y.natAbs:Nat):Int))
   rw[decide_eq_false (by omega)] at hv
   have zx:∀ z:Int,z≤0→z.natAbs≤x.natAbs→Zm z:=by
    intro z hz0 hz
    have h1:(ztx x).length≤fO:=hx
    unfold Zm
    rw[gV,hnx] at h1
    rw[gV]
    have h2:=ox hz
    cases bw z <;> simp at h1 ⊢ <;> omega
   have hq1:Zm (-((x.natAbs / y.natAbs:Nat):Int)):=zx _ (by omega) (by rw[Int.natAbs_neg,Int.natAbs_natCast];exact Nat.div_le_self _ _)
   have hr1:Zm (-((x.natAbs % y.natAbs:Nat):Int)):=zx _ (by omega) (by rw[Int.natAbs_neg,Int.natAbs_natCast];exact Nat.mod_le _ _)
   have p1:aA LT6 (runK (CC LT6) K) 157 [zs (-((x.natAbs / y.natAbs:Nat):Int)),.sc (.string { data:=#[49] })] (zs (x / y)):=fun dr hp =>
    bq G7 aa2 _ dr hp [zs (-((x.natAbs / y.natAbs:Nat):Int)),zs 1] [zs (x / y)] rfl rfl (by
     have h2:(ew 1).blt fO=true:=by decide
     have h3:fL (zs 1)=some 1:=cJ 1 (by decide)
     simp only[xb,cJ _ hq1,h3,h2,cond_true,w1])
   have p2:aA LT6 (runK (CC LT6) K) 66 [zs (-((x.natAbs % y.natAbs:Nat):Int)),zs y] (zs (x % y)):=fun dr hp =>
    bq sy Us _ dr hp _ [zs (x % y)] rfl rfl (by simp only[iy,cJ _ hr1,cJ _ hy,w2])
   obtain⟨st',x1,x2⟩:=Tw LT6 (runK (CC LT6) K) K a9 hp9 wr9 _ _ _ _ _ hv p1 p2 o2 o3 o4 o5 o6 o7
   exact⟨st',hex x1,x2⟩
 ·have hnx:bw x=false:=by rw[cK];simpa using hxn
  obtain⟨w1,w2⟩:=age hy0 (show 0≤x by omega)
  have eq1:gD (bw x != bw y) (x.natAbs / y.natAbs)=((x.natAbs / y.natAbs:Nat):Int):=by rw[hnx,hny,kt];rfl
  have er1:gD (bw x) (x.natAbs % y.natAbs)=((x.natAbs % y.natAbs:Nat):Int):=by rw[hnx,kt];rfl
  rw[eq1] at o6
  rw[er1] at o7
  rw[hnx] at o4
  have hv:=qZ ((x.natAbs % y.natAbs:Nat):Int)
  obtain⟨st',x1,x2⟩:=wW LT6 (runK (CC LT6) K) K a9 hp9 wr9 _ false false _ _ _ hv (by simp) o2 o3 o4 o5 o6 o7
  refine⟨st',hex x1,?_⟩
  rw[x2,w1,w2];rfl
theorem z6:Ab.Spec base.P 121 ue:=Ab.Spec.bL (C:=CC LT6) (cP ag3) fun args rs h=>by
 unfold ue at h
 split at h
 ·split at h
  ·rename_i x y ex ey
   obtain⟨rfl,hx⟩:=dj ex
   obtain⟨rfl,hy⟩:=dj ey
   by_cases hy0:0<y
   ·rw[decide_eq_true hy0] at h
    simp only[cond_true,OiE] at h
    subst h
    generalize hK:(T.aJ x.natAbs).length+20=K
    have gs1:=AK (runK (CC LT6) K) x hx
    have gs2:=AK (runK (CC LT6) K) y hy
    suffices hgo:∃ st,ae (CC LT6) (runK (CC LT6) K) K dC ⟨entry 164 [zs x,zs y],[],[]⟩=some (.ret,st)∧aY TT st.fr st.hp f121.results.toList=some [zs (x / y),zs (x % y)] by
     obtain⟨st,x1,x2⟩:=hgo
     exact⟨K+1,_,_,_,_,_,aZ JN rfl x1 x2,rfl,Wk.refl rfl,Wk.refl rfl,trivial⟩
    cases h1:(ew x).ble 9 with
    | false =>
     rw[h1] at gs1
     cases h2:(ew y).ble 9 with
     | false=>rw[h2] at gs2;exact sO K x y hx hy hy0 (by omega) _ _ false false rfl gs1 gs2
     | true=>rw[h2] at gs2;exact sO K x y hx hy hy0 (by omega) _ _ false true rfl gs1 gs2
    | true =>
     rw[h1] at gs1
     cases h2:(ew y).ble 9 with
     | false=>rw[h2] at gs2;exact sO K x y hx hy hy0 (by omega) _ _ true false rfl gs1 gs2
     | true =>
      rw[h2] at gs2
      have b1:=zf h1
      have b2:=zf h2
      have c1:=Int.mul_tdiv_add_tmod x y
      have c2:=Int.tmod_lt_of_pos x hy0
      have c3:=Int.lt_tmod_of_pos x hy0
      have c4:=Int.natAbs_tdiv_le_natAbs x y
      generalize hq:x.tdiv y=q at *
      generalize hr:x.tmod y=r at *
      by_cases hr0:r<0
      ·obtain⟨w1,w2⟩:=lJ (x:=x) (y:=y) (q:=q - 1) (r:=r+y) hy0 (by rw[Int.mul_sub,Int.mul_one];omega) (by omega) (by omega)
       rw[w1,w2]
       exact aax LT6 (runK (CC LT6) K) K _ _ _ _ x y q r (q - 1) (r+y) gs1 gs2 (by omega) (by omega) (by rw[hq];exact fi _ (by omega) (by omega)) hr hr0 (fi _ (by omega) (by omega)) (fi _ (by omega) (by omega)) (vF _ _ (by omega) (by omega)) (vF _ _ (by omega) (by omega))
      ·obtain⟨w1,w2⟩:=lJ (x:=x) (y:=y) (q:=q) (r:=r) hy0 (by omega) (by omega) (by omega)
       rw[w1,w2]
       exact aay LT6 (runK (CC LT6) K) K _ _ _ _ x y q r gs1 gs2 (by omega) (by omega) (by rw[hq];exact fi _ (by omega) (by omega)) hr hr0 (vF _ _ (by omega) (by omega)) (vF _ _ (by omega) (by omega))
   ·rw[decide_eq_false hy0] at h
    cases h
  ·cases h
 ·cases h
def LT7:Lst:=[(155,sQ),(121,ue)]
theorem ag2:dt base.P LT7:=⟨HQ,z6,trivial⟩
theorem KZ:bC LT7 155=fun a=>sQ (aK a):=rfl
theorem aa0:bC LT7 121=fun a=>ue (aK a):=rfl
def qR:Code:=f112.body.getD .skip
def Af:Code:=((f112.body).bind az).getD .skip
theorem TH(a b:ByteArray)(hv:eo .neq b { data:=#[48] } = some (.bool false))(h24:fr.length=24)(h5:nth fr 5 = .sc (.string a))(h6:nth fr 6 = .sc (.string b)) :
  ∃ fr',ae (CC L) run k Af ⟨fr,hp,wr⟩=some (.exit 0,⟨fr',hp,wr⟩)∧fr'.length=24∧nth fr' 5 = .sc (.string a):=by
 simp[Af,f112,az,h24,h5,h6,hv]
theorem aaB(a b q r:ByteArray)(hv:eo .neq b { data:=#[48] } = some (.bool true))(g:aA L run 121 [.sc (.string a),.sc (.string b)] (.tup [.sc (.string q),.sc (.string r)]))(h24:fr.length=24)(h5:nth fr 5 = .sc (.string a))(h6:nth fr 6 = .sc (.string b)) :
  ∃ fr',ae (CC L) run k Af ⟨fr,hp,wr⟩=some (.normal,⟨fr',hp,wr⟩)∧fr'.length=24∧nth fr' 5 = .sc (.string b)∧nth fr' 6 = .sc (.string r):=by
 unfold aA at g
 simp[Af,f112,az,h24,h5,h6,hv,g]
theorem Zm.aiA {x y:Nat}(h:Zm (y:Int))(hl:x≤y):Zm (x:Int):=by
 unfold Zm at *
 rw[gV] at *
 have h1:bw (x:Int)=false:=rfl
 have h2:bw (y:Int)=false:=rfl
 rw[h1]
 rw[h2] at h
 have h3:=ox (x:=(x:Int)) (y:=(y:Int)) (by simpa using hl)
 simp only[cond_false] at h ⊢
 omega
theorem acy (run:av)(x y:Nat)(hx:Zm (x:Int))(hy:Zm (y:Int))(h0:0<y):aA LT7 run 121 [zs (x:Int),zs (y:Int)] (.tup [zs ((x:Int) / (y:Int)),zs ((x % y:Nat):Int)]):=fun dr hp =>
 bq Df aa0 run dr hp _ [zs ((x:Int) / (y:Int)),zs ((x % y:Nat):Int)] rfl rfl (by
  have h1:(0:Int)<(y:Int):=by omega
  simp only[ue,cJ _ hx,cJ _ hy,decide_eq_true h1,cond_true]
  rfl)
theorem Ae (run:av)(k:Nat)(hp:Θ)(wr:Ω):∀ (n y x:Nat) (fr:Ψ),y<n→Zm (x:Int)→Zm (y:Int)→fr.length=24→nth fr 5=zs (x:Int)→nth fr 6=zs (y:Int) →
  ∃ fr',cg (ae (CC LT7) run k Af) n ⟨fr,hp,wr⟩=some (.exit 0,⟨fr',hp,wr⟩)∧fr'.length=24∧nth fr' 5=zs ((Nat.gcd x y:Nat):Int)
 | 0,y,x,fr,hn,_,_,_,_,_=>by omega
 | n+1,y,x,fr,hn,hx,hy,h24,h5,h6=>by
  have hv:=qZ (y:Int)
  by_cases h0:y=0
  ·subst h0
   obtain⟨fr',g1,g2,g3⟩:=TH LT7 run k fr hp wr _ _ hv h24 h5 h6
   exact⟨fr',br g1,g2,by rw[g3,Nat.gcd_zero_right];rfl⟩
  ·rw[decide_eq_false (by omega)] at hv
   obtain⟨fr1,g1,g2,g3,g4⟩:=aaB LT7 run k fr hp wr _ _ _ _ hv (acy run x y hx hy (by omega)) h24 h5 h6
   have hm:=Nat.mod_lt x (show 0<y by omega)
   obtain⟨fr',q1,q2,q3⟩:=Ae run k hp wr n (x % y) y fr1 (by omega) hy (hy.aiA (by omega)) g2 g3 g4
   refine⟨fr',by rw[bU g1];exact q1,q2,?_⟩
   rw[q3,Nat.gcd_comm y (x % y),← Nat.gcd_rec,Nat.gcd_comm]
theorem Ib:ai 2 qR = .seq (.block 0 (.loop Af)) (ai 3 qR):=rfl
theorem TG (L:Lst)(run:av)(k:Nat)(s t u v:ByteArray)(g1:aA L run 155 [.sc (.string s)] (.sc (.string u)))(g2:aA L run 155 [.sc (.string t)] (.sc (.string v))) :
  ∃ fr,bh (CC L) run k 2 qR ⟨entry 24 [.sc (.string s),.sc (.string t)],[],[]⟩=some ⟨fr,[],[]⟩∧fr.length=24∧nth fr 5 = .sc (.string u)∧nth fr 6 = .sc (.string v):=by
 obtain⟨e1,e2,e3⟩:=cb 22 (.sc (.string s)) (.sc (.string t))
 generalize entry 24 [.sc (.string s),.sc (.string t)]=fr0 at *
 unfold aA at *
 simp[qR,f112,bh,e1,e2,e3,g1,g2]
theorem NZ(a:ByteArray)(h24:fr.length=24)(h5:nth fr 5 = .sc (.string a)) :
  ∃ st,ae (CC L) run k (ai 3 qR) ⟨fr,hp,wr⟩=some (.ret,st)∧aY TT st.fr st.hp f112.results.toList=some [.sc (.string a)]:=by
 simp[qR,f112,h24,h5]
def ui:Ψ→Option Ψ
 | [p,q]=>match fL p,fL q with
  | some x,some y=>some [zs ((Nat.gcd x.natAbs y.natAbs:Nat):Int)]
  | _,_=>none
 | _=>none
theorem Zm.abs {x:Int}(h:Zm x):Zm (x.natAbs:Int):=by
 unfold Zm at *
 rw[gV] at *
 have h1:bw (x.natAbs:Int)=false:=rfl
 rw[h1]
 have h3:=ox (x:=(x.natAbs:Int)) (y:=x) (by simp)
 simp only[cond_false]
 omega
theorem Ad:Ab.Spec base.P 112 ui:=Ab.Spec.bL (C:=CC LT7) (cP ag2) fun args rs h=>by
 unfold ui at h
 split at h
 ·split at h
  ·rename_i x y ex ey
   obtain⟨rfl,hx⟩:=dj ex
   obtain⟨rfl,hy⟩:=dj ey
   simp only[OiE] at h
   subst h
   generalize hK:y.natAbs+1=K
   have g1:aA LT7 (runK (CC LT7) K) 155 [zs x] (zs (x.natAbs:Int)):=fun dr hp=>bq Dg KZ _ dr hp _ [zs (x.natAbs:Int)] rfl rfl (by simp only[sQ,cJ x hx];rfl)
   have g2:aA LT7 (runK (CC LT7) K) 155 [zs y] (zs (y.natAbs:Int)):=fun dr hp=>bq Dg KZ _ dr hp _ [zs (y.natAbs:Int)] rfl rfl (by simp only[sQ,cJ y hy];rfl)
   obtain⟨f1,a1,a2,a3,a4⟩:=TG LT7 (runK (CC LT7) K) K _ _ _ _ g1 g2
   obtain⟨f2,b1,b2,b3⟩:=Ae (runK (CC LT7) K) K [] [] K y.natAbs x.natAbs f1 (by omega) (Zm.abs hx) (Zm.abs hy) a2 a3 a4
   obtain⟨st,x1,x2⟩:=NZ LT7 (runK (CC LT7) K) K f2 [] [] _ b2 b3
   have h1:ae (CC LT7) (runK (CC LT7) K) K qR ⟨entry 24 [zs x,zs y],[],[]⟩=ae (CC LT7) (runK (CC LT7) K) K (ai 2 qR) ⟨f1,[],[]⟩:=aU 2 a1
   have hx':ae (CC LT7) (runK (CC LT7) K) K qR ⟨entry 24 [zs x,zs y],[],[]⟩=some (.ret,st):=by
    rw[h1,Ib,ao (bD b1)]
    exact x1
   exact⟨K+1,_,_,_,_,_,aZ JQ rfl hx' x2,rfl,Wk.refl rfl,trivial⟩
  ·cases h
 ·cases h
def spl (l:Ω):Ω × Ω × Bool:=match fK l with
 | some j=>(l.take j,l.drop (j+1),true)
 | none=>(l,[49],false)
theorem Q8 {l:Ω}(h:Bok l):Bok (spl l).1∧Bok (spl l).2.1:=by
 unfold spl
 split
 ·exact⟨h.take _,h.drop _⟩
 ·exact⟨h,Bok.nil.cons (by omega)⟩
theorem ve (l:Ω):(spl l).1.length≤l.length∧(spl l).2.1.length≤l.length+1:=by
 unfold spl
 split
 ·simp;omega
 ·simp
theorem GK (l:Ω)(h:Bok l)(h9:l.length<20000000):kx [.sc (.string (tx l))]=some [.sc (.string (tx (spl l).1)),.sc (.string (tx (spl l).2.1)),.sc (.bool (spl l).2.2)]:=by
 have hb:l.length.blt 20000000=true:=by rw[Nat.blt_eq];exact h9
 simp only[kx,jH h,hb,cond_true,spl]
 cases fK l <;> rfl
def LT8:Lst:=[(65,kx),(100,oM)]
theorem ag1:dt base.P LT8:=⟨oK,um,trivial⟩
theorem afr:bC LT8 65=fun a=>kx (aK a):=rfl
theorem Uq:bC LT8 100=fun a=>oM (aK a):=rfl
theorem agc(l:Ω)(h:Bok l)(h9:l.length<20000000):aA LT8 run 65 [.sc (.string (tx l))] (.tup [.sc (.string (tx (spl l).1)),.sc (.string (tx (spl l).2.1)),.sc (.bool (spl l).2.2)]):=fun dr hp =>
 bq jZ afr run dr hp _ [.sc (.string (tx (spl l).1)),.sc (.string (tx (spl l).2.1)),.sc (.bool (spl l).2.2)] rfl rfl (GK l h h9)
theorem Ff (run:av)(l:Ω)(h:Bok l)(h9:l.length<30000000):aA LT8 run 100 [.sc (.string (tx l))] (.sc (.bool (decide (1000<eQ l)))):=fun dr hp =>
 bq MP Uq run dr hp _ [.sc (.bool (decide (1000<eQ l)))] rfl rfl (by
  have hb:l.length.blt 100000000=true:=by rw[Nat.blt_eq];omega
  simp only[oM,jH h,hb,cond_true])
theorem DG(s a b:ByteArray)(sl u v:Bool)(g1:aA L run 65 [.sc (.string s)] (.tup [.sc (.string a),.sc (.string b),.sc (.bool sl)]))(g2:aA L run 100 [.sc (.string a)] (.sc (.bool u)))(g3:aA L run 100 [.sc (.string b)] (.sc (.bool v))) :
  ∃ st,ae (CC L) run k (f48.body.getD .skip) ⟨entry 18 [.sc (.string s)],[],[]⟩=some (.ret,st)∧aY TT st.fr st.hp f48.results.toList=some [.sc (.bool (u || v))]:=by
 obtain⟨e1,e2⟩:=cV 17 (.sc (.string s))
 generalize entry 18 [.sc (.string s)]=fr0 at *
 unfold aA at *
 cases u <;> simp[f48,e1,e2,g1,g2,g3,undef]
def Aw (l:Ω):Bool:=decide (1000<eQ (spl l).1) || decide (1000<eQ (spl l).2.1)
def oL:Ψ→Option Ψ
 | [.sc (.string s)]=>bif (bys s).length.blt 20000000 then some [.sc (.bool (Aw (bys s)))] else none
 | _=>none
theorem tS:Ab.Spec base.P 48 oL:=Ab.Spec.bL (C:=CC LT8) (cP ag1) fun args rs h=>by
 unfold oL at h
 split at h
 ·rename_i s
  cases hb:(bys s).length.blt 20000000 with
  | false=>rw[hb] at h;cases h
  | true =>
   rw[hb] at h
   simp only[cond_true,OiE] at h
   subst h
   rw[Nat.blt_eq] at hb
   have hok:=mK s
   obtain⟨h1,h2⟩:=Q8 hok
   obtain⟨h3,h4⟩:=ve (bys s)
   obtain⟨st,x1,x2⟩:=DG LT8 (runK (CC LT8) 1) 1 _ _ _ _ _ _ (agc _ (bys s) hok hb) (Ff _ _ h1 (by omega)) (Ff _ _ h2 (by omega))
   rw[im] at x1
   exact⟨2,_,_,_,_,_,aZ Gd rfl x1 x2,rfl,Wk.refl rfl,trivial⟩
 ·cases h
theorem Bo (n d:Int):spl (qtx n d)=(ztx n,ztx d, !decide (d=1)):=by
 unfold spl
 rw[O4]
 unfold qtx
 by_cases h:d=1
 ·subst h
  simp[Yn]
 ·simp[h]
def qs (n d:Int):PV:=.sc (.string (tx (qtx n d)))
def LT9:Lst:=[(65,kx),(120,nC),(69,mf),(112,ui),(121,ue)]
theorem XR:dt base.P LT9:=⟨oK,xa,pK,Ad,z6,trivial⟩
theorem afq:bC LT9 65=fun a=>kx (aK a):=rfl
theorem aaX:bC LT9 120=fun a=>nC (aK a):=rfl
theorem aaZ:bC LT9 69=fun a=>mf (aK a):=rfl
theorem aaY:bC LT9 112=fun a=>ui (aK a):=rfl
theorem aaW:bC LT9 121=fun a=>ue (aK a):=rfl
theorem aaE (n d:Int):(qtx n d).length≤(ztx n).length+(ztx d).length+1:=by
 unfold qtx
 split
 ·omega
 ·simp;omega
theorem GL (n d:Int)(hn:Zm n)(hd:Zm d):kx [qs n d]=some [zs n,zs d,.sc (.bool (!decide (d=1)))]:=by
 have h1:(ztx n).length≤3000000:=hn
 have h2:(ztx d).length≤3000000:=hd
 have h3:=aaE n d
 have:=GK (qtx n d) (Ij n d) (by omega)
 rw[Bo] at this
 exact this
theorem agb(n d:Int)(hn:Zm n)(hd:Zm d):aA LT9 run 65 [qs n d] (.tup [zs n,zs d,.sc (.bool (!decide (d=1)))]):=fun dr hp =>
 bq jZ afq run dr hp _ [zs n,zs d,.sc (.bool (!decide (d=1)))] rfl rfl (GL n d hn hd)
theorem B9(n:Int)(hn:Zm n):aA LT9 run 120 [zs n] (zs (-n)):=fun dr hp =>
 bq Dh aaX run dr hp _ [zs (-n)] rfl rfl (by simp only[nC,cJ n hn])
theorem ado (a b:Ω)(h:a.length+b.length<100000000):eo .add (tx a) (tx b)=some (.string (tx (a++b))):=by
 simp only[eo,dM]
 rw[if_neg (by omega)]
 simp[tx,fh]
theorem HC(n d m:Int)(hm9:(ztx m).length≤4000000)(hd9:(ztx d).length≤4000000)(g1:aA L run 65 [qs n d] (.tup [zs n,zs d,.sc (.bool (!decide (d=1)))]))(g2:aA L run 120 [zs n] (zs m)) :
  ∃ st,ae (CC L) run k (f122.body.getD .skip) ⟨entry 21 [qs n d],[],[]⟩=some (.ret,st)∧aY TT st.fr st.hp f122.results.toList=some [qs m d]:=by
 obtain⟨e1,e2⟩:=cV 20 (qs n d)
 generalize entry 21 [qs n d]=fr0 at *
 unfold aA at *
 have h47:({ data:=#[47] } : ByteArray)=tx [47]:=rfl
 have b1:=ado (ztx m) [47] (by simp;omega)
 have b2:=ado (ztx m++[47]) (ztx d) (by simp;omega)
 by_cases h:d=1
 ·subst h
  have hq:qtx m 1=ztx m:=rfl
  simp only[decide_true,Bool.not_true,qs,zs,hq] at *
  simp[f122,e1,e2,unP,g1,g2]
 ·have hq:qtx m d=(ztx m++[47])++ztx d:=by rw[qtx,if_neg h];simp
  rw[decide_eq_false h] at g1
  simp only[Bool.not_false,qs,zs,hq] at *
  simp[-List.append_assoc,f122,e1,e2,unP,g1,g2,h47,b1,b2]
def ky:Code:=f67.body.getD .skip
theorem SR (L:Lst)(run:av)(k:Nat)(a b:ByteArray)(c:Int)(hc : ¬ c<0)(g:aA L run 69 [.sc (.string b),.sc (.string { data:=#[48] })] (Ab.bJ c)) :
  ∃ fr,bh (CC L) run k 2 ky ⟨entry 37 [.sc (.string a),.sc (.string b)],[],[]⟩=some ⟨fr,[],[]⟩∧fr.length=37∧nth fr 0 = .sc (.string a)∧nth fr 1 = .sc (.string b):=by
 obtain⟨e1,e2,e3⟩:=cb 35 (.sc (.string a)) (.sc (.string b))
 generalize entry 37 [.sc (.string a),.sc (.string b)]=fr0 at *
 unfold aA at *
 simp only[Ab.bJ] at *
 simp[ky,f67,bh,e1,e2,e3,aw,bg,g,hc]
theorem SU (L:Lst)(run:av)(k:Nat)(a b a' b':ByteArray)(c:Int)(hc:c<0)(g:aA L run 69 [.sc (.string b),.sc (.string { data:=#[48] })] (Ab.bJ c))(g1:aA L run 120 [.sc (.string a)] (.sc (.string a')))(g2:aA L run 120 [.sc (.string b)] (.sc (.string b'))) :
  ∃ fr,bh (CC L) run k 2 ky ⟨entry 37 [.sc (.string a),.sc (.string b)],[],[]⟩=some ⟨fr,[],[]⟩∧fr.length=37∧nth fr 0 = .sc (.string a')∧nth fr 1 = .sc (.string b'):=by
 obtain⟨e1,e2,e3⟩:=cb 35 (.sc (.string a)) (.sc (.string b))
 generalize entry 37 [.sc (.string a),.sc (.string b)]=fr0 at *
 unfold aA at *
 simp only[Ab.bJ] at *
 simp[ky,f67,bh,e1,e2,e3,aw,bg,g,hc,g1,g2]
theorem SS(a b g:ByteArray)(hv:eo .neq g { data:=#[49] } = some (.bool false))(g1:aA L run 112 [.sc (.string a),.sc (.string b)] (.sc (.string g)))(h37:fr.length=37)(h0:nth fr 0 = .sc (.string a))(h1:nth fr 1 = .sc (.string b)) :
  ∃ fr',bh (CC L) run k 2 (ai 2 ky) ⟨fr,[],[]⟩=some ⟨fr',[],[]⟩∧fr'.length=37∧nth fr' 0 = .sc (.string a)∧nth fr' 1 = .sc (.string b):=by
 unfold aA at *
 simp[ky,f67,bh,h37,h0,h1,g1,hv]
theorem Ny(a b g a' b' x y:ByteArray)(hv:eo .neq g { data:=#[49] } = some (.bool true))(g1:aA L run 112 [.sc (.string a),.sc (.string b)] (.sc (.string g)))(g2:aA L run 121 [.sc (.string a),.sc (.string g)] (.tup [.sc (.string a'),.sc (.string x)]))(g3:aA L run 121 [.sc (.string b),.sc (.string g)] (.tup [.sc (.string b'),.sc (.string y)]))
  (h37:fr.length=37) (h0:nth fr 0 = .sc (.string a)) (h1:nth fr 1 = .sc (.string b)) :
  ∃ fr',bh (CC L) run k 2 (ai 2 ky) ⟨fr,[],[]⟩=some ⟨fr',[],[]⟩∧fr'.length=37∧nth fr' 0 = .sc (.string a')∧nth fr' 1 = .sc (.string b'):=by
 unfold aA at *
 simp[ky,f67,bh,h37,h0,h1,g1,g2,g3,hv]
theorem zp (z:Int):decide (bO (tx (ztx z))=bO (tx [49]))=decide (z=1):=by
 have:(bO (tx (ztx z))=bO (tx [49])) ↔ z=1:=by
  constructor
  ·intro h
   have h1:tx (ztx z)=tx [49]:=by rw[← gq (tx (ztx z)),h,gq]
   have h2:=(CZ (kO z) (Bok.nil.cons (by omega))).1 h1
   have h3:=cJ z (by rw[h2];decide)
   have h4:=cJ 1 (by decide)
   have:zs z=zs 1:=by unfold zs;rw[h2];rfl
   rw[this,h4] at h3
   exact (Option.some.inj h3).symm
  ·intro h;subst h;rfl
 simp only[this]
theorem abD (z:Int):eo .neq (tx (ztx z)) { data:=#[49] } = some (.bool (!decide (z=1))):=by
 have e:({ data:=#[49] } : ByteArray)=tx [49]:=rfl
 rw[e]
 simp only[eo,rC,zp]
theorem jl (z:Int):eo .eql (tx (ztx z)) { data:=#[49] } = some (.bool (decide (z=1))):=by
 have e:({ data:=#[49] } : ByteArray)=tx [49]:=rfl
 rw[e]
 simp only[eo,rC,zp]
theorem zQ(n d:Int)(hn9:(ztx n).length≤4000000)(hd9:(ztx d).length≤4000000)(h37:fr.length=37)(h0:nth fr 0=zs n)(h1:nth fr 1=zs d) :
  ∃ st,ae (CC L) run k (ai 4 ky) ⟨fr,[],[]⟩=some (.ret,st)∧aY TT st.fr st.hp f67.results.toList=some [qs n d]:=by
 have h47:({ data:=#[47] } : ByteArray)=tx [47]:=rfl
 have b1:=ado (ztx n) [47] (by simp;omega)
 have b2:=ado (ztx n++[47]) (ztx d) (by simp;omega)
 have hv:=jl d
 by_cases h:d=1
 ·subst h
  have hq:qtx n 1=ztx n:=rfl
  simp only[decide_true,qs,zs,hq] at *
  simp[ky,f67,h37,h0,h1,hv]
 ·have hq:qtx n d=(ztx n++[47])++ztx d:=by rw[qtx,if_neg h];simp
  rw[decide_eq_false h] at hv
  simp only[qs,zs,hq] at *
  simp[-List.append_assoc,ky,f67,h37,h0,h1,hv,h47,b1,b2]
theorem acx(x y:Int)(hx:Zm x)(hy:Zm y):aA LT9 run 69 [zs x,zs y] (Ab.bJ (fX x y)):=fun dr hp =>
 bq Dk aaZ run dr hp _ [Ab.bJ (fX x y)] rfl rfl (by simp only[mf,cJ x hx,cJ y hy])
theorem acw(x y:Int)(hx:Zm x)(hy:Zm y):aA LT9 run 112 [zs x,zs y] (zs ((Nat.gcd x.natAbs y.natAbs:Nat):Int)):=fun dr hp =>
 bq Di aaY run dr hp _ [zs ((Nat.gcd x.natAbs y.natAbs:Nat):Int)] rfl rfl (by simp only[ui,cJ x hx,cJ y hy])
theorem Lw(x y:Int)(hx:Zm x)(hy:Zm y)(h0:0<y):aA LT9 run 121 [zs x,zs y] (.tup [zs (x / y),zs (x % y)]):=fun dr hp =>
 bq Df aaW run dr hp _ [zs (x / y),zs (x % y)] rfl rfl (by simp only[ue,cJ x hx,cJ y hy,decide_eq_true h0,cond_true])
theorem zO(n d:Int)(hn:Zm n)(hd:Zm d)(hd0:0<d)(h37:fr.length=37)(h0:nth fr 0=zs n)(h1:nth fr 1=zs d) :
  ∃ st,ae (CC LT9) run k (ai 2 ky) ⟨fr,[],[]⟩=some (.ret,st)∧aY TT st.fr st.hp f67.results.toList=some [qs (n / (Nat.gcd n.natAbs d.natAbs:Nat)) (d / (Nat.gcd n.natAbs d.natAbs:Nat))]:=by
 have hgp:0<Nat.gcd n.natAbs d.natAbs:=Nat.gcd_pos_of_pos_right _ (by omega)
 have hgd:Nat.gcd n.natAbs d.natAbs≤d.natAbs:=Nat.gcd_le_right _ (by omega)
 have hg:=acw run n d hn hd
 have hgz:Zm ((Nat.gcd n.natAbs d.natAbs:Nat):Int):=Zm.aiA (Zm.abs hd) hgd
 have hv:=abD ((Nat.gcd n.natAbs d.natAbs:Nat):Int)
 generalize Nat.gcd n.natAbs d.natAbs=g at *
 have hn1:(ztx n).length≤3000000:=hn
 have hd1:(ztx d).length≤3000000:=hd
 by_cases h:(g:Int)=1
 ·rw[decide_eq_true h] at hv
  obtain⟨f1,a1,a2,a3,a4⟩:=SS LT9 run k fr _ _ _ hv hg h37 h0 h1
  obtain⟨st,x1,x2⟩:=zQ LT9 run k f1 n d (by omega) (by omega) a2 a3 a4
  refine⟨st,by rw[aU 2 a1];exact x1,?_⟩
  rw[x2,h,Int.ediv_one,Int.ediv_one]
 ·rw[decide_eq_false h] at hv
  have hg0:(0:Int)<(g:Int):=by omega
  have b:∀ z:Int,(ztx z).length≤3000000→(ztx (z / (g:Int))).length≤4000000:=by
   intro z hz
   rw[gV] at hz ⊢
   have:=ox (x:=z / (g:Int)) (y:=z) (by
    rcases Int.lt_or_le z 0 with h1 | h1
    ·have h2:z≤z / (g:Int):=by
      rw[Int.le_ediv_iff_mul_le hg0]
      have:(g:Int) ≥ 1:=by omega
      have:=Int.mul_le_mul_of_nonpos_left (a:=z) (b:=(g:Int)) (c:=1) (by omega) (by omega)
      omega
     have h3:z / (g:Int)≤0:=by
      rcases Int.lt_or_le 0 (z / (g:Int)) with h | h
      ·have:=(Int.le_ediv_iff_mul_le hg0).1 (show 1≤z / (g:Int) from h)
       omega
      ·exact h
     omega
    ·have h2:z / (g:Int)≤z:=Int.ediv_le_self _ h1
     have h3:0≤z / (g:Int):=Int.ediv_nonneg h1 (by omega)
     omega)
   cases bw (z / (g:Int)) <;> simp <;> omega
  obtain⟨f1,a1,a2,a3,a4⟩:=Ny LT9 run k fr _ _ _ _ _ _ _ hv hg (Lw run n g hn hgz hg0) (Lw run d g hd hgz hg0) h37 h0 h1
  obtain⟨st,x1,x2⟩:=zQ LT9 run k f1 (n / (g:Int)) (d / (g:Int)) (b n hn1) (b d hd1) a2 a3 a4
  exact⟨st,by rw[aU 2 a1];exact x1,x2⟩
end Go.Proofs.YtjdmodeenbdfpaaGreat
end
