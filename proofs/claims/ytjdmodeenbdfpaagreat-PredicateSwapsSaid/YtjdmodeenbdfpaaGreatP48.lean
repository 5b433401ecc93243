/- Contracts of the law and of what it calls, and facts about determinants, part 48 of the proof; each lemma states its own conditions. -/
import Derived.Test.YtjdmodeenbdfpaaGreatP47
import Derived.Test.YtjdmodeenbdfpaaGreatP45
import Derived.Below
import Derived.Test.YtjdmodeenbdfpaaGreatP36
import Derived.Carry
import Derived.OpenShut
import Derived.ChangeArms
import Derived.ChangeSlices
import Derived.DataReads
import Derived.WideShapes
import Derived.SizedLaws
set_option linter.unusedSimpArgs false
set_option linter.unusedVariables false
namespace Go.Proofs.YtjdmodeenbdfpaaGreat
open Go Go.Ab
theorem wG (N:Int)(D:Nat)(hD:0<D):Rat.divInt N D*(D:Rat)=(N:Rat):=by
 have:=Rat.divInt_mul_divInt N (D:Int) (d₁:=(D:Int)) (d₂:=1)
 have h3:(D:Rat)=Rat.divInt (D:Int) 1:=by
  have:=Rat.num_divInt_den ((D:Int):Rat)
  rw[Rat.num_intCast,Rat.den_intCast] at this
  exact this.symm
 rw[h3,this,Int.mul_one]
 have h4:Rat.divInt (N*(D:Int)) (D:Int)=Rat.divInt N 1:=by
  have hne:(D:Int)≠0:=by omega
  rw[Rat.divInt_eq_divInt_iff hne (by decide)]
  omega
 rw[h4]
 have:=Rat.num_divInt_den (N:Rat)
 rw[Rat.num_intCast,Rat.den_intCast] at this
 exact this
theorem ZS (x:Rat):x*(x.den:Rat)=(x.num:Rat):=by
 conv=>lhs;rw[← Rat.num_divInt_den x]
 have h:=wG x.num x.den x.den_pos
 rw[Rat.num_divInt_den] at h ⊢
 exact h
theorem Za {D:Nat}(hD:0<D):(D:Rat)≠0:=by
 intro e
 have h:((D:Int):Rat)=((0:Int):Rat):=e
 have:=Rat.intCast_inj.1 h
 omega
theorem Yy {x:Rat}{N:Int}{D:Nat}{p:Nat}(hD:0<D)(h:x*(D:Rat)=(N:Rat))(hN:Nb p N)(hDp:Nb p D):Rb p x:=by
 have hcross:x.num*(D:Int)=N*(x.den:Int):=by
  have h1:x=Rat.divInt N D:=by
   have h2:=wG N D hD
   have h5:(x - Rat.divInt N D)*(D:Rat)=0:=by grind
   rcases Rat.mul_eq_zero.1 h5 with h6 | h6
   ·grind
   ·exact absurd h6 (Za hD)
  have hx:=Rat.num_divInt_den x
  rw[h1] at hx ⊢
  exact (Rat.divInt_eq_divInt_iff (A0 _) (show (D:Int)≠0 by omega)).1 hx
 have hdvd:x.den ∣ D:=by
  have h1:x.den ∣ x.num.natAbs*D:=by
   have h2:(x.num*(D:Int)).natAbs=(N*(x.den:Int)).natAbs:=by rw[hcross]
   rw[Int.natAbs_mul,Int.natAbs_mul,Int.natAbs_natCast,Int.natAbs_natCast] at h2
   rw[h2]
   exact Nat.dvd_mul_left _ _
  exact Nat.Coprime.dvd_of_dvd_mul_left (Nat.Coprime.symm x.reduced) h1
 obtain⟨t,ht⟩:=hdvd
 have ht0:0<t:=by
  rcases Nat.eq_zero_or_pos t with e | e
  ·rw[e,Nat.mul_zero] at ht;omega
  ·exact e
 constructor
 ·have h1:x.num*(t:Int)=N:=by
   have h2:(x.num*(t:Int))*(x.den:Int)=N*(x.den:Int):=by
    rw[← hcross,ht]
    push_cast
    rw[Int.mul_assoc,Int.mul_comm (t:Int)]
   exact Int.eq_of_mul_eq_mul_right (A0 x) h2
  unfold Nb at *
  refine Nat.lt_of_le_of_lt ?_ hN
  rw[← h1,Int.natAbs_mul,Int.natAbs_natCast]
  exact Nat.le_mul_of_pos_right _ ht0
 ·unfold Nb at *
  rw[Int.natAbs_natCast] at *
  exact Nat.lt_of_le_of_lt (Nat.le_of_dvd hD ⟨t,ht⟩) hDp
theorem RQ (a b c d:Nat):((a*b*(c*d):Nat):Rat)=(a:Rat)*b*(c*d):=by
 rw[Rat.natCast_mul,Rat.natCast_mul,Rat.natCast_mul]
theorem aeD (a:Nat):((a:Int):Rat)=(a:Rat):=rfl
theorem Nb.sub {k:Nat}{x y:Int}(h:Nb k x)(h':Nb k y):Nb (k+1) (x - y):=by rw[Int.sub_eq_add_neg];exact h.add h'.neg
theorem Nb.mulN {j k:Nat}{a b:Nat}(h:Nb j a)(h':Nb k b):Nb (j+k) ((a*b:Nat):Int):=by rw[Int.natCast_mul];exact h.mul h'
theorem re (a b:Rat)(c d:Nat){k:Nat}(ha:Rb k a)(hb:Rb k b)(hc:Nb k c)(hd:Nb k d):∃ M:Int,(b - a)*((a.den*b.den*(c*d):Nat):Rat)=(M:Rat)∧Nb (4*k+1) M:=by
 refine⟨b.num*a.den*(c*d) - a.num*b.den*(c*d),?_,?_⟩
 ·have h1:=ZS a
  have h2:=ZS b
  rw[RQ]
  simp only[Rat.intCast_sub,Rat.intCast_mul,aeD]
  grind
 ·have h1:=(hb.1.mul ha.2).mul (hc.mul hd)
  have h2:=(ha.1.mul hb.2).mul (hc.mul hd)
  exact (h1.sub h2).mono (by omega)
theorem acC (a b c d:Rat){k:Nat}(ha:Rb k a)(hb:Rb k b)(hc:Rb k c)(hd:Rb k d):∃ (D:Nat) (M1 M2 M3:Int),0<D∧Nb (4*k) D∧Nb (4*k+1) M1∧Nb (4*k+1) M2∧Nb (4*k+1) M3∧(b - a)*(D:Rat)=(M1:Rat)∧(c - a)*(D:Rat)=(M2:Rat)∧(d - a)*(D:Rat)=(M3:Rat):=by
 obtain⟨M1,m1,n1⟩:=re a b c.den d.den ha hb hc.2 hd.2
 obtain⟨M2,m2,n2⟩:=re a c b.den d.den ha hc hb.2 hd.2
 obtain⟨M3,m3,n3⟩:=re a d b.den c.den ha hd hb.2 hc.2
 have e2:a.den*c.den*(b.den*d.den)=a.den*b.den*(c.den*d.den):=by ac_rfl
 have e3:a.den*d.den*(b.den*c.den)=a.den*b.den*(c.den*d.den):=by ac_rfl
 rw[e2] at m2
 rw[e3] at m3
 refine⟨a.den*b.den*(c.den*d.den),M1,M2,M3,?_,?_,n1,n2,n3,m1,m2,m3⟩
 ·exact Nat.mul_pos (Nat.mul_pos a.den_pos b.den_pos) (Nat.mul_pos c.den_pos d.den_pos)
 ·exact ((ha.2.mulN hb.2).mulN (hc.2.mulN hd.2)).mono (by omega)
theorem YW {a0 a1 a2 b0 b1 b2 c0 c1 c2 d0 d1 d2:Rat}{k:Nat}(h1:Rb k a0)(h2:Rb k a1)(h3:Rb k a2)(h4:Rb k b0)(h5:Rb k b1)(h6:Rb k b2)(h7:Rb k c0)(h8:Rb k c1)(h9:Rb k c2)(i1:Rb k d0)(i2:Rb k d1)(i3:Rb k d2) :
  Rb (12*k+7) ((b0 - a0)*((c1 - a1)*(d2 - a2) - (c2 - a2)*(d1 - a1)) - (b1 - a1)*((c0 - a0)*(d2 - a2) - (c2 - a2)*(d0 - a0))+(b2 - a2)*((c0 - a0)*(d1 - a1) - (c1 - a1)*(d0 - a0))):=by
 obtain⟨D0,B0,C0,E0,p0,q0,r0,s0,t0,u0,v0,w0⟩:=acC a0 b0 c0 d0 h1 h4 h7 i1
 obtain⟨D1,B1,C1,E1,p1,q1,r1,s1,t1,u1,v1,w1⟩:=acC a1 b1 c1 d1 h2 h5 h8 i2
 obtain⟨D2,B2,C2,E2,p2,q2,r2,s2,t2,u2,v2,w2⟩:=acC a2 b2 c2 d2 h3 h6 h9 i3
 generalize b0 - a0=x0 at *
 generalize b1 - a1=x1 at *
 generalize b2 - a2=x2 at *
 generalize c0 - a0=y0 at *
 generalize c1 - a1=y1 at *
 generalize c2 - a2=y2 at *
 generalize d0 - a0=z0 at *
 generalize d1 - a1=z1 at *
 generalize d2 - a2=z2 at *
 refine Yy (N:=B0*(C1*E2 - C2*E1) - B1*(C0*E2 - C2*E0)+B2*(C0*E1 - C1*E0)) (D:=D0*D1*D2) (Nat.mul_pos (Nat.mul_pos p0 p1) p2) ?_ ?_ ?_
 ·simp only[Rat.intCast_add,Rat.intCast_sub,Rat.intCast_mul,Rat.natCast_mul]
  rw[← u0,← v0,← w0,← u1,← v1,← w1,← u2,← v2,← w2]
  generalize (D0:Rat)=e0
  generalize (D1:Rat)=e1
  generalize (D2:Rat)=e2
  grind
 ·have f1:=r0.mul ((s1.mul t2).sub (s2.mul t1))
  have f2:=r1.mul ((s0.mul t2).sub (s2.mul t0))
  have f3:=r2.mul ((s0.mul t1).sub (s1.mul t0))
  exact ((f1.sub f2).add (f3.mono (by omega))).mono (by omega)
 ·exact ((q0.mulN q1).mulN q2).mono (by omega)
theorem toNat_ofNat (l:List Nat):(l.map Int.ofNat).map Int.toNat=l:=by
 rw[List.map_map]
 conv=>rhs;rw[← List.map_id l]
 exact List.map_congr_left fun x _=>rfl
theorem Cb (x:Rat):kB (-x) = - kB x:=by unfold kB;rw[Rat.neg_num,Int.sign_neg]
theorem Rw (m:Nat)(s:Int):Mi m (-s) = - Mi m s:=by unfold Mi;split <;> rfl
theorem Nd {c:List (List ByteArray)}{l:List Nat}(h:chk c=0)(hl:l.length=kj c+1)(hin:∀ i ∈ l,i<c.length):oB c (l.map Int.ofNat) ((kj c+1:Nat):Int)=0:=by
 unfold oB
 rw[if_neg (fun e=>e h),if_neg (by rw[List.length_map,hl];omega)]
 have:(l.map Int.ofNat).any (A6 c.length)=false:=by
  rw[List.any_eq_false]
  intro z hz
  obtain⟨i,hi,rfl⟩:=List.mem_map.1 hz
  have:=hin i hi
  unfold A6
  simp only[Bool.or_eq_true,decide_eq_true_eq,not_or]
  constructor
  ·exact Int.not_lt.2 (Int.natCast_nonneg i)
  ·show ¬ ((c.length:Int)≤(i:Int))
   omega
 rw[this];rfl
theorem zr {c:List (List ByteArray)}{l:List Nat}(h:chk c=0)(hl:l.length=kj c+1)(hin:∀ i ∈ l,i<c.length):ef c (l.map Int.ofNat)=(lU (eh (toX c) l),0):=by
 unfold ef
 rw[if_pos (Nd h hl hin),toNat_ofNat]
theorem tf {A:List Rat}{k:Nat}(hA:RbL (k+1) A)(i:Nat):Rb (k+1) (A.getD i 0):=by
 rw[List.getD_eq_getElem?_getD]
 cases h:A[i]? with
 | none=>exact Rb.zero k
 | some x=>exact hA x (List.mem_of_getElem? h)
theorem YV {c:List (List ByteArray)}{l:List Nat}(hF:qe c)(h:chk c=0)(hne:c≠[])(hl:l.length=hdL c+1)(hin:∀ i ∈ l,i<c.length):Rb 1000 (ic (eh (toX c) l)):=by
 obtain⟨q1,q2,q3,q4,q5⟩:=rm h hF
 have q3':=q3 hne
 have hinX:∀ i ∈ l,i<(toX c).length:=fun i hi=>by rw[q5];exact hin i hi
 have hdo:=wJ q2 hinX
 have hdl:(eh (toX c) l).length=hdL c:=by rw[rj,hl];omega
 by_cases h3:hdL c=3
 ·rw[h3] at hl
  obtain⟨a,b,c',d,rfl⟩:=abO hl
  have g:∀ i ∈ [a,b,c',d],((toX c).getD i []).length=3∧RbL 61 ((toX c).getD i []):=fun i hi=>by
   have hi2:=hinX i hi
   rw[List.getD_eq_getElem?_getD,List.getElem?_eq_getElem hi2]
   have:=q2 _ (List.getElem_mem hi2)
   rw[h3] at this
   exact this
  have ga:=g a (by simp)
  have gb:=g b (by simp)
  have gc:=g c' (by simp)
  have gd:=g d (by simp)
  simp only[eh,List.tail_cons,List.headD_cons,List.map_cons,List.map_nil,Ty]
  generalize (toX c).getD a []=A at *
  generalize (toX c).getD b []=B at *
  generalize (toX c).getD c' []=C at *
  generalize (toX c).getD d []=D at *
  simp only[cH (show B.length=A.length by omega),cH (show C.length=A.length by omega),cH (show D.length=A.length by omega)]
  exact (YW (k:=61) (tf ga.2 0) (tf ga.2 1) (tf ga.2 2) (tf gb.2 0) (tf gb.2 1) (tf gb.2 2) (tf gc.2 0) (tf gc.2 1) (tf gc.2 2) (tf gd.2 0) (tf gd.2 1) (tf gd.2 2)).mono (by omega)
 ·rw[← mI]
  unfold lU
  refine (wy (k:=123) (by omega) _ _ fun R hR=>(hdo R hR).2).mono ?_
  rw[hdl]
  have:hdL c=1∨hdL c=2:=by omega
  rcases this with h | h <;> rw[h] <;> decide
theorem aaz:Ux:=by
 intro c l x y q hF hck hne hin hl hx hy hxy hq
 obtain⟨q1,q2,q3,q4,q5⟩:=rm hck hF
 have q3':=q3 hne
 have hax:=tJ hck
 have hin2:=Vr hx hy hin
 have hl2:(swp l x y).length=hdL c+1:=by rw[tp,hl]
 have d1:=zr hck (by rw[hl,hax]) hin
 have d2:=zr hck (by rw[hl2,hax]) hin2
 have hm:hdL c=1∨hdL c=2∨hdL c=3:=by omega
 have hXl:∀ i,i<(toX c).length→((toX c).getD i []).length=hdL c:=fun i hi=>by
  rw[List.getD_eq_getElem?_getD,List.getElem?_eq_getElem hi]
  exact (q2 _ (List.getElem_mem hi)).1
 have hsw:=Hj hXl (l:=l) (fun i hi=>by rw[q5];exact hin i hi) hm hl hx hy hxy
 have v1:vv (ef c (l.map Int.ofNat)).1=ic (eh (toX c) l):=by rw[d1];exact mI _
 have v2:vv (ef c ((swp l x y).map Int.ofNat)).1=ic (eh (toX c) (swp l x y)):=by rw[d2];exact mI _
 have v3:vv (ef c ((swp l x y).map Int.ofNat)).1 = - vv (ef c (l.map Int.ofNat)).1:=by rw[v1,v2,hsw]
 have e1:(ef c (l.map Int.ofNat)).2=0:=by rw[d1]
 have e2:(ef c ((swp l x y).map Int.ofNat)).2=0:=by rw[d2]
 refine⟨e1,e2,by rw[v1];exact YV hF hck hne hl hin,v3,?_⟩
 have o1:tc c ((swp l x y).map Int.ofNat) = - tc c (l.map Int.ofNat):=by unfold tc;rw[v3,Cb]
 have hr : ¬ ((q:Int)<0∨(c.length:Int)≤(q:Int)):=by omega
 have hz : ¬ ((0:Nat)≠0):=by simp
 unfold oY
 rw[e1,e2,if_neg hz,if_neg hr,if_neg hz,if_neg hr,o1]
 by_cases h0:tc c (l.map Int.ofNat)=0
 ·rw[if_pos h0,if_pos (by omega)]
 ·rw[if_neg h0,if_neg (by omega),toNat_ofNat,toNat_ofNat,mI,mI,Int.toNat_natCast,KY _ hm hl hx hy hxy,Cb,Rw,Int.neg_mul_neg]
end Go.Proofs.YtjdmodeenbdfpaaGreat
namespace Go.Ab
open Go Go.RowKit
end Go.Ab
namespace Go.Ab
open Go Go.RowKit
def NoM:Nat→Prop:=fun _=>False
def Rdg {α:Type}(P:Program)(t:TypeId)(e:α→PV)(ok:α→Prop):Prop :=
 ∀ (H:Type) (enc:TypeId × Value→H) (W:World) (fuel:Nat) (cs:List Value) (x:DataW H × List MemPlace),DataW.trod enc P W 0 (fun _=>true) true fuel t cs=some x→(∀ n ∈ DataW.weights P t x.1,n≤reachBytes)→∃ a v,cs=[v]∧ok a∧V W NoM [] NoL (e a) v
theorem FI {P:Program}{t:TypeId}(ht:P.underlying t=some .string):Rdg P t (fun s=>.sc (.string s)) (fun s=>s.size≤reachBytes):=fun H enc W fuel cs x h hw=>by
 obtain⟨s,h1,rfl,-⟩:=DataW.trod_string ht h
 refine⟨s,_,h1,hw s.size ?_,.sc _⟩
 simp only[DataW.weights,List.mem_singleton]
 rfl
theorem FH {P:Program}{t:TypeId}(ht:P.underlying t=some (.int .u8)):Rdg P t u8v (· < 256):=fun H enc W fuel cs x h _=>by
 obtain⟨n,h1,-,h2⟩:=DataW.trod_int ht h
 have hb:=bounds_u8 h2
 refine⟨n.toNat,_,h1,by omega,?_⟩
 have:u8v n.toNat = .sc (.int .u8 n):=by unfold u8v;rw[Int.toNat_of_nonneg hb.1]
 rw[this]
 exact .sc _
theorem G7 {α:Type}(Q:Nat→α→Prop):∀ (n:Nat),(∀ i,i<n→∃ a,Q i a)→∃ l:List α,l.length=n∧∀ i a,l[i]?=some a→Q i a
 | 0,_=>⟨[],rfl,by simp⟩
 | n+1,h=>by
  obtain⟨l,h1,h2⟩:=G7 Q n fun i hi=>h i (by omega)
  obtain⟨a,ha⟩:=h n (by omega)
  refine⟨l++[a],by simp[h1],fun i b hb => ?_⟩
  rcases Nat.lt_or_ge i l.length with hi | hi
  ·rw[List.getElem?_append_left hi] at hb;exact h2 i b hb
  ·rw[List.getElem?_append_right hi] at hb
   cases hj:i - l.length with
   | zero =>
    rw[hj] at hb
    cases hb
    have:i=n:=by omega
    rw[this]
    exact ha
   | succ j=>rw[hj] at hb;simp at hb
theorem lY {H:Type}{P:Program}{e:TypeId}{m:Nat} : ∀ {l:List (DataW H)} {i:Nat} {d:DataW H},l[i]?=some d→m ∈ DataW.weights P e d→m ∈ DataW.weightsAll P e l
 | [],i,d,h,_=>by simp at h
 | a::r,0,d,h,hm=>by
  cases h
  rw[DataW.weightsAll]
  exact List.mem_append_left _ hm
 | a::r,i+1,d,h,hm=>by
  rw[DataW.weightsAll]
  exact List.mem_append_right _ (lY (by simpa using h) hm)
theorem yg {α:Type}{P:Program}{t te:TypeId}{e:α→PV}{ok:α→Prop}(ht:P.underlying t=some (.slice te))(hs:P.cellsOf te=1)(hb:1≤P.bytesOf te)(hi:∀ a,(e a).ct=true)(h:Rdg P te e ok) :
  Rdg P t (fun l:List α=>.imm l.length false (l.map e)) (fun l=>l.length≤reachBytes∧∀ a ∈ l,ok a):=fun H enc W fuel cs x hx hw=>by
 rcases DataW.trod_slice ht hx with ⟨h1,-⟩| ⟨a,len,cap,elems,rest,n,-,h1,rfl,-,h3,h4,h5,h6,-,-⟩
 ·exact⟨[],_,h1,⟨Nat.zero_le _,by simp⟩,.nil _⟩
 ·have hw1:∀ (i:Nat) (hi:i<elems.length),∀ m ∈ DataW.weights P te (elems[i]).1,m≤reachBytes:=fun i hi m hm=>by
   refine hw m ?_
   simp only[DataW.weights,ht]
   refine List.mem_cons_of_mem _ (List.mem_append_left _ (lY (i:=i) (d:=(elems[i]).1) ?_ hm))
   rw[List.getElem?_map,List.getElem?_eq_getElem hi];rfl
  have hw2:len≤reachBytes:=by
   have:=hw ((elems.length+rest.length)*P.bytesOf te) (by simp only[DataW.weights,ht,List.length_map];exact List.mem_cons_self)
   refine Nat.le_trans ?_ this
   exact Nat.le_trans (by omega) (Nat.le_mul_of_pos_right _ hb)
  have hq:∀ i,i<len→∃ y,ok y∧a.spot=none∧∃ v,W.cell? ⟨a.block,a.off+i,none⟩=some v∧V W NoM [] NoL (e y) v:=fun i hil=>by
   have h7:=h6 i hil
   rw[List.getElem?_eq_getElem (by omega),Option.bind_eq_some_iff,hs,Nat.mul_one] at h7
   obtain⟨cs,h8,h9⟩:=h7
   obtain⟨y,v,h10,h11,h12⟩:=h H enc W n cs _ h9 (hw1 i (by omega))
   rw[h10] at h8
   have h13:=ChangeShapes.cell_of_cells?_one h8
   have h14:a.spot=none:=by
    rcases Nat.eq_zero_or_pos len with h0 | h0
    ·omega
    ·have h7:=h6 0 h0
     rw[List.getElem?_eq_getElem (by omega),Option.bind_eq_some_iff,hs,Nat.mul_one] at h7
     obtain⟨cs',h8',h9'⟩:=h7
     obtain⟨y',v',h10',-,-⟩:=h H enc W n cs' _ h9' (hw1 0 (by omega))
     rw[h10'] at h8'
     exact World.cell?_spot (ChangeShapes.cell_of_cells?_one h8')
   refine⟨y,h11,h14,v,?_,h12⟩
   rw[← h13]
   unfold Addr.add
   split
   ·rename_i h0;rw[h0];cases a;simp_all
   ·rfl
  obtain⟨l,hl,hg⟩:=G7 _ len hq
  subst hl
  have hk:∀ (k:Nat) c,(l.map e)[k]?=some c→∃ y,l[k]?=some y∧c=e y:=fun k c hc=>by
   rw[List.getElem?_map,Option.map_eq_some_iff] at hc
   obtain⟨y,h7,h8⟩:=hc
   exact⟨y,h7,h8.symm⟩
  refine⟨l,_,h1,⟨hw2,fun y hy => ?_⟩,.imm l.length false _ a cap (fun k=>(W.cell? ⟨a.block,a.off+k,none⟩).getD default) h3 nofun (fun k c hc => ?_) (fun k c hc => ?_)⟩
  ·obtain⟨i,hi1,hi2⟩:=List.mem_iff_getElem.mp hy
   exact (hg i y (by rw[List.getElem?_eq_getElem hi1,hi2])).1
  ·obtain⟨y,h7,rfl⟩:=hk k c hc
   obtain⟨-,h9,v,h10,-⟩:=hg k y h7
   exact⟨h9,hi y,fun hf=>hf,by simp[h10]⟩
  ·obtain⟨y,h7,rfl⟩:=hk k c hc
   obtain⟨-,h9,v,h10,h11⟩:=hg k y h7
   simp only[h10,Option.getD_some]
   exact h11
theorem Lc {α H:Type}{enc:TypeId × Value→H}{P:Program}{W:World}{t te:TypeId}{e:α→PV}{ok:α→Prop}{n fuel:Nat}{cs:Array Value}{x:DataW H × List MemPlace}(ht:P.underlying t=some (.array n te))(hs:P.cellsOf te=1)(hn:P.cellsOf t=n)(h:Rdg P te e ok)
  (hx:DataW.trod enc P W 0 (fun _=>true) true fuel t cs.toList=some x) (hw:∀ n ∈ DataW.weights P t x.1,n≤reachBytes):∃ l:List α,l.length=n∧(∀ a ∈ l,ok a)∧V W NoM [] NoL (.agg (l.map e)) (.agg cs):=by
 obtain⟨xs,m,-,rfl,h2,h3,h4⟩:=DataW.trod_array ht hx
 have hq:∀ i,i<n→∃ y,ok y∧∃ v,cs.toList[i]?=some v∧V W NoM [] NoL (e y) v:=fun i hi=>by
  have h5:=h4 i hi
  rw[List.getElem?_eq_getElem (by omega),hs,Nat.mul_one,List.drop_eq_getElem_cons (by omega)] at h5
  obtain⟨y,v,h6,h7,h8⟩:=h H enc W m _ _ h5 fun m hm=>hw m (by
   simp only[DataW.weights,ht]
   refine lY (i:=i) (d:=(xs[i]).1) ?_ hm
   rw[List.getElem?_map,List.getElem?_eq_getElem (by omega)];rfl)
  simp only[List.take_succ_cons,List.take_zero,List.cons.injEq,and_true] at h6
  exact⟨y,h7,v,by rw[List.getElem?_eq_getElem (by omega),h6],h8⟩
 obtain⟨l,hl,hg⟩:=G7 _ n hq
 refine⟨l,hl,fun y hy => ?_,.agg _ _ (by rw[List.length_map];rw[Array.length_toList] at h2;omega) fun k c v hc hv => ?_⟩
 ·obtain⟨i,hi1,hi2⟩:=List.mem_iff_getElem.mp hy
  exact (hg i y (by rw[List.getElem?_eq_getElem hi1,hi2])).1
 ·rw[List.getElem?_map,Option.map_eq_some_iff] at hc
  obtain⟨y,h7,rfl⟩:=hc
  obtain⟨-,v',h9,h10⟩:=hg k y h7
  rw[Array.getElem?_toList,hv] at h9
  cases h9
  exact h10
theorem Ao {α H:Type}{enc:TypeId × Value→H}{P:Program}{W:World}{t:TypeId}{e:α→PV}{ok:α→Prop}{v:Value}{d:DataW H}{ps:List MemPlace}(h:Rdg P t e ok)(hv:v.cells.toList=[v])(hx:DataW.Trod enc P W 0 (fun _=>true) true t v d ps)(hw:∀ n ∈ DataW.weights P t d,n≤reachBytes):∃ a,ok a∧V W NoM [] NoL (e a) v:=by
 obtain⟨fuel,hf⟩:=hx
 rw[hv] at hf
 obtain⟨a,u,h1,h2,h3⟩:=h H enc W fuel _ _ hf hw
 cases h1
 exact⟨a,h2,h3⟩
theorem wts {H:Type}{P:Program}{ts:List TypeId}{ds:List (DataW H)}(h:(DataW.weightsEach P ts ds).all (· ≤ reachBytes)=true)(j:Nat){t:TypeId}{d:DataW H}(ht:ts[j]?=some t)(hd:ds[j]?=some d):∀ n ∈ DataW.weights P t d,n≤reachBytes:=fun n hn=>by
 have:=List.all_eq_true.mp h n (DataW.weights_mem_each ht hd n hn)
 simpa using this
theorem xA {P:Program}{g:FuncId}(he:∀ (args:Array Value)(w:World),(callFunc g args).run P w = .ok (.enter g args) w){f:List PV→Option (List PV)}(h:Spec P g f){ws:List PV}(hf:f ws=some [.sc (.bool true)])(hi:bK ws=true){W:World}{vs:List Value}(hv:Vs W NoM [] NoL ws vs) :
  Calls P g vs.toArray W fun e w'=>e = .returned (.bool true)∧Below W.heap.size W w':=by
 obtain⟨-,h2⟩:=h ws _ hf hi
 have h3:=h2 W NoM vs (fun _ hf=>hf.elim) hv
 unfold iy at h3
 rw[he] at h3
 refine h3.mono fun e w' hh => ?_
 obtain⟨v,rfl,us,rfl,hv,ho⟩:=hh
 obtain⟨h4,h5⟩:=hv
 match us,h4 with
 | [u],_ =>
  have e1:=h5 0 _ u rfl rfl
  cases e1
  exact⟨rfl,ho.os,ho.tape,ho.output,ho.size,ho.same⟩
theorem vs4 {W:World}{M:Nat→Prop}{σ:List Addr}{L:Nat→Prop}{a b c d:PV}{v0 v1 v2 v3:Value}(h0:V W M σ L a v0)(h1:V W M σ L b v1)(h2:V W M σ L c v2)(h3:V W M σ L d v3):Vs W M σ L [a,b,c,d] [v0,v1,v2,v3] :=
 ⟨rfl,fun k p v hp hv=>by
  match k,hp,hv with
  | 0,hp,hv=>cases hp;cases hv;exact h0
  | 1,hp,hv=>cases hp;cases hv;exact h1
  | 2,hp,hv=>cases hp;cases hv;exact h2
  | 3,hp,hv=>cases hp;cases hv;exact h3⟩
end Go.Ab
