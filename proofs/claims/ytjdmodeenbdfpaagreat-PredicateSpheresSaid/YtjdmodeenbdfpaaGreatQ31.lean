/- Contracts of numbers kept as digits in text, part 31 of the proof; each lemma states its own conditions. -/
import Derived.Test.YtjdmodeenbdfpaaGreatQ30
set_option linter.unusedSimpArgs false
set_option linter.unusedVariables false
namespace Go.Proofs.YtjdmodeenbdfpaaGreat
open Go Go.Ab
noncomputable def yJ:Code:=((Tryz.f116.body).bind aF).getD .skip
noncomputable def gQ:Code:=Tryz.f116.body.getD .skip
theorem pc:und TT 43=some (.slice 5):=by kernel_rfl
theorem sU8:cR TT 5=some 1:=by kernel_rfl
theorem bU8:gh TT 5=some 1:=by kernel_rfl
theorem zU8:dV TT 5=some [u8v 0]:=by kernel_rfl
theorem JF (n:Nat):eY TT 43 1 [(0,.sc (.int .u8 (n:Int)))]=some (1,[u8v n]):=acE pc sU8 zU8 n
theorem QL (L:Lst)(run:aq)(k:Nat)(fr:List PV)(hp:List Blk)(wr:List Nat)(h34:fr.length=34)(h6:nth fr 6 = .sc (.int .i64 (-1))) :
  ∃ fr',af (CC L) run k yJ ⟨fr,hp,wr⟩=some (.exit 0,⟨fr',hp,wr⟩)∧fr'.length=34∧nth fr' 5=nth fr 5:=by
 simp[yJ,Tryz.f116,aF,af,aH,an,ao,aG,ag,ai,aj,ak,aC,az,FP.none,aY,au,bf,av,aa,ae,ab,h34,h6]
set_option maxHeartbeats 1000000 in
theorem Gk (L:Lst)(run:aq)(k:Nat)(fr:List PV)(hp:List Blk)(wr:List Nat)(t out:List Nat)(i:Nat)(ht:T.Dok t)(hi:i<t.length)(hi9:t.length<20000000)(ho9:out.length<20000001)(h34:fr.length=34)(h1:nth fr 1=bw t)(h6:nth fr 6=iv i)(hO:dk u8v 0 hp out (nth fr 5)) :
  ∃ fr' hp' wr',af (CC L) run k yJ ⟨fr,hp,wr⟩=some (.normal,⟨fr',hp',wr'⟩)∧fr'.length=34∧nth fr' 1=bw t∧dk u8v 0 hp' (out++[at0 t i+48]) (nth fr' 5)∧nth fr' 6 = .sc (.int .i64 ((i:Int) - 1)):=by
 have hda:=fz t i hi
 have hd9:=T.cj ht i
 generalize at0 t i=d at *
 obtain⟨b,hb⟩:∃ b,b=d+48:=⟨_,rfl⟩
 rw[← hb]
 obtain⟨p',hp',fp,g1,g2,-⟩:=hO.app b (by omega)
 have hw:=cK i (by omega)
 have hw1:bA .i64 (48+(d:Int))=(b:Int):=by rw[show (48+(d:Int))=(b:Int) by omega];exact ch .i64 b (hiI (by omega))
 have hw2:bA .u8 (b:Int)=(b:Int):=ch .u8 b (show b≤255 by omega)
 have hlX:=JF b
 have e1:bw t = .imm t.length false (t.map iv):=rfl
 rw[e1] at h1 ⊢
 simp only[iv] at h6
 simp[yJ,Tryz.f116,aF,af,aH,an,ao,aG,ag,ai,aj,ak,aC,az,FP.none,aY,au,bf,av,bg,bk,partOf,aa,ae,ab,bh,and_assoc,bc,kS,h34,h1,h6,hi,hda,aU,uL,uI,sI,aI,u8T,dy,hw,hw1,hw2,hlX,Jc,rI,pc,sU8,bU8,zU8,bZ,g1,g2]
theorem yI (L:Lst)(run:aq)(k:Nat)(t pre:List Nat)(ht:T.Dok t)(h9:t.length<10000000)(hp9:pre.length≤1):∀ (n:Nat) (fr:List PV) (hp:List Blk) (wr:List Nat) (out:List Nat),n≤t.length →
  fr.length=34→nth fr 1=bw t→nth fr 6 = .sc (.int .i64 ((n:Int) - 1))→dk u8v 0 hp out (nth fr 5)→out=pre++(t.drop n).reverse.map (· + 48) →
  ∃ (fr':List PV) (hp':List Blk) (wr':List Nat),ca (af (CC L) run k yJ) (n+1) ⟨fr,hp,wr⟩=some (.exit 0,⟨fr',hp',wr'⟩)∧fr'.length=34∧dk u8v 0 hp' (pre++t.reverse.map (· + 48)) (nth fr' 5)
 | 0,fr,hp,wr,out,hn,h34,h1,h6,hO,ho=>by
  obtain⟨fr',q1,q2,q3⟩:=QL L run k fr hp wr h34 (by rw[h6];rfl)
  refine⟨fr',hp,wr,bz q1,q2,?_⟩
  rw[q3]
  rw[List.drop_zero] at ho
  rw[← ho];exact hO
 | n+1,fr,hp,wr,out,hn,h34,h1,h6,hO,ho=>by
  have h6':nth fr 6=iv n:=by rw[h6];simp[iv]
  obtain⟨fr1,hp1,wr1,g1,g2,g3,g4,g5⟩:=Gk L run k fr hp wr t out n ht (by omega) (by omega) (by rw[ho];simp;omega) h34 h1 h6' hO
  obtain⟨fr',hp',wr',q1,q2,q3⟩:=yI L run k t pre ht h9 hp9 n fr1 hp1 wr1 _ (by omega) g2 g3 g5 g4 (by
   rw[ho,List.drop_eq_getElem_cons (show n<t.length by omega),cY (show n<t.length by omega),List.reverse_cons,List.map_append]
   simp only[List.map_cons,List.map_nil,List.append_assoc])
  exact⟨fr',hp',wr',by rw[bU g1];exact q1,q2,q3⟩
noncomputable def AP:Code:=seq1 (ah 4 gQ)
noncomputable def Gl:Code:=seq1 (seq1 (ah 5 gQ))
theorem CQ:ah 4 gQ = .seq AP (ah 5 gQ):=rfl
theorem CP:ah 5 gQ = .seq (.seq Gl (.block 0 (.loop yJ))) (ah 6 gQ):=rfl
theorem EB (run:aq)(dr:Bool)(hp:List Blk)(l:List Nat)(hd:T.Dok l)(hl:l.length<10000000):cb (CC LT1) run dr hp 156 [bw l]=some (bw (T.aA (T.val l)),hp,⟨[],[],false,false⟩) :=
 bp kN v8 run dr hp _ [bw (T.aA (T.val l))] (oD hp l) (by simp only[aJ,oS]) (by simp only[ig,dK hd hl,T.eC hd])
theorem QJ (run:aq)(k:Nat)(m:Bool)(l t:List Nat)(hc:∀ hp,cb (CC LT1) run false hp 156 [bw l]=some (bw t,hp,⟨[],[],false,false⟩)) :
  ∃ fr,aX (CC LT1) run k 2 gQ ⟨entry 34 [.sc (.bool m),bw l],[],[]⟩=some ⟨fr,[],[]⟩∧fr.length=34∧nth fr 0 = .sc (.bool m)∧nth fr 1=bw t:=by
 obtain⟨e1,e2,e3⟩:=cn 32 (.sc (.bool m)) (bw l)
 generalize entry 34 [.sc (.bool m),bw l]=fr0 at *
 simp[gQ,Tryz.f116,aX,e1,e2,e3,af,aH,an,ao,aG,ag,ai,aO,aj,ak,aC,az,FP.none,av,aa,ae,ab,hc]
theorem LQ (L:Lst)(run:aq)(k:Nat)(fr:List PV)(hp:List Blk)(wr:List Nat)(h34:fr.length=34)(h1:nth fr 1=bw []) :
  ∃ st,af (CC L) run k (ah 2 gQ) ⟨fr,hp,wr⟩=some (.ret,st)∧aV TT st.fr st.hp Tryz.f116.results.toList=some [.sc (.string (tx [48]))]:=by
 have:(tx [48])={ data:=#[48] } := rfl
 rw[this]
 simp[gQ,ah,Tryz.f116,af,aH,an,ao,aG,ag,ai,aj,ak,aC,az,FP.none,aY,au,bf,av,bK,aa,ab,bh,dH,h34,h1,uL,aV]
theorem QK (L:Lst)(run:aq)(k:Nat)(fr:List PV)(hp:List Blk)(wr:List Nat)(m:Bool)(t:List Nat)(ht:0<t.length)(h34:fr.length=34)(h0:nth fr 0 = .sc (.bool m))(h1:nth fr 1=bw t) :
  ∃ fr',aX (CC L) run k 2 (ah 2 gQ) ⟨fr,hp,wr⟩=some ⟨fr',hp,wr⟩∧fr'.length=34∧nth fr' 0 = .sc (.bool m)∧nth fr' 1=bw t∧nth fr' 5 = .sc (.slice none 0 0):=by
 have h:((t.length:Int) == 0)=false:=by rw[beq_eq_false_iff_ne];omega
 have h2 : ¬ (t.length=0):=by omega
 have h3:t≠[]:=by intro e;subst e;simp at ht
 simp[gQ,ah,Tryz.f116,aX,af,aH,an,ao,aG,ag,ai,aj,ak,aC,az,FP.none,aY,au,bf,av,bK,aa,ae,ab,bh,dH,h34,h0,h1,uL,h]
theorem W4 (L:Lst)(run:aq)(k:Nat)(fr:List PV)(m:Bool)(t:List Nat)(h34:fr.length=34)(h0:nth fr 0 = .sc (.bool m))(h1:nth fr 1=bw t)(h5:nth fr 5 = .sc (.slice none 0 0)) :
  ∃ fr' hp' wr',af (CC L) run k AP ⟨fr,[],[]⟩=some (.normal,⟨fr',hp',wr'⟩)∧fr'.length=34∧nth fr' 1=bw t∧dk u8v 0 hp' (bif m then [45] else []) (nth fr' 5):=by
 cases m with
 | false =>
  have hO:dk u8v 0 [] [] (.sc (.slice none 0 0)):=dk.nil (Nat.le_refl _)
  simp[AP,gQ,ah,seq1,Tryz.f116,af,aH,an,ao,aG,ag,ai,aj,ak,aC,az,FP.none,aa,ae,ab,and_assoc,h34,h0,h1,h5,hO]
 | true =>
  obtain⟨p',hp',fp,g1,g2,-⟩:=(dk.nil (e:=u8v) (b:=0) (hp:=[]) (Nat.le_refl _)).app 45 (by simp)
  rw[List.nil_append] at g2
  have hlX:eY TT 43 1 [(0,.sc (.int .u8 45))]=some (1,[u8v 45]):=JF 45
  simp[AP,gQ,ah,seq1,Tryz.f116,af,aH,an,ao,aG,ag,ai,aj,ak,aC,az,FP.none,av,aa,ae,ab,bh,and_assoc,bc,kS,h34,h0,h1,h5,hlX,Jc,rI,pc,sU8,bU8,zU8,bZ,g1,g2]
theorem W3 (L:Lst)(run:aq)(k:Nat)(fr:List PV)(hp:List Blk)(wr:List Nat)(t:List Nat)(ht:t.length<20000000)(h34:fr.length=34)(h1:nth fr 1=bw t) :
  ∃ fr',af (CC L) run k Gl ⟨fr,hp,wr⟩=some (.normal,⟨fr',hp,wr⟩)∧fr'.length=34∧nth fr' 1=bw t∧nth fr' 5=nth fr 5∧nth fr' 6 = .sc (.int .i64 ((t.length:Int) - 1)):=by
 have hw:=cK t.length (by omega)
 simp[Gl,gQ,ah,seq1,Tryz.f116,af,aH,an,ao,aG,ag,ai,aj,ak,aC,az,FP.none,aY,au,bf,av,bK,aa,ae,ab,bh,dH,h34,h1,uL,hw]
theorem LR (L:Lst)(run:aq)(k:Nat)(fr:List PV)(hp:List Blk)(wr:List Nat)(l:List Nat)(hl:Bok l)(h34:fr.length=34)(hO:dk u8v 0 hp l (nth fr 5)) :
  ∃ st,af (CC L) run k (ah 6 gQ) ⟨fr,hp,wr⟩=some (.ret,st)∧aV TT st.fr st.hp Tryz.f116.results.toList=some [.sc (.string (tx l))]:=by
 obtain⟨ids,h1⟩:=hO.s.rd
 have h2:=EH hl
 have hcv:dy TT hp 43 94 (nth fr 5)=some (.sc (.string (tx l)),ids):=by
  have h3:tx l=mkStr (l.map UInt8.ofNat):=rfl
  rw[h3]
  obtain⟨-,h⟩:=hO
  rcases h with ⟨rfl,h⟩| ⟨id,m,-,-,h,-⟩
  ·rw[h] at h1 ⊢
   simp only[dy,pc,uAI,u8T,h1,h2]
  ·rw[h] at h1 ⊢
   simp only[dy,pc,uAI,u8T,h1,h2]
 simp[gQ,ah,Tryz.f116,af,aH,an,ao,aG,ag,ai,aj,ak,aC,az,FP.none,aa,ab,bh,h34,hcv,aV]
def l6:List PV→Option (List PV)
 | [.sc (.bool m),p]=>match ma p with
  | some l=>some [.sc (.string (tx (itx m (T.val l))))]
  | none=>none
 | _=>none
theorem Jn (hp:List Blk)(s:ByteArray):bq (snap hp bj) [.sc (.string s)]=some ([.sc (.string s)],[]):=rfl
theorem ra:Ab.Spec base.P 116 l6:=Ab.Spec.bN (C:=CC LT1) (cU Ia) fun args rs h=>by
 unfold l6 at h
 split at h
 ·split at h
  ·rename_i m p _ l e
   obtain⟨rfl,hd,hl⟩:=fY e
   simp only[Option.some.injEq] at h
   subst h
   have hlt:=T.da (T.eM hd)
   obtain⟨f1,p1,p2,p3,p4⟩:=QJ (runK (CC LT1) (l.length+1)) (l.length+1) m l _ (fun hp=>EB (runK (CC LT1) (l.length+1)) false hp l hd hl)
   by_cases h0:T.val l=0
   ·rw[h0] at p4
    obtain⟨st,x1,x2⟩:=LQ LT1 (runK (CC LT1) (l.length+1)) (l.length+1) f1 [] [] p2 p4
    have hx:af (CC LT1) (runK (CC LT1) (l.length+1)) (l.length+1) gQ ⟨entry 34 [.sc (.bool m),bw l],[],[]⟩=some (.ret,st):=by
     rw[aM 2 p1];exact x1
    rw[h0]
    exact⟨l.length+2,_,_,_,_,_,aQ tt rfl hx x2,Jn _ _,Wk.refl rfl,trivial⟩
   ·obtain⟨f2,q1,q2,q3,q4,q5⟩:=QK LT1 (runK (CC LT1) (l.length+1)) (l.length+1) f1 [] [] m _ (T.cP.2 h0) p2 p3 p4
    obtain⟨f3,hp3,wr3,r1,r2,r3,r4⟩:=W4 LT1 (runK (CC LT1) (l.length+1)) (l.length+1) f2 m _ q2 q3 q4 q5
    obtain⟨f4,s1,s2,s3,s4,s5⟩:=W3 LT1 (runK (CC LT1) (l.length+1)) (l.length+1) f3 hp3 wr3 _ (by omega) r2 r3
    obtain⟨f5,hp5,wr5,t1,t2,t3⟩:=yI LT1 (runK (CC LT1) (l.length+1)) (l.length+1) (T.aA (T.val l)) (bif m then [45] else []) (T.bP _) (by omega) (by cases m <;> simp) _ f4 hp3 wr3 _ (Nat.le_refl _) s2 s3 s5 (by rw[s4];exact r4) (by simp)
    have hitx:itx m (T.val l)=(bif m then [45] else [])++(T.aA (T.val l)).reverse.map (· + 48):=by rw[itx,if_neg h0]
    rw[← hitx] at t3
    obtain⟨st,x1,x2⟩:=LR LT1 (runK (CC LT1) (l.length+1)) (l.length+1) f5 hp5 wr5 _ (Tk _ _) t2 t3
    have hx:af (CC LT1) (runK (CC LT1) (l.length+1)) (l.length+1) gQ ⟨entry 34 [.sc (.bool m),bw l],[],[]⟩=some (.ret,st):=by
     rw[aM 2 p1,aM 2 q1,show ah 2 (ah 2 gQ)=ah 4 gQ from rfl,CQ,aw r1,CP,aw ((aw s1).trans (bF (bT t1 (by omega))))]
     exact x1
    exact⟨l.length+2,_,_,_,_,_,aQ tt rfl hx x2,Jn _ _,Wk.refl rfl,trivial⟩
  ·cases h
 ·cases h
end Go.Proofs.YtjdmodeenbdfpaaGreat
namespace Go.Ab
open Go
def gG (m:Bool)(n:Nat):Int:=bif m then Int.negOfNat n else Int.ofNat n
theorem Pu (m:Bool)(n:Nat)(h:n≠0):bt (gG m n)=m:=by
 cases m with
 | false=>rfl
 | true =>
  cases n with
  | zero=>exact absurd rfl h
  | succ n=>rfl
theorem Pw (m:Bool)(n:Nat):(gG m n).natAbs=n:=by
 cases m with
 | false=>rfl
 | true=>cases n <;> simp[gG,Int.negOfNat]
theorem gY (z:Int):gG (bt z) z.natAbs=z:=by
 cases z with
 | ofNat n=>rfl
 | negSucc n=>rfl
theorem tS (m:Bool)(n:Nat):itx m n=ztx (gG m n):=by
 unfold ztx
 rw[Pw]
 by_cases h:n=0
 ·subst h;simp[itx]
 ·rw[Pu m n h]
theorem ki (z:Int):Bok (ztx z):=Tk _ _
def zs (z:Int):PV:=.sc (.string (tx (ztx z)))
def dN (z:Int):Nat:=(dtx z.natAbs).length
theorem mj (z:Int):∃ m,xE (ztx z)=some (m,dtx z.natAbs)∧(m=bt z):=by
 rw[ztx,Px]
 by_cases h:z.natAbs=0
 ·have:z=0:=by omega
  subst this
  exact⟨false,rfl,rfl⟩
 ·refine⟨bt z,?_,rfl⟩
  have hb:z.natAbs.beq 0=false:=by
   cases e:z.natAbs with
   | zero=>exact absurd e h
   | succ n=>rfl
  rw[hb,dtx,if_neg h];rfl
def eL:Nat:=3000000
def fK:PV→Option Int
 | .sc (.string s)=>match xE (bys s) with
  | some (m,ds)=>bif (bys s).length.ble eL && decide (bys s=ztx (gG m (dec 0 ds))) then some (gG m (dec 0 ds)) else none
  | none=>none
 | _=>none
theorem dc {p:PV}{z:Int}(h:fK p=some z):p=zs z∧(ztx z).length≤eL:=by
 unfold fK at h
 split at h
 ·rename_i s
  split at h
  ·rename_i m ds e
   cases hb:(bys s).length.ble eL && decide (bys s=ztx (gG m (dec 0 ds))) with
   | false=>rw[hb] at h;cases h
   | true =>
    rw[hb] at h
    simp only[cond_true,Option.some.injEq] at h
    simp only[Bool.and_eq_true,Nat.ble_eq,decide_eq_true_eq] at hb
    rw[h] at hb
    refine⟨?_,by rw[← hb.2];exact hb.1⟩
    rw[zs,← hb.2,ib]
  ·cases h
 ·cases h
theorem cD (z:Int)(h:(ztx z).length≤eL):fK (zs z)=some z:=by
 obtain⟨m,h1,h2⟩:=mj z
 have h3:gG m (dec 0 (dtx z.natAbs))=z:=by rw[nR,h2,gY]
 have h4:(ztx z).length.ble eL=true:=by rw[Nat.ble_eq];exact h
 simp[fK,zs,jm (ki z),h1,h3,h4]
theorem qG (z:Int):ztx z=(bif bt z then [45] else [])++dtx z.natAbs:=by
 by_cases h:z.natAbs=0
 ·have:z=0:=by omega
  subst this;rfl
 ·rw[ztx,itx,if_neg h,dtx,if_neg h]
theorem gk (z:Int):(ztx z).length=(bif bt z then 1 else 0)+dN z:=by
 rw[qG]
 cases bt z <;> simp[dN];omega
theorem ue (z:Int):0<dN z:=by
 unfold dN dtx
 by_cases h:z.natAbs=0
 ·rw[if_pos h];simp
 ·rw[if_neg h]
  have:=T.cP.2 h
  simpa using this
theorem rK {n k:Nat}(hk:0<k):(dtx n).length≤k ↔ n<10 ^ k:=by
 unfold dtx
 by_cases h:n=0
 ·subst h
  simp
  constructor
  ·intro _;exact Nat.pow_pos (by omega)
  ·intro _;exact hk
 ·rw[if_neg h,List.length_map,List.length_reverse]
  constructor
  ·intro h1
   exact Nat.lt_of_lt_of_le (T.fy n) (Nat.pow_le_pow_right (by omega) h1)
  ·intro h1
   exact T.da h1
theorem BH (x:Int):dN (-x)=dN x:=by unfold dN;rw[Int.natAbs_neg]
theorem nk {x y:Int}(h:x.natAbs≤y.natAbs):dN x≤dN y:=by
 have h2:y.natAbs<10 ^ dN y:=(rK (ue y)).1 (Nat.le_refl _)
 exact (rK (ue y)).2 (by omega)
theorem zN (n:Nat):(T.aA n).length≤(dtx n).length:=by
 unfold dtx
 by_cases h:n=0
 ·subst h;simp[T.fj]
 ·rw[if_neg h];simp
end Go.Ab
namespace Go.Proofs.YtjdmodeenbdfpaaGreat
open Go Go.Ab
def eO:List Nat→Nat
 | []=>0
 | a::l=>bif a.beq 45 then l.length else (a::l).length
theorem adl (a:Nat):((a:Int) == 45)=a.beq 45:=by
 cases h:a.beq 45 with
 | true=>rw[Nat.eq_of_beq_eq_true h];rfl
 | false =>
  rw[beq_eq_false_iff_ne]
  intro e
  have:a=45:=by omega
  subst this;cases h
theorem xJ (L:Lst)(run:aq)(k:Nat)(l:List Nat)(hl:Bok l)(h9:l.length<100000000) :
  ∃ st,af (CC L) run k (Tryz.f147.body.getD .skip) ⟨entry 16 [.sc (.string (tx l))],[],[]⟩=some (.ret,st)∧aV TT st.fr st.hp Tryz.f147.results.toList=some [iv (eO l)]:=by
 obtain⟨e1,e2⟩:=cQ 15 (.sc (.string (tx l)))
 generalize entry 16 [.sc (.string (tx l))]=fr0 at *
 cases l with
 | nil=>simp[Tryz.f147,e1,e2,af,aH,an,ao,aG,ag,ai,aj,ak,aC,az,FP.none,aY,au,bf,av,bK,aa,ae,ab,bh,dG,uAI,undef,aV,eO,iv]
 | cons a l =>
  have hx:gI TT 94 (.sc (.string (tx (a::l)))) (.sc (.int .i64 0))=some (.sc (.int .u8 (a:Int))):=eZ uAI hl .i64 0 (by simp)
  have hp:(0:Int)<(l.length:Int)+1:=by omega
  have hw:=ch .i64 l.length (hiI (by simp at h9;omega))
  have hb:=adl a
  cases h:a.beq 45 <;> rw[h] at hb <;> simp[Tryz.f147,e1,e2,af,aH,an,ao,aG,ag,ai,aj,ak,aC,az,FP.none,aY,au,bf,av,bK,aa,ae,ab,bh,dG,uAI,hx,hb,hp,hw,aV,eO,h,iv]
def kR:List PV→Option (List PV)
 | [.sc (.string s)]=>bif (bys s).length.blt 100000000 then some [iv (eO (bys s))] else none
 | _=>none
theorem xI:Ab.Spec base.P 147 kR:=Ab.Spec.bN (C:=CC []) (cU trivial) fun args rs h=>by
 unfold kR at h
 split at h
 ·rename_i s
  cases hb:(bys s).length.blt 100000000 with
  | false=>rw[hb] at h;cases h
  | true =>
   rw[hb] at h
   simp only[cond_true,Option.some.injEq] at h
   subst h
   rw[Nat.blt_eq] at hb
   obtain⟨st,x1,x2⟩:=xJ [] (runK (CC []) 1) 1 (bys s) (lT s) hb
   rw[ib] at x1
   exact⟨2,_,_,_,_,_,aQ xX rfl x1 x2,rfl,Wk.refl rfl,trivial⟩
 ·cases h
noncomputable def LT2:Lst:=[(147,kR)]
theorem Vo:dM base.P LT2:=⟨xI,trivial⟩
theorem X4:bu LT2 147=fun a=>kR (aJ a):=rfl
theorem oT (run:aq)(dr:Bool)(hp:List Blk)(l:List Nat)(hl:Bok l)(h9:l.length<100000000):cb (CC LT2) run dr hp 147 [.sc (.string (tx l))]=some (.sc (.int .i64 (eO l:Int)),hp,⟨[],[],false,false⟩) :=
 bp Ch X4 run dr hp _ [iv (eO l)] rfl rfl (by
  have h:l.length.blt 100000000=true:=by rw[Nat.blt_eq];exact h9
  simp only[kR,jm hl,h,cond_true])
theorem C8 (run:aq)(k:Nat)(l:List Nat)(hl:Bok l)(h9:l.length<100000000) :
  ∃ st,af (CC LT2) run k (Tryz.f100.body.getD .skip) ⟨entry 6 [.sc (.string (tx l))],[],[]⟩=some (.ret,st)∧aV TT st.fr st.hp Tryz.f100.results.toList=some [.sc (.bool (decide (1000<eO l)))]:=by
 obtain⟨e1,e2⟩:=cQ 5 (.sc (.string (tx l)))
 generalize entry 6 [.sc (.string (tx l))]=fr0 at *
 have hc:=fun dr hp=>oT run dr hp l hl h9
 generalize eO l=d at *
 have h1:((1000:Int)<(d:Int))=(1000<d):=by apply propext;omega
 simp[Tryz.f100,e1,e2,af,aH,an,ao,aG,ag,ai,aO,aj,ak,aC,az,FP.none,aY,au,bf,av,aa,ae,ab,hc,aV,h1]
def nG:List PV→Option (List PV)
 | [.sc (.string s)]=>bif (bys s).length.blt 100000000 then some [.sc (.bool (decide (1000<eO (bys s))))] else none
 | _=>none
theorem sT:Ab.Spec base.P 100 nG:=Ab.Spec.bN (C:=CC LT2) (cU Vo) fun args rs h=>by
 unfold nG at h
 split at h
 ·rename_i s
  cases hb:(bys s).length.blt 100000000 with
  | false=>rw[hb] at h;cases h
  | true =>
   rw[hb] at h
   simp only[cond_true,Option.some.injEq] at h
   subst h
   rw[Nat.blt_eq] at hb
   obtain⟨st,x1,x2⟩:=C8 (runK (CC LT2) 1) 1 (bys s) (lT s) hb
   rw[ib] at x1
   exact⟨2,_,_,_,_,_,aQ EY rfl x1 x2,rfl,Wk.refl rfl,trivial⟩
 ·cases h
noncomputable def sJ:Code:=((Tryz.f113.body).bind aF).getD .skip
noncomputable def l7:Code:=Tryz.f113.body.getD .skip
theorem QX (L:Lst)(run:aq)(k:Nat)(fr:List PV)(l:List Nat)(h38:fr.length=38)(h0:nth fr 0 = .sc (.string (tx l)))(h5:nth fr 5=iv l.length) :
  ∃ fr',af (CC L) run k sJ ⟨fr,[],[]⟩=some (.exit 0,⟨fr',[],[]⟩)∧fr'.length=38∧nth fr' 0 = .sc (.string (tx l))∧nth fr' 4=nth fr 4:=by
 simp only[iv] at h5
 simp[sJ,Tryz.f113,aF,af,aH,an,ao,aG,ag,ai,aj,ak,aC,az,FP.none,aY,au,bf,bK,aa,ae,ab,bh,dG,h38,h0,h5,uAI]
set_option maxHeartbeats 1000000 in
theorem Mb (L:Lst)(run:aq)(k:Nat)(fr:List PV)(l:List Nat)(i:Nat)(hl:Bok l)(hi:i<l.length)(hi9:i<20000000)(h45:at0 l i=45)(h38:fr.length=38)(h0:nth fr 0 = .sc (.string (tx l)))(h5:nth fr 5=iv i) :
  ∃ fr',af (CC L) run k sJ ⟨fr,[],[]⟩=some (.normal,⟨fr',[],[]⟩)∧fr'.length=38∧nth fr' 0 = .sc (.string (tx l))∧nth fr' 4=nth fr 4∧nth fr' 5=iv (i+1):=by
 have hx:=eZ uAI hl .i64 i hi
 have hw:=bJ i (by omega)
 rw[h45] at hx
 simp only[iv] at h5 ⊢
 simp[sJ,Tryz.f113,aF,af,aH,an,ao,aG,ag,ai,aj,ak,aC,az,FP.none,aY,au,bf,av,bK,aa,ae,ab,bh,dG,h38,h0,h5,uAI,hi,hx,hw]
set_option maxHeartbeats 1000000 in
theorem Xc (L:Lst)(run:aq)(k:Nat)(fr:List PV)(l:List Nat)(i n:Nat)(hl:Bok l)(hi:i<l.length)(hi9:i<20000000)(hd:kZ (at0 l i)=true)(hn:n<1000000000)(h38:fr.length=38)(h0:nth fr 0 = .sc (.string (tx l)))(h4:nth fr 4=iv n)(h5:nth fr 5=iv i) :
  ∃ fr',af (CC L) run k sJ ⟨fr,[],[]⟩=some (.normal,⟨fr',[],[]⟩)∧fr'.length=38∧nth fr' 0 = .sc (.string (tx l))∧nth fr' 4=iv (stp n (at0 l i))∧nth fr' 5=iv (i+1):=by
 have hx:=eZ uAI hl .i64 i hi
 rw[dx] at hd
 have hw:=bJ i (by omega)
 generalize at0 l i=b at *
 obtain⟨s1,hs1⟩:∃ s1,s1=10*n:=⟨_,rfl⟩
 obtain⟨s2,hs2⟩:∃ s2,s2=s1+b:=⟨_,rfl⟩
 obtain⟨s3,hs3⟩:∃ s3,s3=stp n b:=⟨_,rfl⟩
 have hs4:s2=s3+48:=by rw[hs3,hs2,hs1];unfold stp dv;omega
 rw[← hs3]
 have hw1:=IG .i64 n s1 hs1 (hiI (by omega))
 have hw2:=ch .i64 b (hiI (by omega))
 have hw3:=dq .i64 s1 b s2 hs2 (hiI (by omega))
 have hw4:=Ak .i64 s2 s3 hs4 (hiI (by omega))
 have hne:((b:Int) == 45)=false:=by rw[beq_eq_false_iff_ne];omega
 have hne2 : ¬ ((b:Int)=45):=by omega
 simp only[iv] at h4 h5 ⊢
 simp[sJ,Tryz.f113,aF,af,aH,an,ao,aG,ag,ai,aj,ak,aC,az,FP.none,aY,au,bf,av,bK,aa,ae,ab,bh,dG,h38,h0,h4,h5,uAI,uI,u8T,dy,hi,hx,hne,bne,hw,hw1,hw2,hw3,hw4]
theorem rb (L:Lst)(run:aq)(k:Nat)(m:Bool)(ds:List Nat)(hd:eI ds=true)(h9:ds.length≤9):∀ (n i:Nat) (fr:List PV) (x:Nat),i+n=((bif m then [45] else [])++ds).length →
  fr.length=38→nth fr 0 = .sc (.string (tx ((bif m then [45] else [])++ds)))→nth fr 4=iv x→nth fr 5=iv i→x=dec 0 (ds.take (i - (bif m then 1 else 0))) →
  ∃ (fr':List PV),ca (af (CC L) run k sJ) (n+1) ⟨fr,[],[]⟩=some (.exit 0,⟨fr',[],[]⟩)∧fr'.length=38∧nth fr' 0 = .sc (.string (tx ((bif m then [45] else [])++ds)))∧nth fr' 4=iv (dec 0 ds)
 | 0,i,fr,x,hin,h38,h0,h4,h5,hx=>by
  have e:i=((bif m then [45] else [])++ds).length:=by omega
  rw[e] at h5
  obtain⟨fr',q1,q2,q3,q4⟩:=QX L run k fr _ h38 h0 h5
  refine⟨fr',bz q1,q2,q3,?_⟩
  rw[q4,h4,hx,List.take_of_length_le (by rw[e];cases m <;> simp)]
 | n+1,i,fr,x,hin,h38,h0,h4,h5,hx=>by
  have hB:Bok ((bif m then [45] else [])++ds):=by
   refine Bok.append ?_ ?_
   ·cases m
    ·exact Bok.nil
    ·exact Bok.nil.cons (by omega)
   ·intro x hx
    have:=dx.1 (fC hd hx)
    omega
  have hlen:((bif m then [45] else [])++ds).length=(bif m then 1 else 0)+ds.length:=by cases m <;> simp;omega
  rw[hlen] at hin
  have hil:i<(bif m then 1 else 0)+ds.length:=by omega
  have hi9:i<20000000:=by cases m <;> simp at hil <;> omega
  by_cases hs:m=true∧i=0
  ·obtain⟨rfl,rfl⟩:=hs
   obtain⟨fr1,g1,g2,g3,g4,g5⟩:=Mb L run k fr _ 0 hB (by rw[hlen];exact hil) hi9 rfl h38 h0 h5
   obtain⟨fr',q1,q2⟩:=rb L run k true ds hd h9 n 1 fr1 x (by rw[hlen];omega) g2 g3 (by rw[g4,h4]) g5 (by simpa using hx)
   exact⟨fr',by rw[bU g1];exact q1,q2⟩
  ·obtain⟨j,hj,hj2⟩:∃ j,i=(bif m then 1 else 0)+j∧j<ds.length:=by
    cases m with
    | false=>exact⟨i,by simp,by simp at hil;exact hil⟩
    | true =>
     have:i≠0:=fun h=>hs ⟨rfl,h⟩
     exact⟨i - 1,by simp;omega,by simp at hil;omega⟩
   have hat:at0 ((bif m then [45] else [])++ds) i=ds[j]:=by
    unfold at0
    cases m with
    | false=>simp only[cond_false,List.nil_append,Nat.zero_add] at hj ⊢;subst hj;simp[hj2]
    | true=>simp only[cond_true] at hj ⊢;subst hj;rw[Nat.add_comm];simp[hj2]
   have hdb:kZ (at0 ((bif m then [45] else [])++ds) i)=true:=by rw[hat];exact fC hd (List.getElem_mem hj2)
   have hdr:i - (bif m then 1 else 0)=j:=by rw[hj];cases m <;> simp
   have hdr2:i+1 - (bif m then 1 else 0)=j+1:=by rw[hj];cases m <;> simp <;> omega
   rw[hdr] at hx
   have hx9:x<1000000000:=by
    have h1:eI (ds.take j)=true:=by
     have:=fX (ds.take j) (ds.drop j)
     rw[List.take_append_drop,hd] at this
     have h2:=this.symm
     rw[Bool.and_eq_true] at h2
     exact h2.1
    have h2:=dec_lt _ h1
    rw[hx]
    refine Nat.lt_of_lt_of_le h2 (Nat.le_trans (Nat.pow_le_pow_right (by omega) (show (ds.take j).length≤9 by rw[List.length_take];omega)) (by decide))
   obtain⟨fr1,g1,g2,g3,g4,g5⟩:=Xc L run k fr _ i x hB (by rw[hlen];exact hil) hi9 hdb hx9 h38 h0 h4 h5
   rw[hat] at g4
   obtain⟨fr',q1,q2⟩:=rb L run k m ds hd h9 n (i+1) fr1 _ (by rw[hlen];omega) g2 g3 g4 g5 (by
    rw[hdr2,List.take_succ_eq_append_getElem hj2,lS,← hx];rfl)
   exact⟨fr',by rw[bU g1];exact q1,q2⟩
theorem HF {s:List Nat}{m:Bool}{ds:List Nat}(h:xE s=some (m,ds)):eO s=ds.length:=by
 obtain⟨h1,h2,h3⟩:=qQ h
 cases m with
 | true=>subst h1;rfl
 | false =>
  simp only[cond_false,List.nil_append] at h1
  subst h1
  cases s with
  | nil=>rfl
  | cons a l =>
   have:=dx.1 (fC h2 (List.mem_cons_self ..))
   have hb:a.beq 45=false:=by
    cases e:a.beq 45 with
    | false=>rfl
    | true=>have:=Nat.eq_of_beq_eq_true e;omega
   simp[eO,hb]
noncomputable def Gv:Code:=seq1 (seq1 (ah 3 l7))
theorem C0:ah 3 l7 = .seq (.seq Gv (.block 0 (.loop sJ))) (ah 4 l7):=rfl
theorem Md (run:aq)(k:Nat)(l:List Nat)(hl:Bok l)(h9:l.length<100000000)(hd:9<eO l) :
  ∃ st,af (CC LT2) run k l7 ⟨entry 38 [.sc (.string (tx l))],[],[]⟩=some (.ret,st)∧aV TT st.fr st.hp Tryz.f113.results.toList=some [Ab.bC 0,.sc (.bool false)]:=by
 obtain⟨e1,e2⟩:=cQ 37 (.sc (.string (tx l)))
 generalize entry 38 [.sc (.string (tx l))]=fr0 at *
 have hc:=fun dr hp=>oT run dr hp l hl h9
 generalize eO l=d at *
 have h1:((9:Int)<(d:Int)):=by omega
 simp[l7,Tryz.f113,e1,e2,af,aH,an,ao,aG,ag,ai,aO,aj,ak,aC,az,FP.none,aY,au,bf,av,aa,ae,ab,hc,aV,h1,Ab.bC]
theorem Mc (run:aq)(k:Nat)(l:List Nat)(hl:Bok l)(h9:l.length<100000000)(hd:eO l≤9) :
  ∃ fr,aX (CC LT2) run k 3 l7 ⟨entry 38 [.sc (.string (tx l))],[],[]⟩=some ⟨fr,[],[]⟩∧fr.length=38∧nth fr 0 = .sc (.string (tx l))∧nth fr 4=iv 0:=by
 obtain⟨e1,e2⟩:=cQ 37 (.sc (.string (tx l)))
 generalize entry 38 [.sc (.string (tx l))]=fr0 at *
 have hc:=fun dr hp=>oT run dr hp l hl h9
 generalize eO l=d at *
 have h1 : ¬ ((9:Int)<(d:Int)):=by omega
 simp[l7,Tryz.f113,aX,e1,e2,af,aH,an,ao,aG,ag,ai,aO,aj,ak,aC,az,FP.none,aY,au,bf,av,aa,ae,ab,hc,h1,iv]
theorem Xb (L:Lst)(run:aq)(k:Nat)(fr:List PV)(h38:fr.length=38) :
  ∃ fr',af (CC L) run k Gv ⟨fr,[],[]⟩=some (.normal,⟨fr',[],[]⟩)∧fr'.length=38∧nth fr' 0=nth fr 0∧nth fr' 4=nth fr 4∧nth fr' 5=iv 0:=by
 simp[Gv,l7,ah,seq1,Tryz.f113,af,aH,an,ao,aG,ag,ai,aj,ak,aC,az,FP.none,av,aa,ae,ab,h38,iv]
theorem Mg (L:Lst)(run:aq)(k:Nat)(fr:List PV)(a:Nat)(l:List Nat)(x:Nat)(hl:Bok (a::l))(hx9:x<1000000000)(h38:fr.length=38)(h0:nth fr 0 = .sc (.string (tx (a::l))))(h4:nth fr 4=iv x) :
  ∃ st,af (CC L) run k (ah 4 l7) ⟨fr,[],[]⟩=some (.ret,st)∧aV TT st.fr st.hp Tryz.f113.results.toList=some [Ab.bC (gG (a.beq 45) x),.sc (.bool true)]:=by
 have hx:gI TT 94 (.sc (.string (tx (a::l)))) (.sc (.int .i64 0))=some (.sc (.int .u8 (a:Int))):=eZ uAI hl .i64 0 (by simp)
 have hp:(0:Int)<(l.length:Int)+1:=by omega
 have hb:=adl a
 have hw:bA .i64 (-(x:Int)) = -(x:Int):=ft _ (by omega) (by omega)
 simp only[iv] at h4
 cases h:a.beq 45 with
 | true =>
  rw[h] at hb
  have e:gG true x = -(x:Int):=by cases x <;> rfl
  rw[e]
  simp[l7,ah,Tryz.f113,af,aH,an,ao,aG,ag,ai,aj,ak,aC,az,FP.none,aY,au,bf,av,bK,unP,aa,ae,ab,bh,dG,h38,h0,h4,uAI,hx,hp,hb,hw,aV,Ab.bC]
 | false =>
  rw[h] at hb
  have e:gG false x=(x:Int):=rfl
  rw[e]
  simp[l7,ah,Tryz.f113,af,aH,an,ao,aG,ag,ai,aj,ak,aC,az,FP.none,aY,au,bf,av,bK,aa,ae,ab,bh,dG,h38,h0,h4,uAI,hx,hp,hb,aV,Ab.bC]
def sH:List PV→Option (List PV)
 | [.sc (.string s)]=>match xE (bys s) with
  | some (m,ds)=>bif (bys s).length.blt 100000000 then (bif ds.length.ble 9 then some [Ab.bC (gG m (dec 0 ds)),.sc (.bool true)] else some [Ab.bC 0,.sc (.bool false)]) else none
  | none=>none
 | _=>none
theorem yM:Ab.Spec base.P 113 sH:=Ab.Spec.bN (C:=CC LT2) (cU Vo) fun args rs h=>by
 unfold sH at h
 split at h
 ·rename_i s
  split at h
  ·rename_i m ds e
   cases hb:(bys s).length.blt 100000000 with
   | false=>rw[hb] at h;cases h
   | true =>
    rw[hb] at h
    simp only[cond_true] at h
    rw[Nat.blt_eq] at hb
    have hs:s=tx (bys s):=(ib s).symm
    have hok:=lT s
    have hdn:=HF e
    obtain⟨e1,e2,e3⟩:=qQ e
    cases hc:ds.length.ble 9 with
    | false =>
     rw[hc] at h
     simp only[cond_false,Option.some.injEq] at h
     subst h
     have hd:9<eO (bys s):=by
      rw[hdn]
      rcases Nat.lt_or_ge 9 ds.length with h | h
      ·exact h
      ·rw[show ds.length.ble 9=true by rw[Nat.ble_eq];exact h] at hc;cases hc
     obtain⟨st,x1,x2⟩:=Md (runK (CC LT2) 1) 1 (bys s) hok hb hd
     rw[← hs] at x1
     exact⟨2,_,_,_,_,_,aQ qB rfl x1 x2,rfl,Wk.refl rfl,Wk.refl rfl,trivial⟩
    | true =>
     rw[hc] at h
     simp only[cond_true,Option.some.injEq] at h
     subst h
     rw[Nat.ble_eq] at hc
     obtain⟨f1,p1,p2,p3,p4⟩:=Mc (runK (CC LT2) ((bys s).length+1)) ((bys s).length+1) (bys s) hok hb (by rw[hdn];exact hc)
     obtain⟨f2,q1,q2,q3,q4,q5⟩:=Xb LT2 (runK (CC LT2) ((bys s).length+1)) ((bys s).length+1) f1 p2
     obtain⟨f3,r1,r2,r3,r4⟩:=rb LT2 (runK (CC LT2) ((bys s).length+1)) ((bys s).length+1) m ds e2 hc (bys s).length 0 f2 0 (by rw[← e1];omega) q2 (by rw[q3,p3,← e1]) (by rw[q4,p4]) q5 (by cases m <;> rfl)
     rw[← e1] at r3
     obtain⟨a,l,hal⟩:∃ a l,bys s=a::l:=by
      cases h:bys s with
      | nil=>exact absurd h e3
      | cons a l=>exact⟨a,l,rfl⟩
     have hm:a.beq 45=m:=by
      rw[hal] at e1
      cases m with
      | true=>simp at e1;rw[e1.1];rfl
      | false =>
       simp only[cond_false,List.nil_append] at e1
       subst e1
       have:=dx.1 (fC e2 (List.mem_cons_self ..))
       cases h:a.beq 45 with
       | false=>rfl
       | true=>have:=Nat.eq_of_beq_eq_true h;omega
     have hx9:dec 0 ds<1000000000:=Nat.lt_of_lt_of_le (dec_lt _ e2) (Nat.le_trans (Nat.pow_le_pow_right (by omega) hc) (by decide))
     rw[hal] at hok r3
     obtain⟨st,x1,x2⟩:=Mg LT2 (runK (CC LT2) ((bys s).length+1)) ((bys s).length+1) f3 a l _ hok hx9 r2 r3 r4
     rw[hm] at x2
     have hx:af (CC LT2) (runK (CC LT2) ((bys s).length+1)) ((bys s).length+1) l7 ⟨entry 38 [.sc (.string s)],[],[]⟩=some (.ret,st):=by
      rw[ib] at p1
      rw[aM 3 p1,C0,aw ((aw q1).trans (bF r1))]
      exact x1
     exact⟨(bys s).length+2,_,_,_,_,_,aQ qB rfl hx x2,rfl,Wk.refl rfl,Wk.refl rfl,trivial⟩
  ·cases h
 ·cases h
end Go.Proofs.YtjdmodeenbdfpaaGreat
