/- Contracts of numbers kept as digits in text, part 31 of the proof; each lemma states its own conditions. -/
import Derived.Test.YtjdmodeenbdfpaaGreatP30
set_option linter.unusedSimpArgs false
set_option linter.unusedVariables false
namespace Go.Proofs.YtjdmodeenbdfpaaGreat
open Go Go.Ab
noncomputable def yp:Code:=((Tryz.f116.body).bind aF).getD .skip
noncomputable def gJ:Code:=Tryz.f116.body.getD .skip
theorem oS:und TT 43=some (.slice 5):=by kernel_rfl
theorem sU8:cQ TT 5=some 1:=by kernel_rfl
theorem bU8:gD TT 5=some 1:=by kernel_rfl
theorem zU8:dR TT 5=some [u8v 0]:=by kernel_rfl
theorem Je (n:Nat):fZ TT 43 1 [(0,.sc (.int .u8 (n:Int)))]=some (1,[u8v n]):=abI oS sU8 zU8 n
theorem PS (L:Lst)(run:aq)(k:Nat)(fr:List PV)(hp:List Blk)(wr:List Nat)(h34:fr.length=34)(h6:nth fr 6 = .sc (.int .i64 (-1))) :
  ∃ fr',af (CC L) run k yp ⟨fr,hp,wr⟩=some (.exit 0,⟨fr',hp,wr⟩)∧fr'.length=34∧nth fr' 5=nth fr 5:=by
 simp[yp,Tryz.f116,aF,af,aH,an,ao,aG,ag,ai,aj,ak,aC,az,FP.none,bc,ar,bd,au,aa,ae,ab,h34,h6]
set_option maxHeartbeats 1000000 in
theorem FM (L:Lst)(run:aq)(k:Nat)(fr:List PV)(hp:List Blk)(wr:List Nat)(t out:List Nat)(i:Nat)(ht:T.Dok t)(hi:i<t.length)(hi9:t.length<20000000)(ho9:out.length<20000001)(h34:fr.length=34)(h1:nth fr 1=br t)(h6:nth fr 6=iv i)(hO:dh u8v 0 hp out (nth fr 5)) :
  ∃ fr' hp' wr',af (CC L) run k yp ⟨fr,hp,wr⟩=some (.normal,⟨fr',hp',wr'⟩)∧fr'.length=34∧nth fr' 1=br t∧dh u8v 0 hp' (out++[at0 t i+48]) (nth fr' 5)∧nth fr' 6 = .sc (.int .i64 ((i:Int) - 1)):=by
 have hda:=eP t i hi
 have hd9:=T.cf ht i
 generalize at0 t i=d at *
 obtain⟨b,hb⟩:∃ b,b=d+48:=⟨_,rfl⟩
 rw[← hb]
 obtain⟨p',hp',fp,g1,g2,-⟩:=hO.app b (by omega)
 have hw:=cG i (by omega)
 have hw1:bu .i64 (48+(d:Int))=(b:Int):=by rw[show (48+(d:Int))=(b:Int) by omega];exact cb .i64 b (hiI (by omega))
 have hw2:bu .u8 (b:Int)=(b:Int):=cb .u8 b (show b≤255 by omega)
 have hlX:=Je b
 have e1:br t = .imm t.length false (t.map iv):=rfl
 rw[e1] at h1 ⊢
 simp only[iv] at h6
 simp[yp,Tryz.f116,aF,af,aH,an,ao,aG,ag,ai,aj,ak,aC,az,FP.none,bc,ar,bd,au,ba,bj,partOf,aa,ae,ab,bf,and_assoc,aX,kF,h34,h1,h6,hi,hda,aU,uL,uI,sI,aI,u8T,dn,hw,hw1,hw2,hlX,II,ot,oS,sU8,bU8,zU8,bS,g1,g2]
theorem yo (L:Lst)(run:aq)(k:Nat)(t pre:List Nat)(ht:T.Dok t)(h9:t.length<10000000)(hp9:pre.length≤1):∀ (n:Nat) (fr:List PV) (hp:List Blk) (wr:List Nat) (out:List Nat),n≤t.length →
  fr.length=34→nth fr 1=br t→nth fr 6 = .sc (.int .i64 ((n:Int) - 1))→dh u8v 0 hp out (nth fr 5)→out=pre++(t.drop n).reverse.map (· + 48) →
  ∃ (fr':List PV) (hp':List Blk) (wr':List Nat),bX (af (CC L) run k yp) (n+1) ⟨fr,hp,wr⟩=some (.exit 0,⟨fr',hp',wr'⟩)∧fr'.length=34∧dh u8v 0 hp' (pre++t.reverse.map (· + 48)) (nth fr' 5)
 | 0,fr,hp,wr,out,hn,h34,h1,h6,hO,ho=>by
  obtain⟨fr',q1,q2,q3⟩:=PS L run k fr hp wr h34 (by rw[h6];rfl)
  refine⟨fr',hp,wr,bw q1,q2,?_⟩
  rw[q3]
  rw[List.drop_zero] at ho
  rw[← ho];exact hO
 | n+1,fr,hp,wr,out,hn,h34,h1,h6,hO,ho=>by
  have h6':nth fr 6=iv n:=by rw[h6];simp[iv]
  obtain⟨fr1,hp1,wr1,g1,g2,g3,g4,g5⟩:=FM L run k fr hp wr t out n ht (by omega) (by omega) (by rw[ho];simp;omega) h34 h1 h6' hO
  obtain⟨fr',hp',wr',q1,q2,q3⟩:=yo L run k t pre ht h9 hp9 n fr1 hp1 wr1 _ (by omega) g2 g3 g5 g4 (by
   rw[ho,List.drop_eq_getElem_cons (show n<t.length by omega),cV (show n<t.length by omega),List.reverse_cons,List.map_append]
   simp only[List.map_cons,List.map_nil,List.append_assoc])
  exact⟨fr',hp',wr',by rw[bV g1];exact q1,q2,q3⟩
noncomputable def Av:Code:=seq1 (ah 4 gJ)
noncomputable def FN:Code:=seq1 (seq1 (ah 5 gJ))
theorem Cq:ah 4 gJ = .seq Av (ah 5 gJ):=rfl
theorem Cp:ah 5 gJ = .seq (.seq FN (.block 0 (.loop yp))) (ah 6 gJ):=rfl
theorem Ed (run:aq)(dr:Bool)(hp:List Blk)(l:List Nat)(hd:T.Dok l)(hl:l.length<10000000):bU (CC LT1) run dr hp 156 [br l]=some (br (T.aA (T.val l)),hp,⟨[],[],false,false⟩) :=
 bp kA vL run dr hp _ [br (T.aA (T.val l))] (og hp l) (by simp only[aJ,oC]) (by simp only[gY,dG hd hl,T.eA hd])
theorem PQ (run:aq)(k:Nat)(m:Bool)(l t:List Nat)(hc:∀ hp,bU (CC LT1) run false hp 156 [br l]=some (br t,hp,⟨[],[],false,false⟩)) :
  ∃ fr,aY (CC LT1) run k 2 gJ ⟨entry 34 [.sc (.bool m),br l],[],[]⟩=some ⟨fr,[],[]⟩∧fr.length=34∧nth fr 0 = .sc (.bool m)∧nth fr 1=br t:=by
 obtain⟨e1,e2,e3⟩:=cA 32 (.sc (.bool m)) (br l)
 generalize entry 34 [.sc (.bool m),br l]=fr0 at *
 simp[gJ,Tryz.f116,aY,e1,e2,e3,af,aH,an,ao,aG,ag,ai,aP,aj,ak,aC,az,FP.none,au,aa,ae,ab,hc]
theorem Lj (L:Lst)(run:aq)(k:Nat)(fr:List PV)(hp:List Blk)(wr:List Nat)(h34:fr.length=34)(h1:nth fr 1=br []) :
  ∃ st,af (CC L) run k (ah 2 gJ) ⟨fr,hp,wr⟩=some (.ret,st)∧aZ TT st.fr st.hp Tryz.f116.results.toList=some [.sc (.string (tx [48]))]:=by
 have:(tx [48])={ data:=#[48] } := rfl
 rw[this]
 simp[gJ,ah,Tryz.f116,af,aH,an,ao,aG,ag,ai,aj,ak,aC,az,FP.none,bc,ar,bd,au,bH,aa,ab,bf,dE,h34,h1,uL,aZ]
theorem PR (L:Lst)(run:aq)(k:Nat)(fr:List PV)(hp:List Blk)(wr:List Nat)(m:Bool)(t:List Nat)(ht:0<t.length)(h34:fr.length=34)(h0:nth fr 0 = .sc (.bool m))(h1:nth fr 1=br t) :
  ∃ fr',aY (CC L) run k 2 (ah 2 gJ) ⟨fr,hp,wr⟩=some ⟨fr',hp,wr⟩∧fr'.length=34∧nth fr' 0 = .sc (.bool m)∧nth fr' 1=br t∧nth fr' 5 = .sc (.slice none 0 0):=by
 have h:((t.length:Int) == 0)=false:=by rw[beq_eq_false_iff_ne];omega
 have h2 : ¬ (t.length=0):=by omega
 have h3:t≠[]:=by intro e;subst e;simp at ht
 simp[gJ,ah,Tryz.f116,aY,af,aH,an,ao,aG,ag,ai,aj,ak,aC,az,FP.none,bc,ar,bd,au,bH,aa,ae,ab,bf,dE,h34,h0,h1,uL,h]
theorem Wp (L:Lst)(run:aq)(k:Nat)(fr:List PV)(m:Bool)(t:List Nat)(h34:fr.length=34)(h0:nth fr 0 = .sc (.bool m))(h1:nth fr 1=br t)(h5:nth fr 5 = .sc (.slice none 0 0)) :
  ∃ fr' hp' wr',af (CC L) run k Av ⟨fr,[],[]⟩=some (.normal,⟨fr',hp',wr'⟩)∧fr'.length=34∧nth fr' 1=br t∧dh u8v 0 hp' (bif m then [45] else []) (nth fr' 5):=by
 cases m with
 | false =>
  have hO:dh u8v 0 [] [] (.sc (.slice none 0 0)):=dh.nil (Nat.le_refl _)
  simp[Av,gJ,ah,seq1,Tryz.f116,af,aH,an,ao,aG,ag,ai,aj,ak,aC,az,FP.none,aa,ae,ab,and_assoc,h34,h0,h1,h5,hO]
 | true =>
  obtain⟨p',hp',fp,g1,g2,-⟩:=(dh.nil (e:=u8v) (b:=0) (hp:=[]) (Nat.le_refl _)).app 45 (by simp)
  rw[List.nil_append] at g2
  have hlX:fZ TT 43 1 [(0,.sc (.int .u8 45))]=some (1,[u8v 45]):=Je 45
  simp[Av,gJ,ah,seq1,Tryz.f116,af,aH,an,ao,aG,ag,ai,aj,ak,aC,az,FP.none,au,aa,ae,ab,bf,and_assoc,aX,kF,h34,h0,h1,h5,hlX,II,ot,oS,sU8,bU8,zU8,bS,g1,g2]
theorem Wo (L:Lst)(run:aq)(k:Nat)(fr:List PV)(hp:List Blk)(wr:List Nat)(t:List Nat)(ht:t.length<20000000)(h34:fr.length=34)(h1:nth fr 1=br t) :
  ∃ fr',af (CC L) run k FN ⟨fr,hp,wr⟩=some (.normal,⟨fr',hp,wr⟩)∧fr'.length=34∧nth fr' 1=br t∧nth fr' 5=nth fr 5∧nth fr' 6 = .sc (.int .i64 ((t.length:Int) - 1)):=by
 have hw:=cG t.length (by omega)
 simp[FN,gJ,ah,seq1,Tryz.f116,af,aH,an,ao,aG,ag,ai,aj,ak,aC,az,FP.none,bc,ar,bd,au,bH,aa,ae,ab,bf,dE,h34,h1,uL,hw]
theorem Lk (L:Lst)(run:aq)(k:Nat)(fr:List PV)(hp:List Blk)(wr:List Nat)(l:List Nat)(hl:Bok l)(h34:fr.length=34)(hO:dh u8v 0 hp l (nth fr 5)) :
  ∃ st,af (CC L) run k (ah 6 gJ) ⟨fr,hp,wr⟩=some (.ret,st)∧aZ TT st.fr st.hp Tryz.f116.results.toList=some [.sc (.string (tx l))]:=by
 obtain⟨ids,h1⟩:=hO.s.rd
 have h2:=Ej hl
 have hcv:dn TT hp 43 94 (nth fr 5)=some (.sc (.string (tx l)),ids):=by
  have h3:tx l=mkStr (l.map UInt8.ofNat):=rfl
  rw[h3]
  obtain⟨-,h⟩:=hO
  rcases h with ⟨rfl,h⟩| ⟨id,m,-,-,h,-⟩
  ·rw[h] at h1 ⊢
   simp only[dn,oS,uAI,u8T,h1,h2]
  ·rw[h] at h1 ⊢
   simp only[dn,oS,uAI,u8T,h1,h2]
 simp[gJ,ah,Tryz.f116,af,aH,an,ao,aG,ag,ai,aj,ak,aC,az,FP.none,aa,ab,bf,h34,hcv,aZ]
def lN:List PV→Option (List PV)
 | [.sc (.bool m),p]=>match lS p with
  | some l=>some [.sc (.string (tx (itx m (T.val l))))]
  | none=>none
 | _=>none
theorem IW (hp:List Blk)(s:ByteArray):bm (snap hp bh) [.sc (.string s)]=some ([.sc (.string s)],[]):=rfl
theorem qH:Ab.Spec base.P 116 lN:=Ab.Spec.bL (C:=CC LT1) (cU HI) fun args rs h=>by
 unfold lN at h
 split at h
 ·split at h
  ·rename_i m p _ l e
   obtain⟨rfl,hd,hl⟩:=fP e
   simp only[Option.some.injEq] at h
   subst h
   have hlt:=T.cY (T.eG hd)
   obtain⟨f1,p1,p2,p3,p4⟩:=PQ (runK (CC LT1) (l.length+1)) (l.length+1) m l _ (fun hp=>Ed (runK (CC LT1) (l.length+1)) false hp l hd hl)
   by_cases h0:T.val l=0
   ·rw[h0] at p4
    obtain⟨st,x1,x2⟩:=Lj LT1 (runK (CC LT1) (l.length+1)) (l.length+1) f1 [] [] p2 p4
    have hx:af (CC LT1) (runK (CC LT1) (l.length+1)) (l.length+1) gJ ⟨entry 34 [.sc (.bool m),br l],[],[]⟩=some (.ret,st):=by
     rw[aO 2 p1];exact x1
    rw[h0]
    exact⟨l.length+2,_,_,_,_,_,aQ sZ rfl hx x2,IW _ _,Wk.refl rfl,trivial⟩
   ·obtain⟨f2,q1,q2,q3,q4,q5⟩:=PR LT1 (runK (CC LT1) (l.length+1)) (l.length+1) f1 [] [] m _ (T.cN.2 h0) p2 p3 p4
    obtain⟨f3,hp3,wr3,r1,r2,r3,r4⟩:=Wp LT1 (runK (CC LT1) (l.length+1)) (l.length+1) f2 m _ q2 q3 q4 q5
    obtain⟨f4,s1,s2,s3,s4,s5⟩:=Wo LT1 (runK (CC LT1) (l.length+1)) (l.length+1) f3 hp3 wr3 _ (by omega) r2 r3
    obtain⟨f5,hp5,wr5,t1,t2,t3⟩:=yo LT1 (runK (CC LT1) (l.length+1)) (l.length+1) (T.aA (T.val l)) (bif m then [45] else []) (T.bM _) (by omega) (by cases m <;> simp) _ f4 hp3 wr3 _ (Nat.le_refl _) s2 s3 s5 (by rw[s4];exact r4) (by simp)
    have hitx:itx m (T.val l)=(bif m then [45] else [])++(T.aA (T.val l)).reverse.map (· + 48):=by rw[itx,if_neg h0]
    rw[← hitx] at t3
    obtain⟨st,x1,x2⟩:=Lk LT1 (runK (CC LT1) (l.length+1)) (l.length+1) f5 hp5 wr5 _ (SC _ _) t2 t3
    have hx:af (CC LT1) (runK (CC LT1) (l.length+1)) (l.length+1) gJ ⟨entry 34 [.sc (.bool m),br l],[],[]⟩=some (.ret,st):=by
     rw[aO 2 p1,aO 2 q1,show ah 2 (ah 2 gJ)=ah 4 gJ from rfl,Cq,aw r1,Cp,aw ((aw s1).trans (bE (bQ t1 (by omega))))]
     exact x1
    exact⟨l.length+2,_,_,_,_,_,aQ sZ rfl hx x2,IW _ _,Wk.refl rfl,trivial⟩
  ·cases h
 ·cases h
end Go.Proofs.YtjdmodeenbdfpaaGreat
namespace Go.Ab
open Go
def gq (m:Bool)(n:Nat):Int:=bif m then Int.negOfNat n else Int.ofNat n
theorem O3 (m:Bool)(n:Nat)(h:n≠0):bq (gq m n)=m:=by
 cases m with
 | false=>rfl
 | true =>
  cases n with
  | zero=>exact absurd rfl h
  | succ n=>rfl
theorem O5 (m:Bool)(n:Nat):(gq m n).natAbs=n:=by
 cases m with
 | false=>rfl
 | true=>cases n <;> simp[gq,Int.negOfNat]
theorem gR (z:Int):gq (bq z) z.natAbs=z:=by
 cases z with
 | ofNat n=>rfl
 | negSucc n=>rfl
theorem tC (m:Bool)(n:Nat):itx m n=ztx (gq m n):=by
 unfold ztx
 rw[O5]
 by_cases h:n=0
 ·subst h;simp[itx]
 ·rw[O3 m n h]
theorem j5 (z:Int):Bok (ztx z):=SC _ _
def zs (z:Int):PV:=.sc (.string (tx (ztx z)))
def dQ (z:Int):Nat:=(dtx z.natAbs).length
theorem l7 (z:Int):∃ m,xl (ztx z)=some (m,dtx z.natAbs)∧(m=bq z):=by
 rw[ztx,O6]
 by_cases h:z.natAbs=0
 ·have:z=0:=by omega
  subst this
  exact⟨false,rfl,rfl⟩
 ·refine⟨bq z,?_,rfl⟩
  have hb:z.natAbs.beq 0=false:=by
   cases e:z.natAbs with
   | zero=>exact absurd e h
   | succ n=>rfl
  rw[hb,dtx,if_neg h];rfl
def fD:Nat:=3000000
def fB:PV→Option Int
 | .sc (.string s)=>match xl (bys s) with
  | some (m,ds)=>bif (bys s).length.ble fD && decide (bys s=ztx (gq m (dec 0 ds))) then some (gq m (dec 0 ds)) else none
  | none=>none
 | _=>none
theorem cZ {p:PV}{z:Int}(h:fB p=some z):p=zs z∧(ztx z).length≤fD:=by
 unfold fB at h
 split at h
 ·rename_i s
  split at h
  ·rename_i m ds e
   cases hb:(bys s).length.ble fD && decide (bys s=ztx (gq m (dec 0 ds))) with
   | false=>rw[hb] at h;cases h
   | true =>
    rw[hb] at h
    simp only[cond_true,Option.some.injEq] at h
    simp only[Bool.and_eq_true,Nat.ble_eq,decide_eq_true_eq] at hb
    rw[h] at hb
    refine⟨?_,by rw[← hb.2];exact hb.1⟩
    rw[zs,← hb.2,gV]
  ·cases h
 ·cases h
theorem cJ (z:Int)(h:(ztx z).length≤fD):fB (zs z)=some z:=by
 obtain⟨m,h1,h2⟩:=l7 z
 have h3:gq m (dec 0 (dtx z.natAbs))=z:=by rw[nF,h2,gR]
 have h4:(ztx z).length.ble fD=true:=by rw[Nat.ble_eq];exact h
 simp[fB,zs,ja (j5 z),h1,h3,h4]
theorem tN (z:Int):ztx z=(bif bq z then [45] else [])++dtx z.natAbs:=by
 by_cases h:z.natAbs=0
 ·have:z=0:=by omega
  subst this;rfl
 ·rw[ztx,itx,if_neg h,dtx,if_neg h]
theorem fT (z:Int):(ztx z).length=(bif bq z then 1 else 0)+dQ z:=by
 rw[tN]
 cases bq z <;> simp[dQ];omega
theorem tP (z:Int):0<dQ z:=by
 unfold dQ dtx
 by_cases h:z.natAbs=0
 ·rw[if_pos h];simp
 ·rw[if_neg h]
  have:=T.cN.2 h
  simpa using this
theorem rh {n k:Nat}(hk:0<k):(dtx n).length≤k ↔ n<10 ^ k:=by
 unfold dtx
 by_cases h:n=0
 ·subst h
  simp
  constructor
  ·intro _;exact Nat.pow_pos (by omega)
  ·intro _;exact hk
 ·rw[if_neg h,List.length_map,List.length_reverse]
  constructor
  ·intro h1
   exact Nat.lt_of_lt_of_le (T.fq n) (Nat.pow_le_pow_right (by omega) h1)
  ·intro h1
   exact T.cY h1
theorem Bi (x:Int):dQ (-x)=dQ x:=by unfold dQ;rw[Int.natAbs_neg]
theorem mW {x y:Int}(h:x.natAbs≤y.natAbs):dQ x≤dQ y:=by
 have h2:y.natAbs<10 ^ dQ y:=(rh (tP y)).1 (Nat.le_refl _)
 exact (rh (tP y)).2 (by omega)
theorem zp (n:Nat):(T.aA n).length≤(dtx n).length:=by
 unfold dtx
 by_cases h:n=0
 ·subst h;simp[T.ff]
 ·rw[if_neg h];simp
end Go.Ab
namespace Go.Proofs.YtjdmodeenbdfpaaGreat
open Go Go.Ab
def eH:List Nat→Nat
 | []=>0
 | a::l=>bif a.beq 45 then l.length else (a::l).length
theorem ack (a:Nat):((a:Int) == 45)=a.beq 45:=by
 cases h:a.beq 45 with
 | true=>rw[Nat.eq_of_beq_eq_true h];rfl
 | false =>
  rw[beq_eq_false_iff_ne]
  intro e
  have:a=45:=by omega
  subst this;cases h
theorem xq (L:Lst)(run:aq)(k:Nat)(l:List Nat)(hl:Bok l)(h9:l.length<100000000) :
  ∃ st,af (CC L) run k (Tryz.f147.body.getD .skip) ⟨entry 16 [.sc (.string (tx l))],[],[]⟩=some (.ret,st)∧aZ TT st.fr st.hp Tryz.f147.results.toList=some [iv (eH l)]:=by
 obtain⟨e1,e2⟩:=cP 15 (.sc (.string (tx l)))
 generalize entry 16 [.sc (.string (tx l))]=fr0 at *
 cases l with
 | nil=>simp[Tryz.f147,e1,e2,af,aH,an,ao,aG,ag,ai,aj,ak,aC,az,FP.none,bc,ar,bd,au,bH,aa,ae,ab,bf,dD,uAI,undef,aZ,eH,iv]
 | cons a l =>
  have hx:gy TT 94 (.sc (.string (tx (a::l)))) (.sc (.int .i64 0))=some (.sc (.int .u8 (a:Int))):=eO uAI hl .i64 0 (by simp)
  have hp:(0:Int)<(l.length:Int)+1:=by omega
  have hw:=cb .i64 l.length (hiI (by simp at h9;omega))
  have hb:=ack a
  cases h:a.beq 45 <;> rw[h] at hb <;> simp[Tryz.f147,e1,e2,af,aH,an,ao,aG,ag,ai,aj,ak,aC,az,FP.none,bc,ar,bd,au,bH,aa,ae,ab,bf,dD,uAI,hx,hb,hp,hw,aZ,eH,h,iv]
def kE:List PV→Option (List PV)
 | [.sc (.string s)]=>bif (bys s).length.blt 100000000 then some [iv (eH (bys s))] else none
 | _=>none
theorem xp:Ab.Spec base.P 147 kE:=Ab.Spec.bL (C:=CC []) (cU trivial) fun args rs h=>by
 unfold kE at h
 split at h
 ·rename_i s
  cases hb:(bys s).length.blt 100000000 with
  | false=>rw[hb] at h;cases h
  | true =>
   rw[hb] at h
   simp only[cond_true,Option.some.injEq] at h
   subst h
   rw[Nat.blt_eq] at hb
   obtain⟨st,x1,x2⟩:=xq [] (runK (CC []) 1) 1 (bys s) (lH s) hb
   rw[gV] at x1
   exact⟨2,_,_,_,_,_,aQ xE rfl x1 x2,rfl,Wk.refl rfl,trivial⟩
 ·cases h
noncomputable def LT2:Lst:=[(147,kE)]
theorem UC:dK base.P LT2:=⟨xp,trivial⟩
theorem Xh:bt LT2 147=fun a=>kE (aJ a):=rfl
theorem oD (run:aq)(dr:Bool)(hp:List Blk)(l:List Nat)(hl:Bok l)(h9:l.length<100000000):bU (CC LT2) run dr hp 147 [.sc (.string (tx l))]=some (.sc (.int .i64 (eH l:Int)),hp,⟨[],[],false,false⟩) :=
 bp BS Xh run dr hp _ [iv (eH l)] rfl rfl (by
  have h:l.length.blt 100000000=true:=by rw[Nat.blt_eq];exact h9
  simp only[kE,ja hl,h,cond_true])
theorem CN (run:aq)(k:Nat)(l:List Nat)(hl:Bok l)(h9:l.length<100000000) :
  ∃ st,af (CC LT2) run k (Tryz.f100.body.getD .skip) ⟨entry 6 [.sc (.string (tx l))],[],[]⟩=some (.ret,st)∧aZ TT st.fr st.hp Tryz.f100.results.toList=some [.sc (.bool (decide (1000<eH l)))]:=by
 obtain⟨e1,e2⟩:=cP 5 (.sc (.string (tx l)))
 generalize entry 6 [.sc (.string (tx l))]=fr0 at *
 have hc:=fun dr hp=>oD run dr hp l hl h9
 generalize eH l=d at *
 have h1:((1000:Int)<(d:Int))=(1000<d):=by apply propext;omega
 simp[Tryz.f100,e1,e2,af,aH,an,ao,aG,ag,ai,aP,aj,ak,aC,az,FP.none,bc,ar,bd,au,aa,ae,ab,hc,aZ,h1]
def ni:List PV→Option (List PV)
 | [.sc (.string s)]=>bif (bys s).length.blt 100000000 then some [.sc (.bool (decide (1000<eH (bys s))))] else none
 | _=>none
theorem sx:Ab.Spec base.P 100 ni:=Ab.Spec.bL (C:=CC LT2) (cU UC) fun args rs h=>by
 unfold ni at h
 split at h
 ·rename_i s
  cases hb:(bys s).length.blt 100000000 with
  | false=>rw[hb] at h;cases h
  | true =>
   rw[hb] at h
   simp only[cond_true,Option.some.injEq] at h
   subst h
   rw[Nat.blt_eq] at hb
   obtain⟨st,x1,x2⟩:=CN (runK (CC LT2) 1) 1 (bys s) (lH s) hb
   rw[gV] at x1
   exact⟨2,_,_,_,_,_,aQ EC rfl x1 x2,rfl,Wk.refl rfl,trivial⟩
 ·cases h
noncomputable def si:Code:=((Tryz.f113.body).bind aF).getD .skip
noncomputable def lO:Code:=Tryz.f113.body.getD .skip
theorem P4 (L:Lst)(run:aq)(k:Nat)(fr:List PV)(l:List Nat)(h38:fr.length=38)(h0:nth fr 0 = .sc (.string (tx l)))(h5:nth fr 5=iv l.length) :
  ∃ fr',af (CC L) run k si ⟨fr,[],[]⟩=some (.exit 0,⟨fr',[],[]⟩)∧fr'.length=38∧nth fr' 0 = .sc (.string (tx l))∧nth fr' 4=nth fr 4:=by
 simp only[iv] at h5
 simp[si,Tryz.f113,aF,af,aH,an,ao,aG,ag,ai,aj,ak,aC,az,FP.none,bc,ar,bd,bH,aa,ae,ab,bf,dD,h38,h0,h5,uAI]
set_option maxHeartbeats 1000000 in
theorem Lu (L:Lst)(run:aq)(k:Nat)(fr:List PV)(l:List Nat)(i:Nat)(hl:Bok l)(hi:i<l.length)(hi9:i<20000000)(h45:at0 l i=45)(h38:fr.length=38)(h0:nth fr 0 = .sc (.string (tx l)))(h5:nth fr 5=iv i) :
  ∃ fr',af (CC L) run k si ⟨fr,[],[]⟩=some (.normal,⟨fr',[],[]⟩)∧fr'.length=38∧nth fr' 0 = .sc (.string (tx l))∧nth fr' 4=nth fr 4∧nth fr' 5=iv (i+1):=by
 have hx:=eO uAI hl .i64 i hi
 have hw:=bF i (by omega)
 rw[h45] at hx
 simp only[iv] at h5 ⊢
 simp[si,Tryz.f113,aF,af,aH,an,ao,aG,ag,ai,aj,ak,aC,az,FP.none,bc,ar,bd,au,bH,aa,ae,ab,bf,dD,h38,h0,h5,uAI,hi,hx,hw]
set_option maxHeartbeats 1000000 in
theorem Wx (L:Lst)(run:aq)(k:Nat)(fr:List PV)(l:List Nat)(i n:Nat)(hl:Bok l)(hi:i<l.length)(hi9:i<20000000)(hd:kM (at0 l i)=true)(hn:n<1000000000)(h38:fr.length=38)(h0:nth fr 0 = .sc (.string (tx l)))(h4:nth fr 4=iv n)(h5:nth fr 5=iv i) :
  ∃ fr',af (CC L) run k si ⟨fr,[],[]⟩=some (.normal,⟨fr',[],[]⟩)∧fr'.length=38∧nth fr' 0 = .sc (.string (tx l))∧nth fr' 4=iv (stp n (at0 l i))∧nth fr' 5=iv (i+1):=by
 have hx:=eO uAI hl .i64 i hi
 rw[dy] at hd
 have hw:=bF i (by omega)
 generalize at0 l i=b at *
 obtain⟨s1,hs1⟩:∃ s1,s1=10*n:=⟨_,rfl⟩
 obtain⟨s2,hs2⟩:∃ s2,s2=s1+b:=⟨_,rfl⟩
 obtain⟨s3,hs3⟩:∃ s3,s3=stp n b:=⟨_,rfl⟩
 have hs4:s2=s3+48:=by rw[hs3,hs2,hs1];unfold stp dv;omega
 rw[← hs3]
 have hw1:=Ia .i64 n s1 hs1 (hiI (by omega))
 have hw2:=cb .i64 b (hiI (by omega))
 have hw3:=dm .i64 s1 b s2 hs2 (hiI (by omega))
 have hw4:=zS .i64 s2 s3 hs4 (hiI (by omega))
 have hne:((b:Int) == 45)=false:=by rw[beq_eq_false_iff_ne];omega
 have hne2 : ¬ ((b:Int)=45):=by omega
 simp only[iv] at h4 h5 ⊢
 simp[si,Tryz.f113,aF,af,aH,an,ao,aG,ag,ai,aj,ak,aC,az,FP.none,bc,ar,bd,au,bH,aa,ae,ab,bf,dD,h38,h0,h4,h5,uAI,uI,u8T,dn,hi,hx,hne,bne,hw,hw1,hw2,hw3,hw4]
theorem qI (L:Lst)(run:aq)(k:Nat)(m:Bool)(ds:List Nat)(hd:eD ds=true)(h9:ds.length≤9):∀ (n i:Nat) (fr:List PV) (x:Nat),i+n=((bif m then [45] else [])++ds).length →
  fr.length=38→nth fr 0 = .sc (.string (tx ((bif m then [45] else [])++ds)))→nth fr 4=iv x→nth fr 5=iv i→x=dec 0 (ds.take (i - (bif m then 1 else 0))) →
  ∃ (fr':List PV),bX (af (CC L) run k si) (n+1) ⟨fr,[],[]⟩=some (.exit 0,⟨fr',[],[]⟩)∧fr'.length=38∧nth fr' 0 = .sc (.string (tx ((bif m then [45] else [])++ds)))∧nth fr' 4=iv (dec 0 ds)
 | 0,i,fr,x,hin,h38,h0,h4,h5,hx=>by
  have e:i=((bif m then [45] else [])++ds).length:=by omega
  rw[e] at h5
  obtain⟨fr',q1,q2,q3,q4⟩:=P4 L run k fr _ h38 h0 h5
  refine⟨fr',bw q1,q2,q3,?_⟩
  rw[q4,h4,hx,List.take_of_length_le (by rw[e];cases m <;> simp)]
 | n+1,i,fr,x,hin,h38,h0,h4,h5,hx=>by
  have hB:Bok ((bif m then [45] else [])++ds):=by
   refine Bok.append ?_ ?_
   ·cases m
    ·exact Bok.nil
    ·exact Bok.nil.cons (by omega)
   ·intro x hx
    have:=dy.1 (fJ hd hx)
    omega
  have hlen:((bif m then [45] else [])++ds).length=(bif m then 1 else 0)+ds.length:=by cases m <;> simp;omega
  rw[hlen] at hin
  have hil:i<(bif m then 1 else 0)+ds.length:=by omega
  have hi9:i<20000000:=by cases m <;> simp at hil <;> omega
  by_cases hs:m=true∧i=0
  ·obtain⟨rfl,rfl⟩:=hs
   obtain⟨fr1,g1,g2,g3,g4,g5⟩:=Lu L run k fr _ 0 hB (by rw[hlen];exact hil) hi9 rfl h38 h0 h5
   obtain⟨fr',q1,q2⟩:=qI L run k true ds hd h9 n 1 fr1 x (by rw[hlen];omega) g2 g3 (by rw[g4,h4]) g5 (by simpa using hx)
   exact⟨fr',by rw[bV g1];exact q1,q2⟩
  ·obtain⟨j,hj,hj2⟩:∃ j,i=(bif m then 1 else 0)+j∧j<ds.length:=by
    cases m with
    | false=>exact⟨i,by simp,by simp at hil;exact hil⟩
    | true =>
     have:i≠0:=fun h=>hs ⟨rfl,h⟩
     exact⟨i - 1,by simp;omega,by simp at hil;omega⟩
   have hat:at0 ((bif m then [45] else [])++ds) i=ds[j]:=by
    unfold at0
    cases m with
    | false=>simp only[cond_false,List.nil_append,Nat.zero_add] at hj ⊢;subst hj;simp[hj2]
    | true=>simp only[cond_true] at hj ⊢;subst hj;rw[Nat.add_comm];simp[hj2]
   have hdb:kM (at0 ((bif m then [45] else [])++ds) i)=true:=by rw[hat];exact fJ hd (List.getElem_mem hj2)
   have hdr:i - (bif m then 1 else 0)=j:=by rw[hj];cases m <;> simp
   have hdr2:i+1 - (bif m then 1 else 0)=j+1:=by rw[hj];cases m <;> simp <;> omega
   rw[hdr] at hx
   have hx9:x<1000000000:=by
    have h1:eD (ds.take j)=true:=by
     have:=fO (ds.take j) (ds.drop j)
     rw[List.take_append_drop,hd] at this
     have h2:=this.symm
     rw[Bool.and_eq_true] at h2
     exact h2.1
    have h2:=dec_lt _ h1
    rw[hx]
    refine Nat.lt_of_lt_of_le h2 (Nat.le_trans (Nat.pow_le_pow_right (by omega) (show (ds.take j).length≤9 by rw[List.length_take];omega)) (by decide))
   obtain⟨fr1,g1,g2,g3,g4,g5⟩:=Wx L run k fr _ i x hB (by rw[hlen];exact hil) hi9 hdb hx9 h38 h0 h4 h5
   rw[hat] at g4
   obtain⟨fr',q1,q2⟩:=qI L run k m ds hd h9 n (i+1) fr1 _ (by rw[hlen];omega) g2 g3 g4 g5 (by
    rw[hdr2,List.take_succ_eq_append_getElem hj2,lG,← hx];rfl)
   exact⟨fr',by rw[bV g1];exact q1,q2⟩
theorem Hi {s:List Nat}{m:Bool}{ds:List Nat}(h:xl s=some (m,ds)):eH s=ds.length:=by
 obtain⟨h1,h2,h3⟩:=qw h
 cases m with
 | true=>subst h1;rfl
 | false =>
  simp only[cond_false,List.nil_append] at h1
  subst h1
  cases s with
  | nil=>rfl
  | cons a l =>
   have:=dy.1 (fJ h2 (List.mem_cons_self ..))
   have hb:a.beq 45=false:=by
    cases e:a.beq 45 with
    | false=>rfl
    | true=>have:=Nat.eq_of_beq_eq_true e;omega
   simp[eH,hb]
noncomputable def FZ:Code:=seq1 (seq1 (ah 3 lO))
theorem CB:ah 3 lO = .seq (.seq FZ (.block 0 (.loop si))) (ah 4 lO):=rfl
theorem Lw (run:aq)(k:Nat)(l:List Nat)(hl:Bok l)(h9:l.length<100000000)(hd:9<eH l) :
  ∃ st,af (CC LT2) run k lO ⟨entry 38 [.sc (.string (tx l))],[],[]⟩=some (.ret,st)∧aZ TT st.fr st.hp Tryz.f113.results.toList=some [Ab.bC 0,.sc (.bool false)]:=by
 obtain⟨e1,e2⟩:=cP 37 (.sc (.string (tx l)))
 generalize entry 38 [.sc (.string (tx l))]=fr0 at *
 have hc:=fun dr hp=>oD run dr hp l hl h9
 generalize eH l=d at *
 have h1:((9:Int)<(d:Int)):=by omega
 simp[lO,Tryz.f113,e1,e2,af,aH,an,ao,aG,ag,ai,aP,aj,ak,aC,az,FP.none,bc,ar,bd,au,aa,ae,ab,hc,aZ,h1,Ab.bC]
theorem Lv (run:aq)(k:Nat)(l:List Nat)(hl:Bok l)(h9:l.length<100000000)(hd:eH l≤9) :
  ∃ fr,aY (CC LT2) run k 3 lO ⟨entry 38 [.sc (.string (tx l))],[],[]⟩=some ⟨fr,[],[]⟩∧fr.length=38∧nth fr 0 = .sc (.string (tx l))∧nth fr 4=iv 0:=by
 obtain⟨e1,e2⟩:=cP 37 (.sc (.string (tx l)))
 generalize entry 38 [.sc (.string (tx l))]=fr0 at *
 have hc:=fun dr hp=>oD run dr hp l hl h9
 generalize eH l=d at *
 have h1 : ¬ ((9:Int)<(d:Int)):=by omega
 simp[lO,Tryz.f113,aY,e1,e2,af,aH,an,ao,aG,ag,ai,aP,aj,ak,aC,az,FP.none,bc,ar,bd,au,aa,ae,ab,hc,h1,iv]
theorem Ww (L:Lst)(run:aq)(k:Nat)(fr:List PV)(h38:fr.length=38) :
  ∃ fr',af (CC L) run k FZ ⟨fr,[],[]⟩=some (.normal,⟨fr',[],[]⟩)∧fr'.length=38∧nth fr' 0=nth fr 0∧nth fr' 4=nth fr 4∧nth fr' 5=iv 0:=by
 simp[FZ,lO,ah,seq1,Tryz.f113,af,aH,an,ao,aG,ag,ai,aj,ak,aC,az,FP.none,au,aa,ae,ab,h38,iv]
theorem Lx (L:Lst)(run:aq)(k:Nat)(fr:List PV)(a:Nat)(l:List Nat)(x:Nat)(hl:Bok (a::l))(hx9:x<1000000000)(h38:fr.length=38)(h0:nth fr 0 = .sc (.string (tx (a::l))))(h4:nth fr 4=iv x) :
  ∃ st,af (CC L) run k (ah 4 lO) ⟨fr,[],[]⟩=some (.ret,st)∧aZ TT st.fr st.hp Tryz.f113.results.toList=some [Ab.bC (gq (a.beq 45) x),.sc (.bool true)]:=by
 have hx:gy TT 94 (.sc (.string (tx (a::l)))) (.sc (.int .i64 0))=some (.sc (.int .u8 (a:Int))):=eO uAI hl .i64 0 (by simp)
 have hp:(0:Int)<(l.length:Int)+1:=by omega
 have hb:=ack a
 have hw:bu .i64 (-(x:Int)) = -(x:Int):=fk _ (by omega) (by omega)
 simp only[iv] at h4
 cases h:a.beq 45 with
 | true =>
  rw[h] at hb
  have e:gq true x = -(x:Int):=by cases x <;> rfl
  rw[e]
  simp[lO,ah,Tryz.f113,af,aH,an,ao,aG,ag,ai,aj,ak,aC,az,FP.none,bc,ar,bd,au,bH,unP,aa,ae,ab,bf,dD,h38,h0,h4,uAI,hx,hp,hb,hw,aZ,Ab.bC]
 | false =>
  rw[h] at hb
  have e:gq false x=(x:Int):=rfl
  rw[e]
  simp[lO,ah,Tryz.f113,af,aH,an,ao,aG,ag,ai,aj,ak,aC,az,FP.none,bc,ar,bd,au,bH,aa,ae,ab,bf,dD,h38,h0,h4,uAI,hx,hp,hb,aZ,Ab.bC]
def sh:List PV→Option (List PV)
 | [.sc (.string s)]=>match xl (bys s) with
  | some (m,ds)=>bif (bys s).length.blt 100000000 then (bif ds.length.ble 9 then some [Ab.bC (gq m (dec 0 ds)),.sc (.bool true)] else some [Ab.bC 0,.sc (.bool false)]) else none
  | none=>none
 | _=>none
theorem yu:Ab.Spec base.P 113 sh:=Ab.Spec.bL (C:=CC LT2) (cU UC) fun args rs h=>by
 unfold sh at h
 split at h
 ·rename_i s
  split at h
  ·rename_i m ds e
   cases hb:(bys s).length.blt 100000000 with
   | false=>rw[hb] at h;cases h
   | true =>
    rw[hb] at h
    simp only[cond_true] at h
    rw[Nat.blt_eq] at hb
    have hs:s=tx (bys s):=(gV s).symm
    have hok:=lH s
    have hdn:=Hi e
    obtain⟨e1,e2,e3⟩:=qw e
    cases hc:ds.length.ble 9 with
    | false =>
     rw[hc] at h
     simp only[cond_false,Option.some.injEq] at h
     subst h
     have hd:9<eH (bys s):=by
      rw[hdn]
      rcases Nat.lt_or_ge 9 ds.length with h | h
      ·exact h
      ·rw[show ds.length.ble 9=true by rw[Nat.ble_eq];exact h] at hc;cases hc
     obtain⟨st,x1,x2⟩:=Lw (runK (CC LT2) 1) 1 (bys s) hok hb hd
     rw[← hs] at x1
     exact⟨2,_,_,_,_,_,aQ qg rfl x1 x2,rfl,Wk.refl rfl,Wk.refl rfl,trivial⟩
    | true =>
     rw[hc] at h
     simp only[cond_true,Option.some.injEq] at h
     subst h
     rw[Nat.ble_eq] at hc
     obtain⟨f1,p1,p2,p3,p4⟩:=Lv (runK (CC LT2) ((bys s).length+1)) ((bys s).length+1) (bys s) hok hb (by rw[hdn];exact hc)
     obtain⟨f2,q1,q2,q3,q4,q5⟩:=Ww LT2 (runK (CC LT2) ((bys s).length+1)) ((bys s).length+1) f1 p2
     obtain⟨f3,r1,r2,r3,r4⟩:=qI LT2 (runK (CC LT2) ((bys s).length+1)) ((bys s).length+1) m ds e2 hc (bys s).length 0 f2 0 (by rw[← e1];omega) q2 (by rw[q3,p3,← e1]) (by rw[q4,p4]) q5 (by cases m <;> rfl)
     rw[← e1] at r3
     obtain⟨a,l,hal⟩:∃ a l,bys s=a::l:=by
      cases h:bys s with
      | nil=>exact absurd h e3
      | cons a l=>exact⟨a,l,rfl⟩
     have hm:a.beq 45=m:=by
      rw[hal] at e1
      cases m with
      | true=>simp at e1;rw[e1.1];rfl
      | false =>
       simp only[cond_false,List.nil_append] at e1
       subst e1
       have:=dy.1 (fJ e2 (List.mem_cons_self ..))
       cases h:a.beq 45 with
       | false=>rfl
       | true=>have:=Nat.eq_of_beq_eq_true h;omega
     have hx9:dec 0 ds<1000000000:=Nat.lt_of_lt_of_le (dec_lt _ e2) (Nat.le_trans (Nat.pow_le_pow_right (by omega) hc) (by decide))
     rw[hal] at hok r3
     obtain⟨st,x1,x2⟩:=Lx LT2 (runK (CC LT2) ((bys s).length+1)) ((bys s).length+1) f3 a l _ hok hx9 r2 r3 r4
     rw[hm] at x2
     have hx:af (CC LT2) (runK (CC LT2) ((bys s).length+1)) ((bys s).length+1) lO ⟨entry 38 [.sc (.string s)],[],[]⟩=some (.ret,st):=by
      rw[gV] at p1
      rw[aO 3 p1,CB,aw ((aw q1).trans (bE r1))]
      exact x1
     exact⟨(bys s).length+2,_,_,_,_,_,aQ qg rfl hx x2,rfl,Wk.refl rfl,Wk.refl rfl,trivial⟩
  ·cases h
 ·cases h
end Go.Proofs.YtjdmodeenbdfpaaGreat
