/- Contracts of numbers kept as digits in text, part 27 of the proof; each lemma states its own conditions. -/
import Derived.Test.YtjdmodeenbdfpaaGreatT26
set_option linter.unusedSimpArgs false
set_option linter.unusedVariables false
namespace Go.Proofs.YtjdmodeenbdfpaaGreat
open Go Go.Ab List Tryz
noncomputable def zX:Code:=((f116.body).bind aC).getD .skip
noncomputable def iq:Code:=f116.body.getD .skip
theorem qF:und TT 43=some (.slice 5):=by kernel_rfl
theorem sU8:dt TT 5=some 1:=by kernel_rfl
theorem bU8:ie TT 5=some 1:=by kernel_rfl
theorem zU8:eK TT 5=some [u8v 0]:=by kernel_rfl
theorem KY (n:Nat):eL TT 43 1 [(0,.sc (.int .u8 (n:Int)))]=some (1,[u8v n]):=afO qF sU8 zU8 n
theorem SC (L:Lst)(run:ar)(k:Nat)(fr:List PV)(hp:List Blk)(wr:List Nat)(h34:fr.length=34)(h6:nth fr 6 = .sc (.int .i64 (-1))) :
  ∃ fr',af (CC L) run k zX ⟨fr,hp,wr⟩=some (.exit 0,⟨fr',hp,wr⟩)∧fr'.length=34∧nth fr' 5=nth fr 5:=by
 simp[zX,f116,aC,af,aH,ao,aq,aG,ag,ai,an,aj,aF,aA,FzZ,bc,aw,bj,az,aa,ae,ab,h34,h6]
set_option maxHeartbeats 1000000 in
theorem Hj (L:Lst)(run:ar)(k:Nat)(fr:List PV)(hp:List Blk)(wr:List Nat)(t out:List Nat)(i:Nat)(ht:T.Dok t)(hi:i<t.length)(hi9:t.length<20000000)(ho9:out.length<20000001)(h34:fr.length=34)(h1:nth fr 1=bC t)(h6:nth fr 6=iv i)(hO:dF u8v 0 hp out (nth fr 5)) :
  ∃ fr' hp' wr',af (CC L) run k zX ⟨fr,hp,wr⟩=some (.normal,⟨fr',hp',wr'⟩)∧fr'.length=34∧nth fr' 1=bC t∧dF u8v 0 hp' (out++[at0 t i+48]) (nth fr' 5)∧nth fr' 6 = .sc (.int .i64 ((i:Int) - 1)):=by
 have hda:=fM t i hi
 have hd9:=T.cF ht i
 generalize at0 t i=d at *
 obtain⟨b,hb⟩:∃ b,b=d+48:=⟨_,rfl⟩
 rw[← hb]
 obtain⟨p',hp',fp,g1,g2,-⟩:=hO.app b (by omega)
 have hw:=cU i (by omega)
 have hw1:bE .i64 (48+(d:Int))=(b:Int):=by rw[show (48+(d:Int))=(b:Int) by omega];exact cG .i64 b (hiI (by omega))
 have hw2:bE .u8 (b:Int)=(b:Int):=cG .u8 b (show b≤255 by omega)
 have hlX:=KY b
 have e1:bC t = .imm t.length false (t.map iv):=rfl
 rw[e1] at h1 ⊢
 simp only[iv] at h6
 simp[zX,f116,aC,af,aH,ao,aq,aG,ag,ai,an,aj,aF,aA,FzZ,bc,aw,bj,az,bg,bm,partOf,aa,ae,ab,bd,and_assoc,bh,lV,h34,h1,h6,hi,hda,aV,uL,uI,sI,aI,u8T,dS,hw,hw1,hw2,hlX,Kq,tf,qF,sU8,bU8,zU8,cg,g1,g2]
theorem zV (L:Lst)(run:ar)(k:Nat)(t pre:List Nat)(ht:T.Dok t)(h9:t.length<10000000)(hp9:pre.length≤1):∀ (n:Nat) (fr:List PV) (hp:List Blk) (wr:List Nat) (out:List Nat),n≤t.length →
  fr.length=34→nth fr 1=bC t→nth fr 6 = .sc (.int .i64 ((n:Int) - 1))→dF u8v 0 hp out (nth fr 5)→out=pre++(t.drop n).reverse.map (· + 48) →
  ∃ (fr':List PV) (hp':List Blk) (wr':List Nat),cu (af (CC L) run k zX) (n+1) ⟨fr,hp,wr⟩=some (.exit 0,⟨fr',hp',wr'⟩)∧fr'.length=34∧dF u8v 0 hp' (pre++t.reverse.map (· + 48)) (nth fr' 5)
 | 0,fr,hp,wr,out,hn,h34,h1,h6,hO,ho=>by
  obtain⟨fr',q1,q2,q3⟩:=SC L run k fr hp wr h34 (by rw[h6];rfl)
  refine⟨fr',hp,wr,bD q1,q2,?_⟩
  rw[q3]
  rw[drop_zero] at ho
  rw[← ho];exact hO
 | n+1,fr,hp,wr,out,hn,h34,h1,h6,hO,ho=>by
  have h6':nth fr 6=iv n:=by rw[h6];simp[iv]
  obtain⟨fr1,hp1,wr1,g1,g2,g3,g4,g5⟩:=Hj L run k fr hp wr t out n ht (by omega) (by omega) (by rw[ho];simp;omega) h34 h1 h6' hO
  obtain⟨fr',hp',wr',q1,q2,q3⟩:=zV L run k t pre ht h9 hp9 n fr1 hp1 wr1 _ (by omega) g2 g3 g5 g4 (by
   rw[ho,drop_eq_getElem_cons (show n<t.length by omega),dm (show n<t.length by omega),reverse_cons,map_append]
   simp only[map_cons,map_nil,append_assoc])
  exact⟨fr',hp',wr',by rw[ct g1];exact q1,q2,q3⟩
noncomputable def BD:Code:=seq1 (ah 4 iq)
noncomputable def Hk:Code:=seq1 (seq1 (ah 5 iq))
theorem DA:ah 4 iq = .seq BD (ah 5 iq):=rfl
theorem Dz:ah 5 iq = .seq (.seq Hk (.block 0 (.loop zX))) (ah 6 iq):=rfl
theorem Fv (run:ar)(dr:Bool)(hp:List Blk)(l:List Nat)(hd:T.Dok l)(hl:l.length<10000000):bX (CC LT1) run dr hp 156 [bC l]=some (bC (T.aK (T.val l)),hp,⟨[],[],false,false⟩) :=
 bw lQ xG run dr hp _ [bC (T.aK (T.val l))] (pP hp l) (by simp only[aJ,qg]) (by simp only[iT,ed hd hl,T.eX hd])
theorem SA (run:ar)(k:Nat)(m:Bool)(l t:List Nat)(hc:∀ hp,bX (CC LT1) run false hp 156 [bC l]=some (bC t,hp,⟨[],[],false,false⟩)) :
  ∃ fr,aX (CC LT1) run k 2 iq ⟨entry 34 [.sc (.bool m),bC l],[],[]⟩=some ⟨fr,[],[]⟩∧fr.length=34∧nth fr 0 = .sc (.bool m)∧nth fr 1=bC t:=by
 obtain⟨e1,e2,e3⟩:=cn 32 (.sc (.bool m)) (bC l)
 generalize entry 34 [.sc (.bool m),bC l]=fr0 at *
 simp[iq,f116,aX,e1,e2,e3,af,aH,ao,aq,aG,ag,ai,aL,an,aj,aF,aA,FzZ,az,aa,ae,ab,hc]
theorem Nr (L:Lst)(run:ar)(k:Nat)(fr:List PV)(hp:List Blk)(wr:List Nat)(h34:fr.length=34)(h1:nth fr 1=bC []) :
  ∃ st,af (CC L) run k (ah 2 iq) ⟨fr,hp,wr⟩=some (.ret,st)∧aU TT st.fr st.hp f116.results.toList=some [.sc (.string (tx [48]))]:=by
 have:(tx [48])={ data:=#[48] } := rfl
 rw[this]
 simp[iq,ah,f116,af,aH,ao,aq,aG,ag,ai,an,aj,aF,aA,FzZ,bc,aw,bj,az,bO,aa,ab,bd,dY,h34,h1,uL,aU]
theorem SB (L:Lst)(run:ar)(k:Nat)(fr:List PV)(hp:List Blk)(wr:List Nat)(m:Bool)(t:List Nat)(ht:0<t.length)(h34:fr.length=34)(h0:nth fr 0 = .sc (.bool m))(h1:nth fr 1=bC t) :
  ∃ fr',aX (CC L) run k 2 (ah 2 iq) ⟨fr,hp,wr⟩=some ⟨fr',hp,wr⟩∧fr'.length=34∧nth fr' 0 = .sc (.bool m)∧nth fr' 1=bC t∧nth fr' 5 = .sc (.slice none 0 0):=by
 have h:((t.length:Int) == 0)=false:=by rw[beq_eq_false_iff_ne];omega
 have h2 : ¬ (t.length=0):=by omega
 have h3:t≠[]:=by intro e;subst e;simp at ht
 simp[iq,ah,f116,aX,af,aH,ao,aq,aG,ag,ai,an,aj,aF,aA,FzZ,bc,aw,bj,az,bO,aa,ae,ab,bd,dY,h34,h0,h1,uL,h]
theorem ZC (L:Lst)(run:ar)(k:Nat)(fr:List PV)(m:Bool)(t:List Nat)(h34:fr.length=34)(h0:nth fr 0 = .sc (.bool m))(h1:nth fr 1=bC t)(h5:nth fr 5 = .sc (.slice none 0 0)) :
  ∃ fr' hp' wr',af (CC L) run k BD ⟨fr,[],[]⟩=some (.normal,⟨fr',hp',wr'⟩)∧fr'.length=34∧nth fr' 1=bC t∧dF u8v 0 hp' (bif m then [45] else []) (nth fr' 5):=by
 cases m with
 | false =>
  have hO:dF u8v 0 [] [] (.sc (.slice none 0 0)):=dF.nil (Nat.le_refl _)
  simp[BD,iq,ah,seq1,f116,af,aH,ao,aq,aG,ag,ai,an,aj,aF,aA,FzZ,aa,ae,ab,and_assoc,h34,h0,h1,h5,hO]
 | true =>
  obtain⟨p',hp',fp,g1,g2,-⟩:=(dF.nil (e:=u8v) (b:=0) (hp:=[]) (Nat.le_refl _)).app 45 (by simp)
  rw[nil_append] at g2
  have hlX:eL TT 43 1 [(0,.sc (.int .u8 45))]=some (1,[u8v 45]):=KY 45
  simp[BD,iq,ah,seq1,f116,af,aH,ao,aq,aG,ag,ai,an,aj,aF,aA,FzZ,az,aa,ae,ab,bd,and_assoc,bh,lV,h34,h0,h1,h5,hlX,Kq,tf,qF,sU8,bU8,zU8,cg,g1,g2]
theorem ZB (L:Lst)(run:ar)(k:Nat)(fr:List PV)(hp:List Blk)(wr:List Nat)(t:List Nat)(ht:t.length<20000000)(h34:fr.length=34)(h1:nth fr 1=bC t) :
  ∃ fr',af (CC L) run k Hk ⟨fr,hp,wr⟩=some (.normal,⟨fr',hp,wr⟩)∧fr'.length=34∧nth fr' 1=bC t∧nth fr' 5=nth fr 5∧nth fr' 6 = .sc (.int .i64 ((t.length:Int) - 1)):=by
 have hw:=cU t.length (by omega)
 simp[Hk,iq,ah,seq1,f116,af,aH,ao,aq,aG,ag,ai,an,aj,aF,aA,FzZ,bc,aw,bj,az,bO,aa,ae,ab,bd,dY,h34,h1,uL,hw]
theorem Ns (L:Lst)(run:ar)(k:Nat)(fr:List PV)(hp:List Blk)(wr:List Nat)(l:List Nat)(hl:Bok l)(h34:fr.length=34)(hO:dF u8v 0 hp l (nth fr 5)) :
  ∃ st,af (CC L) run k (ah 6 iq) ⟨fr,hp,wr⟩=some (.ret,st)∧aU TT st.fr st.hp f116.results.toList=some [.sc (.string (tx l))]:=by
 obtain⟨ids,h1⟩:=hO.s.rd
 have h2:=FB hl
 have hcv:dS TT hp 43 94 (nth fr 5)=some (.sc (.string (tx l)),ids):=by
  have h3:tx l=mkStr (l.map UInt8.ofNat):=rfl
  rw[h3]
  obtain⟨-,h⟩:=hO
  rcases h with ⟨rfl,h⟩| ⟨id,m,-,-,h,-⟩
  ·rw[h] at h1 ⊢
   simp only[dS,qF,uAI,u8T,h1,h2]
  ·rw[h] at h1 ⊢
   simp only[dS,qF,uAI,u8T,h1,h2]
 simp[iq,ah,f116,af,aH,ao,aq,aG,ag,ai,an,aj,aF,aA,FzZ,aa,ab,bd,h34,hcv,aU]
def nf:List PV→Option (List PV)
 | [.sc (.bool m),p]=>match np p with
  | some l=>some [.sc (.string (tx (itx m (T.val l))))]
  | none=>none
 | _=>none
theorem KG (hp:List Blk)(s:ByteArray):bq (snap hp bn) [.sc (.string s)]=some ([.sc (.string s)],[]):=rfl
theorem sK:Ab.Spec base.P 116 nf:=Ab.Spec.bM (C:=CC LT1) (cP Jf) fun args rs h=>by
 unfold nf at h
 split at h
 ·split at h
  ·rename_i m p _ l e
   obtain⟨rfl,hd,hl⟩:=gG e
   simp only[OiE] at h
   subst h
   have hlt:=T.du (T.fh hd)
   obtain⟨f1,p1,p2,p3,p4⟩:=SA (runK (CC LT1) (l.length+1)) (l.length+1) m l _ (fun hp=>Fv (runK (CC LT1) (l.length+1)) false hp l hd hl)
   by_cases h0:T.val l=0
   ·rw[h0] at p4
    obtain⟨st,x1,x2⟩:=Nr LT1 (runK (CC LT1) (l.length+1)) (l.length+1) f1 [] [] p2 p4
    have hx:af (CC LT1) (runK (CC LT1) (l.length+1)) (l.length+1) iq ⟨entry 34 [.sc (.bool m),bC l],[],[]⟩=some (.ret,st):=by
     rw[aO 2 p1];exact x1
    rw[h0]
    exact⟨l.length+2,_,_,_,_,_,aP uQ rfl hx x2,KG _ _,Wk.refl rfl,trivial⟩
   ·obtain⟨f2,q1,q2,q3,q4,q5⟩:=SB LT1 (runK (CC LT1) (l.length+1)) (l.length+1) f1 [] [] m _ (T.da.2 h0) p2 p3 p4
    obtain⟨f3,hp3,wr3,r1,r2,r3,r4⟩:=ZC LT1 (runK (CC LT1) (l.length+1)) (l.length+1) f2 m _ q2 q3 q4 q5
    obtain⟨f4,s1,s2,s3,s4,s5⟩:=ZB LT1 (runK (CC LT1) (l.length+1)) (l.length+1) f3 hp3 wr3 _ (by omega) r2 r3
    obtain⟨f5,hp5,wr5,t1,t2,t3⟩:=zV LT1 (runK (CC LT1) (l.length+1)) (l.length+1) (T.aK (T.val l)) (bif m then [45] else []) (T.cb _) (by omega) (by cases m <;> simp) _ f4 hp3 wr3 _ (Nat.le_refl _) s2 s3 s5 (by rw[s4];exact r4) (by simp)
    have hitx:itx m (T.val l)=(bif m then [45] else [])++(T.aK (T.val l)).reverse.map (· + 48):=by rw[itx,if_neg h0]
    rw[← hitx] at t3
    obtain⟨st,x1,x2⟩:=Ns LT1 (runK (CC LT1) (l.length+1)) (l.length+1) f5 hp5 wr5 _ (Vo _ _) t2 t3
    have hx:af (CC LT1) (runK (CC LT1) (l.length+1)) (l.length+1) iq ⟨entry 34 [.sc (.bool m),bC l],[],[]⟩=some (.ret,st):=by
     rw[aO 2 p1,aO 2 q1,show ah 2 (ah 2 iq)=ah 4 iq from rfl,DA,av r1,Dz,av ((av s1).trans (bN (ca t1 (by omega))))]
     exact x1
    exact⟨l.length+2,_,_,_,_,_,aP uQ rfl hx x2,KG _ _,Wk.refl rfl,trivial⟩
  ·cases h
 ·cases h
end Go.Proofs.YtjdmodeenbdfpaaGreat
namespace Go.Ab
open Go List
def ia (m:Bool)(n:Nat):Int:=bif m then Int.negOfNat n else Int.ofNat n
theorem RJ (m:Bool)(n:Nat)(h:n≠0):bA (ia m n)=m:=by
 cases m with
 | false=>rfl
 | true =>
  cases n with
  | zero=>exact absurd rfl h
  | succ n=>rfl
theorem RM (m:Bool)(n:Nat):(ia m n).natAbs=n:=by
 cases m with
 | false=>rfl
 | true=>cases n <;> simp[ia,Int.negOfNat]
theorem iG (z:Int):ia (bA z) z.natAbs=z:=by
 cases z with
 | ofNat n=>rfl
 | negSucc n=>rfl
theorem vB (m:Bool)(n:Nat):itx m n=ztx (ia m n):=by
 unfold ztx
 rw[RM]
 by_cases h:n=0
 ·subst h;simp[itx]
 ·rw[RJ m n h]
theorem lp (z:Int):Bok (ztx z):=Vo _ _
def zs (z:Int):PV:=.sc (.string (tx (ztx z)))
def eH (z:Int):Nat:=(dtx z.natAbs).length
theorem nG (z:Int):∃ m,yK (ztx z)=some (m,dtx z.natAbs)∧(m=bA z):=by
 rw[ztx,RN]
 by_cases h:z.natAbs=0
 ·have:z=0:=by omega
  subst this
  exact⟨false,rfl,rfl⟩
 ·refine⟨bA z,?_,rfl⟩
  have hb:z.natAbs.beq 0=false:=by
   cases e:z.natAbs with
   | zero=>exact absurd e h
   | succ n=>rfl
  rw[hb,dtx,if_neg h];rfl
def fX:Nat:=3000000
def fT:PV→Option Int
 | .sc (.string s)=>match yK (bys s) with
  | some (m,ds)=>bif (bys s).length.ble fX && decide (bys s=ztx (ia m (dec 0 ds))) then some (ia m (dec 0 ds)) else none
  | none=>none
 | _=>none
theorem dx {p:PV}{z:Int}(h:fT p=some z):p=zs z∧(ztx z).length≤fX:=by
 unfold fT at h
 split at h
 ·rename_i s
  split at h
  ·rename_i m ds e
   cases hb:(bys s).length.ble fX && decide (bys s=ztx (ia m (dec 0 ds))) with
   | false=>rw[hb] at h;cases h
   | true =>
    rw[hb] at h
    simp only[cond_true,OiE] at h
    simp only[Bool.and_eq_true,Nat.ble_eq,decide_eq_true_eq] at hb
    rw[h] at hb
    refine⟨?_,by rw[← hb.2];exact hb.1⟩
    rw[zs,← hb.2,iO]
  ·cases h
 ·cases h
theorem cQ (z:Int)(h:(ztx z).length≤fX):fT (zs z)=some z:=by
 obtain⟨m,h1,h2⟩:=nG z
 have h3:ia m (dec 0 (dtx z.natAbs))=z:=by rw[pe,h2,iG]
 have h4:(ztx z).length.ble fX=true:=by rw[Nat.ble_eq];exact h
 simp[fT,zs,jZ (lp z),h1,h3,h4]
theorem se (z:Int):ztx z=(bif bA z then [45] else [])++dtx z.natAbs:=by
 by_cases h:z.natAbs=0
 ·have:z=0:=by omega
  subst this;rfl
 ·rw[ztx,itx,if_neg h,dtx,if_neg h]
theorem gN (z:Int):(ztx z).length=(bif bA z then 1 else 0)+eH z:=by
 rw[se]
 cases bA z <;> simp[eH];omega
theorem vO (z:Int):0<eH z:=by
 unfold eH dtx
 by_cases h:z.natAbs=0
 ·rw[if_pos h];simp
 ·rw[if_neg h]
  have:=T.da.2 h
  simpa using this
theorem tk {n k:Nat}(hk:0<k):(dtx n).length≤k ↔ n<10 ^ k:=by
 unfold dtx
 by_cases h:n=0
 ·subst h
  simp
  constructor
  ·intro _;exact Nat.pow_pos (by omega)
  ·intro _;exact hk
 ·rw[if_neg h,length_map,length_reverse]
  constructor
  ·intro h1
   exact Nat.lt_of_lt_of_le (T.fL n) (Nat.pow_le_pow_right (by omega) h1)
  ·intro h1
   exact T.du h1
theorem Ct (x:Int):eH (-x)=eH x:=by unfold eH;rw[Int.natAbs_neg]
theorem oJ {x y:Int}(h:x.natAbs≤y.natAbs):eH x≤eH y:=by
 have h2:y.natAbs<10 ^ eH y:=(tk (vO y)).1 (Nat.le_refl _)
 exact (tk (vO y)).2 (by omega)
theorem AU (n:Nat):(T.aK n).length≤(dtx n).length:=by
 unfold dtx
 by_cases h:n=0
 ·subst h;simp[T.fB]
 ·rw[if_neg h];simp
end Go.Ab
namespace Go.Proofs.YtjdmodeenbdfpaaGreat
open Go Go.Ab List Tryz
def fi:List Nat→Nat
 | []=>0
 | a::l=>bif a.beq 45 then l.length else (a::l).length
theorem agq (a:Nat):((a:Int) == 45)=a.beq 45:=by
 cases h:a.beq 45 with
 | true=>rw[Nat.eq_of_beq_eq_true h];rfl
 | false =>
  rw[beq_eq_false_iff_ne]
  intro e
  have:a=45:=by omega
  subst this;cases h
theorem yQ (L:Lst)(run:ar)(k:Nat)(l:List Nat)(hl:Bok l)(h9:l.length<100000000) :
  ∃ st,af (CC L) run k (f147.body.getD .skip) ⟨entry 16 [.sc (.string (tx l))],[],[]⟩=some (.ret,st)∧aU TT st.fr st.hp f147.results.toList=some [iv (fi l)]:=by
 obtain⟨e1,e2⟩:=cW 15 (.sc (.string (tx l)))
 generalize entry 16 [.sc (.string (tx l))]=fr0 at *
 cases l with
 | nil=>simp[f147,e1,e2,af,aH,ao,aq,aG,ag,ai,an,aj,aF,aA,FzZ,bc,aw,bj,az,bO,aa,ae,ab,bd,dX,uAI,undef,aU,fi,iv]
 | cons a l =>
  have hx:iC TT 94 (.sc (.string (tx (a::l)))) (.sc (.int .i64 0))=some (.sc (.int .u8 (a:Int))):=fo uAI hl .i64 0 (by simp)
  have hp:(0:Int)<(l.length:Int)+1:=by omega
  have hw:=cG .i64 l.length (hiI (by simp at h9;omega))
  have hb:=agq a
  cases h:a.beq 45 <;> rw[h] at hb <;> simp[f147,e1,e2,af,aH,ao,aq,aG,ag,ai,an,aj,aF,aA,FzZ,bc,aw,bj,az,bO,aa,ae,ab,bd,dX,uAI,hx,hb,hp,hw,aU,fi,h,iv]
def lT:List PV→Option (List PV)
 | [.sc (.string s)]=>bif (bys s).length.blt 100000000 then some [iv (fi (bys s))] else none
 | _=>none
theorem yP:Ab.Spec base.P 147 lT:=Ab.Spec.bM (C:=CC []) (cP trivial) fun args rs h=>by
 unfold lT at h
 split at h
 ·rename_i s
  cases hb:(bys s).length.blt 100000000 with
  | false=>rw[hb] at h;cases h
  | true =>
   rw[hb] at h
   simp only[cond_true,OiE] at h
   subst h
   rw[Nat.blt_eq] at hb
   obtain⟨st,x1,x2⟩:=yQ [] (runK (CC []) 1) 1 (bys s) (mY s) hb
   rw[iO] at x1
   exact⟨2,_,_,_,_,_,aP y8 rfl x1 x2,rfl,Wk.refl rfl,trivial⟩
 ·cases h
noncomputable def LT2:Lst:=[(147,lT)]
theorem XD:dw base.P LT2:=⟨yP,trivial⟩
theorem aas:bu LT2 147=fun a=>lT (aJ a):=rfl
theorem qh (run:ar)(dr:Bool)(hp:List Blk)(l:List Nat)(hl:Bok l)(h9:l.length<100000000):bX (CC LT2) run dr hp 147 [.sc (.string (tx l))]=some (.sc (.int .i64 (fi l:Int)),hp,⟨[],[],false,false⟩) :=
 bw C8 aas run dr hp _ [iv (fi l)] rfl rfl (by
  have h:l.length.blt 100000000=true:=by rw[Nat.blt_eq];exact h9
  simp only[lT,jZ hl,h,cond_true])
theorem DT (run:ar)(k:Nat)(l:List Nat)(hl:Bok l)(h9:l.length<100000000) :
  ∃ st,af (CC LT2) run k (f100.body.getD .skip) ⟨entry 6 [.sc (.string (tx l))],[],[]⟩=some (.ret,st)∧aU TT st.fr st.hp f100.results.toList=some [.sc (.bool (decide (1000<fi l)))]:=by
 obtain⟨e1,e2⟩:=cW 5 (.sc (.string (tx l)))
 generalize entry 6 [.sc (.string (tx l))]=fr0 at *
 have hc:=fun dr hp=>qh run dr hp l hl h9
 generalize fi l=d at *
 have h1:((1000:Int)<(d:Int))=(1000<d):=by apply propext;omega
 simp[f100,e1,e2,af,aH,ao,aq,aG,ag,ai,aL,an,aj,aF,aA,FzZ,bc,aw,bj,az,aa,ae,ab,hc,aU,h1]
def oX:List PV→Option (List PV)
 | [.sc (.string s)]=>bif (bys s).length.blt 100000000 then some [.sc (.bool (decide (1000<fi (bys s))))] else none
 | _=>none
theorem ur:Ab.Spec base.P 100 oX:=Ab.Spec.bM (C:=CC LT2) (cP XD) fun args rs h=>by
 unfold oX at h
 split at h
 ·rename_i s
  cases hb:(bys s).length.blt 100000000 with
  | false=>rw[hb] at h;cases h
  | true =>
   rw[hb] at h
   simp only[cond_true,OiE] at h
   subst h
   rw[Nat.blt_eq] at hb
   obtain⟨st,x1,x2⟩:=DT (runK (CC LT2) 1) 1 (bys s) (mY s) hb
   rw[iO] at x1
   exact⟨2,_,_,_,_,_,aP FR rfl x1 x2,rfl,Wk.refl rfl,trivial⟩
 ·cases h
noncomputable def ug:Code:=((f113.body).bind aC).getD .skip
noncomputable def ni:Code:=f113.body.getD .skip
theorem SO (L:Lst)(run:ar)(k:Nat)(fr:List PV)(l:List Nat)(h38:fr.length=38)(h0:nth fr 0 = .sc (.string (tx l)))(h5:nth fr 5=iv l.length) :
  ∃ fr',af (CC L) run k ug ⟨fr,[],[]⟩=some (.exit 0,⟨fr',[],[]⟩)∧fr'.length=38∧nth fr' 0 = .sc (.string (tx l))∧nth fr' 4=nth fr 4:=by
 simp only[iv] at h5
 simp[ug,f113,aC,af,aH,ao,aq,aG,ag,ai,an,aj,aF,aA,FzZ,bc,aw,bj,bO,aa,ae,ab,bd,dX,h38,h0,h5,uAI]
set_option maxHeartbeats 1000000 in
theorem NC (L:Lst)(run:ar)(k:Nat)(fr:List PV)(l:List Nat)(i:Nat)(hl:Bok l)(hi:i<l.length)(hi9:i<20000000)(h45:at0 l i=45)(h38:fr.length=38)(h0:nth fr 0 = .sc (.string (tx l)))(h5:nth fr 5=iv i) :
  ∃ fr',af (CC L) run k ug ⟨fr,[],[]⟩=some (.normal,⟨fr',[],[]⟩)∧fr'.length=38∧nth fr' 0 = .sc (.string (tx l))∧nth fr' 4=nth fr 4∧nth fr' 5=iv (i+1):=by
 have hx:=fo uAI hl .i64 i hi
 have hw:=bH i (by omega)
 rw[h45] at hx
 simp only[iv] at h5 ⊢
 simp[ug,f113,aC,af,aH,ao,aq,aG,ag,ai,an,aj,aF,aA,FzZ,bc,aw,bj,az,bO,aa,ae,ab,bd,dX,h38,h0,h5,uAI,hi,hx,hw]
set_option maxHeartbeats 1000000 in
theorem ZK (L:Lst)(run:ar)(k:Nat)(fr:List PV)(l:List Nat)(i n:Nat)(hl:Bok l)(hi:i<l.length)(hi9:i<20000000)(hd:l7 (at0 l i)=true)(hn:n<1000000000)(h38:fr.length=38)(h0:nth fr 0 = .sc (.string (tx l)))(h4:nth fr 4=iv n)(h5:nth fr 5=iv i) :
  ∃ fr',af (CC L) run k ug ⟨fr,[],[]⟩=some (.normal,⟨fr',[],[]⟩)∧fr'.length=38∧nth fr' 0 = .sc (.string (tx l))∧nth fr' 4=iv (stp n (at0 l i))∧nth fr' 5=iv (i+1):=by
 have hx:=fo uAI hl .i64 i hi
 rw[dN] at hd
 have hw:=bH i (by omega)
 generalize at0 l i=b at *
 obtain⟨s1,hs1⟩:∃ s1,s1=10*n:=⟨_,rfl⟩
 obtain⟨s2,hs2⟩:∃ s2,s2=s1+b:=⟨_,rfl⟩
 obtain⟨s3,hs3⟩:∃ s3,s3=stp n b:=⟨_,rfl⟩
 have hs4:s2=s3+48:=by rw[hs3,hs2,hs1];unfold stp dv;omega
 rw[← hs3]
 have hw1:=JJ .i64 n s1 hs1 (hiI (by omega))
 have hw2:=cG .i64 b (hiI (by omega))
 have hw3:=dD .i64 s1 b s2 hs2 (hiI (by omega))
 have hw4:=Ba .i64 s2 s3 hs4 (hiI (by omega))
 have hne:((b:Int) == 45)=false:=by rw[beq_eq_false_iff_ne];omega
 have hne2 : ¬ ((b:Int)=45):=by omega
 simp only[iv] at h4 h5 ⊢
 simp[ug,f113,aC,af,aH,ao,aq,aG,ag,ai,an,aj,aF,aA,FzZ,bc,aw,bj,az,bO,aa,ae,ab,bd,dX,h38,h0,h4,h5,uAI,uI,u8T,dS,hi,hx,hne,bne,hw,hw1,hw2,hw3,hw4]
theorem sL (L:Lst)(run:ar)(k:Nat)(m:Bool)(ds:List Nat)(hd:fc ds=true)(h9:ds.length≤9):∀ (n i:Nat) (fr:List PV) (x:Nat),i+n=((bif m then [45] else [])++ds).length →
  fr.length=38→nth fr 0 = .sc (.string (tx ((bif m then [45] else [])++ds)))→nth fr 4=iv x→nth fr 5=iv i→x=dec 0 (ds.take (i - (bif m then 1 else 0))) →
  ∃ (fr':List PV),cu (af (CC L) run k ug) (n+1) ⟨fr,[],[]⟩=some (.exit 0,⟨fr',[],[]⟩)∧fr'.length=38∧nth fr' 0 = .sc (.string (tx ((bif m then [45] else [])++ds)))∧nth fr' 4=iv (dec 0 ds)
 | 0,i,fr,x,hin,h38,h0,h4,h5,hx=>by
  have e:i=((bif m then [45] else [])++ds).length:=by omega
  rw[e] at h5
  obtain⟨fr',q1,q2,q3,q4⟩:=SO L run k fr _ h38 h0 h5
  refine⟨fr',bD q1,q2,q3,?_⟩
  rw[q4,h4,hx,take_of_length_le (by rw[e];cases m <;> simp)]
 | n+1,i,fr,x,hin,h38,h0,h4,h5,hx=>by
  have hB:Bok ((bif m then [45] else [])++ds):=by
   refine Bok.append ?_ ?_
   ·cases m
    ·exact Bok.nil
    ·exact Bok.nil.cons (by omega)
   ·intro x hx
    have:=dN.1 (fN hd hx)
    omega
  have hlen:((bif m then [45] else [])++ds).length=(bif m then 1 else 0)+ds.length:=by cases m <;> simp;omega
  rw[hlen] at hin
  have hil:i<(bif m then 1 else 0)+ds.length:=by omega
  have hi9:i<20000000:=by cases m <;> simp at hil <;> omega
  by_cases hs:m=true∧i=0
  ·obtain⟨rfl,rfl⟩:=hs
   obtain⟨fr1,g1,g2,g3,g4,g5⟩:=NC L run k fr _ 0 hB (by rw[hlen];exact hil) hi9 rfl h38 h0 h5
   obtain⟨fr',q1,q2⟩:=sL L run k true ds hd h9 n 1 fr1 x (by rw[hlen];omega) g2 g3 (by rw[g4,h4]) g5 (by simpa using hx)
   exact⟨fr',by rw[ct g1];exact q1,q2⟩
  ·obtain⟨j,hj,hj2⟩:∃ j,i=(bif m then 1 else 0)+j∧j<ds.length:=by
    cases m with
    | false=>exact⟨i,by simp,by simp at hil;exact hil⟩
    | true =>
     have:i≠0:=fun h=>hs ⟨rfl,h⟩
     exact⟨i - 1,by simp;omega,by simp at hil;omega⟩
   have hat:at0 ((bif m then [45] else [])++ds) i=ds[j]:=by
    unfold at0
    cases m with
    | false=>simp only[cond_false,nil_append,Nat.zero_add] at hj ⊢;subst hj;simp[hj2]
    | true=>simp only[cond_true] at hj ⊢;subst hj;rw[Nat.add_comm];simp[hj2]
   have hdb:l7 (at0 ((bif m then [45] else [])++ds) i)=true:=by rw[hat];exact fN hd (getElem_mem hj2)
   have hdr:i - (bif m then 1 else 0)=j:=by rw[hj];cases m <;> simp
   have hdr2:i+1 - (bif m then 1 else 0)=j+1:=by rw[hj];cases m <;> simp <;> omega
   rw[hdr] at hx
   have hx9:x<1000000000:=by
    have h1:fc (ds.take j)=true:=by
     have:=gF (ds.take j) (ds.drop j)
     rw[take_append_drop,hd] at this
     have h2:=this.symm
     rw[Bool.and_eq_true] at h2
     exact h2.1
    have h2:=dec_lt _ h1
    rw[hx]
    refine Nat.lt_of_lt_of_le h2 (Nat.le_trans (Nat.pow_le_pow_right (by omega) (show (ds.take j).length≤9 by rw[length_take];omega)) (by decide))
   obtain⟨fr1,g1,g2,g3,g4,g5⟩:=ZK L run k fr _ i x hB (by rw[hlen];exact hil) hi9 hdb hx9 h38 h0 h4 h5
   rw[hat] at g4
   obtain⟨fr',q1,q2⟩:=sL L run k m ds hd h9 n (i+1) fr1 _ (by rw[hlen];omega) g2 g3 g4 g5 (by
    rw[hdr2,take_succ_eq_append_getElem hj2,mX,← hx];rfl)
   exact⟨fr',by rw[ct g1];exact q1,q2⟩
theorem II {s:List Nat}{m:Bool}{ds:List Nat}(h:yK s=some (m,ds)):fi s=ds.length:=by
 obtain⟨h1,h2,h3⟩:=sx h
 cases m with
 | true=>subst h1;rfl
 | false =>
  simp only[cond_false,nil_append] at h1
  subst h1
  cases s with
  | nil=>rfl
  | cons a l =>
   have:=dN.1 (fN h2 (mem_cons_self ..))
   have hb:a.beq 45=false:=by
    cases e:a.beq 45 with
    | false=>rfl
    | true=>have:=Nat.eq_of_beq_eq_true e;omega
   simp[fi,hb]
noncomputable def Ht:Code:=seq1 (seq1 (ah 3 ni))
theorem DK:ah 3 ni = .seq (.seq Ht (.block 0 (.loop ug))) (ah 4 ni):=rfl
theorem NF (run:ar)(k:Nat)(l:List Nat)(hl:Bok l)(h9:l.length<100000000)(hd:9<fi l) :
  ∃ st,af (CC LT2) run k ni ⟨entry 38 [.sc (.string (tx l))],[],[]⟩=some (.ret,st)∧aU TT st.fr st.hp f113.results.toList=some [Ab.bz 0,.sc (.bool false)]:=by
 obtain⟨e1,e2⟩:=cW 37 (.sc (.string (tx l)))
 generalize entry 38 [.sc (.string (tx l))]=fr0 at *
 have hc:=fun dr hp=>qh run dr hp l hl h9
 generalize fi l=d at *
 have h1:((9:Int)<(d:Int)):=by omega
 simp[ni,f113,e1,e2,af,aH,ao,aq,aG,ag,ai,aL,an,aj,aF,aA,FzZ,bc,aw,bj,az,aa,ae,ab,hc,aU,h1,Ab.bz]
theorem ND (run:ar)(k:Nat)(l:List Nat)(hl:Bok l)(h9:l.length<100000000)(hd:fi l≤9) :
  ∃ fr,aX (CC LT2) run k 3 ni ⟨entry 38 [.sc (.string (tx l))],[],[]⟩=some ⟨fr,[],[]⟩∧fr.length=38∧nth fr 0 = .sc (.string (tx l))∧nth fr 4=iv 0:=by
 obtain⟨e1,e2⟩:=cW 37 (.sc (.string (tx l)))
 generalize entry 38 [.sc (.string (tx l))]=fr0 at *
 have hc:=fun dr hp=>qh run dr hp l hl h9
 generalize fi l=d at *
 have h1 : ¬ ((9:Int)<(d:Int)):=by omega
 simp[ni,f113,aX,e1,e2,af,aH,ao,aq,aG,ag,ai,aL,an,aj,aF,aA,FzZ,bc,aw,bj,az,aa,ae,ab,hc,h1,iv]
theorem ZJ (L:Lst)(run:ar)(k:Nat)(fr:List PV)(h38:fr.length=38) :
  ∃ fr',af (CC L) run k Ht ⟨fr,[],[]⟩=some (.normal,⟨fr',[],[]⟩)∧fr'.length=38∧nth fr' 0=nth fr 0∧nth fr' 4=nth fr 4∧nth fr' 5=iv 0:=by
 simp[Ht,ni,ah,seq1,f113,af,aH,ao,aq,aG,ag,ai,an,aj,aF,aA,FzZ,az,aa,ae,ab,h38,iv]
theorem NG (L:Lst)(run:ar)(k:Nat)(fr:List PV)(a:Nat)(l:List Nat)(x:Nat)(hl:Bok (a::l))(hx9:x<1000000000)(h38:fr.length=38)(h0:nth fr 0 = .sc (.string (tx (a::l))))(h4:nth fr 4=iv x) :
  ∃ st,af (CC L) run k (ah 4 ni) ⟨fr,[],[]⟩=some (.ret,st)∧aU TT st.fr st.hp f113.results.toList=some [Ab.bz (ia (a.beq 45) x),.sc (.bool true)]:=by
 have hx:iC TT 94 (.sc (.string (tx (a::l)))) (.sc (.int .i64 0))=some (.sc (.int .u8 (a:Int))):=fo uAI hl .i64 0 (by simp)
 have hp:(0:Int)<(l.length:Int)+1:=by omega
 have hb:=agq a
 have hw:bE .i64 (-(x:Int)) = -(x:Int):=fI _ (by omega) (by omega)
 simp only[iv] at h4
 cases h:a.beq 45 with
 | true =>
  rw[h] at hb
  have e:ia true x = -(x:Int):=by cases x <;> rfl
  rw[e]
  simp[ni,ah,f113,af,aH,ao,aq,aG,ag,ai,an,aj,aF,aA,FzZ,bc,aw,bj,az,bO,unP,aa,ae,ab,bd,dX,h38,h0,h4,uAI,hx,hp,hb,hw,aU,Ab.bz]
 | false =>
  rw[h] at hb
  have e:ia false x=(x:Int):=rfl
  rw[e]
  simp[ni,ah,f113,af,aH,ao,aq,aG,ag,ai,an,aj,aF,aA,FzZ,bc,aw,bj,az,bO,aa,ae,ab,bd,dX,h38,h0,h4,uAI,hx,hp,hb,aU,Ab.bz]
def ue:List PV→Option (List PV)
 | [.sc (.string s)]=>match yK (bys s) with
  | some (m,ds)=>bif (bys s).length.blt 100000000 then (bif ds.length.ble 9 then some [Ab.bz (ia m (dec 0 ds)),.sc (.bool true)] else some [Ab.bz 0,.sc (.bool false)]) else none
  | none=>none
 | _=>none
theorem z6:Ab.Spec base.P 113 ue:=Ab.Spec.bM (C:=CC LT2) (cP XD) fun args rs h=>by
 unfold ue at h
 split at h
 ·rename_i s
  split at h
  ·rename_i m ds e
   cases hb:(bys s).length.blt 100000000 with
   | false=>rw[hb] at h;cases h
   | true =>
    rw[hb] at h
    simp only[cond_true] at h
    rw[Nat.blt_eq] at hb
    have hs:s=tx (bys s):=(iO s).symm
    have hok:=mY s
    have hdn:=II e
    obtain⟨e1,e2,e3⟩:=sx e
    cases hc:ds.length.ble 9 with
    | false =>
     rw[hc] at h
     simp only[cond_false,OiE] at h
     subst h
     have hd:9<fi (bys s):=by
      rw[hdn]
      rcases Nat.lt_or_ge 9 ds.length with h | h
      ·exact h
      ·rw[show ds.length.ble 9=true by rw[Nat.ble_eq];exact h] at hc;cases hc
     obtain⟨st,x1,x2⟩:=NF (runK (CC LT2) 1) 1 (bys s) hok hb hd
     rw[← hs] at x1
     exact⟨2,_,_,_,_,_,aP sd rfl x1 x2,rfl,Wk.refl rfl,Wk.refl rfl,trivial⟩
    | true =>
     rw[hc] at h
     simp only[cond_true,OiE] at h
     subst h
     rw[Nat.ble_eq] at hc
     obtain⟨f1,p1,p2,p3,p4⟩:=ND (runK (CC LT2) ((bys s).length+1)) ((bys s).length+1) (bys s) hok hb (by rw[hdn];exact hc)
     obtain⟨f2,q1,q2,q3,q4,q5⟩:=ZJ LT2 (runK (CC LT2) ((bys s).length+1)) ((bys s).length+1) f1 p2
     obtain⟨f3,r1,r2,r3,r4⟩:=sL LT2 (runK (CC LT2) ((bys s).length+1)) ((bys s).length+1) m ds e2 hc (bys s).length 0 f2 0 (by rw[← e1];omega) q2 (by rw[q3,p3,← e1]) (by rw[q4,p4]) q5 (by cases m <;> rfl)
     rw[← e1] at r3
     obtain⟨a,l,hal⟩:∃ a l,bys s=a::l:=by
      cases h:bys s with
      | nil=>exact absurd h e3
      | cons a l=>exact⟨a,l,rfl⟩
     have hm:a.beq 45=m:=by
      rw[hal] at e1
      cases m with
      | true=>simp at e1;rw[e1.1];rfl
      | false =>
       simp only[cond_false,nil_append] at e1
       subst e1
       have:=dN.1 (fN e2 (mem_cons_self ..))
       cases h:a.beq 45 with
       | false=>rfl
       | true=>have:=Nat.eq_of_beq_eq_true h;omega
     have hx9:dec 0 ds<1000000000:=Nat.lt_of_lt_of_le (dec_lt _ e2) (Nat.le_trans (Nat.pow_le_pow_right (by omega) hc) (by decide))
     rw[hal] at hok r3
     obtain⟨st,x1,x2⟩:=NG LT2 (runK (CC LT2) ((bys s).length+1)) ((bys s).length+1) f3 a l _ hok hx9 r2 r3 r4
     rw[hm] at x2
     have hx:af (CC LT2) (runK (CC LT2) ((bys s).length+1)) ((bys s).length+1) ni ⟨entry 38 [.sc (.string s)],[],[]⟩=some (.ret,st):=by
      rw[iO] at p1
      rw[aO 3 p1,DK,av ((av q1).trans (bN r1))]
      exact x1
     exact⟨(bys s).length+2,_,_,_,_,_,aP sd rfl hx x2,rfl,Wk.refl rfl,Wk.refl rfl,trivial⟩
  ·cases h
 ·cases h
end Go.Proofs.YtjdmodeenbdfpaaGreat
