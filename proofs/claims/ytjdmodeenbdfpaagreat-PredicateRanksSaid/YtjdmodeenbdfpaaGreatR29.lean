/- Contracts of numbers kept as digits in text, part 29 of the proof; each lemma states its own conditions. -/
import Derived.Test.YtjdmodeenbdfpaaGreatR28
set_option linter.unusedSimpArgs false
set_option linter.unusedVariables false
namespace Go.Proofs.YtjdmodeenbdfpaaGreat
open Go Go.Ab
noncomputable def yi:Code:=((Tryz.f116.body).bind az).getD .skip
noncomputable def gQ:Code:=Tryz.f116.body.getD .skip
theorem po:und TT 43=some (.slice 5):=by kernel_rfl
theorem sU8:dc TT 5=some 1:=by kernel_rfl
theorem bU8:iT TT 5=some 1:=by kernel_rfl
theorem zU8:eK TT 5=some [u8v 0]:=by kernel_rfl
theorem I1 (n:Nat):ie TT 43 1 [(0,.sc (.int .u8 (n:Int)))]=some (1,[u8v n]):=acT po sU8 zU8 n
theorem PL (L:Lst)(run:ar)(k:Nat)(fr:List PV)(hp:List Blk)(wr:List Nat)(h34:fr.length=34)(h6:nth fr 6 = .sc (.int .i64 (-1))) :
  ∃ fr',af (CC L) run k yi ⟨fr,hp,wr⟩=some (.exit 0,⟨fr',hp,wr⟩)∧fr'.length=34∧nth fr' 5=nth fr 5:=by
 simp[yi,Tryz.f116,az,af,aJ,ao,aq,aH,ag,ai,aj,an,aF,aC,FP.none,bd,au,bj,aw,aa,ae,ab,h34,h6]
set_option maxHeartbeats 1000000 in
theorem Ft (L:Lst)(run:ar)(k:Nat)(fr:List PV)(hp:List Blk)(wr:List Nat)(t out:List Nat)(i:Nat)(ht:T.Dok t)(hi:i<t.length)(hi9:t.length<20000000)(ho9:out.length<20000001)(h34:fr.length=34)(h1:nth fr 1=bz t)(h6:nth fr 6=iv i)(hO:dx u8v 0 hp out (nth fr 5)) :
  ∃ fr' hp' wr',af (CC L) run k yi ⟨fr,hp,wr⟩=some (.normal,⟨fr',hp',wr'⟩)∧fr'.length=34∧nth fr' 1=bz t∧dx u8v 0 hp' (out++[at0 t i+48]) (nth fr' 5)∧nth fr' 6 = .sc (.int .i64 ((i:Int) - 1)):=by
 have hda:=fz t i hi
 have hd9:=T.cw ht i
 generalize at0 t i=d at *
 obtain⟨b,hb⟩:∃ b,b=d+48:=⟨_,rfl⟩
 rw[← hb]
 obtain⟨p',hp',fp,g1,g2,-⟩:=hO.app b (by omega)
 have hw:=cR i (by omega)
 have hw1:bA .i64 (48+(d:Int))=(b:Int):=by rw[show (48+(d:Int))=(b:Int) by omega];exact cu .i64 b (hiI (by omega))
 have hw2:bA .u8 (b:Int)=(b:Int):=cu .u8 b (show b≤255 by omega)
 have hlX:=I1 b
 have e1:bz t = .imm t.length false (t.map iv):=rfl
 rw[e1] at h1 ⊢
 simp only[iv] at h6
 simp[yi,Tryz.f116,az,af,aJ,ao,aq,aH,ag,ai,aj,an,aF,aC,FP.none,bd,au,bj,aw,bc,bm,partOf,aa,ae,ab,bh,and_assoc,bg,k9,h34,h1,h6,hi,hda,aU,uL,uI,sI,aI,u8T,dF,hw,hw1,hw2,hlX,Iu,rI,po,sU8,bU8,zU8,cn,g1,g2]
theorem yh (L:Lst)(run:ar)(k:Nat)(t pre:List Nat)(ht:T.Dok t)(h9:t.length<10000000)(hp9:pre.length≤1):∀ (n:Nat) (fr:List PV) (hp:List Blk) (wr:List Nat) (out:List Nat),n≤t.length →
  fr.length=34→nth fr 1=bz t→nth fr 6 = .sc (.int .i64 ((n:Int) - 1))→dx u8v 0 hp out (nth fr 5)→out=pre++(t.drop n).reverse.map (· + 48) →
  ∃ (fr':List PV) (hp':List Blk) (wr':List Nat),cl (af (CC L) run k yi) (n+1) ⟨fr,hp,wr⟩=some (.exit 0,⟨fr',hp',wr'⟩)∧fr'.length=34∧dx u8v 0 hp' (pre++t.reverse.map (· + 48)) (nth fr' 5)
 | 0,fr,hp,wr,out,hn,h34,h1,h6,hO,ho=>by
  obtain⟨fr',q1,q2,q3⟩:=PL L run k fr hp wr h34 (by rw[h6];rfl)
  refine⟨fr',hp,wr,bD q1,q2,?_⟩
  rw[q3]
  rw[List.drop_zero] at ho
  rw[← ho];exact hO
 | n+1,fr,hp,wr,out,hn,h34,h1,h6,hO,ho=>by
  have h6':nth fr 6=iv n:=by rw[h6];simp[iv]
  obtain⟨fr1,hp1,wr1,g1,g2,g3,g4,g5⟩:=Ft L run k fr hp wr t out n ht (by omega) (by omega) (by rw[ho];simp;omega) h34 h1 h6' hO
  obtain⟨fr',hp',wr',q1,q2,q3⟩:=yh L run k t pre ht h9 hp9 n fr1 hp1 wr1 _ (by omega) g2 g3 g5 g4 (by
   rw[ho,List.drop_eq_getElem_cons (show n<t.length by omega),de (show n<t.length by omega),List.reverse_cons,List.map_append]
   simp only[List.map_cons,List.map_nil,List.append_assoc])
  exact⟨fr',hp',wr',by rw[ch g1];exact q1,q2,q3⟩
noncomputable def Af:Code:=seq1 (ah 4 gQ)
noncomputable def Fu:Code:=seq1 (seq1 (ah 5 gQ))
theorem B4:ah 4 gQ = .seq Af (ah 5 gQ):=rfl
theorem B3:ah 5 gQ = .seq (.seq Fu (.block 0 (.loop yi))) (ah 6 gQ):=rfl
theorem DG (run:ar)(dr:Bool)(hp:List Blk)(l:List Nat)(hd:T.Dok l)(hl:l.length<10000000):cg (CC LT1) run dr hp 156 [bz l]=some (bz (T.aG (T.val l)),hp,⟨[],[],false,false⟩) :=
 bu kU vQ run dr hp _ [bz (T.aG (T.val l))] (oM hp l) (by simp only[aK,oY]) (by simp only[iu,dP hd hl,T.eD hd])
theorem PJ (run:ar)(k:Nat)(m:Bool)(l t:List Nat)(hc:∀ hp,cg (CC LT1) run false hp 156 [bz l]=some (bz t,hp,⟨[],[],false,false⟩)) :
  ∃ fr,aY (CC LT1) run k 2 gQ ⟨entry 34 [.sc (.bool m),bz l],[],[]⟩=some ⟨fr,[],[]⟩∧fr.length=34∧nth fr 0 = .sc (.bool m)∧nth fr 1=bz t:=by
 obtain⟨e1,e2,e3⟩:=cC 32 (.sc (.bool m)) (bz l)
 generalize entry 34 [.sc (.bool m),bz l]=fr0 at *
 simp[gQ,Tryz.f116,aY,e1,e2,e3,af,aJ,ao,aq,aH,ag,ai,aQ,aj,an,aF,aC,FP.none,aw,aa,ae,ab,hc]
theorem La (L:Lst)(run:ar)(k:Nat)(fr:List PV)(hp:List Blk)(wr:List Nat)(h34:fr.length=34)(h1:nth fr 1=bz []) :
  ∃ st,af (CC L) run k (ah 2 gQ) ⟨fr,hp,wr⟩=some (.ret,st)∧aZ TT st.fr st.hp Tryz.f116.results.toList=some [.sc (.string (tx [48]))]:=by
 have:(tx [48])={ data:=#[48] } := rfl
 rw[this]
 simp[gQ,ah,Tryz.f116,af,aJ,ao,aq,aH,ag,ai,aj,an,aF,aC,FP.none,bd,au,bj,aw,bM,aa,ab,bh,dK,h34,h1,uL,aZ]
theorem PK (L:Lst)(run:ar)(k:Nat)(fr:List PV)(hp:List Blk)(wr:List Nat)(m:Bool)(t:List Nat)(ht:0<t.length)(h34:fr.length=34)(h0:nth fr 0 = .sc (.bool m))(h1:nth fr 1=bz t) :
  ∃ fr',aY (CC L) run k 2 (ah 2 gQ) ⟨fr,hp,wr⟩=some ⟨fr',hp,wr⟩∧fr'.length=34∧nth fr' 0 = .sc (.bool m)∧nth fr' 1=bz t∧nth fr' 5 = .sc (.slice none 0 0):=by
 have h:((t.length:Int) == 0)=false:=by rw[beq_eq_false_iff_ne];omega
 have h2 : ¬ (t.length=0):=by omega
 have h3:t≠[]:=by intro e;subst e;simp at ht
 simp[gQ,ah,Tryz.f116,aY,af,aJ,ao,aq,aH,ag,ai,aj,an,aF,aC,FP.none,bd,au,bj,aw,bM,aa,ae,ab,bh,dK,h34,h0,h1,uL,h]
theorem WE (L:Lst)(run:ar)(k:Nat)(fr:List PV)(m:Bool)(t:List Nat)(h34:fr.length=34)(h0:nth fr 0 = .sc (.bool m))(h1:nth fr 1=bz t)(h5:nth fr 5 = .sc (.slice none 0 0)) :
  ∃ fr' hp' wr',af (CC L) run k Af ⟨fr,[],[]⟩=some (.normal,⟨fr',hp',wr'⟩)∧fr'.length=34∧nth fr' 1=bz t∧dx u8v 0 hp' (bif m then [45] else []) (nth fr' 5):=by
 cases m with
 | false =>
  have hO:dx u8v 0 [] [] (.sc (.slice none 0 0)):=dx.nil (Nat.le_refl _)
  simp[Af,gQ,ah,seq1,Tryz.f116,af,aJ,ao,aq,aH,ag,ai,aj,an,aF,aC,FP.none,aa,ae,ab,and_assoc,h34,h0,h1,h5,hO]
 | true =>
  obtain⟨p',hp',fp,g1,g2,-⟩:=(dx.nil (e:=u8v) (b:=0) (hp:=[]) (Nat.le_refl _)).app 45 (by simp)
  rw[List.nil_append] at g2
  have hlX:ie TT 43 1 [(0,.sc (.int .u8 45))]=some (1,[u8v 45]):=I1 45
  simp[Af,gQ,ah,seq1,Tryz.f116,af,aJ,ao,aq,aH,ag,ai,aj,an,aF,aC,FP.none,aw,aa,ae,ab,bh,and_assoc,bg,k9,h34,h0,h1,h5,hlX,Iu,rI,po,sU8,bU8,zU8,cn,g1,g2]
theorem WD (L:Lst)(run:ar)(k:Nat)(fr:List PV)(hp:List Blk)(wr:List Nat)(t:List Nat)(ht:t.length<20000000)(h34:fr.length=34)(h1:nth fr 1=bz t) :
  ∃ fr',af (CC L) run k Fu ⟨fr,hp,wr⟩=some (.normal,⟨fr',hp,wr⟩)∧fr'.length=34∧nth fr' 1=bz t∧nth fr' 5=nth fr 5∧nth fr' 6 = .sc (.int .i64 ((t.length:Int) - 1)):=by
 have hw:=cR t.length (by omega)
 simp[Fu,gQ,ah,seq1,Tryz.f116,af,aJ,ao,aq,aH,ag,ai,aj,an,aF,aC,FP.none,bd,au,bj,aw,bM,aa,ae,ab,bh,dK,h34,h1,uL,hw]
theorem Lb (L:Lst)(run:ar)(k:Nat)(fr:List PV)(hp:List Blk)(wr:List Nat)(l:List Nat)(hl:Bok l)(h34:fr.length=34)(hO:dx u8v 0 hp l (nth fr 5)) :
  ∃ st,af (CC L) run k (ah 6 gQ) ⟨fr,hp,wr⟩=some (.ret,st)∧aZ TT st.fr st.hp Tryz.f116.results.toList=some [.sc (.string (tx l))]:=by
 obtain⟨ids,h1⟩:=hO.s.rd
 have h2:=DM hl
 have hcv:dF TT hp 43 94 (nth fr 5)=some (.sc (.string (tx l)),ids):=by
  have h3:tx l=mkStr (l.map UInt8.ofNat):=rfl
  rw[h3]
  obtain⟨-,h⟩:=hO
  rcases h with ⟨rfl,h⟩| ⟨id,m,-,-,h,-⟩
  ·rw[h] at h1 ⊢
   simp only[dF,po,uAI,u8T,h1,h2]
  ·rw[h] at h1 ⊢
   simp only[dF,po,uAI,u8T,h1,h2]
 simp[gQ,ah,Tryz.f116,af,aJ,ao,aq,aH,ag,ai,aj,an,aF,aC,FP.none,aa,ab,bh,h34,hcv,aZ]
def mr:List PV→Option (List PV)
 | [.sc (.bool m),p]=>match mB p with
  | some l=>some [.sc (.string (tx (itx m (T.val l))))]
  | none=>none
 | _=>none
theorem IC (hp:List Blk)(s:ByteArray):bt (snap hp bp) [.sc (.string s)]=some ([.sc (.string s)],[]):=rfl
theorem qZ:Ab.Spec base.P 116 mr:=Ab.Spec.bQ (C:=CC LT1) (cV Hy) fun args rs h=>by
 unfold mr at h
 split at h
 ·split at h
  ·rename_i m p _ l e
   obtain⟨rfl,hd,hl⟩:=fU e
   simp only[Option.some.injEq] at h
   subst h
   have hlt:=T.di (T.eL hd)
   obtain⟨f1,p1,p2,p3,p4⟩:=PJ (runK (CC LT1) (l.length+1)) (l.length+1) m l _ (fun hp=>DG (runK (CC LT1) (l.length+1)) false hp l hd hl)
   by_cases h0:T.val l=0
   ·rw[h0] at p4
    obtain⟨st,x1,x2⟩:=La LT1 (runK (CC LT1) (l.length+1)) (l.length+1) f1 [] [] p2 p4
    have hx:af (CC LT1) (runK (CC LT1) (l.length+1)) (l.length+1) gQ ⟨entry 34 [.sc (.bool m),bz l],[],[]⟩=some (.ret,st):=by
     rw[aP 2 p1];exact x1
    rw[h0]
    exact⟨l.length+2,_,_,_,_,_,aX tn rfl hx x2,IC _ _,Wk.refl rfl,trivial⟩
   ·obtain⟨f2,q1,q2,q3,q4,q5⟩:=PK LT1 (runK (CC LT1) (l.length+1)) (l.length+1) f1 [] [] m _ (T.cU.2 h0) p2 p3 p4
    obtain⟨f3,hp3,wr3,r1,r2,r3,r4⟩:=WE LT1 (runK (CC LT1) (l.length+1)) (l.length+1) f2 m _ q2 q3 q4 q5
    obtain⟨f4,s1,s2,s3,s4,s5⟩:=WD LT1 (runK (CC LT1) (l.length+1)) (l.length+1) f3 hp3 wr3 _ (by omega) r2 r3
    obtain⟨f5,hp5,wr5,t1,t2,t3⟩:=yh LT1 (runK (CC LT1) (l.length+1)) (l.length+1) (T.aG (T.val l)) (bif m then [45] else []) (T.bU _) (by omega) (by cases m <;> simp) _ f4 hp3 wr3 _ (Nat.le_refl _) s2 s3 s5 (by rw[s4];exact r4) (by simp)
    have hitx:itx m (T.val l)=(bif m then [45] else [])++(T.aG (T.val l)).reverse.map (· + 48):=by rw[itx,if_neg h0]
    rw[← hitx] at t3
    obtain⟨st,x1,x2⟩:=Lb LT1 (runK (CC LT1) (l.length+1)) (l.length+1) f5 hp5 wr5 _ (SL _ _) t2 t3
    have hx:af (CC LT1) (runK (CC LT1) (l.length+1)) (l.length+1) gQ ⟨entry 34 [.sc (.bool m),bz l],[],[]⟩=some (.ret,st):=by
     rw[aP 2 p1,aP 2 q1,show ah 2 (ah 2 gQ)=ah 4 gQ from rfl,B4,av r1,B3,av ((av s1).trans (bH (ca t1 (by omega))))]
     exact x1
    exact⟨l.length+2,_,_,_,_,_,aX tn rfl hx x2,IC _ _,Wk.refl rfl,trivial⟩
  ·cases h
 ·cases h
end Go.Proofs.YtjdmodeenbdfpaaGreat
namespace Go.Ab
open Go
def gG (m:Bool)(n:Nat):Int:=bif m then Int.negOfNat n else Int.ofNat n
theorem OW (m:Bool)(n:Nat)(h:n≠0):bx (gG m n)=m:=by
 cases m with
 | false=>rfl
 | true =>
  cases n with
  | zero=>exact absurd rfl h
  | succ n=>rfl
theorem OY (m:Bool)(n:Nat):(gG m n).natAbs=n:=by
 cases m with
 | false=>rfl
 | true=>cases n <;> simp[gG,Int.negOfNat]
theorem ia (z:Int):gG (bx z) z.natAbs=z:=by
 cases z with
 | ofNat n=>rfl
 | negSucc n=>rfl
theorem tQ (m:Bool)(n:Nat):itx m n=ztx (gG m n):=by
 unfold ztx
 rw[OY]
 by_cases h:n=0
 ·subst h;simp[itx]
 ·rw[OW m n h]
theorem kr (z:Int):Bok (ztx z):=SL _ _
def zs (z:Int):PV:=.sc (.string (tx (ztx z)))
def eh (z:Int):Nat:=(dtx z.natAbs).length
theorem mJ (z:Int):∃ m,xk (ztx z)=some (m,dtx z.natAbs)∧(m=bx z):=by
 rw[ztx,OZ]
 by_cases h:z.natAbs=0
 ·have:z=0:=by omega
  subst this
  exact⟨false,rfl,rfl⟩
 ·refine⟨bx z,?_,rfl⟩
  have hb:z.natAbs.beq 0=false:=by
   cases e:z.natAbs with
   | zero=>exact absurd e h
   | succ n=>rfl
  rw[hb,dtx,if_neg h];rfl
def fE:Nat:=3000000
def fT:PV→Option Int
 | .sc (.string s)=>match xk (bys s) with
  | some (m,ds)=>bif (bys s).length.ble fE && decide (bys s=ztx (gG m (dec 0 ds))) then some (gG m (dec 0 ds)) else none
  | none=>none
 | _=>none
theorem dj {p:PV}{z:Int}(h:fT p=some z):p=zs z∧(ztx z).length≤fE:=by
 unfold fT at h
 split at h
 ·rename_i s
  split at h
  ·rename_i m ds e
   cases hb:(bys s).length.ble fE && decide (bys s=ztx (gG m (dec 0 ds))) with
   | false=>rw[hb] at h;cases h
   | true =>
    rw[hb] at h
    simp only[cond_true,Option.some.injEq] at h
    simp only[Bool.and_eq_true,Nat.ble_eq,decide_eq_true_eq] at hb
    rw[h] at hb
    refine⟨?_,by rw[← hb.2];exact hb.1⟩
    rw[zs,← hb.2,il]
  ·cases h
 ·cases h
theorem cT (z:Int)(h:(ztx z).length≤fE):fT (zs z)=some z:=by
 obtain⟨m,h1,h2⟩:=mJ z
 have h3:gG m (dec 0 (dtx z.natAbs))=z:=by rw[oe,h2,ia]
 have h4:(ztx z).length.ble fE=true:=by rw[Nat.ble_eq];exact h
 simp[fT,zs,jX (kr z),h1,h3,h4]
theorem ub (z:Int):ztx z=(bif bx z then [45] else [])++dtx z.natAbs:=by
 by_cases h:z.natAbs=0
 ·have:z=0:=by omega
  subst this;rfl
 ·rw[ztx,itx,if_neg h,dtx,if_neg h]
theorem fZ (z:Int):(ztx z).length=(bif bx z then 1 else 0)+eh z:=by
 rw[ub]
 cases bx z <;> simp[eh];omega
theorem uc (z:Int):0<eh z:=by
 unfold eh dtx
 by_cases h:z.natAbs=0
 ·rw[if_pos h];simp
 ·rw[if_neg h]
  have:=T.cU.2 h
  simpa using this
theorem rL {n k:Nat}(hk:0<k):(dtx n).length≤k ↔ n<10 ^ k:=by
 unfold dtx
 by_cases h:n=0
 ·subst h
  simp
  constructor
  ·intro _;exact Nat.pow_pos (by omega)
  ·intro _;exact hk
 ·rw[if_neg h,List.length_map,List.length_reverse]
  constructor
  ·intro h1
   exact Nat.lt_of_lt_of_le (T.fy n) (Nat.pow_le_pow_right (by omega) h1)
  ·intro h1
   exact T.di h1
theorem A0 (x:Int):eh (-x)=eh x:=by unfold eh;rw[Int.natAbs_neg]
theorem nL {x y:Int}(h:x.natAbs≤y.natAbs):eh x≤eh y:=by
 have h2:y.natAbs<10 ^ eh y:=(rL (uc y)).1 (Nat.le_refl _)
 exact (rL (uc y)).2 (by omega)
theorem ze (n:Nat):(T.aG n).length≤(dtx n).length:=by
 unfold dtx
 by_cases h:n=0
 ·subst h;simp[T.fj]
 ·rw[if_neg h];simp
end Go.Ab
namespace Go.Proofs.YtjdmodeenbdfpaaGreat
open Go Go.Ab
def eM:List Nat→Nat
 | []=>0
 | a::l=>bif a.beq 45 then l.length else (a::l).length
theorem adq (a:Nat):((a:Int) == 45)=a.beq 45:=by
 cases h:a.beq 45 with
 | true=>rw[Nat.eq_of_beq_eq_true h];rfl
 | false =>
  rw[beq_eq_false_iff_ne]
  intro e
  have:a=45:=by omega
  subst this;cases h
theorem xq (L:Lst)(run:ar)(k:Nat)(l:List Nat)(hl:Bok l)(h9:l.length<100000000) :
  ∃ st,af (CC L) run k (Tryz.f147.body.getD .skip) ⟨entry 16 [.sc (.string (tx l))],[],[]⟩=some (.ret,st)∧aZ TT st.fr st.hp Tryz.f147.results.toList=some [iv (eM l)]:=by
 obtain⟨e1,e2⟩:=cW 15 (.sc (.string (tx l)))
 generalize entry 16 [.sc (.string (tx l))]=fr0 at *
 cases l with
 | nil=>simp[Tryz.f147,e1,e2,af,aJ,ao,aq,aH,ag,ai,aj,an,aF,aC,FP.none,bd,au,bj,aw,bM,aa,ae,ab,bh,dJ,uAI,undef,aZ,eM,iv]
 | cons a l =>
  have hx:hZ TT 94 (.sc (.string (tx (a::l)))) (.sc (.int .i64 0))=some (.sc (.int .u8 (a:Int))):=eX uAI hl .i64 0 (by simp)
  have hp:(0:Int)<(l.length:Int)+1:=by omega
  have hw:=cu .i64 l.length (hiI (by simp at h9;omega))
  have hb:=adq a
  cases h:a.beq 45 <;> rw[h] at hb <;> simp[Tryz.f147,e1,e2,af,aJ,ao,aq,aH,ag,ai,aj,an,aF,aC,FP.none,bd,au,bj,aw,bM,aa,ae,ab,bh,dJ,uAI,hx,hb,hp,hw,aZ,eM,h,iv]
def kY:List PV→Option (List PV)
 | [.sc (.string s)]=>bif (bys s).length.blt 100000000 then some [iv (eM (bys s))] else none
 | _=>none
theorem xp:Ab.Spec base.P 147 kY:=Ab.Spec.bQ (C:=CC []) (cV trivial) fun args rs h=>by
 unfold kY at h
 split at h
 ·rename_i s
  cases hb:(bys s).length.blt 100000000 with
  | false=>rw[hb] at h;cases h
  | true =>
   rw[hb] at h
   simp only[cond_true,Option.some.injEq] at h
   subst h
   rw[Nat.blt_eq] at hb
   obtain⟨st,x1,x2⟩:=xq [] (runK (CC []) 1) 1 (bys s) (mh s) hb
   rw[il] at x1
   exact⟨2,_,_,_,_,_,aX xC rfl x1 x2,rfl,Wk.refl rfl,trivial⟩
 ·cases h
noncomputable def LT2:Lst:=[(147,kY)]
theorem UO:dL base.P LT2:=⟨xp,trivial⟩
theorem XR:bw LT2 147=fun a=>kY (aK a):=rfl
theorem oZ (run:ar)(dr:Bool)(hp:List Blk)(l:List Nat)(hl:Bok l)(h9:l.length<100000000):cg (CC LT2) run dr hp 147 [.sc (.string (tx l))]=some (.sc (.int .i64 (eM l:Int)),hp,⟨[],[],false,false⟩) :=
 bu BB XR run dr hp _ [iv (eM l)] rfl rfl (by
  have h:l.length.blt 100000000=true:=by rw[Nat.blt_eq];exact h9
  simp only[kY,jX hl,h,cond_true])
theorem Cm (run:ar)(k:Nat)(l:List Nat)(hl:Bok l)(h9:l.length<100000000) :
  ∃ st,af (CC LT2) run k (Tryz.f100.body.getD .skip) ⟨entry 6 [.sc (.string (tx l))],[],[]⟩=some (.ret,st)∧aZ TT st.fr st.hp Tryz.f100.results.toList=some [.sc (.bool (decide (1000<eM l)))]:=by
 obtain⟨e1,e2⟩:=cW 5 (.sc (.string (tx l)))
 generalize entry 6 [.sc (.string (tx l))]=fr0 at *
 have hc:=fun dr hp=>oZ run dr hp l hl h9
 generalize eM l=d at *
 have h1:((1000:Int)<(d:Int))=(1000<d):=by apply propext;omega
 simp[Tryz.f100,e1,e2,af,aJ,ao,aq,aH,ag,ai,aQ,aj,an,aF,aC,FP.none,bd,au,bj,aw,aa,ae,ab,hc,aZ,h1]
def nZ:List PV→Option (List PV)
 | [.sc (.string s)]=>bif (bys s).length.blt 100000000 then some [.sc (.bool (decide (1000<eM (bys s))))] else none
 | _=>none
theorem sT:Ab.Spec base.P 100 nZ:=Ab.Spec.bQ (C:=CC LT2) (cV UO) fun args rs h=>by
 unfold nZ at h
 split at h
 ·rename_i s
  cases hb:(bys s).length.blt 100000000 with
  | false=>rw[hb] at h;cases h
  | true =>
   rw[hb] at h
   simp only[cond_true,Option.some.injEq] at h
   subst h
   rw[Nat.blt_eq] at hb
   obtain⟨st,x1,x2⟩:=Cm (runK (CC LT2) 1) 1 (bys s) (mh s) hb
   rw[il] at x1
   exact⟨2,_,_,_,_,_,aX Eb rfl x1 x2,rfl,Wk.refl rfl,trivial⟩
 ·cases h
noncomputable def sK:Code:=((Tryz.f113.body).bind az).getD .skip
noncomputable def mv:Code:=Tryz.f113.body.getD .skip
theorem PY (L:Lst)(run:ar)(k:Nat)(fr:List PV)(l:List Nat)(h38:fr.length=38)(h0:nth fr 0 = .sc (.string (tx l)))(h5:nth fr 5=iv l.length) :
  ∃ fr',af (CC L) run k sK ⟨fr,[],[]⟩=some (.exit 0,⟨fr',[],[]⟩)∧fr'.length=38∧nth fr' 0 = .sc (.string (tx l))∧nth fr' 4=nth fr 4:=by
 simp only[iv] at h5
 simp[sK,Tryz.f113,az,af,aJ,ao,aq,aH,ag,ai,aj,an,aF,aC,FP.none,bd,au,bj,bM,aa,ae,ab,bh,dJ,h38,h0,h5,uAI]
set_option maxHeartbeats 1000000 in
theorem Ll (L:Lst)(run:ar)(k:Nat)(fr:List PV)(l:List Nat)(i:Nat)(hl:Bok l)(hi:i<l.length)(hi9:i<20000000)(h45:at0 l i=45)(h38:fr.length=38)(h0:nth fr 0 = .sc (.string (tx l)))(h5:nth fr 5=iv i) :
  ∃ fr',af (CC L) run k sK ⟨fr,[],[]⟩=some (.normal,⟨fr',[],[]⟩)∧fr'.length=38∧nth fr' 0 = .sc (.string (tx l))∧nth fr' 4=nth fr 4∧nth fr' 5=iv (i+1):=by
 have hx:=eX uAI hl .i64 i hi
 have hw:=bE i (by omega)
 rw[h45] at hx
 simp only[iv] at h5 ⊢
 simp[sK,Tryz.f113,az,af,aJ,ao,aq,aH,ag,ai,aj,an,aF,aC,FP.none,bd,au,bj,aw,bM,aa,ae,ab,bh,dJ,h38,h0,h5,uAI,hi,hx,hw]
set_option maxHeartbeats 1000000 in
theorem WN (L:Lst)(run:ar)(k:Nat)(fr:List PV)(l:List Nat)(i n:Nat)(hl:Bok l)(hi:i<l.length)(hi9:i<20000000)(hd:ll (at0 l i)=true)(hn:n<1000000000)(h38:fr.length=38)(h0:nth fr 0 = .sc (.string (tx l)))(h4:nth fr 4=iv n)(h5:nth fr 5=iv i) :
  ∃ fr',af (CC L) run k sK ⟨fr,[],[]⟩=some (.normal,⟨fr',[],[]⟩)∧fr'.length=38∧nth fr' 0 = .sc (.string (tx l))∧nth fr' 4=iv (stp n (at0 l i))∧nth fr' 5=iv (i+1):=by
 have hx:=eX uAI hl .i64 i hi
 rw[dH] at hd
 have hw:=bE i (by omega)
 generalize at0 l i=b at *
 obtain⟨s1,hs1⟩:∃ s1,s1=10*n:=⟨_,rfl⟩
 obtain⟨s2,hs2⟩:∃ s2,s2=s1+b:=⟨_,rfl⟩
 obtain⟨s3,hs3⟩:∃ s3,s3=stp n b:=⟨_,rfl⟩
 have hs4:s2=s3+48:=by rw[hs3,hs2,hs1];unfold stp dv;omega
 rw[← hs3]
 have hw1:=HZ .i64 n s1 hs1 (hiI (by omega))
 have hw2:=cu .i64 b (hiI (by omega))
 have hw3:=dp .i64 s1 b s2 hs2 (hiI (by omega))
 have hw4:=zC .i64 s2 s3 hs4 (hiI (by omega))
 have hne:((b:Int) == 45)=false:=by rw[beq_eq_false_iff_ne];omega
 have hne2 : ¬ ((b:Int)=45):=by omega
 simp only[iv] at h4 h5 ⊢
 simp[sK,Tryz.f113,az,af,aJ,ao,aq,aH,ag,ai,aj,an,aF,aC,FP.none,bd,au,bj,aw,bM,aa,ae,ab,bh,dJ,h38,h0,h4,h5,uAI,uI,u8T,dF,hi,hx,hne,bne,hw,hw1,hw2,hw3,hw4]
theorem ra (L:Lst)(run:ar)(k:Nat)(m:Bool)(ds:List Nat)(hd:eH ds=true)(h9:ds.length≤9):∀ (n i:Nat) (fr:List PV) (x:Nat),i+n=((bif m then [45] else [])++ds).length →
  fr.length=38→nth fr 0 = .sc (.string (tx ((bif m then [45] else [])++ds)))→nth fr 4=iv x→nth fr 5=iv i→x=dec 0 (ds.take (i - (bif m then 1 else 0))) →
  ∃ (fr':List PV),cl (af (CC L) run k sK) (n+1) ⟨fr,[],[]⟩=some (.exit 0,⟨fr',[],[]⟩)∧fr'.length=38∧nth fr' 0 = .sc (.string (tx ((bif m then [45] else [])++ds)))∧nth fr' 4=iv (dec 0 ds)
 | 0,i,fr,x,hin,h38,h0,h4,h5,hx=>by
  have e:i=((bif m then [45] else [])++ds).length:=by omega
  rw[e] at h5
  obtain⟨fr',q1,q2,q3,q4⟩:=PY L run k fr _ h38 h0 h5
  refine⟨fr',bD q1,q2,q3,?_⟩
  rw[q4,h4,hx,List.take_of_length_le (by rw[e];cases m <;> simp)]
 | n+1,i,fr,x,hin,h38,h0,h4,h5,hx=>by
  have hB:Bok ((bif m then [45] else [])++ds):=by
   refine Bok.append ?_ ?_
   ·cases m
    ·exact Bok.nil
    ·exact Bok.nil.cons (by omega)
   ·intro x hx
    have:=dH.1 (fJ hd hx)
    omega
  have hlen:((bif m then [45] else [])++ds).length=(bif m then 1 else 0)+ds.length:=by cases m <;> simp;omega
  rw[hlen] at hin
  have hil:i<(bif m then 1 else 0)+ds.length:=by omega
  have hi9:i<20000000:=by cases m <;> simp at hil <;> omega
  by_cases hs:m=true∧i=0
  ·obtain⟨rfl,rfl⟩:=hs
   obtain⟨fr1,g1,g2,g3,g4,g5⟩:=Ll L run k fr _ 0 hB (by rw[hlen];exact hil) hi9 rfl h38 h0 h5
   obtain⟨fr',q1,q2⟩:=ra L run k true ds hd h9 n 1 fr1 x (by rw[hlen];omega) g2 g3 (by rw[g4,h4]) g5 (by simpa using hx)
   exact⟨fr',by rw[ch g1];exact q1,q2⟩
  ·obtain⟨j,hj,hj2⟩:∃ j,i=(bif m then 1 else 0)+j∧j<ds.length:=by
    cases m with
    | false=>exact⟨i,by simp,by simp at hil;exact hil⟩
    | true =>
     have:i≠0:=fun h=>hs ⟨rfl,h⟩
     exact⟨i - 1,by simp;omega,by simp at hil;omega⟩
   have hat:at0 ((bif m then [45] else [])++ds) i=ds[j]:=by
    unfold at0
    cases m with
    | false=>simp only[cond_false,List.nil_append,Nat.zero_add] at hj ⊢;subst hj;simp[hj2]
    | true=>simp only[cond_true] at hj ⊢;subst hj;rw[Nat.add_comm];simp[hj2]
   have hdb:ll (at0 ((bif m then [45] else [])++ds) i)=true:=by rw[hat];exact fJ hd (List.getElem_mem hj2)
   have hdr:i - (bif m then 1 else 0)=j:=by rw[hj];cases m <;> simp
   have hdr2:i+1 - (bif m then 1 else 0)=j+1:=by rw[hj];cases m <;> simp <;> omega
   rw[hdr] at hx
   have hx9:x<1000000000:=by
    have h1:eH (ds.take j)=true:=by
     have:=fS (ds.take j) (ds.drop j)
     rw[List.take_append_drop,hd] at this
     have h2:=this.symm
     rw[Bool.and_eq_true] at h2
     exact h2.1
    have h2:=dec_lt _ h1
    rw[hx]
    refine Nat.lt_of_lt_of_le h2 (Nat.le_trans (Nat.pow_le_pow_right (by omega) (show (ds.take j).length≤9 by rw[List.length_take];omega)) (by decide))
   obtain⟨fr1,g1,g2,g3,g4,g5⟩:=WN L run k fr _ i x hB (by rw[hlen];exact hil) hi9 hdb hx9 h38 h0 h4 h5
   rw[hat] at g4
   obtain⟨fr',q1,q2⟩:=ra L run k m ds hd h9 n (i+1) fr1 _ (by rw[hlen];omega) g2 g3 g4 g5 (by
    rw[hdr2,List.take_succ_eq_append_getElem hj2,mg,← hx];rfl)
   exact⟨fr',by rw[ch g1];exact q1,q2⟩
theorem G7 {s:List Nat}{m:Bool}{ds:List Nat}(h:xk s=some (m,ds)):eM s=ds.length:=by
 obtain⟨h1,h2,h3⟩:=qR h
 cases m with
 | true=>subst h1;rfl
 | false =>
  simp only[cond_false,List.nil_append] at h1
  subst h1
  cases s with
  | nil=>rfl
  | cons a l =>
   have:=dH.1 (fJ h2 (List.mem_cons_self ..))
   have hb:a.beq 45=false:=by
    cases e:a.beq 45 with
    | false=>rfl
    | true=>have:=Nat.eq_of_beq_eq_true e;omega
   simp[eM,hb]
noncomputable def FD:Code:=seq1 (seq1 (ah 3 mv))
theorem Ce:ah 3 mv = .seq (.seq FD (.block 0 (.loop sK))) (ah 4 mv):=rfl
theorem Ln (run:ar)(k:Nat)(l:List Nat)(hl:Bok l)(h9:l.length<100000000)(hd:9<eM l) :
  ∃ st,af (CC LT2) run k mv ⟨entry 38 [.sc (.string (tx l))],[],[]⟩=some (.ret,st)∧aZ TT st.fr st.hp Tryz.f113.results.toList=some [Ab.bJ 0,.sc (.bool false)]:=by
 obtain⟨e1,e2⟩:=cW 37 (.sc (.string (tx l)))
 generalize entry 38 [.sc (.string (tx l))]=fr0 at *
 have hc:=fun dr hp=>oZ run dr hp l hl h9
 generalize eM l=d at *
 have h1:((9:Int)<(d:Int)):=by omega
 simp[mv,Tryz.f113,e1,e2,af,aJ,ao,aq,aH,ag,ai,aQ,aj,an,aF,aC,FP.none,bd,au,bj,aw,aa,ae,ab,hc,aZ,h1,Ab.bJ]
theorem Lm (run:ar)(k:Nat)(l:List Nat)(hl:Bok l)(h9:l.length<100000000)(hd:eM l≤9) :
  ∃ fr,aY (CC LT2) run k 3 mv ⟨entry 38 [.sc (.string (tx l))],[],[]⟩=some ⟨fr,[],[]⟩∧fr.length=38∧nth fr 0 = .sc (.string (tx l))∧nth fr 4=iv 0:=by
 obtain⟨e1,e2⟩:=cW 37 (.sc (.string (tx l)))
 generalize entry 38 [.sc (.string (tx l))]=fr0 at *
 have hc:=fun dr hp=>oZ run dr hp l hl h9
 generalize eM l=d at *
 have h1 : ¬ ((9:Int)<(d:Int)):=by omega
 simp[mv,Tryz.f113,aY,e1,e2,af,aJ,ao,aq,aH,ag,ai,aQ,aj,an,aF,aC,FP.none,bd,au,bj,aw,aa,ae,ab,hc,h1,iv]
theorem WM (L:Lst)(run:ar)(k:Nat)(fr:List PV)(h38:fr.length=38) :
  ∃ fr',af (CC L) run k FD ⟨fr,[],[]⟩=some (.normal,⟨fr',[],[]⟩)∧fr'.length=38∧nth fr' 0=nth fr 0∧nth fr' 4=nth fr 4∧nth fr' 5=iv 0:=by
 simp[FD,mv,ah,seq1,Tryz.f113,af,aJ,ao,aq,aH,ag,ai,aj,an,aF,aC,FP.none,aw,aa,ae,ab,h38,iv]
theorem Lo (L:Lst)(run:ar)(k:Nat)(fr:List PV)(a:Nat)(l:List Nat)(x:Nat)(hl:Bok (a::l))(hx9:x<1000000000)(h38:fr.length=38)(h0:nth fr 0 = .sc (.string (tx (a::l))))(h4:nth fr 4=iv x) :
  ∃ st,af (CC L) run k (ah 4 mv) ⟨fr,[],[]⟩=some (.ret,st)∧aZ TT st.fr st.hp Tryz.f113.results.toList=some [Ab.bJ (gG (a.beq 45) x),.sc (.bool true)]:=by
 have hx:hZ TT 94 (.sc (.string (tx (a::l)))) (.sc (.int .i64 0))=some (.sc (.int .u8 (a:Int))):=eX uAI hl .i64 0 (by simp)
 have hp:(0:Int)<(l.length:Int)+1:=by omega
 have hb:=adq a
 have hw:bA .i64 (-(x:Int)) = -(x:Int):=fh _ (by omega) (by omega)
 simp only[iv] at h4
 cases h:a.beq 45 with
 | true =>
  rw[h] at hb
  have e:gG true x = -(x:Int):=by cases x <;> rfl
  rw[e]
  simp[mv,ah,Tryz.f113,af,aJ,ao,aq,aH,ag,ai,aj,an,aF,aC,FP.none,bd,au,bj,aw,bM,unP,aa,ae,ab,bh,dJ,h38,h0,h4,uAI,hx,hp,hb,hw,aZ,Ab.bJ]
 | false =>
  rw[h] at hb
  have e:gG false x=(x:Int):=rfl
  rw[e]
  simp[mv,ah,Tryz.f113,af,aJ,ao,aq,aH,ag,ai,aj,an,aF,aC,FP.none,bd,au,bj,aw,bM,aa,ae,ab,bh,dJ,h38,h0,h4,uAI,hx,hp,hb,aZ,Ab.bJ]
def sJ:List PV→Option (List PV)
 | [.sc (.string s)]=>match xk (bys s) with
  | some (m,ds)=>bif (bys s).length.blt 100000000 then (bif ds.length.ble 9 then some [Ab.bJ (gG m (dec 0 ds)),.sc (.bool true)] else some [Ab.bJ 0,.sc (.bool false)]) else none
  | none=>none
 | _=>none
theorem ym:Ab.Spec base.P 113 sJ:=Ab.Spec.bQ (C:=CC LT2) (cV UO) fun args rs h=>by
 unfold sJ at h
 split at h
 ·rename_i s
  split at h
  ·rename_i m ds e
   cases hb:(bys s).length.blt 100000000 with
   | false=>rw[hb] at h;cases h
   | true =>
    rw[hb] at h
    simp only[cond_true] at h
    rw[Nat.blt_eq] at hb
    have hs:s=tx (bys s):=(il s).symm
    have hok:=mh s
    have hdn:=G7 e
    obtain⟨e1,e2,e3⟩:=qR e
    cases hc:ds.length.ble 9 with
    | false =>
     rw[hc] at h
     simp only[cond_false,Option.some.injEq] at h
     subst h
     have hd:9<eM (bys s):=by
      rw[hdn]
      rcases Nat.lt_or_ge 9 ds.length with h | h
      ·exact h
      ·rw[show ds.length.ble 9=true by rw[Nat.ble_eq];exact h] at hc;cases hc
     obtain⟨st,x1,x2⟩:=Ln (runK (CC LT2) 1) 1 (bys s) hok hb hd
     rw[← hs] at x1
     exact⟨2,_,_,_,_,_,aX qI rfl x1 x2,rfl,Wk.refl rfl,Wk.refl rfl,trivial⟩
    | true =>
     rw[hc] at h
     simp only[cond_true,Option.some.injEq] at h
     subst h
     rw[Nat.ble_eq] at hc
     obtain⟨f1,p1,p2,p3,p4⟩:=Lm (runK (CC LT2) ((bys s).length+1)) ((bys s).length+1) (bys s) hok hb (by rw[hdn];exact hc)
     obtain⟨f2,q1,q2,q3,q4,q5⟩:=WM LT2 (runK (CC LT2) ((bys s).length+1)) ((bys s).length+1) f1 p2
     obtain⟨f3,r1,r2,r3,r4⟩:=ra LT2 (runK (CC LT2) ((bys s).length+1)) ((bys s).length+1) m ds e2 hc (bys s).length 0 f2 0 (by rw[← e1];omega) q2 (by rw[q3,p3,← e1]) (by rw[q4,p4]) q5 (by cases m <;> rfl)
     rw[← e1] at r3
     obtain⟨a,l,hal⟩:∃ a l,bys s=a::l:=by
      cases h:bys s with
      | nil=>exact absurd h e3
      | cons a l=>exact⟨a,l,rfl⟩
     have hm:a.beq 45=m:=by
      rw[hal] at e1
      cases m with
      | true=>simp at e1;rw[e1.1];rfl
      | false =>
       simp only[cond_false,List.nil_append] at e1
       subst e1
       have:=dH.1 (fJ e2 (List.mem_cons_self ..))
       cases h:a.beq 45 with
       | false=>rfl
       | true=>have:=Nat.eq_of_beq_eq_true h;omega
     have hx9:dec 0 ds<1000000000:=Nat.lt_of_lt_of_le (dec_lt _ e2) (Nat.le_trans (Nat.pow_le_pow_right (by omega) hc) (by decide))
     rw[hal] at hok r3
     obtain⟨st,x1,x2⟩:=Lo LT2 (runK (CC LT2) ((bys s).length+1)) ((bys s).length+1) f3 a l _ hok hx9 r2 r3 r4
     rw[hm] at x2
     have hx:af (CC LT2) (runK (CC LT2) ((bys s).length+1)) ((bys s).length+1) mv ⟨entry 38 [.sc (.string s)],[],[]⟩=some (.ret,st):=by
      rw[il] at p1
      rw[aP 3 p1,Ce,av ((av q1).trans (bH r1))]
      exact x1
     exact⟨(bys s).length+2,_,_,_,_,_,aX qI rfl hx x2,rfl,Wk.refl rfl,Wk.refl rfl,trivial⟩
  ·cases h
 ·cases h
end Go.Proofs.YtjdmodeenbdfpaaGreat
