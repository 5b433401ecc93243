/- Contracts of fractions, clouds and predicates, part 37 of the proof; each lemma states its own conditions. -/
import Derived.Test.YtjdmodeenbdfpaaGreatQ36
set_option linter.unusedSimpArgs false
set_option linter.unusedVariables false
namespace Go.Proofs.YtjdmodeenbdfpaaGreat
open Go Go.Ab
theorem adL {a b:Nat}(h:a.beq b=true):a=b:=Nat.eq_of_beq_eq_true h
theorem oW {a b:Nat}(h:a≠b):a.beq b=false:=by
 cases e:a.beq b with
 | false=>rfl
 | true=>exact absurd (adL e) h
theorem BS (z:Int):kI (ztx z)=true:=by
 have h3:ztx z=(bif bt z then [45] else [])++dtx z.natAbs:=qG z
 rw[h3]
 have hd:=mW z.natAbs
 cases e:dtx z.natAbs with
 | nil=>exact absurd e (TW _)
 | cons a r =>
  rw[e] at hd
  have ha:=dx.1 (fC hd List.mem_cons_self)
  have hh:vHd (a::r)=false:=by
   cases r with
   | nil=>rfl
   | cons b r=>exact oW (pX e)
  cases hn:bt z with
  | false =>
   simp only[cond_false,List.nil_append,kI,kj,oW (show a≠45 by omega),hh,hd]
   rfl
  | true =>
   have h48:a≠48:=by
    cases r with
    | nil =>
     intro ea
     rw[ea] at e
     exact Ju hn e
    | cons b r=>exact pX e
   have h45:(45:Nat).beq 45=true:=rfl
   simp only[cond_true,List.cons_append,List.nil_append,kI,kj,oW h48,cond_false,hh,hd,h45]
   rfl
theorem yc {l:List Nat}(h:kI l=true):∃ z,l=ztx z:=by
 have key:∀ (m:Bool) (ds:List Nat),vHd ds=false→eI ds=true→(m=true→ds≠[48])→∃ z,(bif m then [45] else [])++ds=ztx z:=by
  intro m ds h1 h2 h3
  refine⟨_,J2 h2 (by intro e;subst e;simp[vHd] at h1) h3 ?_⟩
  intro a b l e ea
  subst e;subst ea
  simp[vHd] at h1
 unfold kI at h
 cases l with
 | nil=>simp[kj,vHd] at h
 | cons a l =>
  by_cases ha:a=45
  ·subst ha
   cases l with
   | nil=>simp[kj,vHd] at h
   | cons b l =>
    by_cases hb:b=48
    ·subst hb;simp[kj] at h
    ·have h45:(45:Nat).beq 45=true:=rfl
     simp only[kj,oW hb,cond_true,cond_false,h45,Bool.and_eq_true,Bool.not_eq_true'] at h
     obtain⟨z,hz⟩:=key true (b::l) h.1 h.2 (fun _ e=>hb (List.cons.inj e).1)
     exact⟨z,hz⟩
  ·simp only[kj,oW ha,cond_false,Bool.and_eq_true,Bool.not_eq_true'] at h
   obtain⟨z,hz⟩:=key false (a::l) h.1 h.2 nofun
   exact⟨z,hz⟩
def tD (n:Bool):List Nat→Bool
 | []=>true
 | [a]=>a.beq 48 && n
 | a::_=>a.beq 48
theorem Z6 (n:Bool)(s:ByteArray):om n (bH s)=tD n (bys s):=by
 unfold bys
 cases bH s with
 | nil=>rfl
 | cons a l=>cases l <;> rfl
def isM:List Nat→Bool
 | []=>false
 | a::_=>a.beq 45
theorem Uo (s:ByteArray):xd s=isM (bys s):=by
 unfold xd bys ir
 cases bH s with
 | nil=>rfl
 | cons a l =>
  show (Nat.ble 1 (l.length+1) && eqL [a] [45])=a.toNat.beq 45
  have:Nat.ble 1 (l.length+1)=true:=by rw[Nat.ble_eq];omega
  rw[this,Bool.true_and]
  simp only[eqL,Bool.and_true]
  by_cases h:a.toNat=45
  ·rw[h];rfl
  ·rw[oW h,beq_eq_false_iff_ne];exact h
theorem adz (s:ByteArray):bys (oP s)=bif isM (bys s) then (bys s).drop 1 else bys s:=by
 have:=Uo s
 unfold xd at this
 unfold oP
 rw[this]
 cases isM (bys s) with
 | false=>rfl
 | true =>
  simp only[cond_true]
  unfold bys
  rw[fg,List.map_drop]
theorem CH (s:ByteArray):gH s=bif tD (isM (bys s)) (bif isM (bys s) then (bys s).drop 1 else bys s) then none else bif eI (bif isM (bys s) then (bys s).drop 1 else bys s) then some (sgn (isM (bys s)) (dec 0 (bif isM (bys s) then (bys s).drop 1 else bys s))) else none:=by
 unfold gH
 rw[Z6,adz,Uo]
theorem Ps (m:Bool)(n:Nat):sgn m n=gG m n:=rfl
theorem Ge {s:ByteArray}{z:Int}(h:bys s=ztx z):gH s=some z:=by
 rw[CH,h]
 have h3:ztx z=(bif bt z then [45] else [])++dtx z.natAbs:=qG z
 have hz:=gY z
 rw[h3]
 have hd:=mW z.natAbs
 have hv:=nR z.natAbs
 cases e:dtx z.natAbs with
 | nil=>exact absurd e (TW _)
 | cons a r =>
  rw[e] at hd hv
  have ha:=dx.1 (fC hd List.mem_cons_self)
  cases hn:bt z with
  | false =>
   have hb:tD false (a::r)=false:=by
    cases r with
    | nil=>simp[tD]
    | cons b r=>exact oW (pX e)
   simp only[cond_false,List.nil_append,isM,oW (show a≠45 by omega),hb,hd,cond_true,Ps]
   rw[hv,← hn,hz]
  | true =>
   have hb:tD true (a::r)=false:=by
    cases r with
    | nil =>
     have:a≠48:=by
      intro ea
      rw[ea] at e
      exact Ju hn e
     simp[tD,oW this]
    | cons b r=>exact oW (pX e)
   have h45:(45:Nat).beq 45=true:=rfl
   simp only[cond_true,List.cons_append,List.nil_append,isM,h45,List.drop_succ_cons,List.drop_zero,hb,cond_false,hd,Ps]
   rw[hv,← hn,hz]
theorem si {s:ByteArray}{z:Int}(h:gH s=some z):bys s=ztx z:=by
 rw[CH] at h
 have key:∀ (m:Bool) (ds:List Nat),tD m ds=false→eI ds=true→some (sgn m (dec 0 ds))=some z→(bif m then [45] else [])++ds=ztx z:=by
  intro m ds h1 h2 h3
  simp only[Option.some.injEq] at h3
  rw[← h3,Ps]
  refine J2 h2 (by intro e;subst e;simp[tD] at h1) ?_ ?_
  ·rintro rfl rfl
   simp[tD] at h1
  ·intro a b l e ea
   subst e;subst ea
   simp[tD] at h1
 cases hm:isM (bys s) with
 | true =>
  rw[hm] at h
  simp only[cond_true] at h
  cases hb:tD true ((bys s).drop 1) with
  | true=>rw[hb] at h;cases h
  | false =>
   rw[hb] at h
   simp only[cond_false] at h
   cases hd:eI ((bys s).drop 1) with
   | false=>rw[hd] at h;cases h
   | true =>
    rw[hd] at h
    simp only[cond_true] at h
    rw[← key true _ hb hd h]
    cases e:bys s with
    | nil=>rw[e] at hm;cases hm
    | cons a l =>
     rw[e] at hm
     rw[adL hm];rfl
 | false =>
  rw[hm] at h
  simp only[cond_false] at h
  cases hb:tD false (bys s) with
  | true=>rw[hb] at h;cases h
  | false =>
   rw[hb] at h
   simp only[cond_false] at h
   cases hd:eI (bys s) with
   | false=>rw[hd] at h;cases h
   | true =>
    rw[hd] at h
    simp only[cond_true] at h
    exact key false _ hb hd h
theorem Tu:∀ l:List UInt8,Lib.indexByte l 47=match fI (l.map UInt8.toNat) with
  | some j=>(j:Int)
  | none => -1
 | []=>rfl
 | a::l=>by
  have ih:=Tu l
  simp only[Lib.indexByte,List.map_cons,fI]
  by_cases h:a.toNat=47
  ·have:(a == 47)=true:=by rw[beq_iff_eq,← UInt8.toNat_inj];exact h
   rw[this,if_pos rfl,h]
   rfl
  ·have:(a == 47)=false:=by rw[beq_eq_false_iff_ne,ne_eq,← UInt8.toNat_inj];exact h
   rw[this,if_neg (by simp),oW h,cond_false,ih]
   cases fI (l.map UInt8.toNat) with
   | none=>rfl
   | some j =>
    simp only[Option.map_some]
    have h1 : ¬ ((((j:Nat):Int) == -1)=true):=by
     rw[beq_iff_eq];omega
    rw[if_neg h1]
    rfl
theorem Y2 (s:ByteArray):idx s=match fI (bys s) with
  | some j=>(j:Int)
  | none => -1:=by
 unfold idx
 cases h:eqL [47] (bH s) with
 | false=>exact Tu (bH s)
 | true =>
  have h2:[47]=bH s:=by
   have h3:=Ab.oM [47] (bH s)
   rw[h] at h3
   exact eq_of_beq h3.symm
  unfold bys
  rw[← h2]
  rfl
theorem DZ:∀ {l:List Nat} {j:Nat},fI l=some j→j<l.length
 | a::l,j,h=>by
  simp only[fI] at h
  cases e:a.beq 47 with
  | true=>rw[e] at h;simp at h;subst h;simp
  | false =>
   rw[e] at h
   simp only[cond_false,Option.map_eq_some_iff] at h
   obtain⟨i,hi,rfl⟩:=h
   have:=DZ hi
   simpa using this
theorem ZJ (s:ByteArray)(h9:(bys s).length≤1000000000):lb s=true∧bys (jd s)=(spl (bys s)).1∧tB s=(spl (bys s)).2.2∧(tB s=true→bys (jc s)=(spl (bys s)).2.1):=by
 unfold lb jd jc tB spl
 rw[Y2]
 cases h:fI (bys s) with
 | none=>refine⟨?_,?_,?_,?_⟩ <;> first | rfl | trivial | nofun
 | some j =>
  have:=DZ h
  simp only
  rw[jw] at this h9
  refine⟨?_,?_,by trivial,fun _ => ?_⟩
  ·show ((j+1).ble (bH s).length && (bH s).length.ble 1000000000)=true
   simp only[Bool.and_eq_true,Nat.ble_eq];omega
  ·show bys (mkStr ((bH s).take j))=_
   unfold bys;rw[fg,List.map_take]
  ·show bys (mkStr ((bH s).drop (j+1)))=_
   unfold bys;rw[fg,List.map_drop]
def qb (x:Rat):ByteArray:=tx (qtx x.num x.den)
def qt (x:Rat):PV:=.sc (.string (qb x))
theorem yW (x:Rat):qs x.num x.den=qt x:=rfl
theorem HW (x:Rat):bys (qb x)=qtx x.num x.den:=jm (GW _ _)
theorem kl (x:Rat):spl (bys (qb x))=(ztx x.num,ztx x.den, !decide ((x.den:Int)=1)):=by rw[HW,Ap]
theorem oG {x y:Rat}(h:qb x=qb y):x=y:=by
 have h1:=kl x
 rw[h,kl] at h1
 simp only[Prod.mk.injEq] at h1
 exact Rat.ext (oZ h1.1).symm (by have:=oZ h1.2.1;omega)
theorem Bd (s t:ByteArray):ef .eql s t=some (.bool (decide (s=t))):=by
 have h:eqL (bH s) (bH t)=decide (s=t):=by
  rw[Ab.oM]
  by_cases h:s=t
  ·subst h;simp
  ·have:bH s≠bH t:=fun e=>h (by rw[← fx s,e,fx])
   simp[h,this]
 simp only[ef,h]
theorem Yt (s t:ByteArray):ef .neq s t=some (.bool (!decide (s=t))):=by
 have h:=Bd s t
 simp only[ef,Option.some.injEq,Value.bool.injEq] at h
 simp only[ef,h]
theorem TN (x y:Rat):ef .eql (qb x) (qb y)=some (.bool (decide (x=y))):=by
 rw[Bd]
 by_cases h:x=y
 ·subst h;simp
 ·rw[decide_eq_false h,decide_eq_false fun e=>h (oG e)]
theorem tW (x:Rat):ef .eql (qb x) { data:=#[105,110,102] } = some (.bool false):=by
 rw[Bd,decide_eq_false]
 intro e
 have h1:=congrArg bys e
 rw[HW] at h1
 have h2:(105:Nat) ∈ qtx x.num x.den:=by rw[h1];exact List.mem_cons_self
 have hz:∀ (z:Int),∀ y ∈ ztx z,y≠105:=by
  intro z y hy
  rw[qG,List.mem_append] at hy
  rcases hy with hy | hy
  ·cases hn:bt z <;> rw[hn] at hy <;> simp at hy
   omega
  ·have:=dx.1 (fC (mW _) hy)
   omega
 unfold qtx at h2
 split at h2
 ·exact hz _ _ h2 rfl
 ·simp only[List.mem_append,List.mem_cons] at h2
  rcases h2 with h2 | h2 | h2
  ·exact hz _ _ h2 rfl
  ·omega
  ·exact hz _ _ h2 rfl
theorem Rb.zm {k:Nat}{x:Rat}(h:Rb k x)(hk:k≤2000000):Zm x.num∧Zm (x.den:Int):=⟨h.1.zm hk,h.2.zm hk⟩
theorem xb {k:Nat}{x:Rat}(h:Rb k x)(hk:k≤2000000):og (qt x)=some (x.num,(x.den:Int)):=Um (h.zm hk).1 (h.zm hk).2 (by have:=x.den_pos;omega)
theorem ab5 {x y:Rat}{j k:Nat}(hx:Rb j x)(hy:Rb k y)(h:j+k≤1000000):ss [qt x,qt y]=some [qt (x+y)]:=by
 have g1:=hx.1.mul hy.2
 have g2:=hy.1.mul hx.2
 rw[Nat.add_comm k j] at g2
 have g3:=hx.2.mul hy.2
 simp only[ss,xb hx (by omega),xb hy (by omega)]
 cases hb:decide ((x.den:Int)=1) && decide ((y.den:Int)=1) with
 | true =>
  simp only[Bool.and_eq_true,decide_eq_true_eq] at hb
  have h1:=pt x y
  have h2:=px x y
  rw[hb.1,hb.2] at h1 h2
  simp[pw,oA] at h1 h2
  rw[cond_true,h1,← yW,← h2]
 | false =>
  rw[cond_false,g1.zmB (by omega),g2.zmB (by omega),(g1.add g2).zmB (by omega),g3.zmB (by omega)]
  simp only[Bool.and_self,cond_true,pt,px,yW]
theorem abc {x y:Rat}{j k:Nat}(hx:Rb j x)(hy:Rb k y)(h:j+k≤1000000):yD [qt x,qt y]=some [qt (x*y)]:=by
 have g1:=hx.1.mul hy.1
 have g3:=hx.2.mul hy.2
 simp only[yD,xb hx (by omega),xb hy (by omega),g1.zmB (by omega),g3.zmB (by omega),Bool.and_self,cond_true,uZ,u0,yW]
theorem XL {x:Rat}{j:Nat}(hx:Rb j x)(h:j≤1000000):oC [qt x]=some [qt (-x)]:=by
 simp only[oC,xb hx (by omega)]
 rw[← yW,Rat.neg_num,Rat.neg_den]
theorem aee {L:Lst}(hL:bu L 24=fun a=>ss (aJ a))(run:aq){x y:Rat}{j k:Nat}(hx:Rb j x)(hy:Rb k y)(h:j+k≤1000000):ar L run 24 [qt x,qt y] (qt (x+y)):=fun dr hp =>
 bp K7 hL run dr hp _ [qt (x+y)] rfl rfl (ab5 hx hy h)
theorem agr {L:Lst}(hL:bu L 34=fun a=>yD (aJ a))(run:aq){x y:Rat}{j k:Nat}(hx:Rb j x)(hy:Rb k y)(h:j+k≤1000000):ar L run 34 [qt x,qt y] (qt (x*y)):=fun dr hp =>
 bp FD hL run dr hp _ [qt (x*y)] rfl rfl (abc hx hy h)
theorem afV {L:Lst}(hL:bu L 122=fun a=>oC (aJ a))(run:aq){x:Rat}{j:Nat}(hx:Rb j x)(h:j≤1000000):ar L run 122 [qt x] (qt (-x)):=fun dr hp =>
 bp O4 hL run dr hp _ [qt (-x)] rfl rfl (XL hx h)
theorem uc {L:Lst}(hL:bu L 65=fun a=>j5 (aJ a))(run:aq){x:Rat}{j:Nat}(hx:Rb j x)(h:j≤2000000):ar L run 65 [qt x] (.tup [zs x.num,zs x.den,.sc (.bool (!decide ((x.den:Int)=1)))]):=fun dr hp =>
 bp jF hL run dr hp _ [zs x.num,zs x.den,.sc (.bool (!decide ((x.den:Int)=1)))] rfl rfl (Fp _ _ (hx.zm h).1 (hx.zm h).2)
theorem Bx {L:Lst}(hL:bu L 68=fun a=>sz (aJ a))(run:aq)(x y:Int)(hx:Zm x)(hy:Zm y):ar L run 68 [zs x,zs y] (zs (x*y)):=fun dr hp =>
 bp uO hL run dr hp _ [zs (x*y)] rfl rfl (by simp only[sz,cD x hx,cD y hy])
theorem Bz {L:Lst}(hL:bu L 69=fun a=>lE (aJ a))(run:aq)(x y:Int)(hx:Zm x)(hy:Zm y):ar L run 69 [zs x,zs y] (Ab.bC (fD x y)):=fun dr hp =>
 bp Ci hL run dr hp _ [Ab.bC (fD x y)] rfl rfl (by simp only[lE,cD x hx,cD y hy])
theorem afU {L:Lst}(hL:bu L 67=fun a=>so (aJ a))(run:aq)(n d:Int)(hn:Zm n)(hd:Zm d)(h0:d≠0)(hz:(dN n).blt eL=true∧(dN d).blt eL=true):ar L run 67 [zs n,zs d] (qt (Rat.divInt n d)):=fun dr hp =>
 bp Cc hL run dr hp _ [qt (Rat.divInt n d)] rfl rfl (by
  simp only[so,cD n hn,cD d hd]
  by_cases h:0<d
  ·rw[decide_eq_true h,cond_true,← (fT n d h).1,← (fT n d h).2,yW]
  ·rw[decide_eq_false h,cond_false,decide_eq_true (show d<0 by omega),hz.1,hz.2]
   have h2:0 < -d:=by omega
   simp only[Bool.and_self,cond_true]
   rw[← Rat.neg_divInt_neg,← (fT (-n) (-d) h2).1,← (fT (-n) (-d) h2).2,yW])
theorem iw {L:Lst}{g:Nat}{α:Type}{e:α→List PV}{ok:α→Prop}{f:α→List PV}(hs:base.shared g=false)(hL:bu L g=fun a=>ctr e ok f (aJ a))(inj:∀ x y,ok x→ok y→e x=e y→f x=f y)(run:aq)(x:α)(hx:ok x)
  (hsn:∀ hp,bq (snap hp bj) (e x)=some (e x,[])) (hc:aJ (e x)=e x):ar L run g (e x) (gN (f x)):=fun dr hp =>
 bp hs hL run dr hp _ (f x) (hsn hp) hc (mZ inj hx)
theorem ET:base.F.get 25=some Tryz.f25:=by kernel_rfl
theorem K8:base.shared 25=false:=by kernel_rfl
theorem Rz {x y:Rat}(h:qt x=qt y):x=y:=by
 unfold qt at h
 simp only[PV.sc.injEq,Value.string.injEq] at h
 exact oG h
abbrev RR:=Rat × Rat
def e2q (p:RR):List PV:=[qt p.1,qt p.2]
def ok2 (p:RR):Prop:=Rb 400000 p.1∧Rb 400000 p.2
theorem Be {p q:RR}(h:e2q p=e2q q):p=q:=by
 simp only[e2q,List.cons.injEq,and_true] at h
 exact Prod.ext (Rz h.1) (Rz h.2)
noncomputable def LQ1:Lst:=[(65,j5),(68,sz),(69,lE),(67,so),(122,oC),(24,ss),(111,QI),(112,sO),(48,nF)]
theorem Bw:dM base.P LQ1:=⟨nE,yK,oE,yG,vi,qZ,QE,yS,su,trivial⟩
theorem Yy (L:Lst)(run:aq)(k:Nat)(s t a b:ByteArray)(g1:ar L run 122 [.sc (.string t)] (.sc (.string a)))(g2:ar L run 24 [.sc (.string s),.sc (.string a)] (.sc (.string b))) :
  ∃ st,af (CC L) run k (Tryz.f70.body.getD .skip) ⟨entry 9 [.sc (.string s),.sc (.string t)],[],[]⟩=some (.ret,st)∧aV TT st.fr st.hp Tryz.f70.results.toList=some [.sc (.string b)]:=by
 obtain⟨e1,e2,e3⟩:=cn 7 (.sc (.string s)) (.sc (.string t))
 generalize entry 9 [.sc (.string s),.sc (.string t)]=fr0 at *
 unfold ar at *
 simp[Tryz.f70,e1,e2,e3,af,aH,an,ao,aG,ag,ai,aO,aj,ak,aC,az,FP.none,av,aa,ae,ab,g1,g2,aV]
noncomputable def mnF:List PV→Option (List PV):=ctr e2q ok2 fun p=>[qt (p.1 - p.2)]
theorem Yx:Ab.Spec base.P 70 mnF:=Ab.Spec.bN (C:=CC LQ1) (cU Bw) fun args rs h=>by
 obtain⟨⟨x,y⟩,⟨hx,hy⟩,rfl,rfl⟩:=db h
 obtain⟨st,x1,x2⟩:=Yy LQ1 (runK (CC LQ1) 1) 1 _ _ _ _ (afV rfl _ hy (by omega)) (aee rfl _ hx hy.neg (by omega))
 refine⟨2,_,_,_,_,_,aQ BC rfl x1 x2,rfl,?_,trivial⟩
 show Wk (qt (x + -y)) (qt (x - y))
 rw[← Rat.sub_eq_add_neg]
 exact Wk.refl rfl
theorem agt {L:Lst}(hL:bu L 70=fun a=>mnF (aJ a))(run:aq){x y:Rat}{j k:Nat}(hx:Rb j x)(hy:Rb k y)(hj:j≤400000)(hk:k≤400000):ar L run 70 [qt x,qt y] (qt (x - y)) :=
 iw FE hL (fun p q _ _ h=>by rw[Be h]) run (x,y) ⟨hx.mono hj,hy.mono hk⟩ (fun _=>rfl) rfl
theorem Ux (L:Lst)(run:aq)(k:Nat)(s t a b c d:ByteArray)(u v:Bool)(r:Int)(hs:ef .eql s { data:=#[105,110,102] } = some (.bool false))(ht:ef .eql t { data:=#[105,110,102] } = some (.bool false))(hb:ef .eql b { data:=#[49] } = some (.bool true))(hd:ef .eql d { data:=#[49] } = some (.bool true))(g1:ar L run 65 [.sc (.string s)] (.tup [.sc (.string a),.sc (.string b),.sc (.bool u)]))(g2:ar L run 65 [.sc (.string t)] (.tup [.sc (.string c),.sc (.string d),.sc (.bool v)]))
  (g3:ar L run 69 [.sc (.string a),.sc (.string c)] (Ab.bC r)) :
  ∃ st,af (CC L) run k (Tryz.f26.body.getD .skip) ⟨entry 49 [.sc (.string s),.sc (.string t)],[],[]⟩=some (.ret,st)∧aV TT st.fr st.hp Tryz.f26.results.toList=some [Ab.bC r]:=by
 obtain⟨e1,e2,e3⟩:=cn 47 (.sc (.string s)) (.sc (.string t))
 generalize entry 49 [.sc (.string s),.sc (.string t)]=fr0 at *
 unfold ar at *
 simp only[Ab.bC] at *
 simp[Tryz.f26,e1,e2,e3,af,aH,an,ao,aG,ag,ai,aO,aj,ak,aC,az,FP.none,aY,av,aa,ae,ab,g1,g2,g3,hs,ht,hb,hd,undef,aV]
theorem Uw (L:Lst)(run:aq)(k:Nat)(s t a b c d e f:ByteArray)(u v w1 w2:Bool)(r:Int)(hs:ef .eql s { data:=#[105,110,102] } = some (.bool false))(ht:ef .eql t { data:=#[105,110,102] } = some (.bool false))(hw:(w1 && w2)=false)(hb:ef .eql b { data:=#[49] } = some (.bool w1))(hd:ef .eql d { data:=#[49] } = some (.bool w2))(g1:ar L run 65 [.sc (.string s)] (.tup [.sc (.string a),.sc (.string b),.sc (.bool u)]))(g2:ar L run 65 [.sc (.string t)] (.tup [.sc (.string c),.sc (.string d),.sc (.bool v)]))
  (g3:ar L run 68 [.sc (.string a),.sc (.string d)] (.sc (.string e))) (g4:ar L run 68 [.sc (.string c),.sc (.string b)] (.sc (.string f))) (g5:ar L run 69 [.sc (.string e),.sc (.string f)] (Ab.bC r)) :
  ∃ st,af (CC L) run k (Tryz.f26.body.getD .skip) ⟨entry 49 [.sc (.string s),.sc (.string t)],[],[]⟩=some (.ret,st)∧aV TT st.fr st.hp Tryz.f26.results.toList=some [Ab.bC r]:=by
 obtain⟨e1,e2,e3⟩:=cn 47 (.sc (.string s)) (.sc (.string t))
 generalize entry 49 [.sc (.string s),.sc (.string t)]=fr0 at *
 unfold ar at *
 simp only[Ab.bC] at *
 cases w1 <;> cases w2 <;> simp only[Bool.and_true,Bool.and_false,Bool.and_self,Bool.true_eq_false] at hw <;> simp[Tryz.f26,e1,e2,e3,af,aH,an,ao,aG,ag,ai,aO,aj,ak,aC,az,FP.none,aY,av,aa,ae,ab,g1,g2,g3,g4,g5,hs,ht,hb,hd,undef,aV]
noncomputable def cmF:List PV→Option (List PV):=ctr e2q ok2 fun p=>[Ab.bC (CK p.1 p.2)]
theorem ZO:Ab.Spec base.P 26 cmF:=Ab.Spec.bN (C:=CC LQ1) (cU Bw) fun args rs h=>by
 obtain⟨⟨x,y⟩,⟨hx,hy⟩,rfl,rfl⟩:=db h
 have gx:=uc (L:=LQ1) rfl (runK (CC LQ1) 1) hx (by omega)
 have gy:=uc (L:=LQ1) rfl (runK (CC LQ1) 1) hy (by omega)
 have m1:=Bx (L:=LQ1) rfl (runK (CC LQ1) 1) x.num y.den (hx.1.zm (by omega)) (hy.2.zm (by omega))
 have m2:=Bx (L:=LQ1) rfl (runK (CC LQ1) 1) y.num x.den (hy.1.zm (by omega)) (hx.2.zm (by omega))
 cases hw:decide ((x.den:Int)=1) && decide ((y.den:Int)=1) with
 | true =>
  simp only[Bool.and_eq_true,decide_eq_true_eq] at hw
  have e:=Es x y
  rw[hw.1,hw.2,Int.mul_one,Int.mul_one] at e
  have g:=Bz (L:=LQ1) rfl (runK (CC LQ1) 1) x.num y.num (hx.1.zm (by omega)) (hy.1.zm (by omega))
  obtain⟨st,x1,x2⟩:=Ux LQ1 (runK (CC LQ1) 1) 1 _ _ _ _ _ _ _ _ _ (tW x) (tW y) ((iO x.den).trans (by rw[hw.1];rfl)) ((iO y.den).trans (by rw[hw.2];rfl)) gx gy g
  refine⟨2,_,_,_,_,_,aQ xx rfl x1 x2,rfl,?_,trivial⟩
  rw[e]
  exact Wk.refl rfl
 | false =>
  have e:=Es x y
  have g:=Bz (L:=LQ1) rfl (runK (CC LQ1) 1) (x.num*y.den) (y.num*x.den) ((hx.1.mul hy.2).zm (by omega)) ((hy.1.mul hx.2).zm (by omega))
  obtain⟨st,x1,x2⟩:=Uw LQ1 (runK (CC LQ1) 1) 1 _ _ _ _ _ _ _ _ _ _ _ _ _ (tW x) (tW y) hw (iO x.den) (iO y.den) gx gy m1 m2 g
  refine⟨2,_,_,_,_,_,aQ xx rfl x1 x2,rfl,?_,trivial⟩
  rw[e]
  exact Wk.refl rfl
theorem agu {L:Lst}(hL:bu L 26=fun a=>cmF (aJ a))(run:aq){x y:Rat}{j k:Nat}(hx:Rb j x)(hy:Rb k y)(hj:j≤400000)(hk:k≤400000):ar L run 26 [qt x,qt y] (Ab.bC (CK x y)) :=
 iw O5 hL (fun p q _ _ h=>by rw[Be h]) run (x,y) ⟨hx.mono hj,hy.mono hk⟩ (fun _=>rfl) rfl
theorem XJ (L:Lst)(run:aq)(k:Nat)(s t a b c d e f r:ByteArray)(u v:Bool)(g1:ar L run 65 [.sc (.string s)] (.tup [.sc (.string a),.sc (.string b),.sc (.bool u)]))(g2:ar L run 65 [.sc (.string t)] (.tup [.sc (.string c),.sc (.string d),.sc (.bool v)]))
  (g3:ar L run 68 [.sc (.string a),.sc (.string d)] (.sc (.string e))) (g4:ar L run 68 [.sc (.string b),.sc (.string c)] (.sc (.string f))) (g5:ar L run 67 [.sc (.string e),.sc (.string f)] (.sc (.string r))) :
  ∃ st,af (CC L) run k (Tryz.f25.body.getD .skip) ⟨entry 30 [.sc (.string s),.sc (.string t)],[],[]⟩=some (.ret,st)∧aV TT st.fr st.hp Tryz.f25.results.toList=some [.sc (.string r)]:=by
 obtain⟨e1,e2,e3⟩:=cn 28 (.sc (.string s)) (.sc (.string t))
 generalize entry 30 [.sc (.string s),.sc (.string t)]=fr0 at *
 unfold ar at *
 simp[Tryz.f25,e1,e2,e3,af,aH,an,ao,aG,ag,ai,aO,aj,ak,aC,az,FP.none,av,aa,ae,ab,g1,g2,g3,g4,g5,aV]
noncomputable def ovF:List PV→Option (List PV):=ctr e2q (fun p=>ok2 p∧p.2≠0) fun p=>[qt (p.1 / p.2)]
theorem Nb.zl {k:Nat}{z:Int}(h:Nb k z)(hk:k≤2000000):(Ab.dN z).blt eL=true:=by
 rw[Nat.blt_eq]
 have:=h.dN
 unfold eL
 omega
theorem XI:Ab.Spec base.P 25 ovF:=Ab.Spec.bN (C:=CC LQ1) (cU Bw) fun args rs h=>by
 obtain⟨⟨x,y⟩,⟨⟨hx,hy⟩,h0⟩,rfl,rfl⟩:=db h
 have gx:=uc (L:=LQ1) rfl (runK (CC LQ1) 1) hx (by omega)
 have gy:=uc (L:=LQ1) rfl (runK (CC LQ1) 1) hy (by omega)
 have m1:=Bx (L:=LQ1) rfl (runK (CC LQ1) 1) x.num y.den (hx.1.zm (by omega)) (hy.2.zm (by omega))
 have m2:=Bx (L:=LQ1) rfl (runK (CC LQ1) 1) x.den y.num (hx.2.zm (by omega)) (hy.1.zm (by omega))
 have b1:=hx.1.mul hy.2
 have b2:=hx.2.mul hy.1
 have hn:(x.den:Int)*y.num≠0:=by
  intro e
  rcases Int.mul_eq_zero.1 e with e | e
  ·exact HG x e
  ·exact h0 (Rat.num_eq_zero.1 e)
 have g:=afU (L:=LQ1) rfl (runK (CC LQ1) 1) (x.num*y.den) (x.den*y.num) (b1.zm (by omega)) (b2.zm (by omega)) hn ⟨b1.zl (by omega),b2.zl (by omega)⟩
 obtain⟨st,x1,x2⟩:=XJ LQ1 (runK (CC LQ1) 1) 1 _ _ _ _ _ _ _ _ _ _ _ gx gy m1 m2 g
 refine⟨2,_,_,_,_,_,aQ ET rfl x1 x2,rfl,?_,trivial⟩
 show Wk (qt (Rat.divInt _ _)) (qt (x / y))
 rw[wV]
 exact Wk.refl rfl
theorem ags {L:Lst}(hL:bu L 25=fun a=>ovF (aJ a))(run:aq){x y:Rat}{j k:Nat}(hx:Rb j x)(hy:Rb k y)(hj:j≤400000)(hk:k≤400000)(h0:y≠0):ar L run 25 [qt x,qt y] (qt (x / y)) :=
 iw K8 hL (fun p q _ _ h=>by rw[Be h]) run (x,y) ⟨⟨hx.mono hj,hy.mono hk⟩,h0⟩ (fun _=>rfl) rfl
noncomputable def pB (p:Prop):Bool:=@decide p (Classical.propDecidable p)
theorem jK {p:Prop}(h:p):pB p=true:=by unfold pB;exact @decide_eq_true _ (Classical.propDecidable p) h
theorem jt {p:Prop}(h : ¬ p):pB p=false:=by unfold pB;exact @decide_eq_false _ (Classical.propDecidable p) h
theorem ab9 {p:Prop} : pB p=true ↔ p:=by
 constructor
 ·intro h
  by_cases hp:p
  ·exact hp
  ·rw[jt hp] at h;cases h
 ·exact jK
theorem agf (L:Lst)(run:aq)(k:Nat)(s a b:ByteArray)(sl:Bool)(g1:ar L run 65 [.sc (.string s)] (.tup [.sc (.string a),.sc (.string b),.sc (.bool sl)]))(g2:ar L run 111 [.sc (.string a)] (.sc (.bool false))) :
  ∃ st,af (CC L) run k (Tryz.f64.body.getD .skip) ⟨entry 34 [.sc (.string s)],[],[]⟩=some (.ret,st)∧aV TT st.fr st.hp Tryz.f64.results.toList=some [.sc (.bool false)]:=by
 obtain⟨e1,e2⟩:=cQ 33 (.sc (.string s))
 generalize entry 34 [.sc (.string s)]=fr0 at *
 unfold ar at *
 simp[Tryz.f64,e1,e2,af,aH,an,ao,aG,ag,ai,aO,aj,ak,aC,az,FP.none,av,unP,aa,ae,ab,g1,g2,aV]
theorem age (L:Lst)(run:aq)(k:Nat)(s a b:ByteArray)(g1:ar L run 65 [.sc (.string s)] (.tup [.sc (.string a),.sc (.string b),.sc (.bool false)]))(g2:ar L run 111 [.sc (.string a)] (.sc (.bool true))) :
  ∃ st,af (CC L) run k (Tryz.f64.body.getD .skip) ⟨entry 34 [.sc (.string s)],[],[]⟩=some (.ret,st)∧aV TT st.fr st.hp Tryz.f64.results.toList=some [.sc (.bool true)]:=by
 obtain⟨e1,e2⟩:=cQ 33 (.sc (.string s))
 generalize entry 34 [.sc (.string s)]=fr0 at *
 unfold ar at *
 simp[Tryz.f64,e1,e2,af,aH,an,ao,aG,ag,ai,aO,aj,ak,aC,az,FP.none,av,unP,aa,ae,ab,g1,g2,aV]
theorem agd (L:Lst)(run:aq)(k:Nat)(s a b:ByteArray)(g1:ar L run 65 [.sc (.string s)] (.tup [.sc (.string a),.sc (.string b),.sc (.bool true)]))(g2:ar L run 111 [.sc (.string a)] (.sc (.bool true)))(g3:ar L run 111 [.sc (.string b)] (.sc (.bool false))) :
  ∃ st,af (CC L) run k (Tryz.f64.body.getD .skip) ⟨entry 34 [.sc (.string s)],[],[]⟩=some (.ret,st)∧aV TT st.fr st.hp Tryz.f64.results.toList=some [.sc (.bool false)]:=by
 obtain⟨e1,e2⟩:=cQ 33 (.sc (.string s))
 generalize entry 34 [.sc (.string s)]=fr0 at *
 unfold ar at *
 simp[Tryz.f64,e1,e2,af,aH,an,ao,aG,ag,ai,aO,aj,ak,aC,az,FP.none,av,unP,aa,ae,ab,g1,g2,g3,undef,aV]
theorem agc (L:Lst)(run:aq)(k:Nat)(s a b g:ByteArray)(c:Int)(w1 w2:Bool)(h1:ef .neq a { data:=#[48] } = some (.bool w1))(h2:ef .eql g { data:=#[49] } = some (.bool w2))(g1:ar L run 65 [.sc (.string s)] (.tup [.sc (.string a),.sc (.string b),.sc (.bool true)]))(g2:ar L run 111 [.sc (.string a)] (.sc (.bool true)))(g3:ar L run 111 [.sc (.string b)] (.sc (.bool true)))
  (g4:ar L run 69 [.sc (.string b),.sc (.string { data:=#[50] })] (Ab.bC c)) (g5:ar L run 112 [.sc (.string a),.sc (.string b)] (.sc (.string g))) :
  ∃ st,af (CC L) run k (Tryz.f64.body.getD .skip) ⟨entry 34 [.sc (.string s)],[],[]⟩=some (.ret,st)∧aV TT st.fr st.hp Tryz.f64.results.toList=some [.sc (.bool (w1 && (decide (0≤c) && w2)))]:=by
 obtain⟨e1,e2⟩:=cQ 33 (.sc (.string s))
 generalize entry 34 [.sc (.string s)]=fr0 at *
 unfold ar at *
 simp only[Ab.bC] at *
 cases w1 with
 | false=>simp[Tryz.f64,e1,e2,af,aH,an,ao,aG,ag,ai,aO,aj,ak,aC,az,FP.none,aY,av,unP,aa,ae,ab,g1,g2,g3,h1,undef,aV]
 | true =>
  by_cases hc:0≤c
  ·have hc2:(c ≥ 0)=True:=by simp[hc]
   simp[Tryz.f64,e1,e2,af,aH,an,ao,aG,ag,ai,aO,aj,ak,aC,az,FP.none,aY,au,bf,av,unP,aa,ae,ab,g1,g2,g3,g4,g5,h1,h2,hc,aV]
  ·have hc2:(c ≥ 0)=False:=by simp only[ge_iff_le,hc]
   simp[Tryz.f64,e1,e2,af,aH,an,ao,aG,ag,ai,aO,aj,ak,aC,az,FP.none,aY,au,bf,av,unP,aa,ae,ab,g1,g2,g3,g4,h1,hc,undef,aV]
theorem Vv {L:Lst}(hL:bu L 65=fun a=>j5 (aJ a))(run:aq)(s:ByteArray)(h9:(bys s).length<20000000):ar L run 65 [.sc (.string s)] (.tup [.sc (.string (tx (spl (bys s)).1)),.sc (.string (tx (spl (bys s)).2.1)),.sc (.bool (spl (bys s)).2.2)]):=fun dr hp =>
 bp jF hL run dr hp _ [.sc (.string (tx (spl (bys s)).1)),.sc (.string (tx (spl (bys s)).2.1)),.sc (.bool (spl (bys s)).2.2)] rfl rfl (by have:=Fo (bys s) (lT s) h9;rwa [ib] at this)
theorem aaQ {L:Lst}(hL:bu L 111=fun a=>QI (aJ a))(run:aq)(l:List Nat)(hl:Bok l)(h9:l.length<20000000):ar L run 111 [.sc (.string (tx l))] (.sc (.bool (kI l))):=fun dr hp =>
 bp FF hL run dr hp _ [.sc (.bool (kI l))] rfl rfl (by
  have:l.length.blt 20000000=true:=by rw[Nat.blt_eq];exact h9
  simp only[QI,jm hl,this,cond_true])
theorem aed {L:Lst}(hL:bu L 112=fun a=>sO (aJ a))(run:aq)(x y:Int)(hx:Zm x)(hy:Zm y):ar L run 112 [zs x,zs y] (zs ((Nat.gcd x.natAbs y.natAbs:Nat):Int)):=fun dr hp =>
 bp Cg hL run dr hp _ [zs ((Nat.gcd x.natAbs y.natAbs:Nat):Int)] rfl rfl (by simp only[sO,cD x hx,cD y hy])
def IsQ (s:ByteArray):Prop:=∃ x:Rat,s=qb x
theorem wH:∀ {l:List Nat} {j:Nat},fI l=some j→l=l.take j++47::l.drop (j+1)
 | a::l,j,h=>by
  simp only[fI] at h
  cases e:a.beq 47 with
  | true =>
   rw[e] at h
   simp at h
   subst h
   rw[adL e];rfl
  | false =>
   rw[e] at h
   simp only[cond_false,Option.map_eq_some_iff] at h
   obtain⟨i,hi,rfl⟩:=h
   have:=wH hi
   rw[List.take_succ_cons,List.drop_succ_cons,List.cons_append,← this]
theorem acO {s:ByteArray}(h:kI (spl (bys s)).1=false) : ¬ IsQ s:=by
 rintro⟨x,rfl⟩
 rw[kl,BS] at h
 cases h
theorem YZ {s:ByteArray}(h0:(spl (bys s)).2.2=true)(h:kI (spl (bys s)).2.1=false) : ¬ IsQ s:=by
 rintro⟨x,rfl⟩
 rw[kl,BS] at h
 cases h
theorem JC {s:ByteArray}{z:Int}(h0:(spl (bys s)).2.2=false)(h:(spl (bys s)).1=ztx z):s=qb (z:Rat):=by
 unfold spl at h h0
 cases e:fI (bys s) with
 | some j=>rw[e] at h0;cases h0
 | none =>
  rw[e] at h
  simp only at h
  rw[← ib s,h,qb,Rat.num_intCast,Rat.den_intCast]
  rfl
theorem DK {s:ByteArray}{n d:Int}(h0:(spl (bys s)).2.2=true)(h1:(spl (bys s)).1=ztx n)(h2:(spl (bys s)).2.1=ztx d)(h3:2≤d)(h4:Nat.gcd n.natAbs d.natAbs=1):∃ x:Rat,s=qb x∧x.num=n∧(x.den:Int)=d:=by
 obtain⟨m,rfl⟩:=Int.eq_ofNat_of_zero_le (show 0≤d by omega)
 refine⟨⟨n,m,by omega,h4⟩,?_,rfl,rfl⟩
 unfold spl at h0 h1 h2
 cases e:fI (bys s) with
 | none=>rw[e] at h0;cases h0
 | some j =>
  rw[e] at h1 h2
  simp only at h1 h2
  rw[← ib s,wH e,h1,h2,qb,qtx,if_neg (show ¬ ((m:Nat):Int)=1 by have:(2:Int)≤(m:Int):=h3;omega)]
theorem DL {s:ByteArray}{n d:Int}(h0:(spl (bys s)).2.2=true)(h1:(spl (bys s)).1=ztx n)(h2:(spl (bys s)).2.1=ztx d)(h:IsQ s):n≠0∧2≤d∧Nat.gcd n.natAbs d.natAbs=1:=by
 obtain⟨x,rfl⟩:=h
 rw[kl] at h0 h1 h2
 simp only[Bool.not_eq_true',decide_eq_false_iff_not] at h0
 have e1:=oZ h1
 have e2:=oZ h2
 have h3:=x.den_pos
 have h4:=x.reduced
 subst e1
 rw[← e2]
 refine⟨fun e => ?_,by omega,by simpa using h4⟩
 rw[e] at h4
 simp at h4
 omega
theorem IB {l:List Nat}{z:Int}(h:l=ztx z)(h9:l.length<2000000):Zm z:=by
 unfold Zm eL
 rw[← h];omega
noncomputable def isF:List PV→Option (List PV):=ctr (fun s:ByteArray=>[.sc (.string s)]) (fun s=>(bys s).length<1000000) fun s=>[.sc (.bool (pB (IsQ s)))]
theorem acv (z:Int):ef .neq (tx (ztx z)) { data:=#[48] } = some (.bool (!decide (z=0))):=by
 have e:({ data:=#[48] } : ByteArray)=tx (ztx 0):=rfl
 rw[e,Yt]
 by_cases h:z=0
 ·subst h;simp
 ·rw[decide_eq_false h,decide_eq_false fun e2=>h (oZ (He (ki z) (ki 0) e2))]
theorem YY:Ab.Spec base.P 64 isF:=Ab.Spec.bN (C:=CC LQ1) (cU Bw) fun args rs h=>by
 obtain⟨s,h9,rfl,rfl⟩:=db h
 have hl:=tH (bys s)
 have hB:=OU (lT s)
 have gs:=Vv (L:=LQ1) rfl (runK (CC LQ1) 1) s (by omega)
 have ga:=aaQ (L:=LQ1) rfl (runK (CC LQ1) 1) (spl (bys s)).1 hB.1 (by omega)
 have gb:=aaQ (L:=LQ1) rfl (runK (CC LQ1) 1) (spl (bys s)).2.1 hB.2 (by omega)
 show ∃ k rs1 hp1 wr rs2 ids,_∧_∧WkL rs2 [.sc (.bool (pB (IsQ s)))]
 cases va:kI (spl (bys s)).1 with
 | false =>
  rw[va] at ga
  rw[jt (acO va)]
  obtain⟨st,x1,x2⟩:=agf LQ1 (runK (CC LQ1) 1) 1 _ _ _ _ gs ga
  exact⟨2,_,_,_,_,_,aQ nY rfl x1 x2,rfl,Wk.refl rfl,trivial⟩
 | true =>
  rw[va] at ga
  obtain⟨n,hn⟩:=yc va
  cases hs:(spl (bys s)).2.2 with
  | false =>
   rw[hs] at gs
   rw[jK ⟨_,JC hs hn⟩]
   obtain⟨st,x1,x2⟩:=age LQ1 (runK (CC LQ1) 1) 1 _ _ _ gs ga
   exact⟨2,_,_,_,_,_,aQ nY rfl x1 x2,rfl,Wk.refl rfl,trivial⟩
  | true =>
   rw[hs] at gs
   cases vb:kI (spl (bys s)).2.1 with
   | false =>
    rw[vb] at gb
    rw[jt (YZ hs vb)]
    obtain⟨st,x1,x2⟩:=agd LQ1 (runK (CC LQ1) 1) 1 _ _ _ gs ga gb
    exact⟨2,_,_,_,_,_,aQ nY rfl x1 x2,rfl,Wk.refl rfl,trivial⟩
   | true =>
    rw[vb] at gb
    obtain⟨d,hd⟩:=yc vb
    have zn:=IB hn (by omega)
    have zd:=IB hd (by omega)
    have gc:=Bz (L:=LQ1) rfl (runK (CC LQ1) 1) d 2 zd (by unfold Zm;decide)
    have gg:=aed (L:=LQ1) rfl (runK (CC LQ1) 1) n d zn zd
    rw[hn] at gs ga
    rw[hd] at gs gb
    obtain⟨st,x1,x2⟩:=agc LQ1 (runK (CC LQ1) 1) 1 _ _ _ _ _ _ _ (acv n) (iO _) gs ga gb gc gg
    refine⟨2,_,_,_,_,_,aQ nY rfl x1 x2,rfl,?_,trivial⟩
    have e:pB (IsQ s)=(!decide (n=0) && (decide (0≤fD d 2) && decide (((Nat.gcd n.natAbs d.natAbs:Nat):Int)=1))):=by
     have hc:0≤fD d 2 ↔ 2≤d:=by
      unfold fD
      by_cases h1:d<2
      ·rw[if_pos h1];omega
      ·rw[if_neg h1];split <;> omega
     by_cases hq:IsQ s
     ·obtain⟨q1,q2,q3⟩:=DL hs hn hd hq
      rw[jK hq,decide_eq_false q1,decide_eq_true (hc.2 q2),q3];rfl
     ·rw[jt hq]
      by_cases q2:2≤d
      ·by_cases q3:Nat.gcd n.natAbs d.natAbs=1
       ·obtain⟨x,hx,-⟩:=DK hs hn hd q2 q3
        exact absurd ⟨x,hx⟩ hq
       ·have : ¬ (((Nat.gcd n.natAbs d.natAbs:Nat):Int)=1):=by omega
        rw[decide_eq_false this];simp
      ·rw[decide_eq_false fun e=>q2 (hc.1 e)];simp
    rw[e]
    exact Wk.refl rfl
end Go.Proofs.YtjdmodeenbdfpaaGreat
