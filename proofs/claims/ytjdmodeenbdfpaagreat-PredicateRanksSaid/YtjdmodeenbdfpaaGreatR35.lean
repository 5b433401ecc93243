/- Contracts of fractions, clouds and predicates, part 35 of the proof; each lemma states its own conditions. -/
import Derived.Test.YtjdmodeenbdfpaaGreatR34
set_option linter.unusedSimpArgs false
set_option linter.unusedVariables false
namespace Go.Proofs.YtjdmodeenbdfpaaGreat
open Go Go.Ab
theorem adO {a b:Nat}(h:a.beq b=true):a=b:=Nat.eq_of_beq_eq_true h
theorem o9 {a b:Nat}(h:a≠b):a.beq b=false:=by
 cases e:a.beq b with
 | false=>rfl
 | true=>exact absurd (adO e) h
theorem Bc (z:Int):kP (ztx z)=true:=by
 have h3:ztx z=(bif bx z then [45] else [])++dtx z.natAbs:=ub z
 rw[h3]
 have hd:=qi z.natAbs
 cases e:dtx z.natAbs with
 | nil=>exact absurd e (Tt _)
 | cons a r =>
  rw[e] at hd
  have ha:=dH.1 (fJ hd List.mem_cons_self)
  have hh:vHd (a::r)=false:=by
   cases r with
   | nil=>rfl
   | cons b r=>exact o9 (qe e)
  cases hn:bx z with
  | false =>
   simp only[cond_false,List.nil_append,kP,ku,o9 (show a≠45 by omega),hh,hd]
   rfl
  | true =>
   have h48:a≠48:=by
    cases r with
    | nil =>
     intro ea
     rw[ea] at e
     exact IP hn e
    | cons b r=>exact qe e
   have h45:(45:Nat).beq 45=true:=rfl
   simp only[cond_true,List.cons_append,List.nil_append,kP,ku,o9 h48,cond_false,hh,hd,h45]
   rfl
theorem xJ {l:List Nat}(h:kP l=true):∃ z,l=ztx z:=by
 have key:∀ (m:Bool) (ds:List Nat),vHd ds=false→eH ds=true→(m=true→ds≠[48])→∃ z,(bif m then [45] else [])++ds=ztx z:=by
  intro m ds h1 h2 h3
  refine⟨_,Jm h2 (by intro e;subst e;simp[vHd] at h1) h3 ?_⟩
  intro a b l e ea
  subst e;subst ea
  simp[vHd] at h1
 unfold kP at h
 cases l with
 | nil=>simp[ku,vHd] at h
 | cons a l =>
  by_cases ha:a=45
  ·subst ha
   cases l with
   | nil=>simp[ku,vHd] at h
   | cons b l =>
    by_cases hb:b=48
    ·subst hb;simp[ku] at h
    ·have h45:(45:Nat).beq 45=true:=rfl
     simp only[ku,o9 hb,cond_true,cond_false,h45,Bool.and_eq_true,Bool.not_eq_true'] at h
     obtain⟨z,hz⟩:=key true (b::l) h.1 h.2 (fun _ e=>hb (List.cons.inj e).1)
     exact⟨z,hz⟩
  ·simp only[ku,o9 ha,cond_false,Bool.and_eq_true,Bool.not_eq_true'] at h
   obtain⟨z,hz⟩:=key false (a::l) h.1 h.2 nofun
   exact⟨z,hz⟩
def tA (n:Bool):List Nat→Bool
 | []=>true
 | [a]=>a.beq 48 && n
 | a::_=>a.beq 48
theorem Z5 (n:Bool)(s:ByteArray):oG n (bK s)=tA n (bys s):=by
 unfold bys
 cases bK s with
 | nil=>rfl
 | cons a l=>cases l <;> rfl
def isM:List Nat→Bool
 | []=>false
 | a::_=>a.beq 45
theorem TW (s:ByteArray):wM s=isM (bys s):=by
 unfold wM bys iJ
 cases bK s with
 | nil=>rfl
 | cons a l =>
  show (Nat.ble 1 (l.length+1) && eqL [a] [45])=a.toNat.beq 45
  have:Nat.ble 1 (l.length+1)=true:=by rw[Nat.ble_eq];omega
  rw[this,Bool.true_and]
  simp only[eqL,Bool.and_true]
  by_cases h:a.toNat=45
  ·rw[h];rfl
  ·rw[o9 h,beq_eq_false_iff_ne];exact h
theorem adD (s:ByteArray):bys (oX s)=bif isM (bys s) then (bys s).drop 1 else bys s:=by
 have:=TW s
 unfold wM at this
 unfold oX
 rw[this]
 cases isM (bys s) with
 | false=>rfl
 | true =>
  simp only[cond_true]
  unfold bys
  rw[ff,List.map_drop]
theorem BZ (s:ByteArray):gH s=bif tA (isM (bys s)) (bif isM (bys s) then (bys s).drop 1 else bys s) then none else bif eH (bif isM (bys s) then (bys s).drop 1 else bys s) then some (sgn (isM (bys s)) (dec 0 (bif isM (bys s) then (bys s).drop 1 else bys s))) else none:=by
 unfold gH
 rw[Z5,adD,TW]
theorem OT (m:Bool)(n:Nat):sgn m n=gG m n:=rfl
theorem Fk {s:ByteArray}{z:Int}(h:bys s=ztx z):gH s=some z:=by
 rw[BZ,h]
 have h3:ztx z=(bif bx z then [45] else [])++dtx z.natAbs:=ub z
 have hz:=ia z
 rw[h3]
 have hd:=qi z.natAbs
 have hv:=oe z.natAbs
 cases e:dtx z.natAbs with
 | nil=>exact absurd e (Tt _)
 | cons a r =>
  rw[e] at hd hv
  have ha:=dH.1 (fJ hd List.mem_cons_self)
  cases hn:bx z with
  | false =>
   have hb:tA false (a::r)=false:=by
    cases r with
    | nil=>simp[tA]
    | cons b r=>exact o9 (qe e)
   simp only[cond_false,List.nil_append,isM,o9 (show a≠45 by omega),hb,hd,cond_true,OT]
   rw[hv,← hn,hz]
  | true =>
   have hb:tA true (a::r)=false:=by
    cases r with
    | nil =>
     have:a≠48:=by
      intro ea
      rw[ea] at e
      exact IP hn e
     simp[tA,o9 this]
    | cons b r=>exact o9 (qe e)
   have h45:(45:Nat).beq 45=true:=rfl
   simp only[cond_true,List.cons_append,List.nil_append,isM,h45,List.drop_succ_cons,List.drop_zero,hb,cond_false,hd,OT]
   rw[hv,← hn,hz]
theorem ss {s:ByteArray}{z:Int}(h:gH s=some z):bys s=ztx z:=by
 rw[BZ] at h
 have key:∀ (m:Bool) (ds:List Nat),tA m ds=false→eH ds=true→some (sgn m (dec 0 ds))=some z→(bif m then [45] else [])++ds=ztx z:=by
  intro m ds h1 h2 h3
  simp only[Option.some.injEq] at h3
  rw[← h3,OT]
  refine Jm h2 (by intro e;subst e;simp[tA] at h1) ?_ ?_
  ·rintro rfl rfl
   simp[tA] at h1
  ·intro a b l e ea
   subst e;subst ea
   simp[tA] at h1
 cases hm:isM (bys s) with
 | true =>
  rw[hm] at h
  simp only[cond_true] at h
  cases hb:tA true ((bys s).drop 1) with
  | true=>rw[hb] at h;cases h
  | false =>
   rw[hb] at h
   simp only[cond_false] at h
   cases hd:eH ((bys s).drop 1) with
   | false=>rw[hd] at h;cases h
   | true =>
    rw[hd] at h
    simp only[cond_true] at h
    rw[← key true _ hb hd h]
    cases e:bys s with
    | nil=>rw[e] at hm;cases hm
    | cons a l =>
     rw[e] at hm
     rw[adO hm];rfl
 | false =>
  rw[hm] at h
  simp only[cond_false] at h
  cases hb:tA false (bys s) with
  | true=>rw[hb] at h;cases h
  | false =>
   rw[hb] at h
   simp only[cond_false] at h
   cases hd:eH (bys s) with
   | false=>rw[hd] at h;cases h
   | true =>
    rw[hd] at h
    simp only[cond_true] at h
    exact key false _ hb hd h
theorem SR:∀ l:List UInt8,Lib.indexByte l 47=match fC (l.map UInt8.toNat) with
  | some j=>(j:Int)
  | none => -1
 | []=>rfl
 | a::l=>by
  have ih:=SR l
  simp only[Lib.indexByte,List.map_cons,fC]
  by_cases h:a.toNat=47
  ·have:(a == 47)=true:=by rw[beq_iff_eq,← UInt8.toNat_inj];exact h
   rw[this,if_pos rfl,h]
   rfl
  ·have:(a == 47)=false:=by rw[beq_eq_false_iff_ne,ne_eq,← UInt8.toNat_inj];exact h
   rw[this,if_neg (by simp),o9 h,cond_false,ih]
   cases fC (l.map UInt8.toNat) with
   | none=>rfl
   | some j =>
    simp only[Option.map_some]
    have h1 : ¬ ((((j:Nat):Int) == -1)=true):=by
     rw[beq_iff_eq];omega
    rw[if_neg h1]
    rfl
theorem Y7 (s:ByteArray):idx s=match fC (bys s) with
  | some j=>(j:Int)
  | none => -1:=by
 unfold idx
 cases h:eqL [47] (bK s) with
 | false=>exact SR (bK s)
 | true =>
  have h2:[47]=bK s:=by
   have h3:=Ab.oT [47] (bK s)
   rw[h] at h3
   exact eq_of_beq h3.symm
  unfold bys
  rw[← h2]
  rfl
theorem Dg:∀ {l:List Nat} {j:Nat},fC l=some j→j<l.length
 | a::l,j,h=>by
  simp only[fC] at h
  cases e:a.beq 47 with
  | true=>rw[e] at h;simp at h;subst h;simp
  | false =>
   rw[e] at h
   simp only[cond_false,Option.map_eq_some_iff] at h
   obtain⟨i,hi,rfl⟩:=h
   have:=Dg hi
   simpa using this
theorem ZO (s:ByteArray)(h9:(bys s).length≤1000000000):lr s=true∧bys (jn s)=(spl (bys s)).1∧tw s=(spl (bys s)).2.2∧(tw s=true→bys (jm s)=(spl (bys s)).2.1):=by
 unfold lr jn jm tw spl
 rw[Y7]
 cases h:fC (bys s) with
 | none=>refine⟨?_,?_,?_,?_⟩ <;> first | rfl | trivial | nofun
 | some j =>
  have:=Dg h
  simp only
  rw[jz] at this h9
  refine⟨?_,?_,by trivial,fun _ => ?_⟩
  ·show ((j+1).ble (bK s).length && (bK s).length.ble 1000000000)=true
   simp only[Bool.and_eq_true,Nat.ble_eq];omega
  ·show bys (mkStr ((bK s).take j))=_
   unfold bys;rw[ff,List.map_take]
  ·show bys (mkStr ((bK s).drop (j+1)))=_
   unfold bys;rw[ff,List.map_drop]
def qb (x:Rat):ByteArray:=tx (qtx x.num x.den)
def qt (x:Rat):PV:=.sc (.string (qb x))
theorem Uz (x:Rat):bys (qb x)=qtx x.num x.den:=jX (QL _ _)
theorem ky (x:Rat):spl (bys (qb x))=(ztx x.num,ztx x.den, !decide ((x.den:Int)=1)):=by rw[Uz,Ic]
theorem vy {x y:Rat}(h:qb x=qb y):x=y:=by
 have h1:=ky x
 rw[h,ky] at h1
 simp only[Prod.mk.injEq] at h1
 exact Rat.ext (pe h1.1).symm (by have:=pe h1.2.1;omega)
theorem Zz (s t:ByteArray):fl .eql s t=some (.bool (decide (s=t))):=by
 have h:eqL (bK s) (bK t)=decide (s=t):=by
  rw[Ab.oT]
  by_cases h:s=t
  ·subst h;simp
  ·have:bK s≠bK t:=fun e=>h (by rw[← fx s,e,fx])
   simp[h,this]
 simp only[fl,h]
theorem YA (s t:ByteArray):fl .neq s t=some (.bool (!decide (s=t))):=by
 have h:=Zz s t
 simp only[fl,Option.some.injEq,Value.bool.injEq] at h
 simp only[fl,h]
theorem Rb.zm {k:Nat}{x:Rat}(h:Rb k x)(hk:k≤2000000):Zm x.num∧Zm (x.den:Int):=⟨h.1.zm hk,h.2.zm hk⟩
theorem aaf {L:Lst}(hL:bw L 69=fun a=>lT (aK a))(run:ar)(x y:Int)(hx:Zm x)(hy:Zm y):aA L run 69 [zs x,zs y] (Ab.bJ (fF x y)):=fun dr hp =>
 bu BC hL run dr hp _ [Ab.bJ (fF x y)] rfl rfl (by simp only[lT,cT x hx,cT y hy])
theorem jZ {L:Lst}{g:Nat}{α:Type}{e:α→List PV}{ok:α→Prop}{f:α→List PV}(hs:base.shared g=false)(hL:bw L g=fun a=>ctr e ok f (aK a))(inj:∀ x y,ok x→ok y→e x=e y→f x=f y)(run:ar)(x:α)(hx:ok x)
  (hsn:∀ hp,bt (snap hp bp) (e x)=some (e x,[])) (hc:aK (e x)=e x):aA L run g (e x) (iO (f x)):=fun dr hp =>
 bu hs hL run dr hp _ (f x) (hsn hp) hc (rN inj hx)
noncomputable def LQ1:Lst:=[(65,kW),(68,yk),(69,lT),(67,yg),(122,Ac),(24,PD),(111,PI),(112,sP),(48,nY)]
theorem ad6:dL base.P LQ1:=⟨nX,yj,oN,ye,uY,K9,PE,yt,sx,trivial⟩
noncomputable def pB (p:Prop):Bool:=@decide p (Classical.propDecidable p)
theorem j0 {p:Prop}(h:p):pB p=true:=by unfold pB;exact @decide_eq_true _ (Classical.propDecidable p) h
theorem jw {p:Prop}(h : ¬ p):pB p=false:=by unfold pB;exact @decide_eq_false _ (Classical.propDecidable p) h
theorem abF {p:Prop} : pB p=true ↔ p:=by
 constructor
 ·intro h
  by_cases hp:p
  ·exact hp
  ·rw[jw hp] at h;cases h
 ·exact j0
theorem afX (L:Lst)(run:ar)(k:Nat)(s a b:ByteArray)(sl:Bool)(g1:aA L run 65 [.sc (.string s)] (.tup [.sc (.string a),.sc (.string b),.sc (.bool sl)]))(g2:aA L run 111 [.sc (.string a)] (.sc (.bool false))) :
  ∃ st,af (CC L) run k (Tryz.f64.body.getD .skip) ⟨entry 34 [.sc (.string s)],[],[]⟩=some (.ret,st)∧aZ TT st.fr st.hp Tryz.f64.results.toList=some [.sc (.bool false)]:=by
 obtain⟨e1,e2⟩:=cW 33 (.sc (.string s))
 generalize entry 34 [.sc (.string s)]=fr0 at *
 unfold aA at *
 simp[Tryz.f64,e1,e2,af,aJ,ao,aq,aH,ag,ai,aQ,aj,an,aF,aC,FP.none,aw,unP,aa,ae,ab,g1,g2,aZ]
theorem afW (L:Lst)(run:ar)(k:Nat)(s a b:ByteArray)(g1:aA L run 65 [.sc (.string s)] (.tup [.sc (.string a),.sc (.string b),.sc (.bool false)]))(g2:aA L run 111 [.sc (.string a)] (.sc (.bool true))) :
  ∃ st,af (CC L) run k (Tryz.f64.body.getD .skip) ⟨entry 34 [.sc (.string s)],[],[]⟩=some (.ret,st)∧aZ TT st.fr st.hp Tryz.f64.results.toList=some [.sc (.bool true)]:=by
 obtain⟨e1,e2⟩:=cW 33 (.sc (.string s))
 generalize entry 34 [.sc (.string s)]=fr0 at *
 unfold aA at *
 simp[Tryz.f64,e1,e2,af,aJ,ao,aq,aH,ag,ai,aQ,aj,an,aF,aC,FP.none,aw,unP,aa,ae,ab,g1,g2,aZ]
theorem afV (L:Lst)(run:ar)(k:Nat)(s a b:ByteArray)(g1:aA L run 65 [.sc (.string s)] (.tup [.sc (.string a),.sc (.string b),.sc (.bool true)]))(g2:aA L run 111 [.sc (.string a)] (.sc (.bool true)))(g3:aA L run 111 [.sc (.string b)] (.sc (.bool false))) :
  ∃ st,af (CC L) run k (Tryz.f64.body.getD .skip) ⟨entry 34 [.sc (.string s)],[],[]⟩=some (.ret,st)∧aZ TT st.fr st.hp Tryz.f64.results.toList=some [.sc (.bool false)]:=by
 obtain⟨e1,e2⟩:=cW 33 (.sc (.string s))
 generalize entry 34 [.sc (.string s)]=fr0 at *
 unfold aA at *
 simp[Tryz.f64,e1,e2,af,aJ,ao,aq,aH,ag,ai,aQ,aj,an,aF,aC,FP.none,aw,unP,aa,ae,ab,g1,g2,g3,undef,aZ]
theorem afU (L:Lst)(run:ar)(k:Nat)(s a b g:ByteArray)(c:Int)(w1 w2:Bool)(h1:fl .neq a { data:=#[48] } = some (.bool w1))(h2:fl .eql g { data:=#[49] } = some (.bool w2))(g1:aA L run 65 [.sc (.string s)] (.tup [.sc (.string a),.sc (.string b),.sc (.bool true)]))(g2:aA L run 111 [.sc (.string a)] (.sc (.bool true)))(g3:aA L run 111 [.sc (.string b)] (.sc (.bool true)))
  (g4:aA L run 69 [.sc (.string b),.sc (.string { data:=#[50] })] (Ab.bJ c)) (g5:aA L run 112 [.sc (.string a),.sc (.string b)] (.sc (.string g))) :
  ∃ st,af (CC L) run k (Tryz.f64.body.getD .skip) ⟨entry 34 [.sc (.string s)],[],[]⟩=some (.ret,st)∧aZ TT st.fr st.hp Tryz.f64.results.toList=some [.sc (.bool (w1 && (decide (0≤c) && w2)))]:=by
 obtain⟨e1,e2⟩:=cW 33 (.sc (.string s))
 generalize entry 34 [.sc (.string s)]=fr0 at *
 unfold aA at *
 simp only[Ab.bJ] at *
 cases w1 with
 | false=>simp[Tryz.f64,e1,e2,af,aJ,ao,aq,aH,ag,ai,aQ,aj,an,aF,aC,FP.none,bd,aw,unP,aa,ae,ab,g1,g2,g3,h1,undef,aZ]
 | true =>
  by_cases hc:0≤c
  ·have hc2:(c ≥ 0)=True:=by simp[hc]
   simp[Tryz.f64,e1,e2,af,aJ,ao,aq,aH,ag,ai,aQ,aj,an,aF,aC,FP.none,bd,au,bj,aw,unP,aa,ae,ab,g1,g2,g3,g4,g5,h1,h2,hc,aZ]
  ·have hc2:(c ≥ 0)=False:=by simp only[ge_iff_le,hc]
   simp[Tryz.f64,e1,e2,af,aJ,ao,aq,aH,ag,ai,aQ,aj,an,aF,aC,FP.none,bd,au,bj,aw,unP,aa,ae,ab,g1,g2,g3,g4,h1,hc,undef,aZ]
theorem UW {L:Lst}(hL:bw L 65=fun a=>kW (aK a))(run:ar)(s:ByteArray)(h9:(bys s).length<20000000):aA L run 65 [.sc (.string s)] (.tup [.sc (.string (tx (spl (bys s)).1)),.sc (.string (tx (spl (bys s)).2.1)),.sc (.bool (spl (bys s)).2.2)]):=fun dr hp =>
 bu lG hL run dr hp _ [.sc (.string (tx (spl (bys s)).1)),.sc (.string (tx (spl (bys s)).2.1)),.sc (.bool (spl (bys s)).2.2)] rfl rfl (by have:=EC (bys s) (mh s) h9;rwa [il] at this)
theorem aaH {L:Lst}(hL:bw L 111=fun a=>PI (aK a))(run:ar)(l:List Nat)(hl:Bok l)(h9:l.length<20000000):aA L run 111 [.sc (.string (tx l))] (.sc (.bool (kP l))):=fun dr hp =>
 bu EP hL run dr hp _ [.sc (.bool (kP l))] rfl rfl (by
  have:l.length.blt 20000000=true:=by rw[Nat.blt_eq];exact h9
  simp only[PI,jX hl,this,cond_true])
theorem aeh {L:Lst}(hL:bw L 112=fun a=>sP (aK a))(run:ar)(x y:Int)(hx:Zm x)(hy:Zm y):aA L run 112 [zs x,zs y] (zs ((Nat.gcd x.natAbs y.natAbs:Nat):Int)):=fun dr hp =>
 bu BA hL run dr hp _ [zs ((Nat.gcd x.natAbs y.natAbs:Nat):Int)] rfl rfl (by simp only[sP,cT x hx,cT y hy])
def IsQ (s:ByteArray):Prop:=∃ x:Rat,s=qb x
theorem wv:∀ {l:List Nat} {j:Nat},fC l=some j→l=l.take j++47::l.drop (j+1)
 | a::l,j,h=>by
  simp only[fC] at h
  cases e:a.beq 47 with
  | true =>
   rw[e] at h
   simp at h
   subst h
   rw[adO e];rfl
  | false =>
   rw[e] at h
   simp only[cond_false,Option.map_eq_some_iff] at h
   obtain⟨i,hi,rfl⟩:=h
   have:=wv hi
   rw[List.take_succ_cons,List.drop_succ_cons,List.cons_append,← this]
theorem ac1 {s:ByteArray}(h:kP (spl (bys s)).1=false) : ¬ IsQ s:=by
 rintro⟨x,rfl⟩
 rw[ky,Bc] at h
 cases h
theorem Y4 {s:ByteArray}(h0:(spl (bys s)).2.2=true)(h:kP (spl (bys s)).2.1=false) : ¬ IsQ s:=by
 rintro⟨x,rfl⟩
 rw[ky,Bc] at h
 cases h
theorem IZ {s:ByteArray}{z:Int}(h0:(spl (bys s)).2.2=false)(h:(spl (bys s)).1=ztx z):s=qb (z:Rat):=by
 unfold spl at h h0
 cases e:fC (bys s) with
 | some j=>rw[e] at h0;cases h0
 | none =>
  rw[e] at h
  simp only at h
  rw[← il s,h,qb,Rat.num_intCast,Rat.den_intCast]
  rfl
theorem C4 {s:ByteArray}{n d:Int}(h0:(spl (bys s)).2.2=true)(h1:(spl (bys s)).1=ztx n)(h2:(spl (bys s)).2.1=ztx d)(h3:2≤d)(h4:Nat.gcd n.natAbs d.natAbs=1):∃ x:Rat,s=qb x∧x.num=n∧(x.den:Int)=d:=by
 obtain⟨m,rfl⟩:=Int.eq_ofNat_of_zero_le (show 0≤d by omega)
 refine⟨⟨n,m,by omega,h4⟩,?_,rfl,rfl⟩
 unfold spl at h0 h1 h2
 cases e:fC (bys s) with
 | none=>rw[e] at h0;cases h0
 | some j =>
  rw[e] at h1 h2
  simp only at h1 h2
  rw[← il s,wv e,h1,h2,qb,qtx,if_neg (show ¬ ((m:Nat):Int)=1 by have:(2:Int)≤(m:Int):=h3;omega)]
theorem C5 {s:ByteArray}{n d:Int}(h0:(spl (bys s)).2.2=true)(h1:(spl (bys s)).1=ztx n)(h2:(spl (bys s)).2.1=ztx d)(h:IsQ s):n≠0∧2≤d∧Nat.gcd n.natAbs d.natAbs=1:=by
 obtain⟨x,rfl⟩:=h
 rw[ky] at h0 h1 h2
 simp only[Bool.not_eq_true',decide_eq_false_iff_not] at h0
 have e1:=pe h1
 have e2:=pe h2
 have h3:=x.den_pos
 have h4:=x.reduced
 subst e1
 rw[← e2]
 refine⟨fun e => ?_,by omega,by simpa using h4⟩
 rw[e] at h4
 simp at h4
 omega
theorem HW {l:List Nat}{z:Int}(h:l=ztx z)(h9:l.length<2000000):Zm z:=by
 unfold Zm fE
 rw[← h];omega
noncomputable def isF:List PV→Option (List PV):=ctr (fun s:ByteArray=>[.sc (.string s)]) (fun s=>(bys s).length<1000000) fun s=>[.sc (.bool (pB (IsQ s)))]
theorem acq (z:Int):fl .neq (tx (ztx z)) { data:=#[48] } = some (.bool (!decide (z=0))):=by
 have e:({ data:=#[48] } : ByteArray)=tx (ztx 0):=rfl
 rw[e,YA]
 by_cases h:z=0
 ·subst h;simp
 ·rw[decide_eq_false h,decide_eq_false fun e2=>h (pe (Gx (kr z) (kr 0) e2))]
theorem Y3:Ab.Spec base.P 64 isF:=Ab.Spec.bQ (C:=CC LQ1) (cV ad6) fun args rs h=>by
 obtain⟨s,h9,rfl,rfl⟩:=dz h
 have hl:=tE (bys s)
 have hB:=Ol (mh s)
 have gs:=UW (L:=LQ1) rfl (runK (CC LQ1) 1) s (by omega)
 have ga:=aaH (L:=LQ1) rfl (runK (CC LQ1) 1) (spl (bys s)).1 hB.1 (by omega)
 have gb:=aaH (L:=LQ1) rfl (runK (CC LQ1) 1) (spl (bys s)).2.1 hB.2 (by omega)
 show ∃ k rs1 hp1 wr rs2 ids,_∧_∧WkL rs2 [.sc (.bool (pB (IsQ s)))]
 cases va:kP (spl (bys s)).1 with
 | false =>
  rw[va] at ga
  rw[jw (ac1 va)]
  obtain⟨st,x1,x2⟩:=afX LQ1 (runK (CC LQ1) 1) 1 _ _ _ _ gs ga
  exact⟨2,_,_,_,_,_,aX ot rfl x1 x2,rfl,Wk.refl rfl,trivial⟩
 | true =>
  rw[va] at ga
  obtain⟨n,hn⟩:=xJ va
  cases hs:(spl (bys s)).2.2 with
  | false =>
   rw[hs] at gs
   rw[j0 ⟨_,IZ hs hn⟩]
   obtain⟨st,x1,x2⟩:=afW LQ1 (runK (CC LQ1) 1) 1 _ _ _ gs ga
   exact⟨2,_,_,_,_,_,aX ot rfl x1 x2,rfl,Wk.refl rfl,trivial⟩
  | true =>
   rw[hs] at gs
   cases vb:kP (spl (bys s)).2.1 with
   | false =>
    rw[vb] at gb
    rw[jw (Y4 hs vb)]
    obtain⟨st,x1,x2⟩:=afV LQ1 (runK (CC LQ1) 1) 1 _ _ _ gs ga gb
    exact⟨2,_,_,_,_,_,aX ot rfl x1 x2,rfl,Wk.refl rfl,trivial⟩
   | true =>
    rw[vb] at gb
    obtain⟨d,hd⟩:=xJ vb
    have zn:=HW hn (by omega)
    have zd:=HW hd (by omega)
    have gc:=aaf (L:=LQ1) rfl (runK (CC LQ1) 1) d 2 zd (by unfold Zm;decide)
    have gg:=aeh (L:=LQ1) rfl (runK (CC LQ1) 1) n d zn zd
    rw[hn] at gs ga
    rw[hd] at gs gb
    obtain⟨st,x1,x2⟩:=afU LQ1 (runK (CC LQ1) 1) 1 _ _ _ _ _ _ _ (acq n) (ob _) gs ga gb gc gg
    refine⟨2,_,_,_,_,_,aX ot rfl x1 x2,rfl,?_,trivial⟩
    have e:pB (IsQ s)=(!decide (n=0) && (decide (0≤fF d 2) && decide (((Nat.gcd n.natAbs d.natAbs:Nat):Int)=1))):=by
     have hc:0≤fF d 2 ↔ 2≤d:=by
      unfold fF
      by_cases h1:d<2
      ·rw[if_pos h1];omega
      ·rw[if_neg h1];split <;> omega
     by_cases hq:IsQ s
     ·obtain⟨q1,q2,q3⟩:=C5 hs hn hd hq
      rw[j0 hq,decide_eq_false q1,decide_eq_true (hc.2 q2),q3];rfl
     ·rw[jw hq]
      by_cases q2:2≤d
      ·by_cases q3:Nat.gcd n.natAbs d.natAbs=1
       ·obtain⟨x,hx,-⟩:=C4 hs hn hd q2 q3
        exact absurd ⟨x,hx⟩ hq
       ·have : ¬ (((Nat.gcd n.natAbs d.natAbs:Nat):Int)=1):=by omega
        rw[decide_eq_false this];simp
      ·rw[decide_eq_false fun e=>q2 (hc.1 e)];simp
    rw[e]
    exact Wk.refl rfl
theorem zz:base.F.get 98=some Tryz.f98:=by kernel_rfl
theorem VT:base.shared 98=false:=by kernel_rfl
noncomputable def wxC:Code:=Tryz.f98.body.getD .skip
noncomputable def wxO:Code:=(az (seq1 (ah 3 wxC))).getD .skip
noncomputable def wxI:Code:=(az wxO).getD .skip
def blk:Code→Code
 | .block _ c=>c
 | c=>c
noncomputable def aaV:Code:=seq1 wxO
noncomputable def aaU:Code:=seq1 (cA wxO)
noncomputable def Vx:Code:=seq1 (blk (seq1 (cA (cA wxO))))
noncomputable def Vw:Code:=seq1 (cA (blk (seq1 (cA (cA wxO)))))
noncomputable def NS:Code:=cA (cA (cA wxO))
theorem aaT:wxO = .seq aaV (.seq aaU (.seq (.block 1 (.seq Vx (.seq Vw (.block 2 (.loop wxI))))) NS)):=rfl
def WF (fr:List PV)(l:List Nat)(i:Nat):Prop:=fr.length=81∧nth fr 1 = .ptr 0 0∧nth fr 19=aM l∧nth fr 20=iv l.length∧nth fr 21=iv i
theorem Vy (L:Lst)(run:ar)(k:Nat)(fr:List PV)(hp:List Blk)(wr:List Nat)(l:List Nat)(i:Nat)(h:WF fr l i)(h25:nth fr 25=iv 9) :
  ∃ fr',af (CC L) run k wxI ⟨fr,hp,wr⟩=some (.exit 2,⟨fr',hp,wr⟩)∧WF fr' l i∧nth fr' 3=nth fr 3:=by
 obtain⟨h0,h1,h19,h20,h21⟩:=h
 simp only[iv] at h25
 simp[WF,wxI,wxO,wxC,Tryz.f98,ah,seq1,az,af,aJ,ao,aq,aH,ag,ai,aj,an,aF,aC,FP.none,bd,au,bj,aw,aa,ae,ab,and_assoc,h0,h1,h19,h20,h21,h25]
set_option maxHeartbeats 1000000 in
theorem Jz (L:Lst)(run:ar)(k:Nat)(fr:List PV)(hp:List Blk)(wr:List Nat)(l out:List Nat)(i c x:Nat)(hx:x≤4294967295)(hc:c<9)(h9:out.length<90000000)(h:WF fr l i)(h25:nth fr 25=iv c)(h5:nth fr 5 = .sc (.int .u32 (x:Int)))(hO:dx u8v 1 hp out (nth fr 3)) :
  ∃ fr' hp' wr',af (CC L) run k wxI ⟨fr,hp,wr⟩=some (.normal,⟨fr',hp',wr'⟩)∧WF fr' l i∧nth fr' 25=iv (c+1)∧nth fr' 5 = .sc (.int .u32 ((x / 10:Nat):Int))∧dx u8v 1 hp' (out++[x % 10+48]) (nth fr' 3)∧aV hp' 0=aV hp 0:=by
 obtain⟨h0,h1,h19,h20,h21⟩:=h
 obtain⟨d,hd⟩:∃ d,d=x % 10:=⟨_,rfl⟩
 obtain⟨q,hq⟩:∃ q,q=x / 10:=⟨_,rfl⟩
 rw[← hd,← hq]
 have hd9:d<10:=by rw[hd];exact Nat.mod_lt _ (by decide)
 have hq9:q≤4294967295:=by rw[hq];exact Nat.le_trans (Nat.div_le_self _ _) hx
 have hw3:bA .u32 (q:Int)=(q:Int):=cu .u32 q (iB hq9)
 clear hx hq9
 obtain⟨b,hb⟩:∃ b,b=d+48:=⟨_,rfl⟩
 have hb9:b≤255:=by clear hd hq;omega
 rw[← hb]
 obtain⟨p',hp',fp,g1,g2,g3⟩:=hO.app b (by clear hd hq;omega)
 have g4:=g3 0 (by decide)
 have hw1:bA .u32 (48+(d:Int))=(b:Int):=by rw[show (48+(d:Int))=(b:Int) by clear hd hq;omega];exact cu .u32 b (iB (Nat.le_trans hb9 (by decide)))
 have hw2:bA .u8 (b:Int)=(b:Int):=cu .u8 b hb9
 have hw4:=bE c (Nat.lt_trans hc (by decide))
 have hc2:(c:Int)<9:=by clear hd hq;omega
 have htm:(x:Int).tmod 10=(d:Int):=by rw[hd];rfl
 have htq:(x:Int) / 10=(q:Int):=by rw[hq];rfl
 clear hd hq
 have hlX:=I1 b
 simp only[iv] at h25 ⊢
 simp[WF,wxI,wxO,wxC,Tryz.f98,ah,seq1,az,af,aJ,ao,aq,aH,ag,ai,aj,an,aF,aC,FP.none,bd,au,bj,aw,aa,ae,ab,bh,and_assoc,bg,k9,h0,h1,h19,h20,h21,h25,h5,hc2,htm,htq,u32,u8T,dF,hw1,hw2,hw3,hw4,hlX,Iu,rI,po,sU8,bU8,zU8,cn,g1,g2,g4]
theorem A4 (L:Lst)(run:ar)(k:Nat)(l:List Nat)(i:Nat):∀ (n c x:Nat) (fr:List PV) (hp:List Blk) (wr out:List Nat),c+n=9→x≤4294967295→out.length+n<90000000→WF fr l i→nth fr 25=iv c→nth fr 5 = .sc (.int .u32 (x:Int))→dx u8v 1 hp out (nth fr 3) →
  ∃ (fr':List PV) (hp':List Blk) (wr':List Nat),cl (af (CC L) run k wxI) (n+1) ⟨fr,hp,wr⟩=some (.exit 2,⟨fr',hp',wr'⟩)∧WF fr' l i∧dx u8v 1 hp' (out++(T.db n x).map (· + 48)) (nth fr' 3)∧aV hp' 0=aV hp 0
 | 0,c,x,fr,hp,wr,out,hc,hx,h9,h,h25,h5,hO=>by
  have:c=9:=by omega
  subst this
  obtain⟨fr',q1,q2,q3⟩:=Vy L run k fr hp wr l i h h25
  refine⟨fr',hp,wr,bD q1,q2,?_,rfl⟩
  rw[q3]
  simpa [T.db] using hO
 | n+1,c,x,fr,hp,wr,out,hc,hx,h9,h,h25,h5,hO=>by
  obtain⟨fr1,hp1,wr1,q1,q2,q3,q4,q5,q6⟩:=Jz L run k fr hp wr l out i c x hx (by omega) (by omega) h h25 h5 hO
  obtain⟨fr',hp',wr',s1,s2,s3,s4⟩:=A4 L run k l i n (c+1) (x / 10) fr1 hp1 wr1 _ (by omega) (Nat.le_trans (Nat.div_le_self _ _) hx) (by simp;omega) q2 q3 q4 q5
  refine⟨fr',hp',wr',by rw[ch q1];exact s1,s2,?_,by rw[s4,q6]⟩
  rw[List.append_assoc] at s3
  exact s3
theorem MQ {C:Cfg}{run:ar}{k:Nat}{a b c:Code}{st st':St}(h:af C run k (.seq a b) st=some (.normal,st')):af C run k (.seq a (.seq b c)) st=af C run k c st':=by
 simp only[af] at h ⊢
 cases e:af C run k a st with
 | none=>rw[e] at h;cases h
 | some r =>
  obtain⟨x,s⟩:=r
  rw[e] at h
  cases x with
  | normal=>simp only at h ⊢;rw[h]
  | _=>simp at h
theorem Vv (L:Lst)(run:ar)(k:Nat)(fr:List PV)(hp:List Blk)(wr:List Nat)(l:List Nat)(h:WF fr l l.length) :
  ∃ fr',af (CC L) run k wxO ⟨fr,hp,wr⟩=some (.exit 0,⟨fr',hp,wr⟩)∧WF fr' l l.length∧nth fr' 3=nth fr 3:=by
 obtain⟨h0,h1,h19,h20,h21⟩:=h
 simp only[iv] at h20 h21
 simp[WF,iv,wxO,wxC,Tryz.f98,ah,seq1,az,af,aJ,ao,aq,aH,ag,ai,aj,an,aF,aC,FP.none,bd,au,bj,aa,ae,ab,and_assoc,h0,h1,h19,h20,h21]
theorem aew (L:Lst)(run:ar)(k:Nat)(fr:List PV)(hp:List Blk)(wr:List Nat)(l:List Nat)(i:Nat)(hi:i<l.length)(h:WF fr l i) :
  ∃ fr1 fr',af (CC L) run k aaV ⟨fr,hp,wr⟩=some (.normal,⟨fr1,hp,wr⟩)∧af (CC L) run k aaU ⟨fr1,hp,wr⟩=some (.normal,⟨fr1,hp,wr⟩)∧af (CC L) run k (.seq Vx Vw) ⟨fr1,hp,wr⟩=some (.normal,⟨fr',hp,wr⟩)∧WF fr' l i∧nth fr' 25=iv 0∧nth fr' 5 = .sc (.int .u32 (l[i]:Int))∧nth fr' 3=nth fr 3:=by
 obtain⟨h0,h1,h19,h20,h21⟩:=h
 have hd:=eJ l i hi
 have e1:aM l = .imm l.length false (l.map dg):=rfl
 have e2:dg l[i] = .sc (.int .u32 (l[i]:Int)):=rfl
 rw[e1] at h19
 rw[e2] at hd
 generalize l[i]=d at *
 simp only[iv] at h20 h21
 refine⟨fm fr 22 (.sc (.bool true)),?_⟩
 simp[WF,e1,iv,aaV,aaU,Vx,Vw,blk,cA,wxO,wxC,Tryz.f98,ah,seq1,az,af,aJ,ao,aq,aH,ag,ai,aj,an,aF,aC,FP.none,bd,au,bj,aw,bc,bm,partOf,aa,ae,ab,bh,and_assoc,h0,h1,h19,h20,h21,hi,hd,uD,s32,a32,aU]
theorem aev (L:Lst)(run:ar)(k:Nat)(fr:List PV)(hp:List Blk)(wr:List Nat)(l:List Nat)(i:Nat)(hi:i<1000000)(h:WF fr l i) :
  ∃ fr',af (CC L) run k NS ⟨fr,hp,wr⟩=some (.normal,⟨fr',hp,wr⟩)∧WF fr' l (i+1)∧nth fr' 3=nth fr 3:=by
 obtain⟨h0,h1,h19,h20,h21⟩:=h
 have hw:=bE i (by omega)
 simp only[iv] at h20 h21
 simp[WF,iv,NS,cA,wxO,wxC,Tryz.f98,ah,seq1,az,af,aJ,ao,aq,aH,ag,ai,aj,an,aF,aC,FP.none,bd,au,bj,aw,aa,ae,ab,and_assoc,h0,h1,h19,h20,h21,hw]
theorem A3 (L:Lst)(run:ar)(k:Nat)(hk:10≤k)(l:List Nat)(hl:Dok l)(h9:l.length<1000000):∀ (n i:Nat) (fr:List PV) (hp:List Blk) (wr out:List Nat),i+n=l.length→out.length=9*i→WF fr l i→dx u8v 1 hp out (nth fr 3) →
  ∃ (fr':List PV) (hp':List Blk) (wr':List Nat),cl (af (CC L) run k wxO) (n+1) ⟨fr,hp,wr⟩=some (.exit 0,⟨fr',hp',wr'⟩)∧WF fr' l l.length∧dx u8v 1 hp' (out++((l.drop i).flatMap (T.db 9)).map (· + 48)) (nth fr' 3)∧aV hp' 0=aV hp 0
 | 0,i,fr,hp,wr,out,hin,ho,h,hO=>by
  have:i=l.length:=by omega
  subst this
  obtain⟨fr',q1,q2,q3⟩:=Vv L run k fr hp wr l h
  refine⟨fr',hp,wr,bD q1,q2,?_,rfl⟩
  rw[q3]
  simpa using hO
 | n+1,i,fr,hp,wr,out,hin,ho,h,hO=>by
  have hi:i<l.length:=by omega
  obtain⟨fr1,fr2,a1,a2,a3,a4,a5,a6,a7⟩:=aew L run k fr hp wr l i hi h
  have hd:=hl.get hi
  obtain⟨fr3,hp3,wr3,b1,b2,b3,b4⟩:=A4 L run k l i 9 0 l[i] fr2 hp wr out (by omega) (by omega) (by omega) a4 a5 a6 (by rw[a7];exact hO)
  obtain⟨fr4,c1,c2,c3⟩:=aev L run k fr3 hp3 wr3 l i (by omega) b2
  have hgo:af (CC L) run k wxO ⟨fr,hp,wr⟩=some (.normal,⟨fr4,hp3,wr3⟩):=by
   rw[aaT,av a1,av a2]
   have hb1:=bH (i:=2) (ca b1 hk)
   have hb2:af (CC L) run k (.seq Vx (.seq Vw (.block 2 (.loop wxI)))) ⟨fr1,hp,wr⟩=some (.normal,⟨fr3,hp3,wr3⟩):=by
    rw[MQ a3];exact hb1
   rw[av (dW hb2)]
   exact c1
  obtain⟨fr',hp',wr',s1,s2,s3,s4⟩:=A3 L run k hk l hl h9 n (i+1) fr4 hp3 wr3 (out++(T.db 9 l[i]).map (· + 48)) (by omega) (by rw[List.length_append,List.length_map,T.dn];omega) c2 (by rw[c3];exact b3)
  refine⟨fr',hp',wr',by rw[ch hgo];exact s1,s2,?_,by rw[s4,b4]⟩
  rw[List.append_assoc] at s3
  rw[List.drop_eq_getElem_cons hi,List.flatMap_cons,List.map_append]
  exact s3
noncomputable def wxT:Code:=(az (seq1 (ah 4 wxC))).getD .skip
theorem tR (l:List Nat)(i:Nat)(h:i<l.length):(br (l.map u8v) i).head?=some (.sc (.int .u8 (at0 l i:Int))):=by
 rw[kE l i h,de h];rfl
theorem Vr (L:Lst)(run:ar)(k:Nat)(fr:List PV)(hp:List Blk)(wr:List Nat)(lz:List Nat)(id n:Nat)(hn:n+1≤lz.length)(hn9:n<100000000)(hz:at0 lz n≠48)(h0:fr.length=81)(h1:nth fr 1 = .ptr 0 0)(h3:nth fr 3 = .own id 1 0 (n+1) false)(hb:aV hp id=some ⟨.live,lz.map u8v⟩) :
  ∃ fr',af (CC L) run k wxT ⟨fr,hp,wr⟩=some (.exit 4,⟨fr',hp,wr⟩)∧fr'.length=81∧nth fr' 1 = .ptr 0 0∧nth fr' 3 = .own id 1 0 (n+1) false:=by
 have hd:=tR lz n (by omega)
 have hw:bA .i64 (n:Int)=(n:Int):=cu .i64 n (hiI (by omega))
 have hz1:((at0 lz n:Int) == 48)=false:=by rw[beq_eq_false_iff_ne];omega
 generalize at0 lz n=a at *
 have hz2 : ¬ ((a:Int)=48):=by omega
 simp[wxT,wxC,Tryz.f98,ah,seq1,az,af,aJ,ao,aq,aH,ag,ai,aj,an,aF,aC,FP.none,bd,au,bj,aw,bM,bc,bm,partOf,aa,ae,ab,bh,gw,h0,h1,h3,hb,hd,hw,hz1,po,sU8,a8,aU]
theorem Jw (L:Lst)(run:ar)(k:Nat)(fr:List PV)(hp:List Blk)(wr:List Nat)(lz:List Nat)(id n:Nat)(hn:n+1≤lz.length)(hn9:n<100000000)(hz:at0 lz n=48)(h0:fr.length=81)(h1:nth fr 1 = .ptr 0 0)(h3:nth fr 3 = .own id 1 0 (n+1) false)(hb:aV hp id=some ⟨.live,lz.map u8v⟩) :
  ∃ fr',af (CC L) run k wxT ⟨fr,hp,wr⟩=some (.normal,⟨fr',hp,wr⟩)∧fr'.length=81∧nth fr' 1 = .ptr 0 0∧nth fr' 3 = .own id 1 0 n false:=by
 have hd:=tR lz n (by omega)
 have hw:bA .i64 (n:Int)=(n:Int):=cu .i64 n (hiI (by omega))
 rw[hz] at hd
 simp[wxT,wxC,Tryz.f98,ah,seq1,az,af,aJ,ao,aq,aH,ag,ai,aj,an,aF,aC,FP.none,bd,au,bj,aw,bM,bc,bm,partOf,aa,ae,ab,bh,gw,h0,h1,h3,hb,hd,hw,po,sU8,a8,aU,dt,im,bnd,fk,gT]
theorem A1 (L:Lst)(run:ar)(k:Nat)(hp:List Blk)(wr:List Nat)(lz:List Nat)(id:Nat)(hb:aV hp id=some ⟨.live,lz.map u8v⟩):∀ (n:Nat) (fr:List PV),n+1≤lz.length→n<100000000→(∃ m,m<n+1∧at0 lz m≠48)→fr.length=81→nth fr 1 = .ptr 0 0→nth fr 3 = .own id 1 0 (n+1) false →
  ∃ fr' c,cl (af (CC L) run k wxT) (n+1) ⟨fr,hp,wr⟩=some (.exit 4,⟨fr',hp,wr⟩)∧fr'.length=81∧nth fr' 1 = .ptr 0 0∧nth fr' 3 = .own id 1 0 (c+1) false∧c≤n∧at0 lz c≠48∧∀ j,c<j→j<n+1→at0 lz j=48
 | n,fr,hn,hn9,hm,h0,h1,h3=>by
  by_cases hz:at0 lz n=48
  ·obtain⟨m,hm1,hm2⟩:=hm
   cases n with
   | zero =>
    have:m=0:=by omega
    subst this
    exact absurd hz hm2
   | succ n =>
    have hmn:m≠n+1:=fun e=>hm2 (by rw[e];exact hz)
    obtain⟨fr1,q1,q2,q3,q4⟩:=Jw L run k fr hp wr lz id (n+1) hn hn9 hz h0 h1 h3 hb
    obtain⟨fr',c,s1,s2,s3,s4,s5,s6,s7⟩:=A1 L run k hp wr lz id hb n fr1 (by omega) (by omega) ⟨m,by omega,hm2⟩ q2 q3 q4
    refine⟨fr',c,by rw[ch q1];exact s1,s2,s3,s4,by omega,s6,fun j hj hj2 => ?_⟩
    by_cases e:j=n+1
    ·rw[e];exact hz
    ·exact s7 j hj (by omega)
  ·obtain⟨fr',q1,q2,q3,q4⟩:=Vr L run k fr hp wr lz id n hn hn9 hz h0 h1 h3 hb
   exact⟨fr',n,bD q1,q2,q3,q4,Nat.le_refl _,hz,fun j h1 h2=>by omega⟩
noncomputable def wxN:Code:=seq1 (ah 5 wxC)
theorem NT (L:Lst)(run:ar)(k:Nat)(fr:List PV)(hp:List Blk)(wr:List Nat)(m:Bool)(l dd:List Nat)(h9:l.length<90000000)(h0:fr.length=81)(h1:nth fr 1 = .ptr 0 0)(hb:aV hp 0=some ⟨.live,[.sc (.bool m),aM dd]⟩)(hO:dx u8v 1 hp l (nth fr 3)) :
  ∃ fr' hp' wr',af (CC L) run k wxN ⟨fr,hp,wr⟩=some (.normal,⟨fr',hp',wr'⟩)∧fr'.length=81∧dx u8v 1 hp' (l++(bif m then [45] else [])) (nth fr' 3):=by
 cases m with
 | false =>
  simp[wxN,wxC,Tryz.f98,ah,seq1,af,aJ,ao,aq,aH,ag,ai,aj,an,aF,aC,FP.none,bL,partOf,aa,ae,ab,bh,and_assoc,h0,h1,hb,hO,aU,br,uW,wf0,wf1,sB,aB]
 | true =>
  obtain⟨p',hp',fp,g1,g2,g3⟩:=hO.app 45 (by omega)
  have hlX:ie TT 43 1 [(0,.sc (.int .u8 45))]=some (1,[u8v 45]):=I1 45
  simp[wxN,wxC,Tryz.f98,ah,seq1,af,aJ,ao,aq,aH,ag,ai,aj,an,aF,aC,FP.none,aw,bL,partOf,aa,ae,ab,bh,and_assoc,bg,k9,h0,h1,hb,hlX,Iu,rI,po,sU8,bU8,zU8,cn,g1,g2,aU,br,uW,wf0,wf1,sB,aB]
noncomputable def wxS:Code:=(az (seq1 (ah 6 wxC))).getD .skip
noncomputable def Jx:Code:=blk (seq1 (cA wxS))
theorem aeu:((Region.before (gJ Jx))[13]?.getD 0).testBit 7=true:=by kernel_rfl
theorem aet:((Region.before (gJ Jx))[13]?.getD 0).testBit 11=true:=by kernel_rfl
theorem aes:((Region.before (gJ Jx))[15]?.getD 0).testBit 7=true:=by kernel_rfl
theorem aer:((Region.before (gJ Jx))[15]?.getD 0).testBit 11=true:=by kernel_rfl
theorem aeq:((Region.before (gJ Jx))[15]?.getD 0).testBit 13=true:=by kernel_rfl
theorem Vt (L:Lst)(run:ar)(k:Nat)(fr:List PV)(hp:List Blk)(wr:List Nat)(i j:Nat)(hij:j≤i+1)(h0:fr.length=81)(h6:nth fr 6=iv i)(h7:nth fr 7 = .sc (.int .i64 ((j:Int) - 1))) :
  ∃ fr',af (CC L) run k wxS ⟨fr,hp,wr⟩=some (.exit 6,⟨fr',hp,wr⟩)∧fr'.length=81∧nth fr' 3=nth fr 3:=by
 have hlt : ¬ ((i:Int)<(j:Int) - 1):=by omega
 simp only[iv] at h6
 simp[wxS,wxC,Tryz.f98,ah,seq1,az,af,aJ,ao,aq,aH,ag,ai,aj,an,aF,aC,FP.none,bd,au,bj,aa,ae,ab,h0,h6,h7,hlt]
set_option maxHeartbeats 8000000 in
theorem Jy (L:Lst)(run:ar)(k:Nat)(fr:List PV)(hp:List Blk)(wr:List Nat)(lz:List Nat)(id n i j:Nat)(hn9:n<100000000)(hn:n≤lz.length)(hb:aV hp id=some ⟨.live,lz.map u8v⟩)(hij:i<j)(hj:j<n)(h0:fr.length=81)(h3:nth fr 3 = .own id 1 0 n false)(h6:nth fr 6=iv i)(h7:nth fr 7 = .sc (.int .i64 (j:Int))) :
  ∃ fr' wr',af (CC L) run k wxS ⟨fr,hp,wr⟩=some (.normal,⟨fr',bO (bO hp id ⟨.live,(lz.set i (at0 lz j)).map u8v⟩) id ⟨.live,((lz.set i (at0 lz j)).set j (at0 lz i)).map u8v⟩,wr'⟩)∧fr'.length=81∧nth fr' 3 = .own id 1 0 n false∧nth fr' 6=iv (i+1)∧nth fr' 7 = .sc (.int .i64 ((j:Int) - 1)):=by
 have hin:i<n:=by omega
 have hil:i<lz.length:=by omega
 have hjl:j<lz.length:=by omega
 have hw1:=cR j (Nat.lt_trans (Nat.lt_trans hj hn9) (by decide))
 have hwi:=bE i (Nat.lt_trans (Nat.lt_trans hin hn9) (by decide))
 have hd1:=tR lz i hil
 have hd2:=tR lz j hjl
 have hov:=jN (e:=u8v) lz i (at0 lz j) hil
 have hov2:=jN (e:=u8v) (lz.set i (at0 lz j)) j (at0 lz i) (by rw[List.length_set];exact hjl)
 have hsb:aV (bO hp id ⟨.live,(lz.set i (at0 lz j)).map u8v⟩) id=some ⟨.live,(lz.set i (at0 lz j)).map u8v⟩:=by rw[cQ hb,if_pos rfl]
 generalize at0 lz i=a at *
 generalize at0 lz j=c at *
 have hb1:=aeu
 have hb2:=aet
 have hb3:=aes
 have hb4:=aer
 have hb5:=aeq
 simp[-Nat.testBit_zero,Jx,wxS,wxC,blk,Tryz.f98,ah,az,seq1,cA,gJ] at hb1 hb2 hb3 hb4 hb5
 simp only[iv] at h6 ⊢
 simp[-Nat.testBit_zero,-List.map_set,hb1,hb2,hb3,hb4,hb5,wxS,wxC,Tryz.f98,ah,seq1,az,af,aJ,ao,aq,aH,ag,ai,aj,an,aF,aC,FP.none,bd,au,bj,aw,bc,bm,partOf,aa,ae,ab,bh,and_assoc,bg,DA,k9,h0,h3,h6,h7,po,sU8,a8,aU,hb,hsb,hij,hin,hj,hw1,hwi,hd1,hd2,hov,hov2,aas a,aas c,number,FP.free,cF,FP.apart]
end Go.Proofs.YtjdmodeenbdfpaaGreat
