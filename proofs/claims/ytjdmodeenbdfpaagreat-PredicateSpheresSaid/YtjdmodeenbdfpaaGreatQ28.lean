/- Contracts of num's integers, part 28 of the proof; each lemma states its own conditions. -/
import Derived.Test.YtjdmodeenbdfpaaGreatQ27
set_option linter.unusedSimpArgs false
set_option linter.unusedVariables false
namespace Go.Proofs.YtjdmodeenbdfpaaGreat
open Go Go.Ab
theorem VE:base.F.get 153=some Tryz.f153:=by kernel_rfl
theorem On:base.F.get 169=some Tryz.f169:=by kernel_rfl
theorem E0:base.F.get 183=some Tryz.f183:=by kernel_rfl
theorem lY:base.F.get 108=some Tryz.f108:=by kernel_rfl
theorem abm:base.shared 153=false:=by kernel_rfl
theorem Wz:base.shared 169=false:=by kernel_rfl
theorem Le:base.shared 183=false:=by kernel_rfl
theorem Aw:base.shared 191=false:=by kernel_rfl
abbrev gL:ByteArray:={ data:=#[47] }
theorem uw:bH gL=[47]:=rfl
def idx (s:ByteArray):Int:=bif eqL [47] (bH s) then 0 else Lib.indexByte (bH s) 47
theorem DE (L:Lst)(run:aq)(k:Nat)(s:ByteArray)(g1:ar L run 191 [.sc (.string s),.sc (.int .u8 47)] (.sc (.int .i64 (Lib.indexByte (bH s) 47)))) :
  ∃ st,af (CC L) run k (Tryz.f183.body.getD .skip) ⟨entry 143 [.sc (.string s),.sc (.string gL)],[],[]⟩=some (.ret,st)∧aV TT st.fr st.hp Tryz.f183.results.toList=some [Ab.bC (idx s)]:=by
 obtain⟨h1,h2,h3⟩:=cn 141 (.sc (.string s)) (.sc (.string gL))
 generalize entry 143 [.sc (.string s),.sc (.string gL)]=fr0 at *
 unfold ar at g1
 unfold idx
 have hix:gI TT 9 (.sc (.string gL)) (.sc (.int .i64 0))=some (.sc (.int .u8 47)):=by
  simp[gI,uS,jx,uw,Dr]
 have hst:=uw
 generalize gL=sl at *
 generalize Lib.indexByte (bH s) 47=i at *
 cases he:eqL [47] (bH s) with
 | true=>simp[Tryz.f183,h1,h2,h3,af,aH,an,ao,aG,ag,ai,aj,ak,aC,az,FP.none,aY,au,bf,av,bK,aa,ae,ab,bh,uS,hst,ef,he,aV,Ab.bC]
 | false=>simp[Tryz.f183,h1,h2,h3,af,aH,an,ao,aG,ag,ai,aO,aj,ak,aC,az,FP.none,aY,au,bf,av,bK,aa,ae,ab,bh,uS,hst,ef,he,g1,hix,aV,Ab.bC]
def pO:List PV→Option (List PV)
 | [.sc (.string s),.sc (.string p)]=>bif eqL (bH p) [47] then some [Ab.bC (idx s)] else none
 | _=>none
theorem oM:∀ {a b:List UInt8},eqL a b=true→a=b
 | [],[],_=>rfl
 | a::x,b::y,h=>by
  simp only[eqL,Bool.and_eq_true,beq_iff_eq] at h
  rw[oM h.2,UInt8.toNat_inj.1 h.1]
 | [],_::_,h=>by simp[eqL] at h
 | _::_,[],h=>by simp[eqL] at h
theorem uJ {p:ByteArray}(h:eqL (bH p) [47]=true):p=gL:=by
 have:=oM h
 rw[← fx p,this];rfl
noncomputable def L12:Lst:=[(191,ibF)]
theorem g12 (run:aq)(s:ByteArray):ar L12 run 191 [.sc (.string s),.sc (.int .u8 47)] (.sc (.int .i64 (Lib.indexByte (bH s) 47))):=fun dr hp =>
 bp (L:=L12) (f:=ibF) Aw rfl run dr hp _ [.sc (.int .i64 (Lib.indexByte (bH s) 47))] rfl rfl rfl
theorem tb:Ab.Spec base.P 183 pO:=Ab.Spec.bN (C:=CC L12) (cU ⟨JE,trivial⟩) fun args rs h=>by
 unfold pO at h
 split at h
 ·rename_i s p
  cases hb:eqL (bH p) [47] with
  | false=>rw[hb] at h;cases h
  | true =>
   rw[hb] at h
   simp only[cond_true,Option.some.injEq] at h
   subst h
   rw[uJ hb]
   obtain⟨st,e1,e2⟩:=DE L12 (runK (CC L12) 1) 1 s (g12 _ s)
   exact⟨2,_,_,_,_,_,aQ E0 rfl e1 e2,eF _ _,Wk.refl rfl,trivial⟩
 ·cases h
def mc (s:ByteArray):List PV:=match idx s with
 | .ofNat i=>[.sc (.string (mkStr ((bH s).take i))),.sc (.string (mkStr ((bH s).drop (i+1)))),.sc (.bool true)]
 | .negSucc _=>[.sc (.string s),.sc (.string { data:=#[] }),.sc (.bool false)]
def lb (s:ByteArray):Bool:=match idx s with
 | .ofNat i=>(i+1).ble (bH s).length && (bH s).length.ble 1000000000
 | .negSucc _=>true
noncomputable def kV:Code:=Tryz.f169.body.getD .skip
noncomputable def Hq:Code:=seq1 (seq1 (ah 1 kV))
noncomputable def rG:Code:=cB (seq1 (ah 1 kV))
theorem wu:ah 1 kV = .seq (.seq Hq rG) (ah 2 kV):=rfl
theorem Te (L:Lst)(run:aq)(k:Nat)(s sl:ByteArray):∃ fr,aX (CC L) run k 1 kV ⟨entry 23 [.sc (.string s),.sc (.string sl)],[],[]⟩=some ⟨fr,[],[]⟩∧fr.length=23∧nth fr 0 = .sc (.string s)∧nth fr 1 = .sc (.string sl):=by
 obtain⟨h1,h2,h3⟩:=cn 21 (.sc (.string s)) (.sc (.string sl))
 generalize entry 23 [.sc (.string s),.sc (.string sl)]=fr0 at *
 simp[kV,Tryz.f169,aX,h1,h2,h3,af,aH,an,ao,aG,ag,ai,aj,ak,aC,az,FP.none,av,ae,ab]
theorem YV (L:Lst)(run:aq)(k:Nat)(fr:List PV)(s sl:ByteArray)(z:Int)(g1:ar L run 183 [.sc (.string s),.sc (.string sl)] (Ab.bC z))(h1:fr.length=23)(h2:nth fr 0 = .sc (.string s))(h3:nth fr 1 = .sc (.string sl)) :
  ∃ fr',af (CC L) run k Hq ⟨fr,[],[]⟩=some (.normal,⟨fr',[],[]⟩)∧fr'.length=23∧nth fr' 0 = .sc (.string s)∧nth fr' 1 = .sc (.string sl)∧nth fr' 7 = .sc (.int .i64 z):=by
 unfold ar at g1
 simp only[Ab.bC] at g1
 simp[Hq,kV,Tryz.f169,ah,seq1,h1,h2,h3,af,aH,an,ao,aG,ag,ai,aO,aj,ak,aC,az,FP.none,aa,ae,ab,g1]
theorem Td (L:Lst)(run:aq)(k:Nat)(fr:List PV)(s sl a b:ByteArray)(z j:Int)(n:Nat)(hz : ¬ (z<0))(hj:bA .i64 (z+n)=j)(hn:(bH sl).length=n)(hs1:dF s none (some (.sc (.int .i64 z))) none=some (.sc (.string a)))(hs2:dF s (some (.sc (.int .i64 j))) none none=some (.sc (.string b)))
  (h1:fr.length=23) (h2:nth fr 0 = .sc (.string s)) (h3:nth fr 1 = .sc (.string sl)) (h7:nth fr 7 = .sc (.int .i64 z)) :
  ∃ st,af (CC L) run k rG ⟨fr,[],[]⟩=some (.ret,st)∧aV TT st.fr st.hp Tryz.f169.results.toList=some [.sc (.string a),.sc (.string b),.sc (.bool true)]:=by
 have hz':0≤z:=by omega
 simp[rG,kV,Tryz.f169,ah,seq1,cB,h1,h2,h3,h7,af,aH,an,ao,aG,ag,ai,aj,ak,aC,az,FP.none,aY,au,bf,av,bK,aa,ae,ab,bh,uS,hz',hn,hj,dC,hs1,hs2,aV,number,FP.free]
theorem Tc (L:Lst)(run:aq)(k:Nat)(fr:List PV)(s sl:ByteArray)(z:Int)(hz:z<0)(h1:fr.length=23)(h2:nth fr 0 = .sc (.string s))(h3:nth fr 1 = .sc (.string sl))(h7:nth fr 7 = .sc (.int .i64 z)) :
  ∃ st fr',af (CC L) run k rG ⟨fr,[],[]⟩=some (.normal,⟨fr',[],[]⟩)∧af (CC L) run k (ah 2 kV) ⟨fr',[],[]⟩=some (.ret,st)∧aV TT st.fr st.hp Tryz.f169.results.toList=some [.sc (.string s),.sc (.string { data:=#[] }),.sc (.bool false)]:=by
 have hz' : ¬ (0≤z):=by omega
 have e:∃ fr',af (CC L) run k rG ⟨fr,[],[]⟩=some (.normal,⟨fr',[],[]⟩)∧fr'.length=23∧nth fr' 0 = .sc (.string s):=by
  simp[rG,kV,Tryz.f169,ah,seq1,cB,h1,h2,h7,af,aH,an,ao,aG,ag,ai,aj,ak,aC,az,FP.none,aY,au,bf,av,aa,ae,ab,hz']
 obtain⟨fr',e1,e2,e3⟩:=e
 have e':∃ st,af (CC L) run k (ah 2 kV) ⟨fr',[],[]⟩=some (.ret,st)∧aV TT st.fr st.hp Tryz.f169.results.toList=some [.sc (.string s),.sc (.string { data:=#[] }),.sc (.bool false)]:=by
  simp[kV,Tryz.f169,ah,e2,e3,af,aH,an,ao,aG,ag,ai,aj,ak,aC,az,FP.none,av,aa,ae,ab,aV]
 obtain⟨st,e4,e5⟩:=e'
 exact⟨st,fr',e1,e4,e5⟩
theorem Hr (L:Lst)(run:aq)(k:Nat)(s:ByteArray)(hk:lb s=true)(g1:ar L run 183 [.sc (.string s),.sc (.string gL)] (Ab.bC (idx s))) :
  ∃ st,af (CC L) run k kV ⟨entry 23 [.sc (.string s),.sc (.string gL)],[],[]⟩=some (.ret,st)∧aV TT st.fr st.hp Tryz.f169.results.toList=some (mc s):=by
 obtain⟨f1,a1,a2,a3,a4⟩:=Te L run k s gL
 obtain⟨f2,b1,b2,b3,b4,b5⟩:=YV L run k f1 s gL (idx s) g1 a2 a3 a4
 unfold mc
 unfold lb at hk
 cases hi:idx s with
 | ofNat i =>
  rw[hi] at b5 hk
  simp only[Bool.and_eq_true,Nat.ble_eq] at hk
  have hw:=bJ i (Nat.lt_of_lt_of_le hk.1 (Nat.le_trans hk.2 (by decide)))
  have hs1:dF s none (some (.sc (.int .i64 (Int.ofNat i)))) none=some (.sc (.string (mkStr ((bH s).take i)))):=by
   have:i≤(bH s).length:=Nat.le_of_succ_le hk.1
   simp[dF,bnd,fN,bk,this]
  have hs2:dF s (some (.sc (.int .i64 ((i:Int)+1)))) none none=some (.sc (.string (mkStr ((bH s).drop (i+1))))):=by
   have:i+1≤(bH s).length:=hk.1
   simp[dF,bnd,fN,iG,this]
  obtain⟨st,c1,c2⟩:=Td L run k f2 s gL _ _ (Int.ofNat i) _ 1 (by simp) hw rfl hs1 hs2 b2 b3 b4 b5
  exact⟨st,by rw[aM 1 a1,wu,cm ((aw b1).trans c1)],c2⟩
 | negSucc i =>
  rw[hi] at b5
  obtain⟨st,f3,c1,c2,c3⟩:=Tc L run k f2 s gL (Int.negSucc i) (by simp) b2 b3 b4 b5
  exact⟨st,by rw[aM 1 a1,wu,aw ((aw b1).trans c1)];exact c2,c3⟩
def mY:List PV→Option (List PV)
 | [.sc (.string s),.sc (.string p)]=>bif eqL (bH p) [47] && lb s then some (mc s) else none
 | _=>none
theorem De (hp:List Blk)(s:ByteArray):bq (snap hp bj) (mc s)=some (mc s,[]):=by
 unfold mc;cases idx s <;> rfl
theorem IH (s:ByteArray):WkL (mc s) (mc s):=WkL.refl (by unfold mc;cases idx s <;> rfl)
noncomputable def L13:Lst:=[(183,pO)]
theorem g13 (run:aq)(s:ByteArray):ar L13 run 183 [.sc (.string s),.sc (.string gL)] (Ab.bC (idx s)):=fun dr hp =>
 bp (L:=L13) (f:=pO) Le rfl run dr hp _ [Ab.bC (idx s)] rfl rfl rfl
theorem wv:Ab.Spec base.P 169 mY:=Ab.Spec.bN (C:=CC L13) (cU ⟨tb,trivial⟩) fun args rs h=>by
 unfold mY at h
 split at h
 ·rename_i s p
  cases hb:eqL (bH p) [47] && lb s with
  | false=>rw[hb] at h;cases h
  | true =>
   rw[hb] at h
   simp only[cond_true,Option.some.injEq] at h
   subst h
   rw[Bool.and_eq_true] at hb
   rw[uJ hb.1]
   obtain⟨st,e1,e2⟩:=Hr L13 (runK (CC L13) 1) 1 s hb.2 (g13 _ s)
   exact⟨2,_,_,_,_,_,aQ On rfl e1 e2,De _ _,IH _⟩
 ·cases h
noncomputable def L14:Lst:=[(169,mY)]
theorem g14 (run:aq)(s:ByteArray)(hk:lb s=true):ar L14 run 169 [.sc (.string s),.sc (.string gL)] (gN (mc s)):=fun dr hp =>
 bp (L:=L14) (f:=mY) Wz rfl run dr hp _ (mc s) rfl rfl (by
  show (bif true && lb s then some (mc s) else none)=_
  rw[hk];rfl)
theorem NB (L:Lst)(run:aq)(k:Nat)(s:ByteArray)(g1:ar L run 169 [.sc (.string s),.sc (.string gL)] (gN (mc s))) :
  ∃ st,af (CC L) run k (Tryz.f153.body.getD .skip) ⟨entry 13 [.sc (.string s),.sc (.string gL)],[],[]⟩=some (.ret,st)∧aV TT st.fr st.hp Tryz.f153.results.toList=some (mc s):=by
 obtain⟨h1,h2,h3⟩:=cn 11 (.sc (.string s)) (.sc (.string gL))
 generalize entry 13 [.sc (.string s),.sc (.string gL)]=fr0 at *
 unfold ar at g1
 unfold mc at g1 ⊢
 cases hi:idx s <;> rw[hi] at g1 <;> simp only[gN] at g1 ⊢ <;> simp[Tryz.f153,h1,h2,h3,af,aH,an,ao,aG,ag,ai,aO,aj,ak,aC,az,FP.none,av,aa,ae,ab,g1,aV]
theorem zU:Ab.Spec base.P 153 mY:=Ab.Spec.bN (C:=CC L14) (cU ⟨wv,trivial⟩) fun args rs h=>by
 unfold mY at h
 split at h
 ·rename_i s p
  cases hb:eqL (bH p) [47] && lb s with
  | false=>rw[hb] at h;cases h
  | true =>
   rw[hb] at h
   simp only[cond_true,Option.some.injEq] at h
   subst h
   rw[Bool.and_eq_true] at hb
   rw[uJ hb.1]
   obtain⟨st,e1,e2⟩:=NB L14 (runK (CC L14) 1) 1 s (g14 _ s hb.2)
   exact⟨2,_,_,_,_,_,aQ VE rfl e1 e2,De _ _,IH _⟩
 ·cases h
noncomputable def rrC:Code:=Tryz.f108.body.getD .skip
noncomputable def Lq:Code:=seq1 (ah 3 rrC)
noncomputable def Cx:Code:=seq1 (ah 5 rrC)
theorem yy:ah 3 rrC = .seq Lq (ah 4 rrC):=rfl
theorem yx:ah 5 rrC = .seq Cx (ah 6 rrC):=rfl
theorem abv (L:Lst)(run:aq)(k:Nat)(s s1 t1:ByteArray)(sl ok:Bool)(n:Int)(g1:ar L run 153 [.sc (.string s),.sc (.string gL)] (.tup [.sc (.string s1),.sc (.string t1),.sc (.bool sl)]))(g2:ar L run 154 [.sc (.string s1)] (.tup [bn n,.sc (.bool ok)])) :
  ∃ fr wr,aX (CC L) run k 3 rrC ⟨entry 61 [.sc (.string s)],[],[]⟩=some ⟨fr,[zR4,bW n],wr⟩∧fr.length=61∧nth fr 2 = .ptr 0 0∧nth fr 5 = .sc (.string t1)∧nth fr 6 = .sc (.bool sl)∧nth fr 7 = .ptr 1 0∧nth fr 8 = .sc (.bool ok):=by
 obtain⟨h1,h2⟩:=cQ 60 (.sc (.string s))
 generalize entry 61 [.sc (.string s)]=fr0 at *
 unfold ar at g1 g2
 simp only[whW,bW] at g2 ⊢
 generalize aA n.natAbs=rn at *
 generalize bt n=nn at *
 simp[rrC,Tryz.f108,aX,h1,h2,af,aH,an,ao,aG,ag,ai,aO,aj,ak,aC,az,FP.none,av,aa,ae,ab,bh,and_assoc,bm,bS,bD,bc,g1,g2,zR,zW,sW,aP,aZ,cf,bX]
theorem abu (L:Lst)(run:aq)(k:Nat)(fr:List PV)(wr:List Nat)(sl ok:Bool)(n:Int)(hb:ok=false∨sl=false)(g1:ar L run 97 [.sc (.int .i64 1)] (bn 1))
  (h1:fr.length=61) (h2:nth fr 2 = .ptr 0 0) (h6:nth fr 6 = .sc (.bool sl)) (h7:nth fr 7 = .ptr 1 0) (h8:nth fr 8 = .sc (.bool ok)) :
  ∃ st,af (CC L) run k Lq ⟨fr,[zR4,bW n],wr⟩=some (.ret,st)∧aV TT st.fr st.hp Tryz.f108.results.toList=some [bV n 1,.sc (.bool ok)]:=by
 unfold ar at g1
 rw[fB]
 simp only[whW,bW] at g1 ⊢
 generalize aA n.natAbs=rn at *
 generalize bt n=nn at *
 generalize aA (1:Int).natAbs=r1 at *
 generalize bt 1=n1 at *
 rcases hb with rfl | rfl
 ·simp[Lq,rrC,Tryz.f108,ah,seq1,h1,h2,h7,h8,af,aH,an,ao,aG,ag,ai,aO,aj,ak,aC,az,FP.none,av,partOf,unP,aa,ae,ab,bh,bm,bS,bD,bc,undef,g1,uR,sR,sW,aR,aW,zR,rf0,rf1,eJ,dn,jI,aU,aZ,cf,bX,bE,br,aV,number,FP.free,cH,FP.apart]
 ·cases ok <;> simp[Lq,rrC,Tryz.f108,ah,seq1,h1,h2,h6,h7,h8,af,aH,an,ao,aG,ag,ai,aO,aj,ak,aC,az,FP.none,av,partOf,unP,aa,ae,ab,bh,bm,bS,bD,bc,undef,g1,uR,sR,sW,aR,aW,zR,rf0,rf1,eJ,dn,jI,aU,aZ,cf,bX,bE,br,aV,number,FP.free,cH,FP.apart]
theorem abt (L:Lst)(run:aq)(k:Nat)(fr:List PV)(wr:List Nat)(n:Int)(h1:fr.length=61)(h2:nth fr 2 = .ptr 0 0)(h6:nth fr 6 = .sc (.bool true))(h7:nth fr 7 = .ptr 1 0)(h8:nth fr 8 = .sc (.bool true)) :
  ∃ fr',af (CC L) run k Lq ⟨fr,[zR4,bW n],wr⟩=some (.normal,⟨fr',[zR4,bW n],wr⟩)∧fr'.length=61∧nth fr' 2 = .ptr 0 0∧nth fr' 5=nth fr 5∧nth fr' 7 = .ptr 1 0:=by
 simp[Lq,rrC,Tryz.f108,ah,seq1,h1,h2,h6,h7,h8,af,aH,an,ao,aG,ag,ai,aj,ak,aC,az,FP.none,unP,aa,ae,ab]
theorem aeF (L:Lst)(run:aq)(k:Nat)(fr:List PV)(wr:List Nat)(t1:ByteArray)(ok:Bool)(n d:Int)(g1:ar L run 154 [.sc (.string t1)] (.tup [bn d,.sc (.bool ok)]))(h1:fr.length=61)(h2:nth fr 2 = .ptr 0 0)(h5:nth fr 5 = .sc (.string t1))(h7:nth fr 7 = .ptr 1 0) :
  ∃ fr' wr',aX (CC L) run k 1 (ah 4 rrC) ⟨fr,[zR4,bW n],wr⟩=some ⟨fr',[zR4,bW n,bW d],wr'⟩∧fr'.length=61∧nth fr' 2 = .ptr 0 0∧nth fr' 7 = .ptr 1 0∧nth fr' 9 = .ptr 2 0∧nth fr' 8 = .sc (.bool ok):=by
 unfold ar at g1
 simp only[whW,bW] at g1 ⊢
 generalize aA n.natAbs=rn at *
 generalize bt n=nn at *
 generalize aA d.natAbs=rd at *
 generalize bt d=nd at *
 simp[rrC,Tryz.f108,ah,aX,h1,h2,h5,h7,af,aH,an,ao,aG,ag,ai,aO,aj,ak,aC,az,FP.none,aa,ae,ab,bh,and_assoc,bm,bS,bD,bc,g1,zW,sW,aP,aZ,cf,bX]
def uY (ok:Bool)(s c1 c2:Int):Bool := !ok || (s == 0 || (decide (c1≤0) || c2 != 0))
set_option maxHeartbeats 4000000 in
theorem aeE (L:Lst)(run:aq)(k:Nat)(fr:List PV)(wr:List Nat)(ok:Bool)(n d g:Int)(s c1 c2:Int)(g1:ok=true→ar L run 101 [bn n] (Ab.bC s))(g0:ar L run 97 [.sc (.int .i64 1)] (bn 1))(g2:ok=true→s≠0→ar L run 96 [bn d,bn 1] (Ab.bC c1))
  (g3:ok=true→s≠0 → ¬ (c1≤0)→ar L run 150 [bn n,bn d] (bn g)) (g4:ok=true→s≠0 → ¬ (c1≤0)→ar L run 96 [bn g,bn 1] (Ab.bC c2))
  (h1:fr.length=61) (h2:nth fr 2 = .ptr 0 0) (h7:nth fr 7 = .ptr 1 0) (h9:nth fr 9 = .ptr 2 0) (h8:nth fr 8 = .sc (.bool ok)) :
  (uY ok s c1 c2=true∧∃ st,af (CC L) run k Cx ⟨fr,[zR4,bW n,bW d],wr⟩=some (.ret,st)∧aV TT st.fr st.hp Tryz.f108.results.toList=some [.agg [.sc (.bool false),.sc (.slice none 0 0),.sc (.bool false),.sc (.slice none 0 0)],.sc (.bool false)]) ∨
  (uY ok s c1 c2=false∧∃ fr',af (CC L) run k Cx ⟨fr,[zR4,bW n,bW d],wr⟩=some (.normal,⟨fr',[zR4,bW n,bW d],wr⟩)∧fr'.length=61∧nth fr' 2 = .ptr 0 0∧nth fr' 7 = .ptr 1 0∧nth fr' 9 = .ptr 2 0):=by
 unfold uY
 unfold ar at *
 simp only[whW,bW,Ab.bC] at *
 generalize aA n.natAbs=rn at *
 generalize bt n=nn at *
 generalize aA d.natAbs=rd at *
 generalize bt d=nd at *
 generalize aA g.natAbs=rg at *
 generalize bt g=ng at *
 generalize aA (1:Int).natAbs=r1 at *
 generalize bt 1=n1 at *
 cases ok with
 | false =>
  refine .inl ⟨rfl,?_⟩
  simp[Cx,rrC,Tryz.f108,ah,seq1,h1,h2,h8,af,aH,an,ao,aG,ag,ai,aj,ak,aC,az,FP.none,av,partOf,unP,aa,ae,ab,bh,bm,bD,fw,bc,undef,uR,sR,sW,aR,zR,rf0,rf1,eJ,dn,aU,aZ,cf,bX,bE,br,aV,number,FP.free]
 | true =>
  have g1:=g1 rfl
  by_cases hs:s=0
  ·refine .inl ⟨by simp[hs],?_⟩
   have hs':(s == 0)=true:=by simpa using hs
   simp[Cx,rrC,Tryz.f108,ah,seq1,h1,h2,h7,h8,g1,hs',af,aH,an,ao,aG,ag,ai,aO,aj,ak,aC,az,FP.none,aY,au,bf,av,partOf,unP,aa,ae,ab,bh,bm,bD,fw,bc,undef,uR,sR,sW,aR,aW,zR,rf0,rf1,eJ,dn,aU,aZ,cf,bX,bE,br,aV,number,FP.free]
  ·have g2:=g2 rfl hs
   have hs':(s == 0)=false:=by simpa using hs
   by_cases hc:c1≤0
   ·refine .inl ⟨by simp[hc],?_⟩
    simp[Cx,rrC,Tryz.f108,ah,seq1,h1,h2,h7,h8,h9,g1,g0,g2,hs',hc,af,aH,an,ao,aG,ag,ai,aO,aj,ak,aC,az,FP.none,aY,au,bf,av,partOf,unP,aa,ae,ab,bh,bm,bD,fw,bc,undef,uR,sR,sW,aR,aW,zR,rf0,rf1,eJ,dn,aU,aZ,cf,bX,bE,br,aV,number,FP.free,cH,FP.apart]
   ·have g3:=g3 rfl hs hc
    have g4:=g4 rfl hs hc
    by_cases hc2:c2=0
    ·have hc2':(c2 != 0)=false:=by simpa using hc2
     refine .inr ⟨by simp[hc,hc2,hs],?_⟩
     simp[Cx,rrC,Tryz.f108,ah,seq1,h1,h2,h7,h8,h9,g1,g0,g2,g3,g4,hs',hc,hc2',af,aH,an,ao,aG,ag,ai,aO,aj,ak,aC,az,FP.none,aY,au,bf,av,partOf,unP,aa,ae,ab,bh,sW,aW,aU,aZ,bE,br,number,FP.free,cH,FP.apart]
    ·have hc2':(c2 != 0)=true:=by simpa using hc2
     refine .inl ⟨by simp[hc,hc2,hs],?_⟩
     simp[Cx,rrC,Tryz.f108,ah,seq1,h1,h2,h7,h8,h9,g1,g0,g2,g3,g4,hs',hc,hc2',af,aH,an,ao,aG,ag,ai,aO,aj,ak,aC,az,FP.none,aY,au,bf,av,partOf,unP,aa,ae,ab,bh,bm,bD,fw,bc,undef,uR,sR,sW,aR,aW,zR,rf0,rf1,eJ,dn,aU,aZ,cf,bX,bE,br,aV,number,FP.free,cH,FP.apart]
theorem WM (L:Lst)(run:aq)(k:Nat)(fr:List PV)(wr:List Nat)(n d:Int)(h1:fr.length=61)(h2:nth fr 2 = .ptr 0 0)(h7:nth fr 7 = .ptr 1 0)(h9:nth fr 9 = .ptr 2 0) :
  ∃ st,af (CC L) run k (ah 6 rrC) ⟨fr,[zR4,bW n,bW d],wr⟩=some (.ret,st)∧aV TT st.fr st.hp Tryz.f108.results.toList=some [bV n d,.sc (.bool true)]:=by
 rw[fB]
 simp only[bW]
 generalize aA n.natAbs=rn at *
 generalize bt n=nn at *
 generalize aA d.natAbs=rd at *
 generalize bt d=nd at *
 simp[rrC,Tryz.f108,ah,h1,h2,h7,h9,af,aH,an,ao,aG,ag,ai,aj,ak,aC,az,FP.none,av,partOf,aa,ae,ab,bh,bm,bS,bD,bc,uR,sR,sW,aR,aW,zR,rf0,rf1,eJ,dn,jI,aU,aZ,cf,bX,bE,br,aV,number,FP.free,cH,FP.apart]
noncomputable def L15:Lst:=[(153,mY),(154,vg),(97,ofF),(101,jo),(96,rM),(150,xM)]
theorem ad6:dM base.P L15:=⟨zU,yA,nI,kM,qf,wE,trivial⟩
theorem Yj:bu L15 153=fun a=>mY (aJ a):=rfl
theorem Sh:bu L15 154=fun a=>vg (aJ a):=rfl
theorem acs:bu L15 97=fun a=>ofF (aJ a):=rfl
theorem Sg:bu L15 101=fun a=>jo (aJ a):=rfl
theorem Yk:bu L15 96=fun a=>rM (aJ a):=rfl
theorem Yi:bu L15 150=fun a=>xM (aJ a):=rfl
def jd (s:ByteArray):ByteArray:=match idx s with
 | .ofNat i=>mkStr ((bH s).take i)
 | .negSucc _=>s
def jc (s:ByteArray):ByteArray:=match idx s with
 | .ofNat i=>mkStr ((bH s).drop (i+1))
 | .negSucc _=>{ data:=#[] }
def tB (s:ByteArray):Bool:=match idx s with
 | .ofNat _=>true
 | .negSucc _=>false
theorem ZL (s:ByteArray):mc s=[.sc (.string (jd s)),.sc (.string (jc s)),.sc (.bool (tB s))]:=by
 unfold mc jd jc tB
 cases idx s <;> rfl
theorem Uq (s:ByteArray):(bys (jd s)).length≤(bys s).length:=by
 unfold jd
 cases idx s with
 | ofNat i=>simp only[jw,fg,List.length_take];omega
 | negSucc i=>exact Nat.le_refl _
theorem Up (s:ByteArray):(bys (jc s)).length≤(bys s).length:=by
 unfold jc
 cases idx s with
 | ofNat i=>simp only[jw,fg,List.length_drop];omega
 | negSucc i=>exact Nat.zero_le _
def eW (s:ByteArray):Int:=match gH s with
 | some z=>z
 | none=>0
def ie (s:ByteArray):Bool:=match gH s with
 | some _=>true
 | none=>false
theorem Zf (run:aq)(s:ByteArray)(hk:lb s=true):ar L15 run 153 [.sc (.string s),.sc (.string gL)] (.tup [.sc (.string (jd s)),.sc (.string (jc s)),.sc (.bool (tB s))]):=fun dr hp =>
 bp (L:=L15) (f:=mY) abm Yj run dr hp _ [.sc (.string (jd s)),.sc (.string (jc s)),.sc (.bool (tB s))] rfl rfl (by
  rw[← ZL]
  show (bif true && lb s then some (mc s) else none)=_
  rw[hk];rfl)
theorem DX (run:aq)(s:ByteArray)(hl:(bys s).length<3000000):ar L15 run 154 [.sc (.string s)] (.tup [bn (eW s),.sc (.bool (ie s))]):=fun dr hp =>
 bp (L:=L15) (f:=vg) Wv Sh run dr hp _ [bn (eW s),.sc (.bool (ie s))] rfl rfl (by
  have h:(bys s).length.blt 3000000=true:=by rw[Nat.blt_eq];exact hl
  simp only[vg,h,cond_true]
  unfold eW ie
  cases gH s <;> rfl)
theorem Tz (run:aq):ar L15 run 97 [.sc (.int .i64 1)] (bn 1):=fun dr hp =>
 bp (L:=L15) (f:=ofF) yr acs run dr hp _ [bn 1] rfl rfl rfl
theorem Ty (run:aq)(x:Int)(hx:Sm x):ar L15 run 101 [bn x] (Ab.bC x.sign):=fun dr hp =>
 bp (L:=L15) (f:=jo) tJ Sg run dr hp _ [Ab.bC x.sign] (lV hp x) (jv x) (by simp only[jo,cG hx])
theorem JM (run:aq)(x y:Int)(hx:Sm x)(hy:Sm y):ar L15 run 96 [bn x,bn y] (Ab.bC (fD x y)):=fun dr hp =>
 bp (L:=L15) (f:=rM) FM Yk run dr hp _ [Ab.bC (fD x y)] (gC hp x y) (fk x y) (by simp only[rM,cG hx,cG hy])
theorem Ze (run:aq)(x y:Int)(hx:Sm x)(hy:Sm y):ar L15 run 150 [bn x,bn y] (bn (Int.ofNat (Nat.gcd x.natAbs y.natAbs))):=fun dr hp =>
 bp (L:=L15) (f:=xM) Ph Yi run dr hp _ [bn (Int.ofNat (Nat.gcd x.natAbs y.natAbs))] (gC hp x y) (fk x y) (by simp only[xM,cG hx,cG hy])
def abw (n d:Int)(ok:Bool):Option (List PV) :=
 bif smB n && (smB d && (smB (Int.ofNat (Nat.gcd n.natAbs d.natAbs)))) then
  bif uY ok n.sign (fD d 1) (fD (Int.ofNat (Nat.gcd n.natAbs d.natAbs)) 1) then some [bV 0 0,.sc (.bool false)] else some [bV n d,.sc (.bool true)]
 else none
def rrF:List PV→Option (List PV)
 | [.sc (.string s)]=>bif (bys s).length.blt 3000000 && lb s then
   (bif ie (jd s) && tB s then abw (eW (jd s)) (eW (jc s)) (ie (jc s)) else some [bV (eW (jd s)) 1,.sc (.bool (ie (jd s)))]) else none
 | _=>none
theorem RY (hp:List Blk)(n d:Int)(b:Bool):bq (snap hp bj) [bV n d,.sc (.bool b)]=some ([bV n d,.sc (.bool b)],[]):=rfl
theorem AD:Ab.Spec base.P 108 rrF:=Ab.Spec.bN (C:=CC L15) (cU ad6) fun args rs h=>by
 unfold rrF at h
 split at h
 ·rename_i s
  cases hb:(bys s).length.blt 3000000 && lb s with
  | false=>rw[hb] at h;cases h
  | true =>
   rw[hb] at h
   simp only[cond_true] at h
   simp only[Bool.and_eq_true,Nat.blt_eq] at hb
   have hA:=Nat.lt_of_le_of_lt (Uq s) hb.1
   have hB:=Nat.lt_of_le_of_lt (Up s) hb.1
   obtain⟨f1,wr1,a1,a2,a3,a4,a5,a6,a7⟩:=abv L15 (runK (CC L15) 1) 1 s _ _ _ _ _ (Zf _ s hb.2) (DX _ _ hA)
   cases hc:ie (jd s) && tB s with
   | false =>
    rw[hc] at h
    simp only[cond_false,Option.some.injEq] at h
    subst h
    have hor:ie (jd s)=false∨tB s=false:=by
     revert hc;cases ie (jd s) <;> cases tB s <;> simp
    obtain⟨st,e1,e2⟩:=abu L15 (runK (CC L15) 1) 1 f1 wr1 _ _ _ hor (Tz _) a2 a3 a5 a6 a7
    have hx:af (CC L15) (runK (CC L15) 1) 1 rrC ⟨entry 61 [.sc (.string s)],[],[]⟩=some (.ret,st):=by
     rw[aM 3 a1,yy,cm e1]
    exact⟨2,_,_,_,_,_,aQ lY rfl hx e2,RY _ _ _ _,Wk.refl rfl,Wk.refl rfl,trivial⟩
   | true =>
    rw[hc] at h
    simp only[cond_true] at h
    rw[Bool.and_eq_true] at hc
    rw[hc.1] at a7
    rw[hc.2] at a5
    obtain⟨f2,b1,b2,b3,b4,b5⟩:=abt L15 (runK (CC L15) 1) 1 f1 wr1 (eW (jd s)) a2 a3 a5 a6 a7
    obtain⟨f3,wr3,c1,c2,c3,c4,c5,c6⟩:=aeF L15 (runK (CC L15) 1) 1 f2 wr1 (jc s) _ (eW (jd s)) _ (DX _ _ hB) b2 b3 (by rw[b4,a4]) b5
    generalize eW (jd s)=n at *
    generalize eW (jc s)=d at *
    generalize ie (jc s)=ok at *
    unfold abw at h
    cases hg:smB n && (smB d && (smB (Int.ofNat (Nat.gcd n.natAbs d.natAbs)))) with
    | false=>rw[hg] at h;cases h
    | true =>
     rw[hg] at h
     simp only[cond_true] at h
     simp only[Bool.and_eq_true] at hg
     obtain⟨s1,s2,s4⟩:=hg
     have hx0:af (CC L15) (runK (CC L15) 1) 1 rrC ⟨entry 61 [.sc (.string s)],[],[]⟩=af (CC L15) (runK (CC L15) 1) 1 (ah 5 rrC) ⟨f3,[zR4,bW n,bW d],wr3⟩:=by
      rw[aM 3 a1,yy,aw b1,aM 1 c1];rfl
     rcases aeE L15 (runK (CC L15) 1) 1 f3 wr3 ok n d (Int.ofNat (Nat.gcd n.natAbs d.natAbs)) n.sign (fD d 1) (fD (Int.ofNat (Nat.gcd n.natAbs d.natAbs)) 1) (fun _=>Ty _ n (iy s1)) (Tz _) (fun _ _=>JM _ d 1 (iy s2) Bu)
      (fun _ _ _=>Ze _ n d (iy s1) (iy s2)) (fun _ _ _=>JM _ _ 1 (iy s4) Bu) c2 c3 c4 c5 c6 with ⟨hbad,st,e1,e2⟩| ⟨hbad,f4,d1,d2,d3,d4,d5⟩
     ·rw[hbad] at h
      simp only[cond_true,Option.some.injEq] at h
      subst h
      have hx:af (CC L15) (runK (CC L15) 1) 1 rrC ⟨entry 61 [.sc (.string s)],[],[]⟩=some (.ret,st):=by
       rw[hx0,yx,cm e1]
      exact⟨2,_,_,_,[.agg [.sc (.bool false),.sc (.slice none 0 0),.sc (.bool false),.sc (.slice none 0 0)],.sc (.bool false)],[],aQ lY rfl hx e2,rfl,Wk.agg ⟨Wk.refl rfl,Wk.nil false,Wk.refl rfl,Wk.nil false,trivial⟩,Wk.refl rfl,trivial⟩
     ·rw[hbad] at h
      simp only[cond_false,Option.some.injEq] at h
      subst h
      obtain⟨st,e1,e2⟩:=WM L15 (runK (CC L15) 1) 1 f4 wr3 n d d2 d3 d4 d5
      have hx:af (CC L15) (runK (CC L15) 1) 1 rrC ⟨entry 61 [.sc (.string s)],[],[]⟩=some (.ret,st):=by
       rw[hx0,yx,aw d1];exact e1
      exact⟨2,_,_,_,_,_,aQ lY rfl hx e2,RY _ _ _ _,Wk.refl rfl,Wk.refl rfl,trivial⟩
 ·cases h
theorem tu:base.F.get 145=some Tryz.f145:=by kernel_rfl
theorem Om:base.F.get 94=some Tryz.f94:=by kernel_rfl
theorem Iv:base.F.get 43=some Tryz.f43:=by kernel_rfl
theorem Lb:base.shared 145=false:=by kernel_rfl
theorem Wy:base.shared 94=false:=by kernel_rfl
def nd:Nat→Nat→Nat
 | 0,_=>0
 | k+1,x=>bif x.beq 0 then 0 else nd k (x / 10)+1
noncomputable def gV:Code:=Tryz.f145.body.getD .skip
noncomputable def nQ:Code:=((Tryz.f145.body).bind aF).getD .skip
theorem HD (L:Lst)(run:aq)(k:Nat)(fr:List PV)(hp:List Blk)(wr:List Nat)(h29:fr.length=29)(h4:nth fr 4 = .sc (.int .u32 (0:Nat))) :
  ∃ fr',af (CC L) run k nQ ⟨fr,hp,wr⟩=some (.exit 0,⟨fr',hp,wr⟩)∧fr'.length=29∧nth fr' 3=nth fr 3:=by
 simp[nQ,Tryz.f145,aF,af,aH,an,ao,aG,ag,ai,aj,ak,aC,az,FP.none,aY,au,bf,av,aa,ae,ab,h29,h4]
theorem VU (k:IntKind)(a s:Nat)(h:s=a / 10)(hs:s≤hiN k):bA k ((a:Int) / 10)=(s:Int):=by
 have e:((a:Int) / 10)=(s:Int):=by omega
 rw[e];exact dm k _ hs
theorem Bi (L:Lst)(run:aq)(k:Nat)(fr:List PV)(hp:List Blk)(wr:List Nat)(c x y:Nat)(hc:c<100000000)(hx:0<x)(hx2:x≤4294967295)(hy:y=x / 10)(h29:fr.length=29)(h3:nth fr 3 = .sc (.int .i64 (c:Int)))(h4:nth fr 4 = .sc (.int .u32 (x:Int))) :
  ∃ fr',af (CC L) run k nQ ⟨fr,hp,wr⟩=some (.normal,⟨fr',hp,wr⟩)∧fr'.length=29∧nth fr' 3 = .sc (.int .i64 ((c+1:Nat):Int))∧nth fr' 4 = .sc (.int .u32 (y:Int)):=by
 have hw:=bJ c (Nat.lt_trans hc (by decide))
 have hw2:=VU .u32 x y hy (im (by omega))
 simp[nQ,Tryz.f145,aF,af,aH,an,ao,aG,ag,ai,aj,ak,aC,az,FP.none,aY,au,bf,av,aa,ae,ab,h29,h3,h4,hx,hw,hw2]
theorem tn (L:Lst)(run:aq)(k:Nat)(hp:List Blk)(wr:List Nat):∀ (n x c:Nat) (fr:List PV),x<10 ^ n→c+n<100000000→x≤4294967295→fr.length=29→nth fr 3 = .sc (.int .i64 (c:Int))→nth fr 4 = .sc (.int .u32 (x:Int)) →
  ∃ fr',ca (af (CC L) run k nQ) (n+1) ⟨fr,hp,wr⟩=some (.exit 0,⟨fr',hp,wr⟩)∧fr'.length=29∧nth fr' 3 = .sc (.int .i64 ((c+nd n x:Nat):Int))
 | n,x,c,fr,hx,hc,hx2,h29,h3,h4=>by
  by_cases h0:x=0
  ·subst h0
   obtain⟨fr',g1,g2,g3⟩:=HD L run k fr hp wr h29 h4
   refine⟨fr',bz g1,g2,?_⟩
   rw[g3,h3]
   cases n <;> rfl
  ·cases n with
   | zero=>simp at hx;exact absurd hx h0
   | succ n =>
    obtain⟨fr1,g1,g2,g3,g4⟩:=Bi L run k fr hp wr c x _ (by omega) (by omega) hx2 rfl h29 h3 h4
    obtain⟨fr',q1,q2,q3⟩:=tn L run k hp wr n (x / 10) (c+1) fr1 (by rw[Nat.pow_succ] at hx;omega) (by omega) (by omega) g2 g3 g4
    refine⟨fr',by rw[bU g1];exact q1,q2,?_⟩
    rw[q3]
    have hb:x.beq 0=false:=by
     cases x with
     | zero=>exact absurd rfl h0
     | succ x=>rfl
    rw[nd,hb,cond_false]
    congr 3;omega
noncomputable def qc:Code:=seq1 (seq1 (ah 3 gV))
theorem Bh:ah 3 gV = .seq (.seq qc (.block 0 (.loop nQ))) (ah 4 gV):=rfl
theorem HC (L:Lst)(run:aq)(k:Nat)(n:Bool):∃ st,af (CC L) run k gV ⟨entry 29 [wh n []],[],[]⟩=some (.ret,st)∧aV TT st.fr st.hp Tryz.f145.results.toList=some [Ab.bC 0]:=by
 obtain⟨e1,e2⟩:=cQ 28 (wh n [])
 generalize entry 29 [wh n []]=fr0 at *
 rw[show wh n [] = .agg [.sc (.bool n),aL []] from rfl] at e2
 simp[gV,Tryz.f145,e1,e2,af,aH,an,ao,aG,ag,ai,aj,ak,aC,az,FP.none,aY,au,bf,av,bK,bL,partOf,aa,ae,ab,bh,cg,bm,uW,uD,sD,aD,wf0,wf1,aP,aU,aZ,br,aV,Ab.bC]
set_option maxHeartbeats 1000000 in
theorem HB (L:Lst)(run:aq)(k:Nat)(n:Bool)(l:List Nat)(a c:Nat)(hc:c=9*l.length)(hl:l.length<1000000) :
  ∃ f1 fr,aX (CC L) run k 3 gV ⟨entry 29 [wh n (l++[a])],[],[]⟩=some ⟨f1,[⟨.live,[.sc (.bool n),aL (l++[a])]⟩],[0]⟩∧af (CC L) run k qc ⟨f1,[⟨.live,[.sc (.bool n),aL (l++[a])]⟩],[0]⟩=some (.normal,⟨fr,[⟨.live,[.sc (.bool n),aL (l++[a])]⟩],[0]⟩)∧fr.length=29
   ∧ nth fr 3 = .sc (.int .i64 (c:Int))∧nth fr 4 = .sc (.int .u32 (a:Int)):=by
 obtain⟨e1,e2⟩:=cQ 28 (wh n (l++[a]))
 generalize entry 29 [wh n (l++[a])]=fr0 at *
 have hd:(br ((l++[a]).map dg) l.length).head?=some (.sc (.int .u32 a)):=by
  rw[eK _ _ (by simp)];simp[dg]
 have hE:aL (l++[a]) = .imm (l.length+1) false ((l++[a]).map dg):=by simp[aL]
 rw[show wh n (l++[a]) = .agg [.sc (.bool n),aL (l++[a])] from rfl,hE] at e2
 rw[hE]
 obtain⟨m,hm⟩:∃ m,m=l.length:=⟨_,rfl⟩
 rw[← hm] at hd hc e2 hl ⊢
 have hw:bA .i64 (m:Int)=(m:Int):=ch .i64 m (hiI (by omega))
 have hw2:bA .i64 (9*(m:Int))=(c:Int):=by
  have e:(9*(m:Int))=(c:Int):=by omega
  rw[e];exact ch .i64 c (hiI (by omega))
 have hne:((m:Int)+1 == 0)=false:=by
  rw[beq_eq_false_iff_ne];omega
 have hlt:m<m+1:=by omega
 generalize (l++[a]).map dg=cs at *
 have p1:∃ f1,aX (CC L) run k 3 gV ⟨fr0,[],[]⟩=some ⟨f1,[⟨.live,[.sc (.bool n),.imm (m+1) false cs]⟩],[0]⟩∧f1.length=29∧nth f1 1 = .ptr 0 0∧nth f1 3 = .sc (.int .i64 (c:Int)):=by
  simp[gV,Tryz.f145,aX,e1,e2,af,aH,an,ao,aG,ag,ai,aj,ak,aC,az,FP.none,aY,au,bf,av,bK,bL,partOf,aa,ae,ab,bh,cN,bm,uW,uD,sD,aD,wf0,wf1,aP,aU,aZ,br,hne,hw,hw2]
 obtain⟨f1,q1,q2,q3,q4⟩:=p1
 refine⟨f1,?_⟩
 rw[q1]
 have p2:∃ fr,af (CC L) run k qc ⟨f1,[⟨.live,[.sc (.bool n),.imm (m+1) false cs]⟩],[0]⟩=some (.normal,⟨fr,[⟨.live,[.sc (.bool n),.imm (m+1) false cs]⟩],[0]⟩)∧fr.length=29∧nth fr 3 = .sc (.int .i64 (c:Int))∧nth fr 4 = .sc (.int .u32 (a:Int)):=by
  simp[qc,gV,Tryz.f145,ah,seq1,q2,q3,q4,af,aH,an,ao,aG,ag,ai,aj,ak,aC,az,FP.none,aY,au,bf,av,bK,bg,bL,bk,partOf,aa,ae,ab,bh,cN,uW,uD,sD,s32,aD,a32,wf0,wf1,aU,aZ,br,hw,hlt,hd]
 obtain⟨fr,r1,r2⟩:=p2
 exact⟨fr,rfl,r1,r2⟩
theorem Eh (L:Lst)(run:aq)(k:Nat)(fr:List PV)(hp:List Blk)(wr:List Nat)(z:Int)(h29:fr.length=29)(h3:nth fr 3 = .sc (.int .i64 z)) :
  ∃ st,af (CC L) run k (ah 4 gV) ⟨fr,hp,wr⟩=some (.ret,st)∧aV TT st.fr st.hp Tryz.f145.results.toList=some [Ab.bC z]:=by
 simp[gV,Tryz.f145,ah,h29,h3,af,aH,an,ao,aG,ag,ai,aj,ak,aC,az,FP.none,aa,ab,aV,Ab.bC]
def oO (l:List Nat):Nat:=match l.getLast? with
 | none=>0
 | some a=>9*(l.length - 1)+nd 9 a
def lR:List PV→Option (List PV)
 | [.agg [.sc (.bool _),p]]=>match gU p with
  | some l=>some [Ab.bC (Int.ofNat (oO l))]
  | none=>none
 | _=>none
theorem tm:Ab.Spec base.P 145 lR:=Ab.Spec.bN (C:=CC []) (cU trivial) fun args rs h=>by
 unfold lR at h
 split at h
 ·split at h
  ·rename_i n p _ l hl
   obtain⟨rfl,hd,hlen⟩:=dp hl
   simp only[Option.some.injEq] at h
   subst h
   by_cases h0:l=[]
   ·subst h0
    obtain⟨st,e1,e2⟩:=HC [] (runK (CC []) 1) 1 n
    exact⟨2,_,_,_,_,_,aQ tu rfl e1 e2,eF _ _,Wk.refl rfl,trivial⟩
   ·obtain⟨m,a,rfl⟩:∃ m a,l=m++[a]:=⟨l.dropLast,l.getLast h0,(List.dropLast_concat_getLast h0).symm⟩
    have ha:a<1000000000:=hd a (by simp)
    have hm:m.length<1000000:=by simp at hlen;omega
    obtain⟨f1,f2,a1,a2,a3,a4,a5⟩:=HB [] (runK (CC []) 10) 10 n m a (9*m.length) rfl hm
    obtain⟨f3,b1,b2,b3⟩:=tn [] (runK (CC []) 10) 10 [⟨.live,[.sc (.bool n),aL (m++[a])]⟩] [0] 9 a (9*m.length) f2 (Nat.lt_of_lt_of_le ha (by decide)) (by omega) (Nat.le_trans (Nat.le_of_lt ha) (by decide)) a3 a4 a5
    obtain⟨st,e1,e2⟩:=Eh [] (runK (CC []) 10) 10 f3 _ _ _ b2 b3
    have hx:af (CC []) (runK (CC []) 10) 10 gV ⟨entry 29 [wh n (m++[a])],[],[]⟩=some (.ret,st):=by
     rw[aM 3 a1,Bh,aw ((aw a2).trans (bF b1))]
     exact e1
    have hN:oO (m++[a])=9*m.length+nd 9 a:=by simp[oO]
    rw[hN]
    exact⟨11,_,_,_,_,_,aQ tu rfl hx e2,eF _ (9*m.length+nd 9 a:Nat),Wk.refl rfl,trivial⟩
  ·cases h
 ·cases h
noncomputable def L16:Lst:=[(145,lR)]
theorem o16:bu L16 145=fun a=>lR (aJ a):=rfl
theorem g16 (run:aq)(n:Bool)(l:List Nat)(hd:Dok l)(hl:l.length<1000000):ar L16 run 145 [.agg [.sc (.bool n),aL l]] (Ab.bC (Int.ofNat (oO l))):=fun dr hp =>
 bp (L:=L16) (f:=lR) Lb o16 run dr hp _ [Ab.bC (Int.ofNat (oO l))] rfl (by simp only[aJ,canon,iC,aL]) (by simp only[lR,cS hd hl])
theorem M8 (L:Lst)(run:aq)(k:Nat)(n:Bool)(l:List Nat)(c:Nat)(g1:ar L run 145 [.agg [.sc (.bool n),aL l]] (Ab.bC (Int.ofNat c))) :
  ∃ st,af (CC L) run k (Tryz.f94.body.getD .skip) ⟨entry 6 [wh n l],[],[]⟩=some (.ret,st)∧aV TT st.fr st.hp Tryz.f94.results.toList=some [.sc (.bool (decide (1000<c)))]:=by
 obtain⟨e1,e2⟩:=cQ 5 (wh n l)
 generalize entry 6 [wh n l]=fr0 at *
 rw[show wh n l = .agg [.sc (.bool n),aL l] from rfl] at e2
 unfold ar at g1
 simp only[Ab.bC,Int.ofNat_eq_natCast] at g1
 have hc:((c:Int) > 1000)=(1000<c):=by apply propext;omega
 have hc2:((1000:Int)<c)=(1000<c):=by apply propext;omega
 simp[Tryz.f94,e1,e2,af,aH,an,ao,aG,ag,ai,aO,aj,ak,aC,az,FP.none,aY,au,bf,av,partOf,aa,ae,ab,bh,bm,g1,hc,sW,aW,aP,aU,aZ,br,bE,aV]
def zp:List PV→Option (List PV)
 | [.agg [.sc (.bool _),p]]=>match gU p with
  | some l=>some [.sc (.bool (decide (1000<oO l)))]
  | none=>none
 | _=>none
theorem zj:Ab.Spec base.P 94 zp:=Ab.Spec.bN (C:=CC L16) (cU ⟨tm,trivial⟩) fun args rs h=>by
 unfold zp at h
 split at h
 ·split at h
  ·rename_i n p _ l hl
   obtain⟨rfl,hd,hlen⟩:=dp hl
   simp only[Option.some.injEq] at h
   subst h
   obtain⟨st,e1,e2⟩:=M8 L16 (runK (CC L16) 1) 1 n l _ (g16 _ n l hd hlen)
   exact⟨2,_,_,_,_,_,aQ Om rfl e1 e2,vX _ _,Wk.refl rfl,trivial⟩
  ·cases h
 ·cases h
noncomputable def L17:Lst:=[(94,zp)]
theorem o17:bu L17 94=fun a=>zp (aJ a):=rfl
theorem g17 (run:aq)(z:Int)(hz:Sm z):ar L17 run 94 [bn z] (.sc (.bool (decide (1000<oO (aA z.natAbs))))):=fun dr hp =>
 bp (L:=L17) (f:=zp) Wy o17 run dr hp _ [.sc (.bool (decide (1000<oO (aA z.natAbs))))] (lV hp z) (jv z) (by
  show (match gU (aL (aA z.natAbs)) with | some l=>some [PV.sc (.bool (decide (1000<oO l)))] | none=>none)=_
  rw[cS (bP _) hz.lt])
theorem FZ (L:Lst)(run:aq)(k:Nat)(a b:Int)(p q:Bool)(g1:ar L run 94 [bn a] (.sc (.bool p)))(g2:ar L run 94 [bn b] (.sc (.bool q))) :
  ∃ st,af (CC L) run k (Tryz.f43.body.getD .skip) ⟨entry 11 [bV a b],[],[]⟩=some (.ret,st)∧aV TT st.fr st.hp Tryz.f43.results.toList=some [.sc (.bool (p || q))]:=by
 obtain⟨h1,h2⟩:=cQ 10 (bV a b)
 generalize entry 11 [bV a b]=fr0 at *
 unfold ar at *
 simp only[whW,fB] at *
 cases p <;> simp[Tryz.f43,h1,h2,af,aH,an,ao,aG,ag,ai,aO,aj,ak,aC,az,FP.none,av,bL,partOf,aa,ae,ab,bh,bm,g1,g2,undef,uR,sW,aW,rf0,rf1,aP,aU,aZ,bE,br,aV]
def mr:List PV→Option (List PV)
 | [p]=>match gF p with
  | some (a,b)=>some [.sc (.bool (decide (1000<oO (aA a.natAbs)) || decide (1000<oO (aA b.natAbs))))]
  | none=>none
 | _=>none
theorem oz:Ab.Spec base.P 43 mr:=Ab.Spec.bN (C:=CC L17) (cU ⟨zj,trivial⟩) fun args rs h=>by
 unfold mr at h
 split at h
 ·split at h
  ·rename_i a b ex
   obtain⟨rfl,ha,hb⟩:=ed ex
   simp only[Option.some.injEq] at h
   subst h
   obtain⟨st,e1,e2⟩:=FZ L17 (runK (CC L17) 1) 1 a b _ _ (g17 _ a ha) (g17 _ b hb)
   exact⟨2,_,_,_,_,_,aQ Iv rfl e1 e2,vX _ _,Wk.refl rfl,trivial⟩
  ·cases h
 ·cases h
end Go.Proofs.YtjdmodeenbdfpaaGreat
