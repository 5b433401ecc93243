/- Contracts of num's integers, part 26 of the proof; each lemma states its own conditions. -/
import Derived.Test.YtjdmodeenbdfpaaGreatR25
set_option linter.unusedSimpArgs false
set_option linter.unusedVariables false
namespace Go.Proofs.YtjdmodeenbdfpaaGreat
open Go Go.Ab
theorem U6:base.F.get 153=some Tryz.f153:=by kernel_rfl
theorem NO:base.F.get 169=some Tryz.f169:=by kernel_rfl
theorem Ef:base.F.get 183=some Tryz.f183:=by kernel_rfl
theorem mo:base.F.get 108=some Tryz.f108:=by kernel_rfl
theorem aa6:base.shared 153=false:=by kernel_rfl
theorem VZ:base.shared 169=false:=by kernel_rfl
theorem J6:base.shared 183=false:=by kernel_rfl
theorem zM:base.shared 191=false:=by kernel_rfl
abbrev gM:ByteArray:={ data:=#[47] }
theorem ur:bK gM=[47]:=rfl
def idx (s:ByteArray):Int:=bif eqL [47] (bK s) then 0 else Lib.indexByte (bK s) 47
theorem CY (L:Lst)(run:ar)(k:Nat)(s:ByteArray)(g1:aA L run 191 [.sc (.string s),.sc (.int .u8 47)] (.sc (.int .i64 (Lib.indexByte (bK s) 47)))) :
  ∃ st,af (CC L) run k (Tryz.f183.body.getD .skip) ⟨entry 143 [.sc (.string s),.sc (.string gM)],[],[]⟩=some (.ret,st)∧aZ TT st.fr st.hp Tryz.f183.results.toList=some [Ab.bJ (idx s)]:=by
 obtain⟨h1,h2,h3⟩:=cC 141 (.sc (.string s)) (.sc (.string gM))
 generalize entry 143 [.sc (.string s),.sc (.string gM)]=fr0 at *
 unfold aA at g1
 unfold idx
 have hix:hZ TT 9 (.sc (.string gM)) (.sc (.int .i64 0))=some (.sc (.int .u8 47)):=by
  simp[hZ,uS,jA,ur,CH]
 have hst:=ur
 generalize gM=sl at *
 generalize Lib.indexByte (bK s) 47=i at *
 cases he:eqL [47] (bK s) with
 | true=>simp[Tryz.f183,h1,h2,h3,af,aJ,ao,aq,aH,ag,ai,aj,an,aF,aC,FP.none,bd,au,bj,aw,bM,aa,ae,ab,bh,uS,hst,fl,he,aZ,Ab.bJ]
 | false=>simp[Tryz.f183,h1,h2,h3,af,aJ,ao,aq,aH,ag,ai,aQ,aj,an,aF,aC,FP.none,bd,au,bj,aw,bM,aa,ae,ab,bh,uS,hst,fl,he,g1,hix,aZ,Ab.bJ]
def tP:List PV→Option (List PV)
 | [.sc (.string s),.sc (.string p)]=>bif eqL (bK p) [47] then some [Ab.bJ (idx s)] else none
 | _=>none
theorem oT:∀ {a b:List UInt8},eqL a b=true→a=b
 | [],[],_=>rfl
 | a::x,b::y,h=>by
  simp only[eqL,Bool.and_eq_true,beq_iff_eq] at h
  rw[oT h.2,UInt8.toNat_inj.1 h.1]
 | [],_::_,h=>by simp[eqL] at h
 | _::_,[],h=>by simp[eqL] at h
theorem uA {p:ByteArray}(h:eqL (bK p) [47]=true):p=gM:=by
 have:=oT h
 rw[← fx p,this];rfl
noncomputable def L12:Lst:=[(191,ibF)]
theorem g12 (run:ar)(s:ByteArray):aA L12 run 191 [.sc (.string s),.sc (.int .u8 47)] (.sc (.int .i64 (Lib.indexByte (bK s) 47))):=fun dr hp =>
 bu (L:=L12) (f:=ibF) zM rfl run dr hp _ [.sc (.int .i64 (Lib.indexByte (bK s) 47))] rfl rfl rfl
theorem CX:Ab.Spec base.P 183 tP:=Ab.Spec.bQ (C:=CC L12) (cV ⟨Y8,trivial⟩) fun args rs h=>by
 unfold tP at h
 split at h
 ·rename_i s p
  cases hb:eqL (bK p) [47] with
  | false=>rw[hb] at h;cases h
  | true =>
   rw[hb] at h
   simp only[cond_true,Option.some.injEq] at h
   subst h
   rw[uA hb]
   obtain⟨st,e1,e2⟩:=CY L12 (runK (CC L12) 1) 1 s (g12 _ s)
   exact⟨2,_,_,_,_,_,aX Ef rfl e1 e2,eE _ _,Wk.refl rfl,trivial⟩
 ·cases h
def mD (s:ByteArray):List PV:=match idx s with
 | .ofNat i=>[.sc (.string (mkStr ((bK s).take i))),.sc (.string (mkStr ((bK s).drop (i+1)))),.sc (.bool true)]
 | .negSucc _=>[.sc (.string s),.sc (.string { data:=#[] }),.sc (.bool false)]
def lr (s:ByteArray):Bool:=match idx s with
 | .ofNat i=>(i+1).ble (bK s).length && (bK s).length.ble 1000000000
 | .negSucc _=>true
noncomputable def lh:Code:=Tryz.f169.body.getD .skip
noncomputable def GM:Code:=seq1 (seq1 (ah 1 lh))
noncomputable def rF:Code:=cA (seq1 (ah 1 lh))
theorem v7:ah 1 lh = .seq (.seq GM rF) (ah 2 lh):=rfl
theorem SH (L:Lst)(run:ar)(k:Nat)(s sl:ByteArray):∃ fr,aY (CC L) run k 1 lh ⟨entry 23 [.sc (.string s),.sc (.string sl)],[],[]⟩=some ⟨fr,[],[]⟩∧fr.length=23∧nth fr 0 = .sc (.string s)∧nth fr 1 = .sc (.string sl):=by
 obtain⟨h1,h2,h3⟩:=cC 21 (.sc (.string s)) (.sc (.string sl))
 generalize entry 23 [.sc (.string s),.sc (.string sl)]=fr0 at *
 simp[lh,Tryz.f169,aY,h1,h2,h3,af,aJ,ao,aq,aH,ag,ai,aj,an,aF,aC,FP.none,aw,ae,ab]
theorem Y1 (L:Lst)(run:ar)(k:Nat)(fr:List PV)(s sl:ByteArray)(z:Int)(g1:aA L run 183 [.sc (.string s),.sc (.string sl)] (Ab.bJ z))(h1:fr.length=23)(h2:nth fr 0 = .sc (.string s))(h3:nth fr 1 = .sc (.string sl)) :
  ∃ fr',af (CC L) run k GM ⟨fr,[],[]⟩=some (.normal,⟨fr',[],[]⟩)∧fr'.length=23∧nth fr' 0 = .sc (.string s)∧nth fr' 1 = .sc (.string sl)∧nth fr' 7 = .sc (.int .i64 z):=by
 unfold aA at g1
 simp only[Ab.bJ] at g1
 simp[GM,lh,Tryz.f169,ah,seq1,h1,h2,h3,af,aJ,ao,aq,aH,ag,ai,aQ,aj,an,aF,aC,FP.none,aa,ae,ab,g1]
theorem SG (L:Lst)(run:ar)(k:Nat)(fr:List PV)(s sl a b:ByteArray)(z j:Int)(n:Nat)(hz : ¬ (z<0))(hj:bA .i64 (z+n)=j)(hn:(bK sl).length=n)(hs1:dT s none (some (.sc (.int .i64 z))) none=some (.sc (.string a)))(hs2:dT s (some (.sc (.int .i64 j))) none none=some (.sc (.string b)))
  (h1:fr.length=23) (h2:nth fr 0 = .sc (.string s)) (h3:nth fr 1 = .sc (.string sl)) (h7:nth fr 7 = .sc (.int .i64 z)) :
  ∃ st,af (CC L) run k rF ⟨fr,[],[]⟩=some (.ret,st)∧aZ TT st.fr st.hp Tryz.f169.results.toList=some [.sc (.string a),.sc (.string b),.sc (.bool true)]:=by
 have hz':0≤z:=by omega
 simp[rF,lh,Tryz.f169,ah,seq1,cA,h1,h2,h3,h7,af,aJ,ao,aq,aH,ag,ai,aj,an,aF,aC,FP.none,bd,au,bj,aw,bM,aa,ae,ab,bh,uS,hz',hn,hj,dt,hs1,hs2,aZ,number,FP.free]
theorem SE (L:Lst)(run:ar)(k:Nat)(fr:List PV)(s sl:ByteArray)(z:Int)(hz:z<0)(h1:fr.length=23)(h2:nth fr 0 = .sc (.string s))(h3:nth fr 1 = .sc (.string sl))(h7:nth fr 7 = .sc (.int .i64 z)) :
  ∃ st fr',af (CC L) run k rF ⟨fr,[],[]⟩=some (.normal,⟨fr',[],[]⟩)∧af (CC L) run k (ah 2 lh) ⟨fr',[],[]⟩=some (.ret,st)∧aZ TT st.fr st.hp Tryz.f169.results.toList=some [.sc (.string s),.sc (.string { data:=#[] }),.sc (.bool false)]:=by
 have hz' : ¬ (0≤z):=by omega
 have e:∃ fr',af (CC L) run k rF ⟨fr,[],[]⟩=some (.normal,⟨fr',[],[]⟩)∧fr'.length=23∧nth fr' 0 = .sc (.string s):=by
  simp[rF,lh,Tryz.f169,ah,seq1,cA,h1,h2,h7,af,aJ,ao,aq,aH,ag,ai,aj,an,aF,aC,FP.none,bd,au,bj,aw,aa,ae,ab,hz']
 obtain⟨fr',e1,e2,e3⟩:=e
 have e':∃ st,af (CC L) run k (ah 2 lh) ⟨fr',[],[]⟩=some (.ret,st)∧aZ TT st.fr st.hp Tryz.f169.results.toList=some [.sc (.string s),.sc (.string { data:=#[] }),.sc (.bool false)]:=by
  simp[lh,Tryz.f169,ah,e2,e3,af,aJ,ao,aq,aH,ag,ai,aj,an,aF,aC,FP.none,aw,aa,ae,ab,aZ]
 obtain⟨st,e4,e5⟩:=e'
 exact⟨st,fr',e1,e4,e5⟩
theorem GP (L:Lst)(run:ar)(k:Nat)(s:ByteArray)(hk:lr s=true)(g1:aA L run 183 [.sc (.string s),.sc (.string gM)] (Ab.bJ (idx s))) :
  ∃ st,af (CC L) run k lh ⟨entry 23 [.sc (.string s),.sc (.string gM)],[],[]⟩=some (.ret,st)∧aZ TT st.fr st.hp Tryz.f169.results.toList=some (mD s):=by
 obtain⟨f1,a1,a2,a3,a4⟩:=SH L run k s gM
 obtain⟨f2,b1,b2,b3,b4,b5⟩:=Y1 L run k f1 s gM (idx s) g1 a2 a3 a4
 unfold mD
 unfold lr at hk
 cases hi:idx s with
 | ofNat i =>
  rw[hi] at b5 hk
  simp only[Bool.and_eq_true,Nat.ble_eq] at hk
  have hw:=bE i (Nat.lt_of_lt_of_le hk.1 (Nat.le_trans hk.2 (by decide)))
  have hs1:dT s none (some (.sc (.int .i64 (Int.ofNat i)))) none=some (.sc (.string (mkStr ((bK s).take i)))):=by
   have:i≤(bK s).length:=Nat.le_of_succ_le hk.1
   simp[dT,bnd,fk,bm,this]
  have hs2:dT s (some (.sc (.int .i64 ((i:Int)+1)))) none none=some (.sc (.string (mkStr ((bK s).drop (i+1))))):=by
   have:i+1≤(bK s).length:=hk.1
   simp[dT,bnd,fk,iW,this]
  obtain⟨st,c1,c2⟩:=SG L run k f2 s gM _ _ (Int.ofNat i) _ 1 (by simp) hw rfl hs1 hs2 b2 b3 b4 b5
  exact⟨st,by rw[aP 1 a1,v7,cB ((av b1).trans c1)],c2⟩
 | negSucc i =>
  rw[hi] at b5
  obtain⟨st,f3,c1,c2,c3⟩:=SE L run k f2 s gM (Int.negSucc i) (by simp) b2 b3 b4 b5
  exact⟨st,by rw[aP 1 a1,v7,av ((av b1).trans c1)];exact c2,c3⟩
def qn:List PV→Option (List PV)
 | [.sc (.string s),.sc (.string p)]=>bif eqL (bK p) [47] && lr s then some (mD s) else none
 | _=>none
theorem Cu (hp:List Blk)(s:ByteArray):bt (snap hp bp) (mD s)=some (mD s,[]):=by
 unfold mD;cases idx s <;> rfl
theorem H2 (s:ByteArray):WkL (mD s) (mD s):=WkL.refl (by unfold mD;cases idx s <;> rfl)
noncomputable def L13:Lst:=[(183,tP)]
theorem g13 (run:ar)(s:ByteArray):aA L13 run 183 [.sc (.string s),.sc (.string gM)] (Ab.bJ (idx s)):=fun dr hp =>
 bu (L:=L13) (f:=tP) J6 rfl run dr hp _ [Ab.bJ (idx s)] rfl rfl rfl
theorem GN:Ab.Spec base.P 169 qn:=Ab.Spec.bQ (C:=CC L13) (cV ⟨CX,trivial⟩) fun args rs h=>by
 unfold qn at h
 split at h
 ·rename_i s p
  cases hb:eqL (bK p) [47] && lr s with
  | false=>rw[hb] at h;cases h
  | true =>
   rw[hb] at h
   simp only[cond_true,Option.some.injEq] at h
   subst h
   rw[Bool.and_eq_true] at hb
   rw[uA hb.1]
   obtain⟨st,e1,e2⟩:=GP L13 (runK (CC L13) 1) 1 s hb.2 (g13 _ s)
   exact⟨2,_,_,_,_,_,aX NO rfl e1 e2,Cu _ _,H2 _⟩
 ·cases h
noncomputable def L14:Lst:=[(169,qn)]
theorem g14 (run:ar)(s:ByteArray)(hk:lr s=true):aA L14 run 169 [.sc (.string s),.sc (.string gM)] (iO (mD s)):=fun dr hp =>
 bu (L:=L14) (f:=qn) VZ rfl run dr hp _ (mD s) rfl rfl (by
  show (bif true && lr s then some (mD s) else none)=_
  rw[hk];rfl)
theorem MX (L:Lst)(run:ar)(k:Nat)(s:ByteArray)(g1:aA L run 169 [.sc (.string s),.sc (.string gM)] (iO (mD s))) :
  ∃ st,af (CC L) run k (Tryz.f153.body.getD .skip) ⟨entry 13 [.sc (.string s),.sc (.string gM)],[],[]⟩=some (.ret,st)∧aZ TT st.fr st.hp Tryz.f153.results.toList=some (mD s):=by
 obtain⟨h1,h2,h3⟩:=cC 11 (.sc (.string s)) (.sc (.string gM))
 generalize entry 13 [.sc (.string s),.sc (.string gM)]=fr0 at *
 unfold aA at g1
 unfold mD at g1 ⊢
 cases hi:idx s <;> rw[hi] at g1 <;> simp only[iO] at g1 ⊢ <;> simp[Tryz.f153,h1,h2,h3,af,aJ,ao,aq,aH,ag,ai,aQ,aj,an,aF,aC,FP.none,aw,aa,ae,ab,g1,aZ]
theorem MW:Ab.Spec base.P 153 qn:=Ab.Spec.bQ (C:=CC L14) (cV ⟨GN,trivial⟩) fun args rs h=>by
 unfold qn at h
 split at h
 ·rename_i s p
  cases hb:eqL (bK p) [47] && lr s with
  | false=>rw[hb] at h;cases h
  | true =>
   rw[hb] at h
   simp only[cond_true,Option.some.injEq] at h
   subst h
   rw[Bool.and_eq_true] at hb
   rw[uA hb.1]
   obtain⟨st,e1,e2⟩:=MX L14 (runK (CC L14) 1) 1 s (g14 _ s hb.2)
   exact⟨2,_,_,_,_,_,aX U6 rfl e1 e2,Cu _ _,H2 _⟩
 ·cases h
noncomputable def rrC:Code:=Tryz.f108.body.getD .skip
noncomputable def KF:Code:=seq1 (ah 3 rrC)
noncomputable def BO:Code:=seq1 (ah 5 rrC)
theorem x8:ah 3 rrC = .seq KF (ah 4 rrC):=rfl
theorem x7:ah 5 rrC = .seq BO (ah 6 rrC):=rfl
theorem aba (L:Lst)(run:ar)(k:Nat)(s s1 t1:ByteArray)(sl ok:Bool)(n:Int)(g1:aA L run 153 [.sc (.string s),.sc (.string gM)] (.tup [.sc (.string s1),.sc (.string t1),.sc (.bool sl)]))(g2:aA L run 154 [.sc (.string s1)] (.tup [bq n,.sc (.bool ok)])) :
  ∃ fr wr,aY (CC L) run k 3 rrC ⟨entry 61 [.sc (.string s)],[],[]⟩=some ⟨fr,[zR4,bW n],wr⟩∧fr.length=61∧nth fr 2 = .ptr 0 0∧nth fr 5 = .sc (.string t1)∧nth fr 6 = .sc (.bool sl)∧nth fr 7 = .ptr 1 0∧nth fr 8 = .sc (.bool ok):=by
 obtain⟨h1,h2⟩:=cW 60 (.sc (.string s))
 generalize entry 61 [.sc (.string s)]=fr0 at *
 unfold aA at g1 g2
 simp only[whW,bW] at g2 ⊢
 generalize aG n.natAbs=rn at *
 generalize bx n=nn at *
 simp[rrC,Tryz.f108,aY,h1,h2,af,aJ,ao,aq,aH,ag,ai,aQ,aj,an,aF,aC,FP.none,aw,aa,ae,ab,bh,and_assoc,bn,bX,bC,bg,g1,g2,zR,zW,sW,aO,aV,bO,cj]
theorem aa9 (L:Lst)(run:ar)(k:Nat)(fr:List PV)(wr:List Nat)(sl ok:Bool)(n:Int)(hb:ok=false∨sl=false)(g1:aA L run 97 [.sc (.int .i64 1)] (bq 1))
  (h1:fr.length=61) (h2:nth fr 2 = .ptr 0 0) (h6:nth fr 6 = .sc (.bool sl)) (h7:nth fr 7 = .ptr 1 0) (h8:nth fr 8 = .sc (.bool ok)) :
  ∃ st,af (CC L) run k KF ⟨fr,[zR4,bW n],wr⟩=some (.ret,st)∧aZ TT st.fr st.hp Tryz.f108.results.toList=some [cb n 1,.sc (.bool ok)]:=by
 unfold aA at g1
 rw[fg]
 simp only[whW,bW] at g1 ⊢
 generalize aG n.natAbs=rn at *
 generalize bx n=nn at *
 generalize aG (1:Int).natAbs=r1 at *
 generalize bx 1=n1 at *
 rcases hb with rfl | rfl
 ·simp[KF,rrC,Tryz.f108,ah,seq1,h1,h2,h7,h8,af,aJ,ao,aq,aH,ag,ai,aQ,aj,an,aF,aC,FP.none,aw,partOf,unP,aa,ae,ab,bh,bn,bX,bC,bg,undef,g1,uR,sR,sW,aR,aW,zR,rf0,rf1,eN,dR,jM,aU,aV,bO,cj,bG,br,aZ,number,FP.free,cF,FP.apart]
 ·cases ok <;> simp[KF,rrC,Tryz.f108,ah,seq1,h1,h2,h6,h7,h8,af,aJ,ao,aq,aH,ag,ai,aQ,aj,an,aF,aC,FP.none,aw,partOf,unP,aa,ae,ab,bh,bn,bX,bC,bg,undef,g1,uR,sR,sW,aR,aW,zR,rf0,rf1,eN,dR,jM,aU,aV,bO,cj,bG,br,aZ,number,FP.free,cF,FP.apart]
theorem aa8 (L:Lst)(run:ar)(k:Nat)(fr:List PV)(wr:List Nat)(n:Int)(h1:fr.length=61)(h2:nth fr 2 = .ptr 0 0)(h6:nth fr 6 = .sc (.bool true))(h7:nth fr 7 = .ptr 1 0)(h8:nth fr 8 = .sc (.bool true)) :
  ∃ fr',af (CC L) run k KF ⟨fr,[zR4,bW n],wr⟩=some (.normal,⟨fr',[zR4,bW n],wr⟩)∧fr'.length=61∧nth fr' 2 = .ptr 0 0∧nth fr' 5=nth fr 5∧nth fr' 7 = .ptr 1 0:=by
 simp[KF,rrC,Tryz.f108,ah,seq1,h1,h2,h6,h7,h8,af,aJ,ao,aq,aH,ag,ai,aj,an,aF,aC,FP.none,unP,aa,ae,ab]
theorem aeC (L:Lst)(run:ar)(k:Nat)(fr:List PV)(wr:List Nat)(t1:ByteArray)(ok:Bool)(n d:Int)(g1:aA L run 154 [.sc (.string t1)] (.tup [bq d,.sc (.bool ok)]))(h1:fr.length=61)(h2:nth fr 2 = .ptr 0 0)(h5:nth fr 5 = .sc (.string t1))(h7:nth fr 7 = .ptr 1 0) :
  ∃ fr' wr',aY (CC L) run k 1 (ah 4 rrC) ⟨fr,[zR4,bW n],wr⟩=some ⟨fr',[zR4,bW n,bW d],wr'⟩∧fr'.length=61∧nth fr' 2 = .ptr 0 0∧nth fr' 7 = .ptr 1 0∧nth fr' 9 = .ptr 2 0∧nth fr' 8 = .sc (.bool ok):=by
 unfold aA at g1
 simp only[whW,bW] at g1 ⊢
 generalize aG n.natAbs=rn at *
 generalize bx n=nn at *
 generalize aG d.natAbs=rd at *
 generalize bx d=nd at *
 simp[rrC,Tryz.f108,ah,aY,h1,h2,h5,h7,af,aJ,ao,aq,aH,ag,ai,aQ,aj,an,aF,aC,FP.none,aa,ae,ab,bh,and_assoc,bn,bX,bC,bg,g1,zW,sW,aO,aV,bO,cj]
def uN (ok:Bool)(s c1 c2:Int):Bool := !ok || (s == 0 || (decide (c1≤0) || c2 != 0))
set_option maxHeartbeats 4000000 in
theorem aeB (L:Lst)(run:ar)(k:Nat)(fr:List PV)(wr:List Nat)(ok:Bool)(n d g:Int)(s c1 c2:Int)(g1:ok=true→aA L run 101 [bq n] (Ab.bJ s))(g0:aA L run 97 [.sc (.int .i64 1)] (bq 1))(g2:ok=true→s≠0→aA L run 96 [bq d,bq 1] (Ab.bJ c1))
  (g3:ok=true→s≠0 → ¬ (c1≤0)→aA L run 150 [bq n,bq d] (bq g)) (g4:ok=true→s≠0 → ¬ (c1≤0)→aA L run 96 [bq g,bq 1] (Ab.bJ c2))
  (h1:fr.length=61) (h2:nth fr 2 = .ptr 0 0) (h7:nth fr 7 = .ptr 1 0) (h9:nth fr 9 = .ptr 2 0) (h8:nth fr 8 = .sc (.bool ok)) :
  (uN ok s c1 c2=true∧∃ st,af (CC L) run k BO ⟨fr,[zR4,bW n,bW d],wr⟩=some (.ret,st)∧aZ TT st.fr st.hp Tryz.f108.results.toList=some [.agg [.sc (.bool false),.sc (.slice none 0 0),.sc (.bool false),.sc (.slice none 0 0)],.sc (.bool false)]) ∨
  (uN ok s c1 c2=false∧∃ fr',af (CC L) run k BO ⟨fr,[zR4,bW n,bW d],wr⟩=some (.normal,⟨fr',[zR4,bW n,bW d],wr⟩)∧fr'.length=61∧nth fr' 2 = .ptr 0 0∧nth fr' 7 = .ptr 1 0∧nth fr' 9 = .ptr 2 0):=by
 unfold uN
 unfold aA at *
 simp only[whW,bW,Ab.bJ] at *
 generalize aG n.natAbs=rn at *
 generalize bx n=nn at *
 generalize aG d.natAbs=rd at *
 generalize bx d=nd at *
 generalize aG g.natAbs=rg at *
 generalize bx g=ng at *
 generalize aG (1:Int).natAbs=r1 at *
 generalize bx 1=n1 at *
 cases ok with
 | false =>
  refine .inl ⟨rfl,?_⟩
  simp[BO,rrC,Tryz.f108,ah,seq1,h1,h2,h8,af,aJ,ao,aq,aH,ag,ai,aj,an,aF,aC,FP.none,aw,partOf,unP,aa,ae,ab,bh,bn,bC,fw,bg,undef,uR,sR,sW,aR,zR,rf0,rf1,eN,dR,aU,aV,bO,cj,bG,br,aZ,number,FP.free]
 | true =>
  have g1:=g1 rfl
  by_cases hs:s=0
  ·refine .inl ⟨by simp[hs],?_⟩
   have hs':(s == 0)=true:=by simpa using hs
   simp[BO,rrC,Tryz.f108,ah,seq1,h1,h2,h7,h8,g1,hs',af,aJ,ao,aq,aH,ag,ai,aQ,aj,an,aF,aC,FP.none,bd,au,bj,aw,partOf,unP,aa,ae,ab,bh,bn,bC,fw,bg,undef,uR,sR,sW,aR,aW,zR,rf0,rf1,eN,dR,aU,aV,bO,cj,bG,br,aZ,number,FP.free]
  ·have g2:=g2 rfl hs
   have hs':(s == 0)=false:=by simpa using hs
   by_cases hc:c1≤0
   ·refine .inl ⟨by simp[hc],?_⟩
    simp[BO,rrC,Tryz.f108,ah,seq1,h1,h2,h7,h8,h9,g1,g0,g2,hs',hc,af,aJ,ao,aq,aH,ag,ai,aQ,aj,an,aF,aC,FP.none,bd,au,bj,aw,partOf,unP,aa,ae,ab,bh,bn,bC,fw,bg,undef,uR,sR,sW,aR,aW,zR,rf0,rf1,eN,dR,aU,aV,bO,cj,bG,br,aZ,number,FP.free,cF,FP.apart]
   ·have g3:=g3 rfl hs hc
    have g4:=g4 rfl hs hc
    by_cases hc2:c2=0
    ·have hc2':(c2 != 0)=false:=by simpa using hc2
     refine .inr ⟨by simp[hc,hc2,hs],?_⟩
     simp[BO,rrC,Tryz.f108,ah,seq1,h1,h2,h7,h8,h9,g1,g0,g2,g3,g4,hs',hc,hc2',af,aJ,ao,aq,aH,ag,ai,aQ,aj,an,aF,aC,FP.none,bd,au,bj,aw,partOf,unP,aa,ae,ab,bh,sW,aW,aU,aV,bG,br,number,FP.free,cF,FP.apart]
    ·have hc2':(c2 != 0)=true:=by simpa using hc2
     refine .inl ⟨by simp[hc,hc2,hs],?_⟩
     simp[BO,rrC,Tryz.f108,ah,seq1,h1,h2,h7,h8,h9,g1,g0,g2,g3,g4,hs',hc,hc2',af,aJ,ao,aq,aH,ag,ai,aQ,aj,an,aF,aC,FP.none,bd,au,bj,aw,partOf,unP,aa,ae,ab,bh,bn,bC,fw,bg,undef,uR,sR,sW,aR,aW,zR,rf0,rf1,eN,dR,aU,aV,bO,cj,bG,br,aZ,number,FP.free,cF,FP.apart]
theorem V9 (L:Lst)(run:ar)(k:Nat)(fr:List PV)(wr:List Nat)(n d:Int)(h1:fr.length=61)(h2:nth fr 2 = .ptr 0 0)(h7:nth fr 7 = .ptr 1 0)(h9:nth fr 9 = .ptr 2 0) :
  ∃ st,af (CC L) run k (ah 6 rrC) ⟨fr,[zR4,bW n,bW d],wr⟩=some (.ret,st)∧aZ TT st.fr st.hp Tryz.f108.results.toList=some [cb n d,.sc (.bool true)]:=by
 rw[fg]
 simp only[bW]
 generalize aG n.natAbs=rn at *
 generalize bx n=nn at *
 generalize aG d.natAbs=rd at *
 generalize bx d=nd at *
 simp[rrC,Tryz.f108,ah,h1,h2,h7,h9,af,aJ,ao,aq,aH,ag,ai,aj,an,aF,aC,FP.none,aw,partOf,aa,ae,ab,bh,bn,bX,bC,bg,uR,sR,sW,aR,aW,zR,rf0,rf1,eN,dR,jM,aU,aV,bO,cj,bG,br,aZ,number,FP.free,cF,FP.apart]
noncomputable def L15:Lst:=[(153,qn),(154,x9),(97,ofF),(101,jf),(96,qo),(150,wo)]
theorem ad8:dL base.P L15:=⟨MW,KP,lV,jD,nB,pW,trivial⟩
theorem X8:bw L15 153=fun a=>qn (aK a):=rfl
theorem RE:bw L15 154=fun a=>x9 (aK a):=rfl
theorem abX:bw L15 97=fun a=>ofF (aK a):=rfl
theorem RD:bw L15 101=fun a=>jf (aK a):=rfl
theorem X9:bw L15 96=fun a=>qo (aK a):=rfl
theorem X7:bw L15 150=fun a=>wo (aK a):=rfl
def jn (s:ByteArray):ByteArray:=match idx s with
 | .ofNat i=>mkStr ((bK s).take i)
 | .negSucc _=>s
def jm (s:ByteArray):ByteArray:=match idx s with
 | .ofNat i=>mkStr ((bK s).drop (i+1))
 | .negSucc _=>{ data:=#[] }
def tw (s:ByteArray):Bool:=match idx s with
 | .ofNat _=>true
 | .negSucc _=>false
theorem ZQ (s:ByteArray):mD s=[.sc (.string (jn s)),.sc (.string (jm s)),.sc (.bool (tw s))]:=by
 unfold mD jn jm tw
 cases idx s <;> rfl
theorem TY (s:ByteArray):(bys (jn s)).length≤(bys s).length:=by
 unfold jn
 cases idx s with
 | ofNat i=>simp only[jz,ff,List.length_take];omega
 | negSucc i=>exact Nat.le_refl _
theorem TX (s:ByteArray):(bys (jm s)).length≤(bys s).length:=by
 unfold jm
 cases idx s with
 | ofNat i=>simp only[jz,ff,List.length_drop];omega
 | negSucc i=>exact Nat.zero_le _
def eQ (s:ByteArray):Int:=match gH s with
 | some z=>z
 | none=>0
def ir (s:ByteArray):Bool:=match gH s with
 | some _=>true
 | none=>false
theorem Zj (run:ar)(s:ByteArray)(hk:lr s=true):aA L15 run 153 [.sc (.string s),.sc (.string gM)] (.tup [.sc (.string (jn s)),.sc (.string (jm s)),.sc (.bool (tw s))]):=fun dr hp =>
 bu (L:=L15) (f:=qn) aa6 X8 run dr hp _ [.sc (.string (jn s)),.sc (.string (jm s)),.sc (.bool (tw s))] rfl rfl (by
  rw[← ZQ]
  show (bif true && lr s then some (mD s) else none)=_
  rw[hk];rfl)
theorem De (run:ar)(s:ByteArray)(hl:(bys s).length<3000000):aA L15 run 154 [.sc (.string s)] (.tup [bq (eQ s),.sc (.bool (ir s))]):=fun dr hp =>
 bu (L:=L15) (f:=x9) VU RE run dr hp _ [bq (eQ s),.sc (.bool (ir s))] rfl rfl (by
  have h:(bys s).length.blt 3000000=true:=by rw[Nat.blt_eq];exact hl
  simp only[x9,h,cond_true]
  unfold eQ ir
  cases gH s <;> rfl)
theorem SY (run:ar):aA L15 run 97 [.sc (.int .i64 1)] (bq 1):=fun dr hp =>
 bu (L:=L15) (f:=ofF) xX abX run dr hp _ [bq 1] rfl rfl rfl
theorem SX (run:ar)(x:Int)(hx:Sm x):aA L15 run 101 [bq x] (Ab.bJ x.sign):=fun dr hp =>
 bu (L:=L15) (f:=jf) tH RD run dr hp _ [Ab.bJ x.sign] (ml hp x) (jy x) (by simp only[jf,cJ hx])
theorem I8 (run:ar)(x y:Int)(hx:Sm x)(hy:Sm y):aA L15 run 96 [bq x,bq y] (Ab.bJ (fF x y)):=fun dr hp =>
 bu (L:=L15) (f:=qo) EX X9 run dr hp _ [Ab.bJ (fF x y)] (fK hp x y) (eY x y) (by simp only[qo,cJ hx,cJ hy])
theorem Zi (run:ar)(x y:Int)(hx:Sm x)(hy:Sm y):aA L15 run 150 [bq x,bq y] (bq (Int.ofNat (Nat.gcd x.natAbs y.natAbs))):=fun dr hp =>
 bu (L:=L15) (f:=wo) OK X7 run dr hp _ [bq (Int.ofNat (Nat.gcd x.natAbs y.natAbs))] (fK hp x y) (eY x y) (by simp only[wo,cJ hx,cJ hy])
def abb (n d:Int)(ok:Bool):Option (List PV) :=
 bif smB n && (smB d && (smB (Int.ofNat (Nat.gcd n.natAbs d.natAbs)))) then
  bif uN ok n.sign (fF d 1) (fF (Int.ofNat (Nat.gcd n.natAbs d.natAbs)) 1) then some [cb 0 0,.sc (.bool false)] else some [cb n d,.sc (.bool true)]
 else none
def rrF:List PV→Option (List PV)
 | [.sc (.string s)]=>bif (bys s).length.blt 3000000 && lr s then
   (bif ir (jn s) && tw s then abb (eQ (jn s)) (eQ (jm s)) (ir (jm s)) else some [cb (eQ (jn s)) 1,.sc (.bool (ir (jn s)))]) else none
 | _=>none
theorem Q7 (hp:List Blk)(n d:Int)(b:Bool):bt (snap hp bp) [cb n d,.sc (.bool b)]=some ([cb n d,.sc (.bool b)],[]):=rfl
theorem tK:Ab.Spec base.P 108 rrF:=Ab.Spec.bQ (C:=CC L15) (cV ad8) fun args rs h=>by
 unfold rrF at h
 split at h
 ·rename_i s
  cases hb:(bys s).length.blt 3000000 && lr s with
  | false=>rw[hb] at h;cases h
  | true =>
   rw[hb] at h
   simp only[cond_true] at h
   simp only[Bool.and_eq_true,Nat.blt_eq] at hb
   have hA:=Nat.lt_of_le_of_lt (TY s) hb.1
   have hB:=Nat.lt_of_le_of_lt (TX s) hb.1
   obtain⟨f1,wr1,a1,a2,a3,a4,a5,a6,a7⟩:=aba L15 (runK (CC L15) 1) 1 s _ _ _ _ _ (Zj _ s hb.2) (De _ _ hA)
   cases hc:ir (jn s) && tw s with
   | false =>
    rw[hc] at h
    simp only[cond_false,Option.some.injEq] at h
    subst h
    have hor:ir (jn s)=false∨tw s=false:=by
     revert hc;cases ir (jn s) <;> cases tw s <;> simp
    obtain⟨st,e1,e2⟩:=aa9 L15 (runK (CC L15) 1) 1 f1 wr1 _ _ _ hor (SY _) a2 a3 a5 a6 a7
    have hx:af (CC L15) (runK (CC L15) 1) 1 rrC ⟨entry 61 [.sc (.string s)],[],[]⟩=some (.ret,st):=by
     rw[aP 3 a1,x8,cB e1]
    exact⟨2,_,_,_,_,_,aX mo rfl hx e2,Q7 _ _ _ _,Wk.refl rfl,Wk.refl rfl,trivial⟩
   | true =>
    rw[hc] at h
    simp only[cond_true] at h
    rw[Bool.and_eq_true] at hc
    rw[hc.1] at a7
    rw[hc.2] at a5
    obtain⟨f2,b1,b2,b3,b4,b5⟩:=aa8 L15 (runK (CC L15) 1) 1 f1 wr1 (eQ (jn s)) a2 a3 a5 a6 a7
    obtain⟨f3,wr3,c1,c2,c3,c4,c5,c6⟩:=aeC L15 (runK (CC L15) 1) 1 f2 wr1 (jm s) _ (eQ (jn s)) _ (De _ _ hB) b2 b3 (by rw[b4,a4]) b5
    generalize eQ (jn s)=n at *
    generalize eQ (jm s)=d at *
    generalize ir (jm s)=ok at *
    unfold abb at h
    cases hg:smB n && (smB d && (smB (Int.ofNat (Nat.gcd n.natAbs d.natAbs)))) with
    | false=>rw[hg] at h;cases h
    | true =>
     rw[hg] at h
     simp only[cond_true] at h
     simp only[Bool.and_eq_true] at hg
     obtain⟨s1,s2,s4⟩:=hg
     have hx0:af (CC L15) (runK (CC L15) 1) 1 rrC ⟨entry 61 [.sc (.string s)],[],[]⟩=af (CC L15) (runK (CC L15) 1) 1 (ah 5 rrC) ⟨f3,[zR4,bW n,bW d],wr3⟩:=by
      rw[aP 3 a1,x8,av b1,aP 1 c1];rfl
     rcases aeB L15 (runK (CC L15) 1) 1 f3 wr3 ok n d (Int.ofNat (Nat.gcd n.natAbs d.natAbs)) n.sign (fF d 1) (fF (Int.ofNat (Nat.gcd n.natAbs d.natAbs)) 1) (fun _=>SX _ n (iL s1)) (SY _) (fun _ _=>I8 _ d 1 (iL s2) AR)
      (fun _ _ _=>Zi _ n d (iL s1) (iL s2)) (fun _ _ _=>I8 _ _ 1 (iL s4) AR) c2 c3 c4 c5 c6 with ⟨hbad,st,e1,e2⟩| ⟨hbad,f4,d1,d2,d3,d4,d5⟩
     ·rw[hbad] at h
      simp only[cond_true,Option.some.injEq] at h
      subst h
      have hx:af (CC L15) (runK (CC L15) 1) 1 rrC ⟨entry 61 [.sc (.string s)],[],[]⟩=some (.ret,st):=by
       rw[hx0,x7,cB e1]
      exact⟨2,_,_,_,[.agg [.sc (.bool false),.sc (.slice none 0 0),.sc (.bool false),.sc (.slice none 0 0)],.sc (.bool false)],[],aX mo rfl hx e2,rfl,Wk.agg ⟨Wk.refl rfl,Wk.nil false,Wk.refl rfl,Wk.nil false,trivial⟩,Wk.refl rfl,trivial⟩
     ·rw[hbad] at h
      simp only[cond_false,Option.some.injEq] at h
      subst h
      obtain⟨st,e1,e2⟩:=V9 L15 (runK (CC L15) 1) 1 f4 wr3 n d d2 d3 d4 d5
      have hx:af (CC L15) (runK (CC L15) 1) 1 rrC ⟨entry 61 [.sc (.string s)],[],[]⟩=some (.ret,st):=by
       rw[hx0,x7,av d1];exact e1
      exact⟨2,_,_,_,_,_,aX mo rfl hx e2,Q7 _ _ _ _,Wk.refl rfl,Wk.refl rfl,trivial⟩
 ·cases h
theorem tp:base.F.get 145=some Tryz.f145:=by kernel_rfl
theorem NN:base.F.get 94=some Tryz.f94:=by kernel_rfl
theorem HP:base.F.get 43=some Tryz.f43:=by kernel_rfl
theorem J3:base.shared 145=false:=by kernel_rfl
theorem VY:base.shared 94=false:=by kernel_rfl
def nd:Nat→Nat→Nat
 | 0,_=>0
 | k+1,x=>bif x.beq 0 then 0 else nd k (x / 10)+1
noncomputable def gX:Code:=Tryz.f145.body.getD .skip
noncomputable def od:Code:=((Tryz.f145.body).bind az).getD .skip
theorem G5 (L:Lst)(run:ar)(k:Nat)(fr:List PV)(hp:List Blk)(wr:List Nat)(h29:fr.length=29)(h4:nth fr 4 = .sc (.int .u32 (0:Nat))) :
  ∃ fr',af (CC L) run k od ⟨fr,hp,wr⟩=some (.exit 0,⟨fr',hp,wr⟩)∧fr'.length=29∧nth fr' 3=nth fr 3:=by
 simp[od,Tryz.f145,az,af,aJ,ao,aq,aH,ag,ai,aj,an,aF,aC,FP.none,bd,au,bj,aw,aa,ae,ab,h29,h4]
theorem Vz (k:IntKind)(a s:Nat)(h:s=a / 10)(hs:s≤hiN k):bA k ((a:Int) / 10)=(s:Int):=by
 have e:((a:Int) / 10)=(s:Int):=by omega
 rw[e];exact dy k _ hs
theorem AH (L:Lst)(run:ar)(k:Nat)(fr:List PV)(hp:List Blk)(wr:List Nat)(c x y:Nat)(hc:c<100000000)(hx:0<x)(hx2:x≤4294967295)(hy:y=x / 10)(h29:fr.length=29)(h3:nth fr 3 = .sc (.int .i64 (c:Int)))(h4:nth fr 4 = .sc (.int .u32 (x:Int))) :
  ∃ fr',af (CC L) run k od ⟨fr,hp,wr⟩=some (.normal,⟨fr',hp,wr⟩)∧fr'.length=29∧nth fr' 3 = .sc (.int .i64 ((c+1:Nat):Int))∧nth fr' 4 = .sc (.int .u32 (y:Int)):=by
 have hw:=bE c (Nat.lt_trans hc (by decide))
 have hw2:=Vz .u32 x y hy (iB (by omega))
 simp[od,Tryz.f145,az,af,aJ,ao,aq,aH,ag,ai,aj,an,aF,aC,FP.none,bd,au,bj,aw,aa,ae,ab,h29,h3,h4,hx,hw,hw2]
theorem tg (L:Lst)(run:ar)(k:Nat)(hp:List Blk)(wr:List Nat):∀ (n x c:Nat) (fr:List PV),x<10 ^ n→c+n<100000000→x≤4294967295→fr.length=29→nth fr 3 = .sc (.int .i64 (c:Int))→nth fr 4 = .sc (.int .u32 (x:Int)) →
  ∃ fr',cl (af (CC L) run k od) (n+1) ⟨fr,hp,wr⟩=some (.exit 0,⟨fr',hp,wr⟩)∧fr'.length=29∧nth fr' 3 = .sc (.int .i64 ((c+nd n x:Nat):Int))
 | n,x,c,fr,hx,hc,hx2,h29,h3,h4=>by
  by_cases h0:x=0
  ·subst h0
   obtain⟨fr',g1,g2,g3⟩:=G5 L run k fr hp wr h29 h4
   refine⟨fr',bD g1,g2,?_⟩
   rw[g3,h3]
   cases n <;> rfl
  ·cases n with
   | zero=>simp at hx;exact absurd hx h0
   | succ n =>
    obtain⟨fr1,g1,g2,g3,g4⟩:=AH L run k fr hp wr c x _ (by omega) (by omega) hx2 rfl h29 h3 h4
    obtain⟨fr',q1,q2,q3⟩:=tg L run k hp wr n (x / 10) (c+1) fr1 (by rw[Nat.pow_succ] at hx;omega) (by omega) (by omega) g2 g3 g4
    refine⟨fr',by rw[ch g1];exact q1,q2,?_⟩
    rw[q3]
    have hb:x.beq 0=false:=by
     cases x with
     | zero=>exact absurd rfl h0
     | succ x=>rfl
    rw[nd,hb,cond_false]
    congr 3;omega
noncomputable def qh:Code:=seq1 (seq1 (ah 3 gX))
theorem AG:ah 3 gX = .seq (.seq qh (.block 0 (.loop od))) (ah 4 gX):=rfl
theorem G4 (L:Lst)(run:ar)(k:Nat)(n:Bool):∃ st,af (CC L) run k gX ⟨entry 29 [wh n []],[],[]⟩=some (.ret,st)∧aZ TT st.fr st.hp Tryz.f145.results.toList=some [Ab.bJ 0]:=by
 obtain⟨e1,e2⟩:=cW 28 (wh n [])
 generalize entry 29 [wh n []]=fr0 at *
 rw[show wh n [] = .agg [.sc (.bool n),aM []] from rfl] at e2
 simp[gX,Tryz.f145,e1,e2,af,aJ,ao,aq,aH,ag,ai,aj,an,aF,aC,FP.none,bd,au,bj,aw,bM,bL,partOf,aa,ae,ab,bh,ct,bn,uW,uD,sD,aD,wf0,wf1,aO,aU,aV,br,aZ,Ab.bJ]
set_option maxHeartbeats 1000000 in
theorem G0 (L:Lst)(run:ar)(k:Nat)(n:Bool)(l:List Nat)(a c:Nat)(hc:c=9*l.length)(hl:l.length<1000000) :
  ∃ f1 fr,aY (CC L) run k 3 gX ⟨entry 29 [wh n (l++[a])],[],[]⟩=some ⟨f1,[⟨.live,[.sc (.bool n),aM (l++[a])]⟩],[0]⟩∧af (CC L) run k qh ⟨f1,[⟨.live,[.sc (.bool n),aM (l++[a])]⟩],[0]⟩=some (.normal,⟨fr,[⟨.live,[.sc (.bool n),aM (l++[a])]⟩],[0]⟩)∧fr.length=29
   ∧ nth fr 3 = .sc (.int .i64 (c:Int))∧nth fr 4 = .sc (.int .u32 (a:Int)):=by
 obtain⟨e1,e2⟩:=cW 28 (wh n (l++[a]))
 generalize entry 29 [wh n (l++[a])]=fr0 at *
 have hd:(br ((l++[a]).map dg) l.length).head?=some (.sc (.int .u32 a)):=by
  rw[eJ _ _ (by simp)];simp[dg]
 have hE:aM (l++[a]) = .imm (l.length+1) false ((l++[a]).map dg):=by simp[aM]
 rw[show wh n (l++[a]) = .agg [.sc (.bool n),aM (l++[a])] from rfl,hE] at e2
 rw[hE]
 obtain⟨m,hm⟩:∃ m,m=l.length:=⟨_,rfl⟩
 rw[← hm] at hd hc e2 hl ⊢
 have hw:bA .i64 (m:Int)=(m:Int):=cu .i64 m (hiI (by omega))
 have hw2:bA .i64 (9*(m:Int))=(c:Int):=by
  have e:(9*(m:Int))=(c:Int):=by omega
  rw[e];exact cu .i64 c (hiI (by omega))
 have hne:((m:Int)+1 == 0)=false:=by
  rw[beq_eq_false_iff_ne];omega
 have hlt:m<m+1:=by omega
 generalize (l++[a]).map dg=cs at *
 have p1:∃ f1,aY (CC L) run k 3 gX ⟨fr0,[],[]⟩=some ⟨f1,[⟨.live,[.sc (.bool n),.imm (m+1) false cs]⟩],[0]⟩∧f1.length=29∧nth f1 1 = .ptr 0 0∧nth f1 3 = .sc (.int .i64 (c:Int)):=by
  simp[gX,Tryz.f145,aY,e1,e2,af,aJ,ao,aq,aH,ag,ai,aj,an,aF,aC,FP.none,bd,au,bj,aw,bM,bL,partOf,aa,ae,ab,bh,cS,bn,uW,uD,sD,aD,wf0,wf1,aO,aU,aV,br,hne,hw,hw2]
 obtain⟨f1,q1,q2,q3,q4⟩:=p1
 refine⟨f1,?_⟩
 rw[q1]
 have p2:∃ fr,af (CC L) run k qh ⟨f1,[⟨.live,[.sc (.bool n),.imm (m+1) false cs]⟩],[0]⟩=some (.normal,⟨fr,[⟨.live,[.sc (.bool n),.imm (m+1) false cs]⟩],[0]⟩)∧fr.length=29∧nth fr 3 = .sc (.int .i64 (c:Int))∧nth fr 4 = .sc (.int .u32 (a:Int)):=by
  simp[qh,gX,Tryz.f145,ah,seq1,q2,q3,q4,af,aJ,ao,aq,aH,ag,ai,aj,an,aF,aC,FP.none,bd,au,bj,aw,bM,bc,bL,bm,partOf,aa,ae,ab,bh,cS,uW,uD,sD,s32,aD,a32,wf0,wf1,aU,aV,br,hw,hlt,hd]
 obtain⟨fr,r1,r2⟩:=p2
 exact⟨fr,rfl,r1,r2⟩
theorem Dp (L:Lst)(run:ar)(k:Nat)(fr:List PV)(hp:List Blk)(wr:List Nat)(z:Int)(h29:fr.length=29)(h3:nth fr 3 = .sc (.int .i64 z)) :
  ∃ st,af (CC L) run k (ah 4 gX) ⟨fr,hp,wr⟩=some (.ret,st)∧aZ TT st.fr st.hp Tryz.f145.results.toList=some [Ab.bJ z]:=by
 simp[gX,Tryz.f145,ah,h29,h3,af,aJ,ao,aq,aH,ag,ai,aj,an,aF,aC,FP.none,aa,ab,aZ,Ab.bJ]
def oV (l:List Nat):Nat:=match l.getLast? with
 | none=>0
 | some a=>9*(l.length - 1)+nd 9 a
def kn:List PV→Option (List PV)
 | [.agg [.sc (.bool _),p]]=>match gW p with
  | some l=>some [Ab.bJ (Int.ofNat (oV l))]
  | none=>none
 | _=>none
theorem nA:Ab.Spec base.P 145 kn:=Ab.Spec.bQ (C:=CC []) (cV trivial) fun args rs h=>by
 unfold kn at h
 split at h
 ·split at h
  ·rename_i n p _ l hl
   obtain⟨rfl,hd,hlen⟩:=dA hl
   simp only[Option.some.injEq] at h
   subst h
   by_cases h0:l=[]
   ·subst h0
    obtain⟨st,e1,e2⟩:=G4 [] (runK (CC []) 1) 1 n
    exact⟨2,_,_,_,_,_,aX tp rfl e1 e2,eE _ _,Wk.refl rfl,trivial⟩
   ·obtain⟨m,a,rfl⟩:∃ m a,l=m++[a]:=⟨l.dropLast,l.getLast h0,(List.dropLast_concat_getLast h0).symm⟩
    have ha:a<1000000000:=hd a (by simp)
    have hm:m.length<1000000:=by simp at hlen;omega
    obtain⟨f1,f2,a1,a2,a3,a4,a5⟩:=G0 [] (runK (CC []) 10) 10 n m a (9*m.length) rfl hm
    obtain⟨f3,b1,b2,b3⟩:=tg [] (runK (CC []) 10) 10 [⟨.live,[.sc (.bool n),aM (m++[a])]⟩] [0] 9 a (9*m.length) f2 (Nat.lt_of_lt_of_le ha (by decide)) (by omega) (Nat.le_trans (Nat.le_of_lt ha) (by decide)) a3 a4 a5
    obtain⟨st,e1,e2⟩:=Dp [] (runK (CC []) 10) 10 f3 _ _ _ b2 b3
    have hx:af (CC []) (runK (CC []) 10) 10 gX ⟨entry 29 [wh n (m++[a])],[],[]⟩=some (.ret,st):=by
     rw[aP 3 a1,AG,av ((av a2).trans (bH b1))]
     exact e1
    have hN:oV (m++[a])=9*m.length+nd 9 a:=by simp[oV]
    rw[hN]
    exact⟨11,_,_,_,_,_,aX tp rfl hx e2,eE _ (9*m.length+nd 9 a:Nat),Wk.refl rfl,trivial⟩
  ·cases h
 ·cases h
noncomputable def L16:Lst:=[(145,kn)]
theorem o16:bw L16 145=fun a=>kn (aK a):=rfl
theorem g16 (run:ar)(n:Bool)(l:List Nat)(hd:Dok l)(hl:l.length<1000000):aA L16 run 145 [.agg [.sc (.bool n),aM l]] (Ab.bJ (Int.ofNat (oV l))):=fun dr hp =>
 bu (L:=L16) (f:=kn) J3 o16 run dr hp _ [Ab.bJ (Int.ofNat (oV l))] rfl (by simp only[aK,canon,iR,aM]) (by simp only[kn,cX hd hl])
theorem Mu (L:Lst)(run:ar)(k:Nat)(n:Bool)(l:List Nat)(c:Nat)(g1:aA L run 145 [.agg [.sc (.bool n),aM l]] (Ab.bJ (Int.ofNat c))) :
  ∃ st,af (CC L) run k (Tryz.f94.body.getD .skip) ⟨entry 6 [wh n l],[],[]⟩=some (.ret,st)∧aZ TT st.fr st.hp Tryz.f94.results.toList=some [.sc (.bool (decide (1000<c)))]:=by
 obtain⟨e1,e2⟩:=cW 5 (wh n l)
 generalize entry 6 [wh n l]=fr0 at *
 rw[show wh n l = .agg [.sc (.bool n),aM l] from rfl] at e2
 unfold aA at g1
 simp only[Ab.bJ,Int.ofNat_eq_natCast] at g1
 have hc:((c:Int) > 1000)=(1000<c):=by apply propext;omega
 have hc2:((1000:Int)<c)=(1000<c):=by apply propext;omega
 simp[Tryz.f94,e1,e2,af,aJ,ao,aq,aH,ag,ai,aQ,aj,an,aF,aC,FP.none,bd,au,bj,aw,partOf,aa,ae,ab,bh,bn,g1,hc,sW,aW,aO,aU,aV,br,bG,aZ]
def vZ:List PV→Option (List PV)
 | [.agg [.sc (.bool _),p]]=>match gW p with
  | some l=>some [.sc (.bool (decide (1000<oV l)))]
  | none=>none
 | _=>none
theorem rE:Ab.Spec base.P 94 vZ:=Ab.Spec.bQ (C:=CC L16) (cV ⟨nA,trivial⟩) fun args rs h=>by
 unfold vZ at h
 split at h
 ·split at h
  ·rename_i n p _ l hl
   obtain⟨rfl,hd,hlen⟩:=dA hl
   simp only[Option.some.injEq] at h
   subst h
   obtain⟨st,e1,e2⟩:=Mu L16 (runK (CC L16) 1) 1 n l _ (g16 _ n l hd hlen)
   exact⟨2,_,_,_,_,_,aX NN rfl e1 e2,vN _ _,Wk.refl rfl,trivial⟩
  ·cases h
 ·cases h
noncomputable def L17:Lst:=[(94,vZ)]
theorem o17:bw L17 94=fun a=>vZ (aK a):=rfl
theorem g17 (run:ar)(z:Int)(hz:Sm z):aA L17 run 94 [bq z] (.sc (.bool (decide (1000<oV (aG z.natAbs))))):=fun dr hp =>
 bu (L:=L17) (f:=vZ) VY o17 run dr hp _ [.sc (.bool (decide (1000<oV (aG z.natAbs))))] (ml hp z) (jy z) (by
  show (match gW (aM (aG z.natAbs)) with | some l=>some [PV.sc (.bool (decide (1000<oV l)))] | none=>none)=_
  rw[cX (bU _) hz.lt])
theorem Fb (L:Lst)(run:ar)(k:Nat)(a b:Int)(p q:Bool)(g1:aA L run 94 [bq a] (.sc (.bool p)))(g2:aA L run 94 [bq b] (.sc (.bool q))) :
  ∃ st,af (CC L) run k (Tryz.f43.body.getD .skip) ⟨entry 11 [cb a b],[],[]⟩=some (.ret,st)∧aZ TT st.fr st.hp Tryz.f43.results.toList=some [.sc (.bool (p || q))]:=by
 obtain⟨h1,h2⟩:=cW 10 (cb a b)
 generalize entry 11 [cb a b]=fr0 at *
 unfold aA at *
 simp only[whW,fg] at *
 cases p <;> simp[Tryz.f43,h1,h2,af,aJ,ao,aq,aH,ag,ai,aQ,aj,an,aF,aC,FP.none,aw,bL,partOf,aa,ae,ab,bh,bn,g1,g2,undef,uR,sW,aW,rf0,rf1,aO,aU,aV,bG,br,aZ]
def lL:List PV→Option (List PV)
 | [p]=>match gF p with
  | some (a,b)=>some [.sc (.bool (decide (1000<oV (aG a.natAbs)) || decide (1000<oV (aG b.natAbs))))]
  | none=>none
 | _=>none
theorem lK:Ab.Spec base.P 43 lL:=Ab.Spec.bQ (C:=CC L17) (cV ⟨rE,trivial⟩) fun args rs h=>by
 unfold lL at h
 split at h
 ·split at h
  ·rename_i a b ex
   obtain⟨rfl,ha,hb⟩:=et ex
   simp only[Option.some.injEq] at h
   subst h
   obtain⟨st,e1,e2⟩:=Fb L17 (runK (CC L17) 1) 1 a b _ _ (g17 _ a ha) (g17 _ b hb)
   exact⟨2,_,_,_,_,_,aX HP rfl e1 e2,vN _ _,Wk.refl rfl,trivial⟩
  ·cases h
 ·cases h
end Go.Proofs.YtjdmodeenbdfpaaGreat
