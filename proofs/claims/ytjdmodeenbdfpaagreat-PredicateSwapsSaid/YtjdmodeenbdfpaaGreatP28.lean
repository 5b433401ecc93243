/- Contracts of num's integers, part 28 of the proof; each lemma states its own conditions. -/
import Derived.Test.YtjdmodeenbdfpaaGreatP27
set_option linter.unusedSimpArgs false
set_option linter.unusedVariables false
namespace Go.Proofs.YtjdmodeenbdfpaaGreat
open Go Go.Ab
theorem US:base.F.get 153=some Tryz.f153:=by kernel_rfl
theorem NV:base.F.get 169=some Tryz.f169:=by kernel_rfl
theorem EE:base.F.get 183=some Tryz.f183:=by kernel_rfl
theorem lM:base.F.get 108=some Tryz.f108:=by kernel_rfl
theorem aaG:base.shared 153=false:=by kernel_rfl
theorem VU:base.shared 169=false:=by kernel_rfl
theorem KM:base.shared 183=false:=by kernel_rfl
theorem z8:base.shared 191=false:=by kernel_rfl
abbrev gG:ByteArray:={ data:=#[47] }
theorem uc:bD gG=[47]:=rfl
def idx (s:ByteArray):Int:=bif eqL [47] (bD s) then 0 else Lib.indexByte (bD s) 47
theorem Dk (L:Lst)(run:aq)(k:Nat)(s:ByteArray)(g1:av L run 191 [.sc (.string s),.sc (.int .u8 47)] (.sc (.int .i64 (Lib.indexByte (bD s) 47)))) :
  ∃ st,af (CC L) run k (Tryz.f183.body.getD .skip) ⟨entry 143 [.sc (.string s),.sc (.string gG)],[],[]⟩=some (.ret,st)∧aZ TT st.fr st.hp Tryz.f183.results.toList=some [Ab.bC (idx s)]:=by
 obtain⟨h1,h2,h3⟩:=cA 141 (.sc (.string s)) (.sc (.string gG))
 generalize entry 143 [.sc (.string s),.sc (.string gG)]=fr0 at *
 unfold av at g1
 unfold idx
 have hix:gy TT 9 (.sc (.string gG)) (.sc (.int .i64 0))=some (.sc (.int .u8 47)):=by
  simp[gy,uS,jo,uc,C7]
 have hst:=uc
 generalize gG=sl at *
 generalize Lib.indexByte (bD s) 47=i at *
 cases he:eqL [47] (bD s) with
 | true=>simp[Tryz.f183,h1,h2,h3,af,aH,an,ao,aG,ag,ai,aj,ak,aC,az,FP.none,bc,ar,bd,au,bH,aa,ae,ab,bf,uS,hst,eY,he,aZ,Ab.bC]
 | false=>simp[Tryz.f183,h1,h2,h3,af,aH,an,ao,aG,ag,ai,aP,aj,ak,aC,az,FP.none,bc,ar,bd,au,bH,aa,ae,ab,bf,uS,hst,eY,he,g1,hix,aZ,Ab.bC]
def pC:List PV→Option (List PV)
 | [.sc (.string s),.sc (.string p)]=>bif eqL (bD p) [47] then some [Ab.bC (idx s)] else none
 | _=>none
theorem ow:∀ {a b:List UInt8},eqL a b=true→a=b
 | [],[],_=>rfl
 | a::x,b::y,h=>by
  simp only[eqL,Bool.and_eq_true,beq_iff_eq] at h
  rw[ow h.2,UInt8.toNat_inj.1 h.1]
 | [],_::_,h=>by simp[eqL] at h
 | _::_,[],h=>by simp[eqL] at h
theorem uo {p:ByteArray}(h:eqL (bD p) [47]=true):p=gG:=by
 have:=ow h
 rw[← fo p,this];rfl
noncomputable def L12:Lst:=[(191,ibF)]
theorem g12 (run:aq)(s:ByteArray):av L12 run 191 [.sc (.string s),.sc (.int .u8 47)] (.sc (.int .i64 (Lib.indexByte (bD s) 47))):=fun dr hp =>
 bp (L:=L12) (f:=ibF) z8 rfl run dr hp _ [.sc (.int .i64 (Lib.indexByte (bD s) 47))] rfl rfl rfl
theorem sH:Ab.Spec base.P 183 pC:=Ab.Spec.bL (C:=CC L12) (cU ⟨Jd,trivial⟩) fun args rs h=>by
 unfold pC at h
 split at h
 ·rename_i s p
  cases hb:eqL (bD p) [47] with
  | false=>rw[hb] at h;cases h
  | true =>
   rw[hb] at h
   simp only[cond_true,Option.some.injEq] at h
   subst h
   rw[uo hb]
   obtain⟨st,e1,e2⟩:=Dk L12 (runK (CC L12) 1) 1 s (g12 _ s)
   exact⟨2,_,_,_,_,_,aQ EE rfl e1 e2,eB _ _,Wk.refl rfl,trivial⟩
 ·cases h
def lV (s:ByteArray):List PV:=match idx s with
 | .ofNat i=>[.sc (.string (mkStr ((bD s).take i))),.sc (.string (mkStr ((bD s).drop (i+1)))),.sc (.bool true)]
 | .negSucc _=>[.sc (.string s),.sc (.string { data:=#[] }),.sc (.bool false)]
def kO (s:ByteArray):Bool:=match idx s with
 | .ofNat i=>(i+1).ble (bD s).length && (bD s).length.ble 1000000000
 | .negSucc _=>true
noncomputable def kI:Code:=Tryz.f169.body.getD .skip
noncomputable def G2:Code:=seq1 (seq1 (ah 1 kI))
noncomputable def qZ:Code:=cu (seq1 (ah 1 kI))
theorem vV:ah 1 kI = .seq (.seq G2 qZ) (ah 2 kI):=rfl
theorem Sx (L:Lst)(run:aq)(k:Nat)(s sl:ByteArray):∃ fr,aY (CC L) run k 1 kI ⟨entry 23 [.sc (.string s),.sc (.string sl)],[],[]⟩=some ⟨fr,[],[]⟩∧fr.length=23∧nth fr 0 = .sc (.string s)∧nth fr 1 = .sc (.string sl):=by
 obtain⟨h1,h2,h3⟩:=cA 21 (.sc (.string s)) (.sc (.string sl))
 generalize entry 23 [.sc (.string s),.sc (.string sl)]=fr0 at *
 simp[kI,Tryz.f169,aY,h1,h2,h3,af,aH,an,ao,aG,ag,ai,aj,ak,aC,az,FP.none,au,ae,ab]
theorem X8 (L:Lst)(run:aq)(k:Nat)(fr:List PV)(s sl:ByteArray)(z:Int)(g1:av L run 183 [.sc (.string s),.sc (.string sl)] (Ab.bC z))(h1:fr.length=23)(h2:nth fr 0 = .sc (.string s))(h3:nth fr 1 = .sc (.string sl)) :
  ∃ fr',af (CC L) run k G2 ⟨fr,[],[]⟩=some (.normal,⟨fr',[],[]⟩)∧fr'.length=23∧nth fr' 0 = .sc (.string s)∧nth fr' 1 = .sc (.string sl)∧nth fr' 7 = .sc (.int .i64 z):=by
 unfold av at g1
 simp only[Ab.bC] at g1
 simp[G2,kI,Tryz.f169,ah,seq1,h1,h2,h3,af,aH,an,ao,aG,ag,ai,aP,aj,ak,aC,az,FP.none,aa,ae,ab,g1]
theorem Sw (L:Lst)(run:aq)(k:Nat)(fr:List PV)(s sl a b:ByteArray)(z j:Int)(n:Nat)(hz : ¬ (z<0))(hj:bu .i64 (z+n)=j)(hn:(bD sl).length=n)(hs1:dC s none (some (.sc (.int .i64 z))) none=some (.sc (.string a)))(hs2:dC s (some (.sc (.int .i64 j))) none none=some (.sc (.string b)))
  (h1:fr.length=23) (h2:nth fr 0 = .sc (.string s)) (h3:nth fr 1 = .sc (.string sl)) (h7:nth fr 7 = .sc (.int .i64 z)) :
  ∃ st,af (CC L) run k qZ ⟨fr,[],[]⟩=some (.ret,st)∧aZ TT st.fr st.hp Tryz.f169.results.toList=some [.sc (.string a),.sc (.string b),.sc (.bool true)]:=by
 have hz':0≤z:=by omega
 simp[qZ,kI,Tryz.f169,ah,seq1,cu,h1,h2,h3,h7,af,aH,an,ao,aG,ag,ai,aj,ak,aC,az,FP.none,bc,ar,bd,au,bH,aa,ae,ab,bf,uS,hz',hn,hj,dA,hs1,hs2,aZ,number,FP.free]
theorem Sv (L:Lst)(run:aq)(k:Nat)(fr:List PV)(s sl:ByteArray)(z:Int)(hz:z<0)(h1:fr.length=23)(h2:nth fr 0 = .sc (.string s))(h3:nth fr 1 = .sc (.string sl))(h7:nth fr 7 = .sc (.int .i64 z)) :
  ∃ st fr',af (CC L) run k qZ ⟨fr,[],[]⟩=some (.normal,⟨fr',[],[]⟩)∧af (CC L) run k (ah 2 kI) ⟨fr',[],[]⟩=some (.ret,st)∧aZ TT st.fr st.hp Tryz.f169.results.toList=some [.sc (.string s),.sc (.string { data:=#[] }),.sc (.bool false)]:=by
 have hz' : ¬ (0≤z):=by omega
 have e:∃ fr',af (CC L) run k qZ ⟨fr,[],[]⟩=some (.normal,⟨fr',[],[]⟩)∧fr'.length=23∧nth fr' 0 = .sc (.string s):=by
  simp[qZ,kI,Tryz.f169,ah,seq1,cu,h1,h2,h7,af,aH,an,ao,aG,ag,ai,aj,ak,aC,az,FP.none,bc,ar,bd,au,aa,ae,ab,hz']
 obtain⟨fr',e1,e2,e3⟩:=e
 have e':∃ st,af (CC L) run k (ah 2 kI) ⟨fr',[],[]⟩=some (.ret,st)∧aZ TT st.fr st.hp Tryz.f169.results.toList=some [.sc (.string s),.sc (.string { data:=#[] }),.sc (.bool false)]:=by
  simp[kI,Tryz.f169,ah,e2,e3,af,aH,an,ao,aG,ag,ai,aj,ak,aC,az,FP.none,au,aa,ae,ab,aZ]
 obtain⟨st,e4,e5⟩:=e'
 exact⟨st,fr',e1,e4,e5⟩
theorem G3 (L:Lst)(run:aq)(k:Nat)(s:ByteArray)(hk:kO s=true)(g1:av L run 183 [.sc (.string s),.sc (.string gG)] (Ab.bC (idx s))) :
  ∃ st,af (CC L) run k kI ⟨entry 23 [.sc (.string s),.sc (.string gG)],[],[]⟩=some (.ret,st)∧aZ TT st.fr st.hp Tryz.f169.results.toList=some (lV s):=by
 obtain⟨f1,a1,a2,a3,a4⟩:=Sx L run k s gG
 obtain⟨f2,b1,b2,b3,b4,b5⟩:=X8 L run k f1 s gG (idx s) g1 a2 a3 a4
 unfold lV
 unfold kO at hk
 cases hi:idx s with
 | ofNat i =>
  rw[hi] at b5 hk
  simp only[Bool.and_eq_true,Nat.ble_eq] at hk
  have hw:=bF i (Nat.lt_of_lt_of_le hk.1 (Nat.le_trans hk.2 (by decide)))
  have hs1:dC s none (some (.sc (.int .i64 (Int.ofNat i)))) none=some (.sc (.string (mkStr ((bD s).take i)))):=by
   have:i≤(bD s).length:=Nat.le_of_succ_le hk.1
   simp[dC,bnd,fF,bj,this]
  have hs2:dC s (some (.sc (.int .i64 ((i:Int)+1)))) none none=some (.sc (.string (mkStr ((bD s).drop (i+1))))):=by
   have:i+1≤(bD s).length:=hk.1
   simp[dC,bnd,fF,iw,this]
  obtain⟨st,c1,c2⟩:=Sw L run k f2 s gG _ _ (Int.ofNat i) _ 1 (by simp) hw rfl hs1 hs2 b2 b3 b4 b5
  exact⟨st,by rw[aO 1 a1,vV,cg ((aw b1).trans c1)],c2⟩
 | negSucc i =>
  rw[hi] at b5
  obtain⟨st,f3,c1,c2,c3⟩:=Sv L run k f2 s gG (Int.negSucc i) (by simp) b2 b3 b4 b5
  exact⟨st,by rw[aO 1 a1,vV,aw ((aw b1).trans c1)];exact c2,c3⟩
def mJ:List PV→Option (List PV)
 | [.sc (.string s),.sc (.string p)]=>bif eqL (bD p) [47] && kO s then some (lV s) else none
 | _=>none
theorem CS (hp:List Blk)(s:ByteArray):bm (snap hp bh) (lV s)=some (lV s,[]):=by
 unfold lV;cases idx s <;> rfl
theorem Ib (s:ByteArray):WkL (lV s) (lV s):=WkL.refl (by unfold lV;cases idx s <;> rfl)
noncomputable def L13:Lst:=[(183,pC)]
theorem g13 (run:aq)(s:ByteArray):av L13 run 183 [.sc (.string s),.sc (.string gG)] (Ab.bC (idx s)):=fun dr hp =>
 bp (L:=L13) (f:=pC) KM rfl run dr hp _ [Ab.bC (idx s)] rfl rfl rfl
theorem vW:Ab.Spec base.P 169 mJ:=Ab.Spec.bL (C:=CC L13) (cU ⟨sH,trivial⟩) fun args rs h=>by
 unfold mJ at h
 split at h
 ·rename_i s p
  cases hb:eqL (bD p) [47] && kO s with
  | false=>rw[hb] at h;cases h
  | true =>
   rw[hb] at h
   simp only[cond_true,Option.some.injEq] at h
   subst h
   rw[Bool.and_eq_true] at hb
   rw[uo hb.1]
   obtain⟨st,e1,e2⟩:=G3 L13 (runK (CC L13) 1) 1 s hb.2 (g13 _ s)
   exact⟨2,_,_,_,_,_,aQ NV rfl e1 e2,CS _ _,Ib _⟩
 ·cases h
noncomputable def L14:Lst:=[(169,mJ)]
theorem g14 (run:aq)(s:ByteArray)(hk:kO s=true):av L14 run 169 [.sc (.string s),.sc (.string gG)] (gr (lV s)):=fun dr hp =>
 bp (L:=L14) (f:=mJ) VU rfl run dr hp _ (lV s) rfl rfl (by
  show (bif true && kO s then some (lV s) else none)=_
  rw[hk];rfl)
theorem M8 (L:Lst)(run:aq)(k:Nat)(s:ByteArray)(g1:av L run 169 [.sc (.string s),.sc (.string gG)] (gr (lV s))) :
  ∃ st,af (CC L) run k (Tryz.f153.body.getD .skip) ⟨entry 13 [.sc (.string s),.sc (.string gG)],[],[]⟩=some (.ret,st)∧aZ TT st.fr st.hp Tryz.f153.results.toList=some (lV s):=by
 obtain⟨h1,h2,h3⟩:=cA 11 (.sc (.string s)) (.sc (.string gG))
 generalize entry 13 [.sc (.string s),.sc (.string gG)]=fr0 at *
 unfold av at g1
 unfold lV at g1 ⊢
 cases hi:idx s <;> rw[hi] at g1 <;> simp only[gr] at g1 ⊢ <;> simp[Tryz.f153,h1,h2,h3,af,aH,an,ao,aG,ag,ai,aP,aj,ak,aC,az,FP.none,au,aa,ae,ab,g1,aZ]
theorem zy:Ab.Spec base.P 153 mJ:=Ab.Spec.bL (C:=CC L14) (cU ⟨vW,trivial⟩) fun args rs h=>by
 unfold mJ at h
 split at h
 ·rename_i s p
  cases hb:eqL (bD p) [47] && kO s with
  | false=>rw[hb] at h;cases h
  | true =>
   rw[hb] at h
   simp only[cond_true,Option.some.injEq] at h
   subst h
   rw[Bool.and_eq_true] at hb
   rw[uo hb.1]
   obtain⟨st,e1,e2⟩:=M8 L14 (runK (CC L14) 1) 1 s (g14 _ s hb.2)
   exact⟨2,_,_,_,_,_,aQ US rfl e1 e2,CS _ _,Ib _⟩
 ·cases h
noncomputable def rrC:Code:=Tryz.f108.body.getD .skip
noncomputable def KX:Code:=seq1 (ah 3 rrC)
noncomputable def Cc:Code:=seq1 (ah 5 rrC)
theorem yd:ah 3 rrC = .seq KX (ah 4 rrC):=rfl
theorem yc:ah 5 rrC = .seq Cc (ah 6 rrC):=rfl
theorem aaN (L:Lst)(run:aq)(k:Nat)(s s1 t1:ByteArray)(sl ok:Bool)(n:Int)(g1:av L run 153 [.sc (.string s),.sc (.string gG)] (.tup [.sc (.string s1),.sc (.string t1),.sc (.bool sl)]))(g2:av L run 154 [.sc (.string s1)] (.tup [bk n,.sc (.bool ok)])) :
  ∃ fr wr,aY (CC L) run k 3 rrC ⟨entry 61 [.sc (.string s)],[],[]⟩=some ⟨fr,[zR4,bW n],wr⟩∧fr.length=61∧nth fr 2 = .ptr 0 0∧nth fr 5 = .sc (.string t1)∧nth fr 6 = .sc (.bool sl)∧nth fr 7 = .ptr 1 0∧nth fr 8 = .sc (.bool ok):=by
 obtain⟨h1,h2⟩:=cP 60 (.sc (.string s))
 generalize entry 61 [.sc (.string s)]=fr0 at *
 unfold av at g1 g2
 simp only[whW,bW] at g2 ⊢
 generalize aA n.natAbs=rn at *
 generalize bq n=nn at *
 simp[rrC,Tryz.f108,aY,h1,h2,af,aH,an,ao,aG,ag,ai,aP,aj,ak,aC,az,FP.none,au,aa,ae,ab,bf,and_assoc,bg,bO,bx,aX,g1,g2,zR,zW,sW,aM,aV,bP,bZ]
theorem aaM (L:Lst)(run:aq)(k:Nat)(fr:List PV)(wr:List Nat)(sl ok:Bool)(n:Int)(hb:ok=false∨sl=false)(g1:av L run 97 [.sc (.int .i64 1)] (bk 1))
  (h1:fr.length=61) (h2:nth fr 2 = .ptr 0 0) (h6:nth fr 6 = .sc (.bool sl)) (h7:nth fr 7 = .ptr 1 0) (h8:nth fr 8 = .sc (.bool ok)) :
  ∃ st,af (CC L) run k KX ⟨fr,[zR4,bW n],wr⟩=some (.ret,st)∧aZ TT st.fr st.hp Tryz.f108.results.toList=some [bT n 1,.sc (.bool ok)]:=by
 unfold av at g1
 rw[fv]
 simp only[whW,bW] at g1 ⊢
 generalize aA n.natAbs=rn at *
 generalize bq n=nn at *
 generalize aA (1:Int).natAbs=r1 at *
 generalize bq 1=n1 at *
 rcases hb with rfl | rfl
 ·simp[KX,rrC,Tryz.f108,ah,seq1,h1,h2,h7,h8,af,aH,an,ao,aG,ag,ai,aP,aj,ak,aC,az,FP.none,au,partOf,unP,aa,ae,ab,bf,bg,bO,bx,aX,undef,g1,uR,sR,sW,aR,aW,zR,rf0,rf1,eE,dF,jy,aU,aV,bP,bZ,bA,bn,aZ,number,FP.free,cB,FP.apart]
 ·cases ok <;> simp[KX,rrC,Tryz.f108,ah,seq1,h1,h2,h6,h7,h8,af,aH,an,ao,aG,ag,ai,aP,aj,ak,aC,az,FP.none,au,partOf,unP,aa,ae,ab,bf,bg,bO,bx,aX,undef,g1,uR,sR,sW,aR,aW,zR,rf0,rf1,eE,dF,jy,aU,aV,bP,bZ,bA,bn,aZ,number,FP.free,cB,FP.apart]
theorem aaL (L:Lst)(run:aq)(k:Nat)(fr:List PV)(wr:List Nat)(n:Int)(h1:fr.length=61)(h2:nth fr 2 = .ptr 0 0)(h6:nth fr 6 = .sc (.bool true))(h7:nth fr 7 = .ptr 1 0)(h8:nth fr 8 = .sc (.bool true)) :
  ∃ fr',af (CC L) run k KX ⟨fr,[zR4,bW n],wr⟩=some (.normal,⟨fr',[zR4,bW n],wr⟩)∧fr'.length=61∧nth fr' 2 = .ptr 0 0∧nth fr' 5=nth fr 5∧nth fr' 7 = .ptr 1 0:=by
 simp[KX,rrC,Tryz.f108,ah,seq1,h1,h2,h6,h7,h8,af,aH,an,ao,aG,ag,ai,aj,ak,aC,az,FP.none,unP,aa,ae,ab]
theorem adL (L:Lst)(run:aq)(k:Nat)(fr:List PV)(wr:List Nat)(t1:ByteArray)(ok:Bool)(n d:Int)(g1:av L run 154 [.sc (.string t1)] (.tup [bk d,.sc (.bool ok)]))(h1:fr.length=61)(h2:nth fr 2 = .ptr 0 0)(h5:nth fr 5 = .sc (.string t1))(h7:nth fr 7 = .ptr 1 0) :
  ∃ fr' wr',aY (CC L) run k 1 (ah 4 rrC) ⟨fr,[zR4,bW n],wr⟩=some ⟨fr',[zR4,bW n,bW d],wr'⟩∧fr'.length=61∧nth fr' 2 = .ptr 0 0∧nth fr' 7 = .ptr 1 0∧nth fr' 9 = .ptr 2 0∧nth fr' 8 = .sc (.bool ok):=by
 unfold av at g1
 simp only[whW,bW] at g1 ⊢
 generalize aA n.natAbs=rn at *
 generalize bq n=nn at *
 generalize aA d.natAbs=rd at *
 generalize bq d=nd at *
 simp[rrC,Tryz.f108,ah,aY,h1,h2,h5,h7,af,aH,an,ao,aG,ag,ai,aP,aj,ak,aC,az,FP.none,aa,ae,ab,bf,and_assoc,bg,bO,bx,aX,g1,zW,sW,aM,aV,bP,bZ]
def uC (ok:Bool)(s c1 c2:Int):Bool := !ok || (s == 0 || (decide (c1≤0) || c2 != 0))
set_option maxHeartbeats 4000000 in
theorem adK (L:Lst)(run:aq)(k:Nat)(fr:List PV)(wr:List Nat)(ok:Bool)(n d g:Int)(s c1 c2:Int)(g1:ok=true→av L run 101 [bk n] (Ab.bC s))(g0:av L run 97 [.sc (.int .i64 1)] (bk 1))(g2:ok=true→s≠0→av L run 96 [bk d,bk 1] (Ab.bC c1))
  (g3:ok=true→s≠0 → ¬ (c1≤0)→av L run 150 [bk n,bk d] (bk g)) (g4:ok=true→s≠0 → ¬ (c1≤0)→av L run 96 [bk g,bk 1] (Ab.bC c2))
  (h1:fr.length=61) (h2:nth fr 2 = .ptr 0 0) (h7:nth fr 7 = .ptr 1 0) (h9:nth fr 9 = .ptr 2 0) (h8:nth fr 8 = .sc (.bool ok)) :
  (uC ok s c1 c2=true∧∃ st,af (CC L) run k Cc ⟨fr,[zR4,bW n,bW d],wr⟩=some (.ret,st)∧aZ TT st.fr st.hp Tryz.f108.results.toList=some [.agg [.sc (.bool false),.sc (.slice none 0 0),.sc (.bool false),.sc (.slice none 0 0)],.sc (.bool false)]) ∨
  (uC ok s c1 c2=false∧∃ fr',af (CC L) run k Cc ⟨fr,[zR4,bW n,bW d],wr⟩=some (.normal,⟨fr',[zR4,bW n,bW d],wr⟩)∧fr'.length=61∧nth fr' 2 = .ptr 0 0∧nth fr' 7 = .ptr 1 0∧nth fr' 9 = .ptr 2 0):=by
 unfold uC
 unfold av at *
 simp only[whW,bW,Ab.bC] at *
 generalize aA n.natAbs=rn at *
 generalize bq n=nn at *
 generalize aA d.natAbs=rd at *
 generalize bq d=nd at *
 generalize aA g.natAbs=rg at *
 generalize bq g=ng at *
 generalize aA (1:Int).natAbs=r1 at *
 generalize bq 1=n1 at *
 cases ok with
 | false =>
  refine .inl ⟨rfl,?_⟩
  simp[Cc,rrC,Tryz.f108,ah,seq1,h1,h2,h8,af,aH,an,ao,aG,ag,ai,aj,ak,aC,az,FP.none,au,partOf,unP,aa,ae,ab,bf,bg,bx,fm,aX,undef,uR,sR,sW,aR,zR,rf0,rf1,eE,dF,aU,aV,bP,bZ,bA,bn,aZ,number,FP.free]
 | true =>
  have g1:=g1 rfl
  by_cases hs:s=0
  ·refine .inl ⟨by simp[hs],?_⟩
   have hs':(s == 0)=true:=by simpa using hs
   simp[Cc,rrC,Tryz.f108,ah,seq1,h1,h2,h7,h8,g1,hs',af,aH,an,ao,aG,ag,ai,aP,aj,ak,aC,az,FP.none,bc,ar,bd,au,partOf,unP,aa,ae,ab,bf,bg,bx,fm,aX,undef,uR,sR,sW,aR,aW,zR,rf0,rf1,eE,dF,aU,aV,bP,bZ,bA,bn,aZ,number,FP.free]
  ·have g2:=g2 rfl hs
   have hs':(s == 0)=false:=by simpa using hs
   by_cases hc:c1≤0
   ·refine .inl ⟨by simp[hc],?_⟩
    simp[Cc,rrC,Tryz.f108,ah,seq1,h1,h2,h7,h8,h9,g1,g0,g2,hs',hc,af,aH,an,ao,aG,ag,ai,aP,aj,ak,aC,az,FP.none,bc,ar,bd,au,partOf,unP,aa,ae,ab,bf,bg,bx,fm,aX,undef,uR,sR,sW,aR,aW,zR,rf0,rf1,eE,dF,aU,aV,bP,bZ,bA,bn,aZ,number,FP.free,cB,FP.apart]
   ·have g3:=g3 rfl hs hc
    have g4:=g4 rfl hs hc
    by_cases hc2:c2=0
    ·have hc2':(c2 != 0)=false:=by simpa using hc2
     refine .inr ⟨by simp[hc,hc2,hs],?_⟩
     simp[Cc,rrC,Tryz.f108,ah,seq1,h1,h2,h7,h8,h9,g1,g0,g2,g3,g4,hs',hc,hc2',af,aH,an,ao,aG,ag,ai,aP,aj,ak,aC,az,FP.none,bc,ar,bd,au,partOf,unP,aa,ae,ab,bf,sW,aW,aU,aV,bA,bn,number,FP.free,cB,FP.apart]
    ·have hc2':(c2 != 0)=true:=by simpa using hc2
     refine .inl ⟨by simp[hc,hc2,hs],?_⟩
     simp[Cc,rrC,Tryz.f108,ah,seq1,h1,h2,h7,h8,h9,g1,g0,g2,g3,g4,hs',hc,hc2',af,aH,an,ao,aG,ag,ai,aP,aj,ak,aC,az,FP.none,bc,ar,bd,au,partOf,unP,aa,ae,ab,bf,bg,bx,fm,aX,undef,uR,sR,sW,aR,aW,zR,rf0,rf1,eE,dF,aU,aV,bP,bZ,bA,bn,aZ,number,FP.free,cB,FP.apart]
theorem V7 (L:Lst)(run:aq)(k:Nat)(fr:List PV)(wr:List Nat)(n d:Int)(h1:fr.length=61)(h2:nth fr 2 = .ptr 0 0)(h7:nth fr 7 = .ptr 1 0)(h9:nth fr 9 = .ptr 2 0) :
  ∃ st,af (CC L) run k (ah 6 rrC) ⟨fr,[zR4,bW n,bW d],wr⟩=some (.ret,st)∧aZ TT st.fr st.hp Tryz.f108.results.toList=some [bT n d,.sc (.bool true)]:=by
 rw[fv]
 simp only[bW]
 generalize aA n.natAbs=rn at *
 generalize bq n=nn at *
 generalize aA d.natAbs=rd at *
 generalize bq d=nd at *
 simp[rrC,Tryz.f108,ah,h1,h2,h7,h9,af,aH,an,ao,aG,ag,ai,aj,ak,aC,az,FP.none,au,partOf,aa,ae,ab,bf,bg,bO,bx,aX,uR,sR,sW,aR,aW,zR,rf0,rf1,eE,dF,jy,aU,aV,bP,bZ,bA,bn,aZ,number,FP.free,cB,FP.apart]
noncomputable def L15:Lst:=[(153,mJ),(154,uJ),(97,ofF),(101,jc),(96,rl),(150,xt)]
theorem ac7:dK base.P L15:=⟨zy,yf,nk,kz,pQ,wg,trivial⟩
theorem Xv:bt L15 153=fun a=>mJ (aJ a):=rfl
theorem RM:bt L15 154=fun a=>uJ (aJ a):=rfl
theorem abx:bt L15 97=fun a=>ofF (aJ a):=rfl
theorem RL:bt L15 101=fun a=>jc (aJ a):=rfl
theorem Xw:bt L15 96=fun a=>rl (aJ a):=rfl
theorem Xu:bt L15 150=fun a=>xt (aJ a):=rfl
def iT (s:ByteArray):ByteArray:=match idx s with
 | .ofNat i=>mkStr ((bD s).take i)
 | .negSucc _=>s
def iR (s:ByteArray):ByteArray:=match idx s with
 | .ofNat i=>mkStr ((bD s).drop (i+1))
 | .negSucc _=>{ data:=#[] }
def th (s:ByteArray):Bool:=match idx s with
 | .ofNat _=>true
 | .negSucc _=>false
theorem Y0 (s:ByteArray):lV s=[.sc (.string (iT s)),.sc (.string (iR s)),.sc (.bool (th s))]:=by
 unfold lV iT iR th
 cases idx s <;> rfl
theorem TJ (s:ByteArray):(bys (iT s)).length≤(bys s).length:=by
 unfold iT
 cases idx s with
 | ofNat i=>simp only[jn,fb,List.length_take];omega
 | negSucc i=>exact Nat.le_refl _
theorem TI (s:ByteArray):(bys (iR s)).length≤(bys s).length:=by
 unfold iR
 cases idx s with
 | ofNat i=>simp only[jn,fb,List.length_drop];omega
 | negSucc i=>exact Nat.zero_le _
def eK (s:ByteArray):Int:=match gu s with
 | some z=>z
 | none=>0
def gX (s:ByteArray):Bool:=match gu s with
 | some _=>true
 | none=>false
theorem Ys (run:aq)(s:ByteArray)(hk:kO s=true):av L15 run 153 [.sc (.string s),.sc (.string gG)] (.tup [.sc (.string (iT s)),.sc (.string (iR s)),.sc (.bool (th s))]):=fun dr hp =>
 bp (L:=L15) (f:=mJ) aaG Xv run dr hp _ [.sc (.string (iT s)),.sc (.string (iR s)),.sc (.bool (th s))] rfl rfl (by
  rw[← Y0]
  show (bif true && kO s then some (lV s) else none)=_
  rw[hk];rfl)
theorem DB (run:aq)(s:ByteArray)(hl:(bys s).length<3000000):av L15 run 154 [.sc (.string s)] (.tup [bk (eK s),.sc (.bool (gX s))]):=fun dr hp =>
 bp (L:=L15) (f:=uJ) VQ RM run dr hp _ [bk (eK s),.sc (.bool (gX s))] rfl rfl (by
  have h:(bys s).length.blt 3000000=true:=by rw[Nat.blt_eq];exact hl
  simp only[uJ,h,cond_true]
  unfold eK gX
  cases gu s <;> rfl)
theorem SP (run:aq):av L15 run 97 [.sc (.int .i64 1)] (bk 1):=fun dr hp =>
 bp (L:=L15) (f:=ofF) x6 abx run dr hp _ [bk 1] rfl rfl rfl
theorem SO (run:aq)(x:Int)(hx:Sm x):av L15 run 101 [bk x] (Ab.bC x.sign):=fun dr hp =>
 bp (L:=L15) (f:=jc) tt RL run dr hp _ [Ab.bC x.sign] (lJ hp x) (jm x) (by simp only[jc,cC hx])
theorem Jl (run:aq)(x y:Int)(hx:Sm x)(hy:Sm y):av L15 run 96 [bk x,bk y] (Ab.bC (fE x y)):=fun dr hp =>
 bp (L:=L15) (f:=rl) Fo Xw run dr hp _ [Ab.bC (fE x y)] (gj hp x y) (fg x y) (by simp only[rl,cC hx,cC hy])
theorem Yr (run:aq)(x y:Int)(hx:Sm x)(hy:Sm y):av L15 run 150 [bk x,bk y] (bk (Int.ofNat (Nat.gcd x.natAbs y.natAbs))):=fun dr hp =>
 bp (L:=L15) (f:=xt) OQ Xu run dr hp _ [bk (Int.ofNat (Nat.gcd x.natAbs y.natAbs))] (gj hp x y) (fg x y) (by simp only[xt,cC hx,cC hy])
def aaO (n d:Int)(ok:Bool):Option (List PV) :=
 bif smB n && (smB d && (smB (Int.ofNat (Nat.gcd n.natAbs d.natAbs)))) then
  bif uC ok n.sign (fE d 1) (fE (Int.ofNat (Nat.gcd n.natAbs d.natAbs)) 1) then some [bT 0 0,.sc (.bool false)] else some [bT n d,.sc (.bool true)]
 else none
def rrF:List PV→Option (List PV)
 | [.sc (.string s)]=>bif (bys s).length.blt 3000000 && kO s then
   (bif gX (iT s) && th s then aaO (eK (iT s)) (eK (iR s)) (gX (iR s)) else some [bT (eK (iT s)) 1,.sc (.bool (gX (iT s)))]) else none
 | _=>none
theorem Rj (hp:List Blk)(n d:Int)(b:Bool):bm (snap hp bh) [bT n d,.sc (.bool b)]=some ([bT n d,.sc (.bool b)],[]):=rfl
theorem Af:Ab.Spec base.P 108 rrF:=Ab.Spec.bL (C:=CC L15) (cU ac7) fun args rs h=>by
 unfold rrF at h
 split at h
 ·rename_i s
  cases hb:(bys s).length.blt 3000000 && kO s with
  | false=>rw[hb] at h;cases h
  | true =>
   rw[hb] at h
   simp only[cond_true] at h
   simp only[Bool.and_eq_true,Nat.blt_eq] at hb
   have hA:=Nat.lt_of_le_of_lt (TJ s) hb.1
   have hB:=Nat.lt_of_le_of_lt (TI s) hb.1
   obtain⟨f1,wr1,a1,a2,a3,a4,a5,a6,a7⟩:=aaN L15 (runK (CC L15) 1) 1 s _ _ _ _ _ (Ys _ s hb.2) (DB _ _ hA)
   cases hc:gX (iT s) && th s with
   | false =>
    rw[hc] at h
    simp only[cond_false,Option.some.injEq] at h
    subst h
    have hor:gX (iT s)=false∨th s=false:=by
     revert hc;cases gX (iT s) <;> cases th s <;> simp
    obtain⟨st,e1,e2⟩:=aaM L15 (runK (CC L15) 1) 1 f1 wr1 _ _ _ hor (SP _) a2 a3 a5 a6 a7
    have hx:af (CC L15) (runK (CC L15) 1) 1 rrC ⟨entry 61 [.sc (.string s)],[],[]⟩=some (.ret,st):=by
     rw[aO 3 a1,yd,cg e1]
    exact⟨2,_,_,_,_,_,aQ lM rfl hx e2,Rj _ _ _ _,Wk.refl rfl,Wk.refl rfl,trivial⟩
   | true =>
    rw[hc] at h
    simp only[cond_true] at h
    rw[Bool.and_eq_true] at hc
    rw[hc.1] at a7
    rw[hc.2] at a5
    obtain⟨f2,b1,b2,b3,b4,b5⟩:=aaL L15 (runK (CC L15) 1) 1 f1 wr1 (eK (iT s)) a2 a3 a5 a6 a7
    obtain⟨f3,wr3,c1,c2,c3,c4,c5,c6⟩:=adL L15 (runK (CC L15) 1) 1 f2 wr1 (iR s) _ (eK (iT s)) _ (DB _ _ hB) b2 b3 (by rw[b4,a4]) b5
    generalize eK (iT s)=n at *
    generalize eK (iR s)=d at *
    generalize gX (iR s)=ok at *
    unfold aaO at h
    cases hg:smB n && (smB d && (smB (Int.ofNat (Nat.gcd n.natAbs d.natAbs)))) with
    | false=>rw[hg] at h;cases h
    | true =>
     rw[hg] at h
     simp only[cond_true] at h
     simp only[Bool.and_eq_true] at hg
     obtain⟨s1,s2,s4⟩:=hg
     have hx0:af (CC L15) (runK (CC L15) 1) 1 rrC ⟨entry 61 [.sc (.string s)],[],[]⟩=af (CC L15) (runK (CC L15) 1) 1 (ah 5 rrC) ⟨f3,[zR4,bW n,bW d],wr3⟩:=by
      rw[aO 3 a1,yd,aw b1,aO 1 c1];rfl
     rcases adK L15 (runK (CC L15) 1) 1 f3 wr3 ok n d (Int.ofNat (Nat.gcd n.natAbs d.natAbs)) n.sign (fE d 1) (fE (Int.ofNat (Nat.gcd n.natAbs d.natAbs)) 1) (fun _=>SO _ n (ik s1)) (SP _) (fun _ _=>Jl _ d 1 (ik s2) Bb)
      (fun _ _ _=>Yr _ n d (ik s1) (ik s2)) (fun _ _ _=>Jl _ _ 1 (ik s4) Bb) c2 c3 c4 c5 c6 with ⟨hbad,st,e1,e2⟩| ⟨hbad,f4,d1,d2,d3,d4,d5⟩
     ·rw[hbad] at h
      simp only[cond_true,Option.some.injEq] at h
      subst h
      have hx:af (CC L15) (runK (CC L15) 1) 1 rrC ⟨entry 61 [.sc (.string s)],[],[]⟩=some (.ret,st):=by
       rw[hx0,yc,cg e1]
      exact⟨2,_,_,_,[.agg [.sc (.bool false),.sc (.slice none 0 0),.sc (.bool false),.sc (.slice none 0 0)],.sc (.bool false)],[],aQ lM rfl hx e2,rfl,Wk.agg ⟨Wk.refl rfl,Wk.nil false,Wk.refl rfl,Wk.nil false,trivial⟩,Wk.refl rfl,trivial⟩
     ·rw[hbad] at h
      simp only[cond_false,Option.some.injEq] at h
      subst h
      obtain⟨st,e1,e2⟩:=V7 L15 (runK (CC L15) 1) 1 f4 wr3 n d d2 d3 d4 d5
      have hx:af (CC L15) (runK (CC L15) 1) 1 rrC ⟨entry 61 [.sc (.string s)],[],[]⟩=some (.ret,st):=by
       rw[hx0,yc,aw d1];exact e1
      exact⟨2,_,_,_,_,_,aQ lM rfl hx e2,Rj _ _ _ _,Wk.refl rfl,Wk.refl rfl,trivial⟩
 ·cases h
theorem s9:base.F.get 145=some Tryz.f145:=by kernel_rfl
theorem NU:base.F.get 94=some Tryz.f94:=by kernel_rfl
theorem HZ:base.F.get 43=some Tryz.f43:=by kernel_rfl
theorem KJ:base.shared 145=false:=by kernel_rfl
theorem VT:base.shared 94=false:=by kernel_rfl
def nd:Nat→Nat→Nat
 | 0,_=>0
 | k+1,x=>bif x.beq 0 then 0 else nd k (x / 10)+1
noncomputable def gP:Code:=Tryz.f145.body.getD .skip
noncomputable def nE:Code:=((Tryz.f145.body).bind aF).getD .skip
theorem Hg (L:Lst)(run:aq)(k:Nat)(fr:List PV)(hp:List Blk)(wr:List Nat)(h29:fr.length=29)(h4:nth fr 4 = .sc (.int .u32 (0:Nat))) :
  ∃ fr',af (CC L) run k nE ⟨fr,hp,wr⟩=some (.exit 0,⟨fr',hp,wr⟩)∧fr'.length=29∧nth fr' 3=nth fr 3:=by
 simp[nE,Tryz.f145,aF,af,aH,an,ao,aG,ag,ai,aj,ak,aC,az,FP.none,bc,ar,bd,au,aa,ae,ab,h29,h4]
theorem Vm (k:IntKind)(a s:Nat)(h:s=a / 10)(hs:s≤hiN k):bu k ((a:Int) / 10)=(s:Int):=by
 have e:((a:Int) / 10)=(s:Int):=by omega
 rw[e];exact di k _ hs
theorem AZ (L:Lst)(run:aq)(k:Nat)(fr:List PV)(hp:List Blk)(wr:List Nat)(c x y:Nat)(hc:c<100000000)(hx:0<x)(hx2:x≤4294967295)(hy:y=x / 10)(h29:fr.length=29)(h3:nth fr 3 = .sc (.int .i64 (c:Int)))(h4:nth fr 4 = .sc (.int .u32 (x:Int))) :
  ∃ fr',af (CC L) run k nE ⟨fr,hp,wr⟩=some (.normal,⟨fr',hp,wr⟩)∧fr'.length=29∧nth fr' 3 = .sc (.int .i64 ((c+1:Nat):Int))∧nth fr' 4 = .sc (.int .u32 (y:Int)):=by
 have hw:=bF c (Nat.lt_trans hc (by decide))
 have hw2:=Vm .u32 x y hy (ib (by omega))
 simp[nE,Tryz.f145,aF,af,aH,an,ao,aG,ag,ai,aj,ak,aC,az,FP.none,bc,ar,bd,au,aa,ae,ab,h29,h3,h4,hx,hw,hw2]
theorem sT (L:Lst)(run:aq)(k:Nat)(hp:List Blk)(wr:List Nat):∀ (n x c:Nat) (fr:List PV),x<10 ^ n→c+n<100000000→x≤4294967295→fr.length=29→nth fr 3 = .sc (.int .i64 (c:Int))→nth fr 4 = .sc (.int .u32 (x:Int)) →
  ∃ fr',bX (af (CC L) run k nE) (n+1) ⟨fr,hp,wr⟩=some (.exit 0,⟨fr',hp,wr⟩)∧fr'.length=29∧nth fr' 3 = .sc (.int .i64 ((c+nd n x:Nat):Int))
 | n,x,c,fr,hx,hc,hx2,h29,h3,h4=>by
  by_cases h0:x=0
  ·subst h0
   obtain⟨fr',g1,g2,g3⟩:=Hg L run k fr hp wr h29 h4
   refine⟨fr',bw g1,g2,?_⟩
   rw[g3,h3]
   cases n <;> rfl
  ·cases n with
   | zero=>simp at hx;exact absurd hx h0
   | succ n =>
    obtain⟨fr1,g1,g2,g3,g4⟩:=AZ L run k fr hp wr c x _ (by omega) (by omega) hx2 rfl h29 h3 h4
    obtain⟨fr',q1,q2,q3⟩:=sT L run k hp wr n (x / 10) (c+1) fr1 (by rw[Nat.pow_succ] at hx;omega) (by omega) (by omega) g2 g3 g4
    refine⟨fr',by rw[bV g1];exact q1,q2,?_⟩
    rw[q3]
    have hb:x.beq 0=false:=by
     cases x with
     | zero=>exact absurd rfl h0
     | succ x=>rfl
    rw[nd,hb,cond_false]
    congr 3;omega
noncomputable def pN:Code:=seq1 (seq1 (ah 3 gP))
theorem AY:ah 3 gP = .seq (.seq pN (.block 0 (.loop nE))) (ah 4 gP):=rfl
theorem Hf (L:Lst)(run:aq)(k:Nat)(n:Bool):∃ st,af (CC L) run k gP ⟨entry 29 [wh n []],[],[]⟩=some (.ret,st)∧aZ TT st.fr st.hp Tryz.f145.results.toList=some [Ab.bC 0]:=by
 obtain⟨e1,e2⟩:=cP 28 (wh n [])
 generalize entry 29 [wh n []]=fr0 at *
 rw[show wh n [] = .agg [.sc (.bool n),aL []] from rfl] at e2
 simp[gP,Tryz.f145,e1,e2,af,aH,an,ao,aG,ag,ai,aj,ak,aC,az,FP.none,bc,ar,bd,au,bH,bG,partOf,aa,ae,ab,bf,ca,bg,uW,uD,sD,aD,wf0,wf1,aM,aU,aV,bn,aZ,Ab.bC]
set_option maxHeartbeats 1000000 in
theorem He (L:Lst)(run:aq)(k:Nat)(n:Bool)(l:List Nat)(a c:Nat)(hc:c=9*l.length)(hl:l.length<1000000) :
  ∃ f1 fr,aY (CC L) run k 3 gP ⟨entry 29 [wh n (l++[a])],[],[]⟩=some ⟨f1,[⟨.live,[.sc (.bool n),aL (l++[a])]⟩],[0]⟩∧af (CC L) run k pN ⟨f1,[⟨.live,[.sc (.bool n),aL (l++[a])]⟩],[0]⟩=some (.normal,⟨fr,[⟨.live,[.sc (.bool n),aL (l++[a])]⟩],[0]⟩)∧fr.length=29
   ∧ nth fr 3 = .sc (.int .i64 (c:Int))∧nth fr 4 = .sc (.int .u32 (a:Int)):=by
 obtain⟨e1,e2⟩:=cP 28 (wh n (l++[a]))
 generalize entry 29 [wh n (l++[a])]=fr0 at *
 have hd:(bn ((l++[a]).map dg) l.length).head?=some (.sc (.int .u32 a)):=by
  rw[eF _ _ (by simp)];simp[dg]
 have hE:aL (l++[a]) = .imm (l.length+1) false ((l++[a]).map dg):=by simp[aL]
 rw[show wh n (l++[a]) = .agg [.sc (.bool n),aL (l++[a])] from rfl,hE] at e2
 rw[hE]
 obtain⟨m,hm⟩:∃ m,m=l.length:=⟨_,rfl⟩
 rw[← hm] at hd hc e2 hl ⊢
 have hw:bu .i64 (m:Int)=(m:Int):=cb .i64 m (hiI (by omega))
 have hw2:bu .i64 (9*(m:Int))=(c:Int):=by
  have e:(9*(m:Int))=(c:Int):=by omega
  rw[e];exact cb .i64 c (hiI (by omega))
 have hne:((m:Int)+1 == 0)=false:=by
  rw[beq_eq_false_iff_ne];omega
 have hlt:m<m+1:=by omega
 generalize (l++[a]).map dg=cs at *
 have p1:∃ f1,aY (CC L) run k 3 gP ⟨fr0,[],[]⟩=some ⟨f1,[⟨.live,[.sc (.bool n),.imm (m+1) false cs]⟩],[0]⟩∧f1.length=29∧nth f1 1 = .ptr 0 0∧nth f1 3 = .sc (.int .i64 (c:Int)):=by
  simp[gP,Tryz.f145,aY,e1,e2,af,aH,an,ao,aG,ag,ai,aj,ak,aC,az,FP.none,bc,ar,bd,au,bH,bG,partOf,aa,ae,ab,bf,cL,bg,uW,uD,sD,aD,wf0,wf1,aM,aU,aV,bn,hne,hw,hw2]
 obtain⟨f1,q1,q2,q3,q4⟩:=p1
 refine⟨f1,?_⟩
 rw[q1]
 have p2:∃ fr,af (CC L) run k pN ⟨f1,[⟨.live,[.sc (.bool n),.imm (m+1) false cs]⟩],[0]⟩=some (.normal,⟨fr,[⟨.live,[.sc (.bool n),.imm (m+1) false cs]⟩],[0]⟩)∧fr.length=29∧nth fr 3 = .sc (.int .i64 (c:Int))∧nth fr 4 = .sc (.int .u32 (a:Int)):=by
  simp[pN,gP,Tryz.f145,ah,seq1,q2,q3,q4,af,aH,an,ao,aG,ag,ai,aj,ak,aC,az,FP.none,bc,ar,bd,au,bH,ba,bG,bj,partOf,aa,ae,ab,bf,cL,uW,uD,sD,s32,aD,a32,wf0,wf1,aU,aV,bn,hw,hlt,hd]
 obtain⟨fr,r1,r2⟩:=p2
 exact⟨fr,rfl,r1,r2⟩
theorem DL (L:Lst)(run:aq)(k:Nat)(fr:List PV)(hp:List Blk)(wr:List Nat)(z:Int)(h29:fr.length=29)(h3:nth fr 3 = .sc (.int .i64 z)) :
  ∃ st,af (CC L) run k (ah 4 gP) ⟨fr,hp,wr⟩=some (.ret,st)∧aZ TT st.fr st.hp Tryz.f145.results.toList=some [Ab.bC z]:=by
 simp[gP,Tryz.f145,ah,h29,h3,af,aH,an,ao,aG,ag,ai,aj,ak,aC,az,FP.none,aa,ab,aZ,Ab.bC]
def oy (l:List Nat):Nat:=match l.getLast? with
 | none=>0
 | some a=>9*(l.length - 1)+nd 9 a
def lF:List PV→Option (List PV)
 | [.agg [.sc (.bool _),p]]=>match gN p with
  | some l=>some [Ab.bC (Int.ofNat (oy l))]
  | none=>none
 | _=>none
theorem sS:Ab.Spec base.P 145 lF:=Ab.Spec.bL (C:=CC []) (cU trivial) fun args rs h=>by
 unfold lF at h
 split at h
 ·split at h
  ·rename_i n p _ l hl
   obtain⟨rfl,hd,hlen⟩:=dk hl
   simp only[Option.some.injEq] at h
   subst h
   by_cases h0:l=[]
   ·subst h0
    obtain⟨st,e1,e2⟩:=Hf [] (runK (CC []) 1) 1 n
    exact⟨2,_,_,_,_,_,aQ s9 rfl e1 e2,eB _ _,Wk.refl rfl,trivial⟩
   ·obtain⟨m,a,rfl⟩:∃ m a,l=m++[a]:=⟨l.dropLast,l.getLast h0,(List.dropLast_concat_getLast h0).symm⟩
    have ha:a<1000000000:=hd a (by simp)
    have hm:m.length<1000000:=by simp at hlen;omega
    obtain⟨f1,f2,a1,a2,a3,a4,a5⟩:=He [] (runK (CC []) 10) 10 n m a (9*m.length) rfl hm
    obtain⟨f3,b1,b2,b3⟩:=sT [] (runK (CC []) 10) 10 [⟨.live,[.sc (.bool n),aL (m++[a])]⟩] [0] 9 a (9*m.length) f2 (Nat.lt_of_lt_of_le ha (by decide)) (by omega) (Nat.le_trans (Nat.le_of_lt ha) (by decide)) a3 a4 a5
    obtain⟨st,e1,e2⟩:=DL [] (runK (CC []) 10) 10 f3 _ _ _ b2 b3
    have hx:af (CC []) (runK (CC []) 10) 10 gP ⟨entry 29 [wh n (m++[a])],[],[]⟩=some (.ret,st):=by
     rw[aO 3 a1,AY,aw ((aw a2).trans (bE b1))]
     exact e1
    have hN:oy (m++[a])=9*m.length+nd 9 a:=by simp[oy]
    rw[hN]
    exact⟨11,_,_,_,_,_,aQ s9 rfl hx e2,eB _ (9*m.length+nd 9 a:Nat),Wk.refl rfl,trivial⟩
  ·cases h
 ·cases h
noncomputable def L16:Lst:=[(145,lF)]
theorem o16:bt L16 145=fun a=>lF (aJ a):=rfl
theorem g16 (run:aq)(n:Bool)(l:List Nat)(hd:Dok l)(hl:l.length<1000000):av L16 run 145 [.agg [.sc (.bool n),aL l]] (Ab.bC (Int.ofNat (oy l))):=fun dr hp =>
 bp (L:=L16) (f:=lF) KJ o16 run dr hp _ [Ab.bC (Int.ofNat (oy l))] rfl (by simp only[aJ,canon,ir,aL]) (by simp only[lF,cR hd hl])
theorem ME (L:Lst)(run:aq)(k:Nat)(n:Bool)(l:List Nat)(c:Nat)(g1:av L run 145 [.agg [.sc (.bool n),aL l]] (Ab.bC (Int.ofNat c))) :
  ∃ st,af (CC L) run k (Tryz.f94.body.getD .skip) ⟨entry 6 [wh n l],[],[]⟩=some (.ret,st)∧aZ TT st.fr st.hp Tryz.f94.results.toList=some [.sc (.bool (decide (1000<c)))]:=by
 obtain⟨e1,e2⟩:=cP 5 (wh n l)
 generalize entry 6 [wh n l]=fr0 at *
 rw[show wh n l = .agg [.sc (.bool n),aL l] from rfl] at e2
 unfold av at g1
 simp only[Ab.bC,Int.ofNat_eq_natCast] at g1
 have hc:((c:Int) > 1000)=(1000<c):=by apply propext;omega
 have hc2:((1000:Int)<c)=(1000<c):=by apply propext;omega
 simp[Tryz.f94,e1,e2,af,aH,an,ao,aG,ag,ai,aP,aj,ak,aC,az,FP.none,bc,ar,bd,au,partOf,aa,ae,ab,bf,bg,g1,hc,sW,aW,aM,aU,aV,bn,bA,aZ]
def yY:List PV→Option (List PV)
 | [.agg [.sc (.bool _),p]]=>match gN p with
  | some l=>some [.sc (.bool (decide (1000<oy l)))]
  | none=>none
 | _=>none
theorem yV:Ab.Spec base.P 94 yY:=Ab.Spec.bL (C:=CC L16) (cU ⟨sS,trivial⟩) fun args rs h=>by
 unfold yY at h
 split at h
 ·split at h
  ·rename_i n p _ l hl
   obtain⟨rfl,hd,hlen⟩:=dk hl
   simp only[Option.some.injEq] at h
   subst h
   obtain⟨st,e1,e2⟩:=ME L16 (runK (CC L16) 1) 1 n l _ (g16 _ n l hd hlen)
   exact⟨2,_,_,_,_,_,aQ NU rfl e1 e2,vH _ _,Wk.refl rfl,trivial⟩
  ·cases h
 ·cases h
noncomputable def L17:Lst:=[(94,yY)]
theorem o17:bt L17 94=fun a=>yY (aJ a):=rfl
theorem g17 (run:aq)(z:Int)(hz:Sm z):av L17 run 94 [bk z] (.sc (.bool (decide (1000<oy (aA z.natAbs))))):=fun dr hp =>
 bp (L:=L17) (f:=yY) VT o17 run dr hp _ [.sc (.bool (decide (1000<oy (aA z.natAbs))))] (lJ hp z) (jm z) (by
  show (match gN (aL (aA z.natAbs)) with | some l=>some [PV.sc (.bool (decide (1000<oy l)))] | none=>none)=_
  rw[cR (bM _) hz.lt])
theorem Fz (L:Lst)(run:aq)(k:Nat)(a b:Int)(p q:Bool)(g1:av L run 94 [bk a] (.sc (.bool p)))(g2:av L run 94 [bk b] (.sc (.bool q))) :
  ∃ st,af (CC L) run k (Tryz.f43.body.getD .skip) ⟨entry 11 [bT a b],[],[]⟩=some (.ret,st)∧aZ TT st.fr st.hp Tryz.f43.results.toList=some [.sc (.bool (p || q))]:=by
 obtain⟨h1,h2⟩:=cP 10 (bT a b)
 generalize entry 11 [bT a b]=fr0 at *
 unfold av at *
 simp only[whW,fv] at *
 cases p <;> simp[Tryz.f43,h1,h2,af,aH,an,ao,aG,ag,ai,aP,aj,ak,aC,az,FP.none,au,bG,partOf,aa,ae,ab,bf,bg,g1,g2,undef,uR,sW,aW,rf0,rf1,aM,aU,aV,bA,bn,aZ]
def mf:List PV→Option (List PV)
 | [p]=>match gp p with
  | some (a,b)=>some [.sc (.bool (decide (1000<oy (aA a.natAbs)) || decide (1000<oy (aA b.natAbs))))]
  | none=>none
 | _=>none
theorem od:Ab.Spec base.P 43 mf:=Ab.Spec.bL (C:=CC L17) (cU ⟨yV,trivial⟩) fun args rs h=>by
 unfold mf at h
 split at h
 ·split at h
  ·rename_i a b ex
   obtain⟨rfl,ha,hb⟩:=dV ex
   simp only[Option.some.injEq] at h
   subst h
   obtain⟨st,e1,e2⟩:=Fz L17 (runK (CC L17) 1) 1 a b _ _ (g17 _ a ha) (g17 _ b hb)
   exact⟨2,_,_,_,_,_,aQ HZ rfl e1 e2,vH _ _,Wk.refl rfl,trivial⟩
  ·cases h
 ·cases h
end Go.Proofs.YtjdmodeenbdfpaaGreat
