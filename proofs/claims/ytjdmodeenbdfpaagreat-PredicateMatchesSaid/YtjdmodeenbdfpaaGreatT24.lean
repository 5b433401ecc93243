/- Contracts of num's integers, part 24 of the proof; each lemma states its own conditions. -/
import Derived.Test.YtjdmodeenbdfpaaGreatT23
set_option linter.unusedSimpArgs false
set_option linter.unusedVariables false
noncomputable section
namespace Go.Proofs.YtjdmodeenbdfpaaGreat
open Go Go.Ab Tryz
attribute [local simp] FzZ aA aF aG aH aL aU aV aY aa ab ae af ag ah ai aj an ao aq aw az bF bc bd bj bp br partOf sW seq1
variable(L:Lst)(run:ar)(k:Nat)(fr:List PV)(hp:List Blk)(wr:List Nat)
theorem XZ:base.F.get 153=some f153:=by kernel_rfl
theorem PT:base.F.get 169=some f169:=by kernel_rfl
theorem F0:base.F.get 183=some f183:=by kernel_rfl
theorem m8:base.F.get 108=some f108:=by kernel_rfl
theorem ad9:base.shared 153=false:=by kernel_rfl
theorem Y4:base.shared 169=false:=by kernel_rfl
theorem MI:base.shared 183=false:=by kernel_rfl
theorem Bj:base.shared 191=false:=by kernel_rfl
abbrev ik:ByteArray:={ data:=#[47] }
theorem we:bT ik=[47]:=rfl
def idx (s:ByteArray):Int:=bif eqL [47] (bT s) then 0 else Lib.indexByte (bT s) 47
theorem EF(s:ByteArray)(g1:au L run 191 [.sc (.string s),.sc (.int .u8 47)] (.sc (.int .i64 (Lib.indexByte (bT s) 47)))) :
  ∃ st,af (CC L) run k (f183.body.getD .skip) ⟨entry 143 [.sc (.string s),.sc (.string ik)],[],[]⟩=some (.ret,st)∧aU TT st.fr st.hp f183.results.toList=some [Ab.bz (idx s)]:=by
 obtain⟨h1,h2,h3⟩:=cn 141 (.sc (.string s)) (.sc (.string ik))
 generalize entry 143 [.sc (.string s),.sc (.string ik)]=fr0 at *
 unfold au at g1
 unfold idx
 have hix:iC TT 9 (.sc (.string ik)) (.sc (.int .i64 0))=some (.sc (.int .u8 47)):=by
  simp[iC,uS,ke,we,Eo]
 have hst:=we
 generalize ik=sl at *
 generalize Lib.indexByte (bT s) 47=i at *
 cases he:eqL [47] (bT s) with
 | true=>simp[f183,h1,h2,h3,bO,uS,hst,eD,he,Ab.bz]
 | false=>simp[f183,h1,h2,h3,bO,uS,hst,eD,he,g1,hix,Ab.bz]
def vA:List PV→Option (List PV)
 | [.sc (.string s),.sc (.string p)]=>bif eqL (bT p) [47] then some [Ab.bz (idx s)] else none
 | _=>none
theorem tg:∀ {a b:List UInt8},eqL a b=true→a=b
 | [],[],_=>rfl
 | a::x,b::y,h=>by
  simp only[eqL,Bool.and_eq_true,beq_iff_eq] at h
  rw[tg h.2,UInt8.toNat_inj.1 h.1]
 | [],_::_,h=>by simp[eqL] at h
 | _::_,[],h=>by simp[eqL] at h
theorem wu {p:ByteArray}(h:eqL (bT p) [47]=true):p=ik:=by
 have:=tg h
 rw[← gV p,this];rfl
def L12:Lst:=[(191,ibF)]
theorem g12(s:ByteArray):au L12 run 191 [.sc (.string s),.sc (.int .u8 47)] (.sc (.int .i64 (Lib.indexByte (bT s) 47))):=fun dr hp =>
 bw (L:=L12) (f:=ibF) Bj rfl run dr hp _ [.sc (.int .i64 (Lib.indexByte (bT s) 47))] rfl rfl rfl
theorem EE:Ab.Spec base.P 183 vA:=Ab.Spec.bM (C:=CC L12) (cP ⟨abR,trivial⟩) fun args rs h=>by
 unfold vA at h
 split at h
 ·rename_i s p
  cases hb:eqL (bT p) [47] with
  | false=>rw[hb] at h;cases h
  | true =>
   rw[hb] at h
   simp only[cond_true,OiE] at h
   subst h
   rw[wu hb]
   obtain⟨st,e1,e2⟩:=EF L12 (runK (CC L12) 1) 1 s (g12 _ s)
   exact⟨2,_,_,_,_,_,aP F0 rfl e1 e2,eY _ _,Wk.refl rfl,trivial⟩
 ·cases h
def nA (s:ByteArray):List PV:=match idx s with
 | .ofNat i=>[.sc (.string (mkStr ((bT s).take i))),.sc (.string (mkStr ((bT s).drop (i+1)))),.sc (.bool true)]
 | .negSucc _=>[.sc (.string s),.sc (.string { data:=#[] }),.sc (.bool false)]
def l9 (s:ByteArray):Bool:=match idx s with
 | .ofNat i=>(i+1).ble (bT s).length && (bT s).length.ble 1000000000
 | .negSucc _=>true
def lX:Code:=f169.body.getD .skip
def Iq:Code:=seq1 (seq1 (ah 1 lX))
def tb:Code:=cw (seq1 (ah 1 lX))
theorem xR:ah 1 lX = .seq (.seq Iq tb) (ah 2 lX):=rfl
theorem U7 (L:Lst)(run:ar)(k:Nat)(s sl:ByteArray):∃ fr,aX (CC L) run k 1 lX ⟨entry 23 [.sc (.string s),.sc (.string sl)],[],[]⟩=some ⟨fr,[],[]⟩∧fr.length=23∧nth fr 0 = .sc (.string s)∧nth fr 1 = .sc (.string sl):=by
 obtain⟨h1,h2,h3⟩:=cn 21 (.sc (.string s)) (.sc (.string sl))
 generalize entry 23 [.sc (.string s),.sc (.string sl)]=fr0 at *
 simp[lX,f169,aX,h1,h2,h3]
theorem abH(s sl:ByteArray)(z:Int)(g1:au L run 183 [.sc (.string s),.sc (.string sl)] (Ab.bz z))(h1:fr.length=23)(h2:nth fr 0 = .sc (.string s))(h3:nth fr 1 = .sc (.string sl)) :
  ∃ fr',af (CC L) run k Iq ⟨fr,[],[]⟩=some (.normal,⟨fr',[],[]⟩)∧fr'.length=23∧nth fr' 0 = .sc (.string s)∧nth fr' 1 = .sc (.string sl)∧nth fr' 7 = .sc (.int .i64 z):=by
 unfold au at g1
 simp only[Ab.bz] at g1
 simp[Iq,lX,f169,h1,h2,h3,g1]
theorem U6(s sl a b:ByteArray)(z j:Int)(n:Nat)(hz : ¬ (z<0))(hj:bE .i64 (z+n)=j)(hn:(bT sl).length=n)(hs1:eu s none (some (.sc (.int .i64 z))) none=some (.sc (.string a)))(hs2:eu s (some (.sc (.int .i64 j))) none none=some (.sc (.string b)))
  (h1:fr.length=23) (h2:nth fr 0 = .sc (.string s)) (h3:nth fr 1 = .sc (.string sl)) (h7:nth fr 7 = .sc (.int .i64 z)) :
  ∃ st,af (CC L) run k tb ⟨fr,[],[]⟩=some (.ret,st)∧aU TT st.fr st.hp f169.results.toList=some [.sc (.string a),.sc (.string b),.sc (.bool true)]:=by
 have hz':0≤z:=by omega
 simp[tb,lX,f169,cw,h1,h2,h3,h7,bO,uS,hz',hn,hj,dq,hs1,hs2,number,FP.free]
theorem U5(s sl:ByteArray)(z:Int)(hz:z<0)(h1:fr.length=23)(h2:nth fr 0 = .sc (.string s))(h3:nth fr 1 = .sc (.string sl))(h7:nth fr 7 = .sc (.int .i64 z)) :
  ∃ st fr',af (CC L) run k tb ⟨fr,[],[]⟩=some (.normal,⟨fr',[],[]⟩)∧af (CC L) run k (ah 2 lX) ⟨fr',[],[]⟩=some (.ret,st)∧aU TT st.fr st.hp f169.results.toList=some [.sc (.string s),.sc (.string { data:=#[] }),.sc (.bool false)]:=by
 have hz' : ¬ (0≤z):=by omega
 have e:∃ fr',af (CC L) run k tb ⟨fr,[],[]⟩=some (.normal,⟨fr',[],[]⟩)∧fr'.length=23∧nth fr' 0 = .sc (.string s):=by
  simp[tb,lX,f169,cw,h1,h2,h7,hz']
 obtain⟨fr',e1,e2,e3⟩:=e
 have e':∃ st,af (CC L) run k (ah 2 lX) ⟨fr',[],[]⟩=some (.ret,st)∧aU TT st.fr st.hp f169.results.toList=some [.sc (.string s),.sc (.string { data:=#[] }),.sc (.bool false)]:=by
  simp[lX,f169,e2,e3]
 obtain⟨st,e4,e5⟩:=e'
 exact⟨st,fr',e1,e4,e5⟩
theorem It(s:ByteArray)(hk:l9 s=true)(g1:au L run 183 [.sc (.string s),.sc (.string ik)] (Ab.bz (idx s))) :
  ∃ st,af (CC L) run k lX ⟨entry 23 [.sc (.string s),.sc (.string ik)],[],[]⟩=some (.ret,st)∧aU TT st.fr st.hp f169.results.toList=some (nA s):=by
 obtain⟨f1,a1,a2,a3,a4⟩:=U7 L run k s ik
 obtain⟨f2,b1,b2,b3,b4,b5⟩:=abH L run k f1 s ik (idx s) g1 a2 a3 a4
 unfold nA
 unfold l9 at hk
 cases hi:idx s with
 | ofNat i =>
  rw[hi] at b5 hk
  simp only[Bool.and_eq_true,Nat.ble_eq] at hk
  have hw:=bH i (Nat.lt_of_lt_of_le hk.1 (Nat.le_trans hk.2 (by decide)))
  have hs1:eu s none (some (.sc (.int .i64 (Int.ofNat i)))) none=some (.sc (.string (mkStr ((bT s).take i)))):=by
   have:i≤(bT s).length:=Nat.le_of_succ_le hk.1
   simp[eu,bnd,fk,bm,this]
  have hs2:eu s (some (.sc (.int .i64 ((i:Int)+1)))) none none=some (.sc (.string (mkStr ((bT s).drop (i+1))))):=by
   have:i+1≤(bT s).length:=hk.1
   simp[eu,bnd,fk,jr,this]
  obtain⟨st,c1,c2⟩:=U6 L run k f2 s ik _ _ (Int.ofNat i) _ 1 (by simp) hw rfl hs1 hs2 b2 b3 b4 b5
  exact⟨st,by rw[aO 1 a1,xR,cC ((av b1).trans c1)],c2⟩
 | negSucc i =>
  rw[hi] at b5
  obtain⟨st,f3,c1,c2,c3⟩:=U5 L run k f2 s ik (Int.negSucc i) (by simp) b2 b3 b4 b5
  exact⟨st,by rw[aO 1 a1,xR,av ((av b1).trans c1)];exact c2,c3⟩
def rO:List PV→Option (List PV)
 | [.sc (.string s),.sc (.string p)]=>bif eqL (bT p) [47] && l9 s then some (nA s) else none
 | _=>none
theorem Eb(s:ByteArray):bq (snap hp bn) (nA s)=some (nA s,[]):=by
 unfold nA;cases idx s <;> rfl
theorem JK (s:ByteArray):WkL (nA s) (nA s):=WkL.refl (by unfold nA;cases idx s <;> rfl)
def L13:Lst:=[(183,vA)]
theorem g13(s:ByteArray):au L13 run 183 [.sc (.string s),.sc (.string ik)] (Ab.bz (idx s)):=fun dr hp =>
 bw (L:=L13) (f:=vA) MI rfl run dr hp _ [Ab.bz (idx s)] rfl rfl rfl
theorem Ir:Ab.Spec base.P 169 rO:=Ab.Spec.bM (C:=CC L13) (cP ⟨EE,trivial⟩) fun args rs h=>by
 unfold rO at h
 split at h
 ·rename_i s p
  cases hb:eqL (bT p) [47] && l9 s with
  | false=>rw[hb] at h;cases h
  | true =>
   rw[hb] at h
   simp only[cond_true,OiE] at h
   subst h
   rw[Bool.and_eq_true] at hb
   rw[wu hb.1]
   obtain⟨st,e1,e2⟩:=It L13 (runK (CC L13) 1) 1 s hb.2 (g13 _ s)
   exact⟨2,_,_,_,_,_,aP PT rfl e1 e2,Eb _ _,JK _⟩
 ·cases h
def L14:Lst:=[(169,rO)]
theorem g14(s:ByteArray)(hk:l9 s=true):au L14 run 169 [.sc (.string s),.sc (.string ik)] (jk (nA s)):=fun dr hp =>
 bw (L:=L14) (f:=rO) Y4 rfl run dr hp _ (nA s) rfl rfl (by
  show (bif true && l9 s then some (nA s) else none)=_
  rw[hk];rfl)
theorem O2(s:ByteArray)(g1:au L run 169 [.sc (.string s),.sc (.string ik)] (jk (nA s))) :
  ∃ st,af (CC L) run k (f153.body.getD .skip) ⟨entry 13 [.sc (.string s),.sc (.string ik)],[],[]⟩=some (.ret,st)∧aU TT st.fr st.hp f153.results.toList=some (nA s):=by
 obtain⟨h1,h2,h3⟩:=cn 11 (.sc (.string s)) (.sc (.string ik))
 generalize entry 13 [.sc (.string s),.sc (.string ik)]=fr0 at *
 unfold au at g1
 unfold nA at g1 ⊢
 cases hi:idx s <;> rw[hi] at g1 <;> simp only[jk] at g1 ⊢ <;> simp[f153,h1,h2,h3,g1]
theorem O1:Ab.Spec base.P 153 rO:=Ab.Spec.bM (C:=CC L14) (cP ⟨Ir,trivial⟩) fun args rs h=>by
 unfold rO at h
 split at h
 ·rename_i s p
  cases hb:eqL (bT p) [47] && l9 s with
  | false=>rw[hb] at h;cases h
  | true =>
   rw[hb] at h
   simp only[cond_true,OiE] at h
   subst h
   rw[Bool.and_eq_true] at hb
   rw[wu hb.1]
   obtain⟨st,e1,e2⟩:=O2 L14 (runK (CC L14) 1) 1 s (g14 _ s hb.2)
   exact⟨2,_,_,_,_,_,aP XZ rfl e1 e2,Eb _ _,JK _⟩
 ·cases h
def rrC:Code:=f108.body.getD .skip
def MW:Code:=seq1 (ah 3 rrC)
def Dn:Code:=seq1 (ah 5 rrC)
theorem zK:ah 3 rrC = .seq MW (ah 4 rrC):=rfl
theorem zJ:ah 5 rrC = .seq Dn (ah 6 rrC):=rfl
theorem aed (L:Lst)(run:ar)(k:Nat)(s s1 t1:ByteArray)(sl ok:Bool)(n:Int)(g1:au L run 153 [.sc (.string s),.sc (.string ik)] (.tup [.sc (.string s1),.sc (.string t1),.sc (.bool sl)]))(g2:au L run 154 [.sc (.string s1)] (.tup [bt n,.sc (.bool ok)])) :
  ∃ fr wr,aX (CC L) run k 3 rrC ⟨entry 61 [.sc (.string s)],[],[]⟩=some ⟨fr,[zR4,bW n],wr⟩∧fr.length=61∧nth fr 2 = .ptr 0 0∧nth fr 5 = .sc (.string t1)∧nth fr 6 = .sc (.bool sl)∧nth fr 7 = .ptr 1 0∧nth fr 8 = .sc (.bool ok):=by
 obtain⟨h1,h2⟩:=cW 60 (.sc (.string s))
 generalize entry 61 [.sc (.string s)]=fr0 at *
 unfold au at g1 g2
 simp only[whW,bW] at g2 ⊢
 generalize aK n.natAbs=rn at *
 generalize bA n=nn at *
 simp[rrC,f108,aX,h1,h2,and_assoc,ch,bG,bh,g1,g2,zR,zW,aM,bZ,cq]
theorem aec(sl ok:Bool)(n:Int)(hb:ok=false∨sl=false)(g1:au L run 97 [.sc (.int .i64 1)] (bt 1))
  (h1:fr.length=61) (h2:nth fr 2 = .ptr 0 0) (h6:nth fr 6 = .sc (.bool sl)) (h7:nth fr 7 = .ptr 1 0) (h8:nth fr 8 = .sc (.bool ok)) :
  ∃ st,af (CC L) run k MW ⟨fr,[zR4,bW n],wr⟩=some (.ret,st)∧aU TT st.fr st.hp f108.results.toList=some [cl n 1,.sc (.bool ok)]:=by
 unfold au at g1
 rw[fz]
 simp only[whW,bW] at g1 ⊢
 generalize aK n.natAbs=rn at *
 generalize bA n=nn at *
 generalize aK (1:Int).natAbs=r1 at *
 generalize bA 1=n1 at *
 rcases hb with rfl | rfl
 ·simp[MW,rrC,f108,h1,h2,h7,h8,unP,ch,bG,bh,undef,g1,uR,sR,aR,aW,zR,rf0,rf1,fj,dA,ky,bZ,cq,number,FP.free,cH,FP.apart]
 ·cases ok <;> simp[MW,rrC,f108,h1,h2,h6,h7,h8,unP,ch,bG,bh,undef,g1,uR,sR,aR,aW,zR,rf0,rf1,fj,dA,ky,bZ,cq,number,FP.free,cH,FP.apart]
theorem aeb(n:Int)(h1:fr.length=61)(h2:nth fr 2 = .ptr 0 0)(h6:nth fr 6 = .sc (.bool true))(h7:nth fr 7 = .ptr 1 0)(h8:nth fr 8 = .sc (.bool true)) :
  ∃ fr',af (CC L) run k MW ⟨fr,[zR4,bW n],wr⟩=some (.normal,⟨fr',[zR4,bW n],wr⟩)∧fr'.length=61∧nth fr' 2 = .ptr 0 0∧nth fr' 5=nth fr 5∧nth fr' 7 = .ptr 1 0:=by
 simp[MW,rrC,f108,h1,h2,h6,h7,h8,unP]
theorem ahV(t1:ByteArray)(ok:Bool)(n d:Int)(g1:au L run 154 [.sc (.string t1)] (.tup [bt d,.sc (.bool ok)]))(h1:fr.length=61)(h2:nth fr 2 = .ptr 0 0)(h5:nth fr 5 = .sc (.string t1))(h7:nth fr 7 = .ptr 1 0) :
  ∃ fr' wr',aX (CC L) run k 1 (ah 4 rrC) ⟨fr,[zR4,bW n],wr⟩=some ⟨fr',[zR4,bW n,bW d],wr'⟩∧fr'.length=61∧nth fr' 2 = .ptr 0 0∧nth fr' 7 = .ptr 1 0∧nth fr' 9 = .ptr 2 0∧nth fr' 8 = .sc (.bool ok):=by
 unfold au at g1
 simp only[whW,bW] at g1 ⊢
 generalize aK n.natAbs=rn at *
 generalize bA n=nn at *
 generalize aK d.natAbs=rd at *
 generalize bA d=nd at *
 simp[rrC,f108,aX,h1,h2,h5,h7,and_assoc,ch,bG,bh,g1,zW,aM,bZ,cq]
def wH (ok:Bool)(s c1 c2:Int):Bool := !ok || (s == 0 || (decide (c1≤0) || c2 != 0))
set_option maxHeartbeats 4000000 in
theorem ahU(ok:Bool)(n d g:Int)(s c1 c2:Int)(g1:ok=true→au L run 101 [bt n] (Ab.bz s))(g0:au L run 97 [.sc (.int .i64 1)] (bt 1))(g2:ok=true→s≠0→au L run 96 [bt d,bt 1] (Ab.bz c1))
  (g3:ok=true→s≠0 → ¬ (c1≤0)→au L run 150 [bt n,bt d] (bt g)) (g4:ok=true→s≠0 → ¬ (c1≤0)→au L run 96 [bt g,bt 1] (Ab.bz c2))
  (h1:fr.length=61) (h2:nth fr 2 = .ptr 0 0) (h7:nth fr 7 = .ptr 1 0) (h9:nth fr 9 = .ptr 2 0) (h8:nth fr 8 = .sc (.bool ok)) :
  (wH ok s c1 c2=true∧∃ st,af (CC L) run k Dn ⟨fr,[zR4,bW n,bW d],wr⟩=some (.ret,st)∧aU TT st.fr st.hp f108.results.toList=some [.agg [.sc (.bool false),.sc (.slice none 0 0),.sc (.bool false),.sc (.slice none 0 0)],.sc (.bool false)]) ∨
  (wH ok s c1 c2=false∧∃ fr',af (CC L) run k Dn ⟨fr,[zR4,bW n,bW d],wr⟩=some (.normal,⟨fr',[zR4,bW n,bW d],wr⟩)∧fr'.length=61∧nth fr' 2 = .ptr 0 0∧nth fr' 7 = .ptr 1 0∧nth fr' 9 = .ptr 2 0):=by
 unfold wH
 unfold au at *
 simp only[whW,bW,Ab.bz] at *
 generalize aK n.natAbs=rn at *
 generalize bA n=nn at *
 generalize aK d.natAbs=rd at *
 generalize bA d=nd at *
 generalize aK g.natAbs=rg at *
 generalize bA g=ng at *
 generalize aK (1:Int).natAbs=r1 at *
 generalize bA 1=n1 at *
 cases ok with
 | false =>
  refine .inl ⟨rfl,?_⟩
  simp[Dn,rrC,f108,h1,h2,h8,unP,bG,fK,bh,undef,uR,sR,aR,zR,rf0,rf1,fj,dA,bZ,cq,number,FP.free]
 | true =>
  have g1:=g1 rfl
  by_cases hs:s=0
  ·refine .inl ⟨by simp[hs],?_⟩
   have hs':(s == 0)=true:=by simpa using hs
   simp[Dn,rrC,f108,h1,h2,h7,h8,g1,hs',unP,bG,fK,bh,undef,uR,sR,aR,aW,zR,rf0,rf1,fj,dA,bZ,cq,number,FP.free]
  ·have g2:=g2 rfl hs
   have hs':(s == 0)=false:=by simpa using hs
   by_cases hc:c1≤0
   ·refine .inl ⟨by simp[hc],?_⟩
    simp[Dn,rrC,f108,h1,h2,h7,h8,h9,g1,g0,g2,hs',hc,unP,bG,fK,bh,undef,uR,sR,aR,aW,zR,rf0,rf1,fj,dA,bZ,cq,number,FP.free,cH,FP.apart]
   ·have g3:=g3 rfl hs hc
    have g4:=g4 rfl hs hc
    by_cases hc2:c2=0
    ·have hc2':(c2 != 0)=false:=by simpa using hc2
     refine .inr ⟨by simp[hc,hc2,hs],?_⟩
     simp[Dn,rrC,f108,h1,h2,h7,h8,h9,g1,g0,g2,g3,g4,hs',hc,hc2',unP,aW,number,FP.free,cH,FP.apart]
    ·have hc2':(c2 != 0)=true:=by simpa using hc2
     refine .inl ⟨by simp[hc,hc2,hs],?_⟩
     simp[Dn,rrC,f108,h1,h2,h7,h8,h9,g1,g0,g2,g3,g4,hs',hc,hc2',unP,bG,fK,bh,undef,uR,sR,aR,aW,zR,rf0,rf1,fj,dA,bZ,cq,number,FP.free,cH,FP.apart]
theorem Zc(n d:Int)(h1:fr.length=61)(h2:nth fr 2 = .ptr 0 0)(h7:nth fr 7 = .ptr 1 0)(h9:nth fr 9 = .ptr 2 0) :
  ∃ st,af (CC L) run k (ah 6 rrC) ⟨fr,[zR4,bW n,bW d],wr⟩=some (.ret,st)∧aU TT st.fr st.hp f108.results.toList=some [cl n d,.sc (.bool true)]:=by
 rw[fz]
 simp only[bW]
 generalize aK n.natAbs=rn at *
 generalize bA n=nn at *
 generalize aK d.natAbs=rd at *
 generalize bA d=nd at *
 simp[rrC,f108,h1,h2,h7,h9,ch,bG,bh,uR,sR,aR,aW,zR,rf0,rf1,fj,dA,ky,bZ,cq,number,FP.free,cH,FP.apart]
def L15:Lst:=[(153,rO),(154,zL),(97,ofF),(101,jE),(96,rP),(150,xX)]
theorem ag8:dw base.P L15:=⟨O1,Na,mI,ki,oy,rC,trivial⟩
theorem aaG:bu L15 153=fun a=>rO (aJ a):=rfl
theorem T0:bu L15 154=fun a=>zL (aJ a):=rfl
theorem aeY:bu L15 97=fun a=>ofF (aJ a):=rfl
theorem TZ:bu L15 101=fun a=>jE (aJ a):=rfl
theorem aaH:bu L15 96=fun a=>rP (aJ a):=rfl
theorem aaF:bu L15 150=fun a=>xX (aJ a):=rfl
def jN (s:ByteArray):ByteArray:=match idx s with
 | .ofNat i=>mkStr ((bT s).take i)
 | .negSucc _=>s
def jM (s:ByteArray):ByteArray:=match idx s with
 | .ofNat i=>mkStr ((bT s).drop (i+1))
 | .negSucc _=>{ data:=#[] }
def vf (s:ByteArray):Bool:=match idx s with
 | .ofNat _=>true
 | .negSucc _=>false
theorem acC (s:ByteArray):nA s=[.sc (.string (jN s)),.sc (.string (jM s)),.sc (.bool (vf s))]:=by
 unfold nA jN jM vf
 cases idx s <;> rfl
theorem WD (s:ByteArray):(bys (jN s)).length≤(bys s).length:=by
 unfold jN
 cases idx s with
 | ofNat i=>simp only[kc,fy,List.length_take];omega
 | negSucc i=>exact Nat.le_refl _
theorem WC (s:ByteArray):(bys (jM s)).length≤(bys s).length:=by
 unfold jM
 cases idx s with
 | ofNat i=>simp only[kc,fy,List.length_drop];omega
 | negSucc i=>exact Nat.zero_le _
def fl (s:ByteArray):Int:=match ib s with
 | some z=>z
 | none=>0
def iR (s:ByteArray):Bool:=match ib s with
 | some _=>true
 | none=>false
theorem ab2(s:ByteArray)(hk:l9 s=true):au L15 run 153 [.sc (.string s),.sc (.string ik)] (.tup [.sc (.string (jN s)),.sc (.string (jM s)),.sc (.bool (vf s))]):=fun dr hp =>
 bw (L:=L15) (f:=rO) ad9 aaG run dr hp _ [.sc (.string (jN s)),.sc (.string (jM s)),.sc (.bool (vf s))] rfl rfl (by
  rw[← acC]
  show (bif true && l9 s then some (nA s) else none)=_
  rw[hk];rfl)
theorem EW (run:ar)(s:ByteArray)(hl:(bys s).length<3000000):au L15 run 154 [.sc (.string s)] (.tup [bt (fl s),.sc (.bool (iR s))]):=fun dr hp =>
 bw (L:=L15) (f:=zL) Y0 T0 run dr hp _ [bt (fl s),.sc (.bool (iR s))] rfl rfl (by
  have h:(bys s).length.blt 3000000=true:=by rw[Nat.blt_eq];exact hl
  simp only[zL,h,cond_true]
  unfold fl iR
  cases ib s <;> rfl)
theorem VA:au L15 run 97 [.sc (.int .i64 1)] (bt 1):=fun dr hp =>
 bw (L:=L15) (f:=ofF) zF aeY run dr hp _ [bt 1] rfl rfl rfl
theorem Vz(x:Int)(hx:Sm x):au L15 run 101 [bt x] (Ab.bz x.sign):=fun dr hp =>
 bw (L:=L15) (f:=jE) vt TZ run dr hp _ [Ab.bz x.sign] (m4 hp x) (kb x) (by simp only[jE,cM hx])
theorem Ld(x y:Int)(hx:Sm x)(hy:Sm y):au L15 run 96 [bt x,bt y] (Ab.bz (fO x y)):=fun dr hp =>
 bw (L:=L15) (f:=rP) GR aaH run dr hp _ [Ab.bz (fO x y)] (gk hp x y) (fq x y) (by simp only[rP,cM hx,cM hy])
theorem ab1(x y:Int)(hx:Sm x)(hy:Sm y):au L15 run 150 [bt x,bt y] (bt (Int.ofNat (Nat.gcd x.natAbs y.natAbs))):=fun dr hp =>
 bw (L:=L15) (f:=xX) Ry aaF run dr hp _ [bt (Int.ofNat (Nat.gcd x.natAbs y.natAbs))] (gk hp x y) (fq x y) (by simp only[xX,cM hx,cM hy])
def aee (n d:Int)(ok:Bool):Option (List PV) :=
 bif smB n && (smB d && (smB (Int.ofNat (Nat.gcd n.natAbs d.natAbs)))) then
  bif wH ok n.sign (fO d 1) (fO (Int.ofNat (Nat.gcd n.natAbs d.natAbs)) 1) then some [cl 0 0,.sc (.bool false)] else some [cl n d,.sc (.bool true)]
 else none
def rrF:List PV→Option (List PV)
 | [.sc (.string s)]=>bif (bys s).length.blt 3000000 && l9 s then
   (bif iR (jN s) && vf s then aee (fl (jN s)) (fl (jM s)) (iR (jM s)) else some [cl (fl (jN s)) 1,.sc (.bool (iR (jN s)))]) else none
 | _=>none
theorem TG(n d:Int)(b:Bool):bq (snap hp bn) [cl n d,.sc (.bool b)]=some ([cl n d,.sc (.bool b)],[]):=rfl
theorem vw:Ab.Spec base.P 108 rrF:=Ab.Spec.bM (C:=CC L15) (cP ag8) fun args rs h=>by
 unfold rrF at h
 split at h
 ·rename_i s
  cases hb:(bys s).length.blt 3000000 && l9 s with
  | false=>rw[hb] at h;cases h
  | true =>
   rw[hb] at h
   simp only[cond_true] at h
   simp only[Bool.and_eq_true,Nat.blt_eq] at hb
   have hA:=Nat.lt_of_le_of_lt (WD s) hb.1
   have hB:=Nat.lt_of_le_of_lt (WC s) hb.1
   obtain⟨f1,wr1,a1,a2,a3,a4,a5,a6,a7⟩:=aed L15 (runK (CC L15) 1) 1 s _ _ _ _ _ (ab2 _ s hb.2) (EW _ _ hA)
   cases hc:iR (jN s) && vf s with
   | false =>
    rw[hc] at h
    simp only[cond_false,OiE] at h
    subst h
    have hor:iR (jN s)=false∨vf s=false:=by
     revert hc;cases iR (jN s) <;> cases vf s <;> simp
    obtain⟨st,e1,e2⟩:=aec L15 (runK (CC L15) 1) 1 f1 wr1 _ _ _ hor (VA _) a2 a3 a5 a6 a7
    have hx:af (CC L15) (runK (CC L15) 1) 1 rrC ⟨entry 61 [.sc (.string s)],[],[]⟩=some (.ret,st):=by
     rw[aO 3 a1,zK,cC e1]
    exact⟨2,_,_,_,_,_,aP m8 rfl hx e2,TG _ _ _ _,Wk.refl rfl,Wk.refl rfl,trivial⟩
   | true =>
    rw[hc] at h
    simp only[cond_true] at h
    rw[Bool.and_eq_true] at hc
    rw[hc.1] at a7
    rw[hc.2] at a5
    obtain⟨f2,b1,b2,b3,b4,b5⟩:=aeb L15 (runK (CC L15) 1) 1 f1 wr1 (fl (jN s)) a2 a3 a5 a6 a7
    obtain⟨f3,wr3,c1,c2,c3,c4,c5,c6⟩:=ahV L15 (runK (CC L15) 1) 1 f2 wr1 (jM s) _ (fl (jN s)) _ (EW _ _ hB) b2 b3 (by rw[b4,a4]) b5
    generalize fl (jN s)=n at *
    generalize fl (jM s)=d at *
    generalize iR (jM s)=ok at *
    unfold aee at h
    cases hg:smB n && (smB d && (smB (Int.ofNat (Nat.gcd n.natAbs d.natAbs)))) with
    | false=>rw[hg] at h;cases h
    | true =>
     rw[hg] at h
     simp only[cond_true] at h
     simp only[Bool.and_eq_true] at hg
     obtain⟨s1,s2,s4⟩:=hg
     have hx0:af (CC L15) (runK (CC L15) 1) 1 rrC ⟨entry 61 [.sc (.string s)],[],[]⟩=af (CC L15) (runK (CC L15) 1) 1 (ah 5 rrC) ⟨f3,[zR4,bW n,bW d],wr3⟩:=by
      rw[aO 3 a1,zK,av b1,aO 1 c1];rfl
     rcases ahU L15 (runK (CC L15) 1) 1 f3 wr3 ok n d (Int.ofNat (Nat.gcd n.natAbs d.natAbs)) n.sign (fO d 1) (fO (Int.ofNat (Nat.gcd n.natAbs d.natAbs)) 1) (fun _=>Vz _ n (jg s1)) (VA _) (fun _ _=>Ld _ d 1 (jg s2) Cf)
      (fun _ _ _=>ab1 _ n d (jg s1) (jg s2)) (fun _ _ _=>Ld _ _ 1 (jg s4) Cf) c2 c3 c4 c5 c6 with ⟨hbad,st,e1,e2⟩| ⟨hbad,f4,d1,d2,d3,d4,d5⟩
     ·rw[hbad] at h
      simp only[cond_true,OiE] at h
      subst h
      have hx:af (CC L15) (runK (CC L15) 1) 1 rrC ⟨entry 61 [.sc (.string s)],[],[]⟩=some (.ret,st):=by
       rw[hx0,zJ,cC e1]
      exact⟨2,_,_,_,[.agg [.sc (.bool false),.sc (.slice none 0 0),.sc (.bool false),.sc (.slice none 0 0)],.sc (.bool false)],[],aP m8 rfl hx e2,rfl,Wk.agg ⟨Wk.refl rfl,Wk.nil false,Wk.refl rfl,Wk.nil false,trivial⟩,Wk.refl rfl,trivial⟩
     ·rw[hbad] at h
      simp only[cond_false,OiE] at h
      subst h
      obtain⟨st,e1,e2⟩:=Zc L15 (runK (CC L15) 1) 1 f4 wr3 n d d2 d3 d4 d5
      have hx:af (CC L15) (runK (CC L15) 1) 1 rrC ⟨entry 61 [.sc (.string s)],[],[]⟩=some (.ret,st):=by
       rw[hx0,zJ,av d1];exact e1
      exact⟨2,_,_,_,_,_,aP m8 rfl hx e2,TG _ _ _ _,Wk.refl rfl,Wk.refl rfl,trivial⟩
 ·cases h
theorem uU:base.F.get 145=some f145:=by kernel_rfl
theorem PS:base.F.get 94=some f94:=by kernel_rfl
theorem JA:base.F.get 43=some f43:=by kernel_rfl
theorem MF:base.shared 145=false:=by kernel_rfl
theorem Y3:base.shared 94=false:=by kernel_rfl
def nd:Nat→Nat→Nat
 | 0,_=>0
 | k+1,x=>bif x.beq 0 then 0 else nd k (x / 10)+1
def iy:Code:=f145.body.getD .skip
def pd:Code:=((f145.body).bind aC).getD .skip
theorem IG(h29:fr.length=29)(h4:nth fr 4 = .sc (.int .u32 (0:Nat))) :
  ∃ fr',af (CC L) run k pd ⟨fr,hp,wr⟩=some (.exit 0,⟨fr',hp,wr⟩)∧fr'.length=29∧nth fr' 3=nth fr 3:=by
 simp[pd,f145,aC,h29,h4]
theorem Yx (k:IntKind)(a s:Nat)(h:s=a / 10)(hs:s≤hiN k):bE k ((a:Int) / 10)=(s:Int):=by
 have e:((a:Int) / 10)=(s:Int):=by omega
 rw[e];exact dG k _ hs
theorem B4(c x y:Nat)(hc:c<100000000)(hx:0<x)(hx2:x≤4294967295)(hy:y=x / 10)(h29:fr.length=29)(h3:nth fr 3 = .sc (.int .i64 (c:Int)))(h4:nth fr 4 = .sc (.int .u32 (x:Int))) :
  ∃ fr',af (CC L) run k pd ⟨fr,hp,wr⟩=some (.normal,⟨fr',hp,wr⟩)∧fr'.length=29∧nth fr' 3 = .sc (.int .i64 ((c+1:Nat):Int))∧nth fr' 4 = .sc (.int .u32 (y:Int)):=by
 have hw:=bH c (Nat.lt_trans hc (by decide))
 have hw2:=Yx .u32 x y hy (iZ (by omega))
 simp[pd,f145,aC,h29,h3,h4,hx,hw,hw2]
theorem uJ (L:Lst)(run:ar)(k:Nat)(hp:List Blk)(wr:List Nat):∀ (n x c:Nat) (fr:List PV),x<10 ^ n→c+n<100000000→x≤4294967295→fr.length=29→nth fr 3 = .sc (.int .i64 (c:Int))→nth fr 4 = .sc (.int .u32 (x:Int)) →
  ∃ fr',cu (af (CC L) run k pd) (n+1) ⟨fr,hp,wr⟩=some (.exit 0,⟨fr',hp,wr⟩)∧fr'.length=29∧nth fr' 3 = .sc (.int .i64 ((c+nd n x:Nat):Int))
 | n,x,c,fr,hx,hc,hx2,h29,h3,h4=>by
  by_cases h0:x=0
  ·subst h0
   obtain⟨fr',g1,g2,g3⟩:=IG L run k fr hp wr h29 h4
   refine⟨fr',bD g1,g2,?_⟩
   rw[g3,h3]
   cases n <;> rfl
  ·cases n with
   | zero=>simp at hx;exact absurd hx h0
   | succ n =>
    obtain⟨fr1,g1,g2,g3,g4⟩:=B4 L run k fr hp wr c x _ (by omega) (by omega) hx2 rfl h29 h3 h4
    obtain⟨fr',q1,q2,q3⟩:=uJ L run k hp wr n (x / 10) (c+1) fr1 (by rw[Nat.pow_succ] at hx;omega) (by omega) (by omega) g2 g3 g4
    refine⟨fr',by rw[ct g1];exact q1,q2,?_⟩
    rw[q3]
    have hb:x.beq 0=false:=by
     cases x with
     | zero=>exact absurd rfl h0
     | succ x=>rfl
    rw[nd,hb,cond_false]
    congr 3;omega
def rK:Code:=seq1 (seq1 (ah 3 iy))
theorem B3:ah 3 iy = .seq (.seq rK (.block 0 (.loop pd))) (ah 4 iy):=rfl
theorem IE(n:Bool):∃ st,af (CC L) run k iy ⟨entry 29 [wh n []],[],[]⟩=some (.ret,st)∧aU TT st.fr st.hp f145.results.toList=some [Ab.bz 0]:=by
 obtain⟨e1,e2⟩:=cW 28 (wh n [])
 generalize entry 29 [wh n []]=fr0 at *
 rw[show wh n [] = .agg [.sc (.bool n),aQ []] from rfl] at e2
 simp[iy,f145,e1,e2,bO,bQ,cB,uW,uD,sD,aD,wf0,wf1,aM,Ab.bz]
set_option maxHeartbeats 1000000 in
theorem IC (L:Lst)(run:ar)(k:Nat)(n:Bool)(l:List Nat)(a c:Nat)(hc:c=9*l.length)(hl:l.length<1000000) :
  ∃ f1 fr,aX (CC L) run k 3 iy ⟨entry 29 [wh n (l++[a])],[],[]⟩=some ⟨f1,[⟨.live,[.sc (.bool n),aQ (l++[a])]⟩],[0]⟩∧af (CC L) run k rK ⟨f1,[⟨.live,[.sc (.bool n),aQ (l++[a])]⟩],[0]⟩=some (.normal,⟨fr,[⟨.live,[.sc (.bool n),aQ (l++[a])]⟩],[0]⟩)∧fr.length=29
   ∧ nth fr 3 = .sc (.int .i64 (c:Int))∧nth fr 4 = .sc (.int .u32 (a:Int)):=by
 obtain⟨e1,e2⟩:=cW 28 (wh n (l++[a]))
 generalize entry 29 [wh n (l++[a])]=fr0 at *
 have hd:(br ((l++[a]).map dg) l.length).head?=some (.sc (.int .u32 a)):=by
  rw[ff _ _ (by simp)];simp[dg]
 have hE:aQ (l++[a]) = .imm (l.length+1) false ((l++[a]).map dg):=by simp[aQ]
 rw[show wh n (l++[a]) = .agg [.sc (.bool n),aQ (l++[a])] from rfl,hE] at e2
 rw[hE]
 obtain⟨m,hm⟩:∃ m,m=l.length:=⟨_,rfl⟩
 rw[← hm] at hd hc e2 hl ⊢
 have hw:bE .i64 (m:Int)=(m:Int):=cG .i64 m (hiI (by omega))
 have hw2:bE .i64 (9*(m:Int))=(c:Int):=by
  have e:(9*(m:Int))=(c:Int):=by omega
  rw[e];exact cG .i64 c (hiI (by omega))
 have hne:((m:Int)+1 == 0)=false:=by
  rw[beq_eq_false_iff_ne];omega
 have hlt:m<m+1:=by omega
 generalize (l++[a]).map dg=cs at *
 have p1:∃ f1,aX (CC L) run k 3 iy ⟨fr0,[],[]⟩=some ⟨f1,[⟨.live,[.sc (.bool n),.imm (m+1) false cs]⟩],[0]⟩∧f1.length=29∧nth f1 1 = .ptr 0 0∧nth f1 3 = .sc (.int .i64 (c:Int)):=by
  simp[iy,f145,aX,e1,e2,bO,bQ,cX,uW,uD,sD,aD,wf0,wf1,aM,hne,hw,hw2]
 obtain⟨f1,q1,q2,q3,q4⟩:=p1
 refine⟨f1,?_⟩
 rw[q1]
 have p2:∃ fr,af (CC L) run k rK ⟨f1,[⟨.live,[.sc (.bool n),.imm (m+1) false cs]⟩],[0]⟩=some (.normal,⟨fr,[⟨.live,[.sc (.bool n),.imm (m+1) false cs]⟩],[0]⟩)∧fr.length=29∧nth fr 3 = .sc (.int .i64 (c:Int))∧nth fr 4 = .sc (.int .u32 (a:Int)):=by
  simp[rK,iy,f145,q2,q3,q4,bO,bg,bQ,bm,cX,uW,uD,sD,s32,aD,a32,wf0,wf1,hw,hlt,hd]
 obtain⟨fr,r1,r2⟩:=p2
 exact⟨fr,rfl,r1,r2⟩
theorem Fa(z:Int)(h29:fr.length=29)(h3:nth fr 3 = .sc (.int .i64 z)) :
  ∃ st,af (CC L) run k (ah 4 iy) ⟨fr,hp,wr⟩=some (.ret,st)∧aU TT st.fr st.hp f145.results.toList=some [Ab.bz z]:=by
 simp[iy,f145,h29,h3,Ab.bz]
def qe (l:List Nat):Nat:=match l.getLast? with
 | none=>0
 | some a=>9*(l.length - 1)+nd 9 a
def lj:List PV→Option (List PV)
 | [.agg [.sc (.bool _),p]]=>match iw p with
  | some l=>some [Ab.bz (Int.ofNat (qe l))]
  | none=>none
 | _=>none
theorem ow:Ab.Spec base.P 145 lj:=Ab.Spec.bM (C:=CC []) (cP trivial) fun args rs h=>by
 unfold lj at h
 split at h
 ·split at h
  ·rename_i n p _ l hl
   obtain⟨rfl,hd,hlen⟩:=dI hl
   simp only[OiE] at h
   subst h
   by_cases h0:l=[]
   ·subst h0
    obtain⟨st,e1,e2⟩:=IE [] (runK (CC []) 1) 1 n
    exact⟨2,_,_,_,_,_,aP uU rfl e1 e2,eY _ _,Wk.refl rfl,trivial⟩
   ·obtain⟨m,a,rfl⟩:∃ m a,l=m++[a]:=⟨l.dropLast,l.getLast h0,(List.dropLast_concat_getLast h0).symm⟩
    have ha:a<1000000000:=hd a (by simp)
    have hm:m.length<1000000:=by simp at hlen;omega
    obtain⟨f1,f2,a1,a2,a3,a4,a5⟩:=IC [] (runK (CC []) 10) 10 n m a (9*m.length) rfl hm
    obtain⟨f3,b1,b2,b3⟩:=uJ [] (runK (CC []) 10) 10 [⟨.live,[.sc (.bool n),aQ (m++[a])]⟩] [0] 9 a (9*m.length) f2 (Nat.lt_of_lt_of_le ha (by decide)) (by omega) (Nat.le_trans (Nat.le_of_lt ha) (by decide)) a3 a4 a5
    obtain⟨st,e1,e2⟩:=Fa [] (runK (CC []) 10) 10 f3 _ _ _ b2 b3
    have hx:af (CC []) (runK (CC []) 10) 10 iy ⟨entry 29 [wh n (m++[a])],[],[]⟩=some (.ret,st):=by
     rw[aO 3 a1,B3,av ((av a2).trans (bN b1))]
     exact e1
    have hN:qe (m++[a])=9*m.length+nd 9 a:=by simp[qe]
    rw[hN]
    exact⟨11,_,_,_,_,_,aP uU rfl hx e2,eY _ (9*m.length+nd 9 a:Nat),Wk.refl rfl,trivial⟩
  ·cases h
 ·cases h
def L16:Lst:=[(145,lj)]
theorem o16:bu L16 145=fun a=>lj (aJ a):=rfl
theorem g16(n:Bool)(l:List Nat)(hd:Dok l)(hl:l.length<1000000):au L16 run 145 [.agg [.sc (.bool n),aQ l]] (Ab.bz (Int.ofNat (qe l))):=fun dr hp =>
 bw (L:=L16) (f:=lj) MF o16 run dr hp _ [Ab.bz (Int.ofNat (qe l))] rfl (by simp only[aJ,canon,jo,aQ]) (by simp only[lj,dc hd hl])
theorem Oz(n:Bool)(l:List Nat)(c:Nat)(g1:au L run 145 [.agg [.sc (.bool n),aQ l]] (Ab.bz (Int.ofNat c))) :
  ∃ st,af (CC L) run k (f94.body.getD .skip) ⟨entry 6 [wh n l],[],[]⟩=some (.ret,st)∧aU TT st.fr st.hp f94.results.toList=some [.sc (.bool (decide (1000<c)))]:=by
 obtain⟨e1,e2⟩:=cW 5 (wh n l)
 generalize entry 6 [wh n l]=fr0 at *
 rw[show wh n l = .agg [.sc (.bool n),aQ l] from rfl] at e2
 unfold au at g1
 simp only[Ab.bz,Int.ofNat_eq_natCast] at g1
 have hc:((c:Int) > 1000)=(1000<c):=by apply propext;omega
 have hc2:((1000:Int)<c)=(1000<c):=by apply propext;omega
 simp[f94,e1,e2,g1,hc,aW,aM]
def xP:List PV→Option (List PV)
 | [.agg [.sc (.bool _),p]]=>match iw p with
  | some l=>some [.sc (.bool (decide (1000<qe l)))]
  | none=>none
 | _=>none
theorem ta:Ab.Spec base.P 94 xP:=Ab.Spec.bM (C:=CC L16) (cP ⟨ow,trivial⟩) fun args rs h=>by
 unfold xP at h
 split at h
 ·split at h
  ·rename_i n p _ l hl
   obtain⟨rfl,hd,hlen⟩:=dI hl
   simp only[OiE] at h
   subst h
   obtain⟨st,e1,e2⟩:=Oz L16 (runK (CC L16) 1) 1 n l _ (g16 _ n l hd hlen)
   exact⟨2,_,_,_,_,_,aP PS rfl e1 e2,xE _ _,Wk.refl rfl,trivial⟩
  ·cases h
 ·cases h
def L17:Lst:=[(94,xP)]
theorem o17:bu L17 94=fun a=>xP (aJ a):=rfl
theorem g17(z:Int)(hz:Sm z):au L17 run 94 [bt z] (.sc (.bool (decide (1000<qe (aK z.natAbs))))):=fun dr hp =>
 bw (L:=L17) (f:=xP) Y3 o17 run dr hp _ [.sc (.bool (decide (1000<qe (aK z.natAbs))))] (m4 hp z) (kb z) (by
  show (match iw (aQ (aK z.natAbs)) with | some l=>some [PV.sc (.bool (decide (1000<qe l)))] | none=>none)=_
  rw[dc (cb _) hz.lt])
theorem G5(a b:Int)(p q:Bool)(g1:au L run 94 [bt a] (.sc (.bool p)))(g2:au L run 94 [bt b] (.sc (.bool q))) :
  ∃ st,af (CC L) run k (f43.body.getD .skip) ⟨entry 11 [cl a b],[],[]⟩=some (.ret,st)∧aU TT st.fr st.hp f43.results.toList=some [.sc (.bool (p || q))]:=by
 obtain⟨h1,h2⟩:=cW 10 (cl a b)
 generalize entry 11 [cl a b]=fr0 at *
 unfold au at *
 simp only[whW,fz] at *
 cases p <;> simp[f43,h1,h2,bQ,g1,g2,undef,uR,aW,rf0,rf1,aM]
def mv:List PV→Option (List PV)
 | [p]=>match hZ p with
  | some (a,b)=>some [.sc (.bool (decide (1000<qe (aK a.natAbs)) || decide (1000<qe (aK b.natAbs))))]
  | none=>none
 | _=>none
theorem mr:Ab.Spec base.P 43 mv:=Ab.Spec.bM (C:=CC L17) (cP ⟨ta,trivial⟩) fun args rs h=>by
 unfold mv at h
 split at h
 ·split at h
  ·rename_i a b ex
   obtain⟨rfl,ha,hb⟩:=eI ex
   simp only[OiE] at h
   subst h
   obtain⟨st,e1,e2⟩:=G5 L17 (runK (CC L17) 1) 1 a b _ _ (g17 _ a ha) (g17 _ b hb)
   exact⟨2,_,_,_,_,_,aP JA rfl e1 e2,xE _ _,Wk.refl rfl,trivial⟩
  ·cases h
 ·cases h
end Go.Proofs.YtjdmodeenbdfpaaGreat
end
