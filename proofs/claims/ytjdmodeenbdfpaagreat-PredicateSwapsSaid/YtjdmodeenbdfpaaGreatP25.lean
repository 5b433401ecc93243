/- Contracts of num's integers, part 25 of the proof; each lemma states its own conditions. -/
import Derived.Test.YtjdmodeenbdfpaaGreatP24
import Derived.Test.YtjdmodeenbdfpaaGreatP17
set_option linter.unusedSimpArgs false
set_option linter.unusedVariables false
namespace Go.Proofs.YtjdmodeenbdfpaaGreat
open Go Go.Ab
theorem uS:und TT 9=some .string:=by kernel_rfl
theorem uAI:und TT 94=some .string:=by kernel_rfl
theorem u8:und TT 5=some (.int .u8):=by kernel_rfl
theorem uBs:und TT 43=some (.slice 5):=by kernel_rfl
theorem s8:cQ TT 5=some 1:=by kernel_rfl
theorem a8:fN TT 5=some false:=by kernel_rfl
theorem EF:base.F.get 142=some Tryz.f142:=by kernel_rfl
theorem Bh:base.F.get 184=some Tryz.f184:=by kernel_rfl
theorem EI:base.F.get 170=some Tryz.f170:=by kernel_rfl
theorem rG:base.F.get 154=some Tryz.f154:=by kernel_rfl
theorem KN:base.shared 142=false:=by kernel_rfl
theorem Fm:base.shared 184=false:=by kernel_rfl
theorem KP:base.shared 170=false:=by kernel_rfl
theorem VQ:base.shared 154=false:=by kernel_rfl
def ij (p s:List UInt8):Bool:=p.length.ble s.length && eqL (s.take p.length) p
theorem Dt (L:Lst)(run:aq)(k:Nat)(s p:ByteArray) :
  ∃ st,af (CC L) run k (Tryz.f142.body.getD .skip) ⟨entry 18 [.sc (.string s),.sc (.string p)],[],[]⟩=some (.ret,st)∧aZ TT st.fr st.hp Tryz.f142.results.toList=some [.sc (.bool (ij (bD p) (bD s)))]:=by
 obtain⟨e1,e2,e3⟩:=cA 16 (.sc (.string s)) (.sc (.string p))
 generalize entry 18 [.sc (.string s),.sc (.string p)]=fr0 at *
 by_cases h:(bD p).length≤(bD s).length
 ·have hs:dC s none (some (.sc (.int .i64 ((bD p).length:Int)))) none=some (.sc (.string (mkStr ((bD s).take (bD p).length)))):=by
   simp[dC,bnd,fF,bj,h]
  have hb:(bD p).length.ble (bD s).length=true:=by rw[Nat.ble_eq];exact h
  have hb2:(bD p).length≤(bD s).length:=h
  simp[Tryz.f142,e1,e2,e3,af,aH,an,ao,aG,ag,ai,aj,ak,aC,az,FP.none,bc,ar,bd,au,bH,aa,ae,ab,bf,uS,h,dA,hs,eY,fb,aZ,ij,hb]
 ·have hb:(bD p).length.ble (bD s).length=false:=by
   cases e:(bD p).length.ble (bD s).length with
   | false=>rfl
   | true=>rw[Nat.ble_eq] at e;exact absurd e h
  simp[Tryz.f142,e1,e2,e3,af,aH,an,ao,aG,ag,ai,aj,ak,aC,az,FP.none,bc,ar,bd,au,bH,aa,ae,ab,bf,uS,h,aZ,ij,hb]
def pD:List PV→Option (List PV)
 | [.sc (.string s),.sc (.string p)]=>some [.sc (.bool (ij (bD p) (bD s)))]
 | _=>none
theorem vH (hp:List Blk)(b:Bool):bm (snap hp bh) [.sc (.bool b)]=some ([.sc (.bool b)],[]):=rfl
theorem sM:Ab.Spec base.P 142 pD:=Ab.Spec.bL (C:=CC []) (cU trivial) fun args rs h=>by
 unfold pD at h
 split at h
 ·rename_i s p
  simp only[Option.some.injEq] at h
  subst h
  obtain⟨st,e1,e2⟩:=Dt [] (runK (CC []) 1) 1 s p
  exact⟨2,_,_,_,_,_,aQ EF rfl e1 e2,vH _ _,Wk.refl rfl,trivial⟩
 ·cases h
noncomputable def L6:Lst:=[(142,pD)]
theorem o6:bt L6 142=fun a=>pD (aJ a):=rfl
theorem call6 (run:aq)(dr:Bool)(hp:List Blk)(s p:ByteArray):bU (CC L6) run dr hp 142 [.sc (.string s),.sc (.string p)]=some (.sc (.bool (ij (bD p) (bD s))),hp,⟨[],[],false,false⟩) :=
 bp KN o6 run dr hp _ [.sc (.bool (ij (bD p) (bD s)))] rfl rfl rfl
def gC (s p:ByteArray):List PV:=bif ij (bD p) (bD s) then [.sc (.string (mkStr ((bD s).drop (bD p).length))),.sc (.bool true)] else [.sc (.string s),.sc (.bool false)]
theorem MM (run:aq)(k:Nat)(s p:ByteArray) :
  ∃ st,af (CC L6) run k (Tryz.f184.body.getD .skip) ⟨entry 15 [.sc (.string s),.sc (.string p)],[],[]⟩=some (.ret,st)∧aZ TT st.fr st.hp Tryz.f184.results.toList=some (gC s p):=by
 obtain⟨e1,e2,e3⟩:=cA 13 (.sc (.string s)) (.sc (.string p))
 generalize entry 15 [.sc (.string s),.sc (.string p)]=fr0 at *
 have hc:=fun dr hp=>call6 run dr hp s p
 unfold gC
 cases h:ij (bD p) (bD s) with
 | false =>
  rw[h] at hc
  simp[Tryz.f184,e1,e2,e3,af,aH,an,ao,aG,ag,ai,aP,aj,ak,aC,az,FP.none,au,unP,aa,ae,ab,hc,aZ]
 | true =>
  rw[h] at hc
  have hl:(bD p).length≤(bD s).length:=by
   simp only[ij,Bool.and_eq_true,Nat.ble_eq] at h
   exact h.1
  have hs:dC s (some (.sc (.int .i64 ((bD p).length:Int)))) none none=some (.sc (.string (mkStr ((bD s).drop (bD p).length)))):=by
   simp[dC,bnd,fF,bj,hl]
  simp[Tryz.f184,e1,e2,e3,af,aH,an,ao,aG,ag,ai,aP,aj,ak,aC,az,FP.none,au,bH,unP,aa,ae,ab,bf,hc,uS,dA,hs,aZ]
def iE:List PV→Option (List PV)
 | [.sc (.string s),.sc (.string p)]=>some (gC s p)
 | _=>none
theorem IX (hp:List Blk)(s p:ByteArray):bm (snap hp bh) (gC s p)=some (gC s p,[]):=by
 unfold gC;cases ij (bD p) (bD s) <;> rfl
theorem N4 (s p:ByteArray):WkL (gC s p) (gC s p):=WkL.refl (by unfold gC;cases ij (bD p) (bD s) <;> rfl)
theorem y5:Ab.Spec base.P 184 iE:=Ab.Spec.bL (C:=CC L6) (cU ⟨sM,trivial⟩) fun args rs h=>by
 unfold iE at h
 split at h
 ·rename_i s p
  simp only[Option.some.injEq] at h
  subst h
  obtain⟨st,e1,e2⟩:=MM (runK (CC L6) 1) 1 s p
  exact⟨2,_,_,_,_,_,aQ Bh rfl e1 e2,IX _ _ _,N4 _ _⟩
 ·cases h
noncomputable def L7:Lst:=[(184,iE)]
theorem o7:bt L7 184=fun a=>iE (aJ a):=rfl
theorem call7 (run:aq)(dr:Bool)(hp:List Blk)(s p:ByteArray):bU (CC L7) run dr hp 184 [.sc (.string s),.sc (.string p)]=some (gr (gC s p),hp,⟨[],[],false,false⟩) :=
 bp Fm o7 run dr hp _ (gC s p) rfl rfl rfl
theorem TG (run:aq)(k:Nat)(s p:ByteArray) :
  ∃ st,af (CC L7) run k (Tryz.f170.body.getD .skip) ⟨entry 11 [.sc (.string s),.sc (.string p)],[],[]⟩=some (.ret,st)∧aZ TT st.fr st.hp Tryz.f170.results.toList=some (gC s p):=by
 obtain⟨e1,e2,e3⟩:=cA 9 (.sc (.string s)) (.sc (.string p))
 generalize entry 11 [.sc (.string s),.sc (.string p)]=fr0 at *
 have hc:=fun dr hp=>call7 run dr hp s p
 unfold gC at hc ⊢
 cases h:ij (bD p) (bD s) <;> rw[h] at hc <;> simp only[cond_true,cond_false,gr] at hc ⊢ <;> simp[Tryz.f170,e1,e2,e3,af,aH,an,ao,aG,ag,ai,aP,aj,ak,aC,az,FP.none,au,aa,ae,ab,hc,aZ]
theorem DQ:Ab.Spec base.P 170 iE:=Ab.Spec.bL (C:=CC L7) (cU ⟨y5,trivial⟩) fun args rs h=>by
 unfold iE at h
 split at h
 ·rename_i s p
  simp only[Option.some.injEq] at h
  subst h
  obtain⟨st,e1,e2⟩:=TG (runK (CC L7) 1) 1 s p
  exact⟨2,_,_,_,_,_,aQ EI rfl e1 e2,IX _ _ _,N4 _ _⟩
 ·cases h
end Go.Proofs.YtjdmodeenbdfpaaGreat
namespace Go.Ab
open Go
def dv (b:Nat):Nat:=(b+208) % 256
def stp (a b:Nat):Nat:=10*a+dv b
def dec (a:Nat)(l:List Nat):Nat:=l.foldl stp a
theorem pP (a b:Nat)(l:List Nat):dec a (b::l)=dec (stp a b) l:=rfl
def kM (b:Nat):Bool:=Nat.ble 48 b && Nat.ble b 57
def eD:List Nat→Bool
 | []=>true
 | b::l=>kM b && eD l
theorem dy {b:Nat} : kM b=true ↔ 48≤b∧b≤57:=by simp[kM]
theorem lG (a:Nat)(l m:List Nat):dec a (l++m)=dec (dec a l) m:=by
 unfold dec;rw[List.foldl_append]
theorem JB (a:Nat)(l:List Nat):dec a l=a*10 ^ l.length+dec 0 l:=by
 induction l generalizing a with
 | nil=>simp[dec]
 | cons b l ih =>
  have h1:=ih (stp a b)
  have h2:=ih (stp 0 b)
  rw[pP,pP,h1,h2,List.length_cons,Nat.pow_succ]
  unfold stp
  generalize dv b=c
  grind
theorem fO (l m:List Nat):eD (l++m)=(eD l && eD m):=by
 induction l with
 | nil=>rfl
 | cons b l ih=>simp[eD,ih,Bool.and_assoc]
theorem dec_lt (l:List Nat)(h:eD l=true):dec 0 l<10 ^ l.length:=by
 induction l using iG with
 | h0=>simp[dec]
 | h1 l b ih =>
  rw[fO,Bool.and_eq_true] at h
  have h1:=ih h.1
  have h2:kM b=true:=by simpa [eD] using h.2
  rw[dy] at h2
  rw[lG,List.length_append,List.length_singleton,Nat.pow_succ]
  rw[pP,stp]
  show 10*dec 0 l+dv b<10 ^ l.length*10
  unfold dv
  omega
def u8v (n:Nat):PV:=.sc (.int .u8 n)
def wC (l:List Nat):PV:=.imm l.length false (l.map u8v)
theorem ZZ (l:List Nat)(i:Nat)(h:i<l.length):(bn (l.map u8v) i).head?=some (.sc (.int .u8 (l[i]:Int))):=by
 rw[cK,← List.map_drop,List.drop_eq_getElem_cons h];rfl
def bys (s:ByteArray):List Nat:=(bD s).map UInt8.toNat
theorem Ia (k:IntKind)(a s:Nat)(h:s=10*a)(hs:s≤hiN k):bu k (10*(a:Int))=(s:Int):=by
 have e:(10*(a:Int))=(s:Int):=by omega
 rw[e];exact di k _ hs
theorem zS (k:IntKind)(a s:Nat)(h:a=s+48)(hs:s≤hiN k):bu k ((a:Int) - 48)=(s:Int):=by
 have e:((a:Int) - 48)=(s:Int):=by omega
 rw[e];exact di k _ hs
theorem N0 (z:Int)(h : -9223372036854775808≤z - 9)(h2:z - 9≤9223372036854775807):bu .i64 (z - 9)=z - 9:=by
 unfold bu
 have h1:decide (loK .i64≤z - 9)=true:=decide_eq_true (by simp only[loK];omega)
 have h2:decide (z - 9≤hiK .i64)=true:=decide_eq_true (by simp only[hiK];omega)
 rw[h1,h2];rfl
theorem jD {C:Cfg}{run:aq}{k i:Nat}{b:Code}{st st':St}(h:af C run k b st=some (.ret,st')):af C run k (.block i b) st=some (.ret,st'):=by
 simp only[af,h]
theorem jn (s:ByteArray):(bys s).length=(bD s).length:=by simp[bys]
theorem J8 (s:ByteArray)(l h:Nat)(h1:l≤h)(h2:h≤(bD s).length) :
  dC s (some (.sc (.int .i64 (l:Int)))) (some (.sc (.int .i64 (h:Int)))) none=some (.sc (.string (mkStr (((bD s).take h).drop l)))):=by
 simp[dC,bnd,fF,bj,h1,h2]
theorem TK (l:List UInt8):(.imm (bD (mkStr l)).length false ((bD (mkStr l)).map fun b=>PV.sc (.int .u8 (b.toNat:Int))):PV)=wC (l.map UInt8.toNat):=by
 rw[fb,wC,List.length_map,List.map_map];rfl
theorem Ah (hp:List Blk)(id i:Nat)(h:i≠id):aV (roB hp [id]) i=aV hp i:=by
 unfold roB
 split
 ·rename_i cs e
  simp only[roB]
  rw[cD e,if_neg h]
 ·rfl
theorem dB.arg {b:Nat}{hp:List Blk}{l:List Nat}{p:PV}(h:dB b hp l p)(n:Bool) :
  ∃ q ids,bm (Ab.snap hp bh) [.sc (.bool n),p]=some ([.sc (.bool n),q],ids)∧aJ [.sc (.bool n),q]=[.sc (.bool n),aL l]∧∀ i,i<b→aV (roB hp ids) i=aV hp i:=by
 obtain⟨hb,h⟩:=h
 rcases h with ⟨rfl,rfl⟩| ⟨id,m,hid,_,rfl,h⟩
 ·exact⟨.sc (.slice none 0 0),[],rfl,rfl,fun _ _=>rfl⟩
 ·have ht:bA (bn ((l++m).map dg) 0) (l.length*1)=some (l.map dg):=by
   rw[cK,dL (by simp)]
   simp
  have hs:=jw hp 10 l
  have h1:Ab.snap hp 12 (.own id 1 0 l.length false)=some (.imm l.length false (l.map dg),[id]):=by
   rw[Ab.snap]
   simp only[h]
   rw[if_neg (by simp),ht]
   simp only[hs]
  refine⟨.imm l.length false (l.map dg),[id],?_,?_,fun i hi=>Ah hp id i (by omega)⟩
  ·simp only[bh,bm,h1]
   rfl
  ·simp only[aJ,canon,ir];rfl
theorem wE (l:List Nat)(lo e:Nat)(h:lo≤e)(he:e≤l.length):l.drop lo=(l.take e).drop lo++l.drop e:=by
 conv=>lhs;rw[← List.take_append_drop e l]
 rw[List.drop_append_of_le_length (by rw[List.length_take];omega)]
theorem XY {n m:Nat}(h:n.log2<29*m):(aA n).length≤m:=by
 by_cases h0:n=0
 ·subst h0;simp[ff]
 ·have h1:n<2 ^ (n.log2+1):=Nat.lt_log2_self
  have h2:2 ^ (n.log2+1)≤2 ^ (29*m):=Nat.pow_le_pow_right (by omega) h
  have h3:(2:Nat) ^ (29*m)≤1000000000 ^ m:=by
   rw[Nat.pow_mul]
   exact Nat.pow_le_pow_left (by decide) _
  exact cY (Nat.lt_of_lt_of_le h1 (Nat.le_trans h2 h3))
theorem XX {n:Nat}(h:n.log2<11000000):(aA n).length<400000 :=
 Nat.lt_of_le_of_lt (XY (m:=399999) (Nat.lt_trans h (by decide))) (by decide)
end Go.Ab
