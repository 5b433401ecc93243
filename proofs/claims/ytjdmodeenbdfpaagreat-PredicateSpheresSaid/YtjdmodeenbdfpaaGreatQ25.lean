/- Contracts of num's integers, part 25 of the proof; each lemma states its own conditions. -/
import Derived.Test.YtjdmodeenbdfpaaGreatQ24
import Derived.Test.YtjdmodeenbdfpaaGreatQ17
set_option linter.unusedSimpArgs false
set_option linter.unusedVariables false
namespace Go.Proofs.YtjdmodeenbdfpaaGreat
open Go Go.Ab
theorem uS:und TT 9=some .string:=by kernel_rfl
theorem uAI:und TT 94=some .string:=by kernel_rfl
theorem u8:und TT 5=some (.int .u8):=by kernel_rfl
theorem uBs:und TT 43=some (.slice 5):=by kernel_rfl
theorem s8:cR TT 5=some 1:=by kernel_rfl
theorem a8:fW TT 5=some false:=by kernel_rfl
theorem E5:base.F.get 142=some Tryz.f142:=by kernel_rfl
theorem BG:base.F.get 184=some Tryz.f184:=by kernel_rfl
theorem E8:base.F.get 170=some Tryz.f170:=by kernel_rfl
theorem rS:base.F.get 154=some Tryz.f154:=by kernel_rfl
theorem Lf:base.shared 142=false:=by kernel_rfl
theorem FL:base.shared 184=false:=by kernel_rfl
theorem Lh:base.shared 170=false:=by kernel_rfl
theorem Wv:base.shared 154=false:=by kernel_rfl
def ir (p s:List UInt8):Bool:=p.length.ble s.length && eqL (s.take p.length) p
theorem DN (L:Lst)(run:aq)(k:Nat)(s p:ByteArray) :
  ∃ st,af (CC L) run k (Tryz.f142.body.getD .skip) ⟨entry 18 [.sc (.string s),.sc (.string p)],[],[]⟩=some (.ret,st)∧aV TT st.fr st.hp Tryz.f142.results.toList=some [.sc (.bool (ir (bH p) (bH s)))]:=by
 obtain⟨e1,e2,e3⟩:=cn 16 (.sc (.string s)) (.sc (.string p))
 generalize entry 18 [.sc (.string s),.sc (.string p)]=fr0 at *
 by_cases h:(bH p).length≤(bH s).length
 ·have hs:dF s none (some (.sc (.int .i64 ((bH p).length:Int)))) none=some (.sc (.string (mkStr ((bH s).take (bH p).length)))):=by
   simp[dF,bnd,fN,bk,h]
  have hb:(bH p).length.ble (bH s).length=true:=by rw[Nat.ble_eq];exact h
  have hb2:(bH p).length≤(bH s).length:=h
  simp[Tryz.f142,e1,e2,e3,af,aH,an,ao,aG,ag,ai,aj,ak,aC,az,FP.none,aY,au,bf,av,bK,aa,ae,ab,bh,uS,h,dC,hs,ef,fg,aV,ir,hb]
 ·have hb:(bH p).length.ble (bH s).length=false:=by
   cases e:(bH p).length.ble (bH s).length with
   | false=>rfl
   | true=>rw[Nat.ble_eq] at e;exact absurd e h
  simp[Tryz.f142,e1,e2,e3,af,aH,an,ao,aG,ag,ai,aj,ak,aC,az,FP.none,aY,au,bf,av,bK,aa,ae,ab,bh,uS,h,aV,ir,hb]
def pP:List PV→Option (List PV)
 | [.sc (.string s),.sc (.string p)]=>some [.sc (.bool (ir (bH p) (bH s)))]
 | _=>none
theorem vX (hp:List Blk)(b:Bool):bq (snap hp bj) [.sc (.bool b)]=some ([.sc (.bool b)],[]):=rfl
theorem th:Ab.Spec base.P 142 pP:=Ab.Spec.bN (C:=CC []) (cU trivial) fun args rs h=>by
 unfold pP at h
 split at h
 ·rename_i s p
  simp only[Option.some.injEq] at h
  subst h
  obtain⟨st,e1,e2⟩:=DN [] (runK (CC []) 1) 1 s p
  exact⟨2,_,_,_,_,_,aQ E5 rfl e1 e2,vX _ _,Wk.refl rfl,trivial⟩
 ·cases h
noncomputable def L6:Lst:=[(142,pP)]
theorem o6:bu L6 142=fun a=>pP (aJ a):=rfl
theorem call6 (run:aq)(dr:Bool)(hp:List Blk)(s p:ByteArray):cb (CC L6) run dr hp 142 [.sc (.string s),.sc (.string p)]=some (.sc (.bool (ir (bH p) (bH s))),hp,⟨[],[],false,false⟩) :=
 bp Lf o6 run dr hp _ [.sc (.bool (ir (bH p) (bH s)))] rfl rfl rfl
def gJ (s p:ByteArray):List PV:=bif ir (bH p) (bH s) then [.sc (.string (mkStr ((bH s).drop (bH p).length))),.sc (.bool true)] else [.sc (.string s),.sc (.bool false)]
theorem Ni (run:aq)(k:Nat)(s p:ByteArray) :
  ∃ st,af (CC L6) run k (Tryz.f184.body.getD .skip) ⟨entry 15 [.sc (.string s),.sc (.string p)],[],[]⟩=some (.ret,st)∧aV TT st.fr st.hp Tryz.f184.results.toList=some (gJ s p):=by
 obtain⟨e1,e2,e3⟩:=cn 13 (.sc (.string s)) (.sc (.string p))
 generalize entry 15 [.sc (.string s),.sc (.string p)]=fr0 at *
 have hc:=fun dr hp=>call6 run dr hp s p
 unfold gJ
 cases h:ir (bH p) (bH s) with
 | false =>
  rw[h] at hc
  simp[Tryz.f184,e1,e2,e3,af,aH,an,ao,aG,ag,ai,aO,aj,ak,aC,az,FP.none,av,unP,aa,ae,ab,hc,aV]
 | true =>
  rw[h] at hc
  have hl:(bH p).length≤(bH s).length:=by
   simp only[ir,Bool.and_eq_true,Nat.ble_eq] at h
   exact h.1
  have hs:dF s (some (.sc (.int .i64 ((bH p).length:Int)))) none none=some (.sc (.string (mkStr ((bH s).drop (bH p).length)))):=by
   simp[dF,bnd,fN,bk,hl]
  simp[Tryz.f184,e1,e2,e3,af,aH,an,ao,aG,ag,ai,aO,aj,ak,aC,az,FP.none,av,bK,unP,aa,ae,ab,bh,hc,uS,dC,hs,aV]
def iQ:List PV→Option (List PV)
 | [.sc (.string s),.sc (.string p)]=>some (gJ s p)
 | _=>none
theorem Jo (hp:List Blk)(s p:ByteArray):bq (snap hp bj) (gJ s p)=some (gJ s p,[]):=by
 unfold gJ;cases ir (bH p) (bH s) <;> rfl
theorem OA (s p:ByteArray):WkL (gJ s p) (gJ s p):=WkL.refl (by unfold gJ;cases ir (bH p) (bH s) <;> rfl)
theorem zr:Ab.Spec base.P 184 iQ:=Ab.Spec.bN (C:=CC L6) (cU ⟨th,trivial⟩) fun args rs h=>by
 unfold iQ at h
 split at h
 ·rename_i s p
  simp only[Option.some.injEq] at h
  subst h
  obtain⟨st,e1,e2⟩:=Ni (runK (CC L6) 1) 1 s p
  exact⟨2,_,_,_,_,_,aQ BG rfl e1 e2,Jo _ _ _,OA _ _⟩
 ·cases h
noncomputable def L7:Lst:=[(184,iQ)]
theorem o7:bu L7 184=fun a=>iQ (aJ a):=rfl
theorem call7 (run:aq)(dr:Bool)(hp:List Blk)(s p:ByteArray):cb (CC L7) run dr hp 184 [.sc (.string s),.sc (.string p)]=some (gN (gJ s p),hp,⟨[],[],false,false⟩) :=
 bp FL o7 run dr hp _ (gJ s p) rfl rfl rfl
theorem Un (run:aq)(k:Nat)(s p:ByteArray) :
  ∃ st,af (CC L7) run k (Tryz.f170.body.getD .skip) ⟨entry 11 [.sc (.string s),.sc (.string p)],[],[]⟩=some (.ret,st)∧aV TT st.fr st.hp Tryz.f170.results.toList=some (gJ s p):=by
 obtain⟨e1,e2,e3⟩:=cn 9 (.sc (.string s)) (.sc (.string p))
 generalize entry 11 [.sc (.string s),.sc (.string p)]=fr0 at *
 have hc:=fun dr hp=>call7 run dr hp s p
 unfold gJ at hc ⊢
 cases h:ir (bH p) (bH s) <;> rw[h] at hc <;> simp only[cond_true,cond_false,gN] at hc ⊢ <;> simp[Tryz.f170,e1,e2,e3,af,aH,an,ao,aG,ag,ai,aO,aj,ak,aC,az,FP.none,av,aa,ae,ab,hc,aV]
theorem Eo:Ab.Spec base.P 170 iQ:=Ab.Spec.bN (C:=CC L7) (cU ⟨zr,trivial⟩) fun args rs h=>by
 unfold iQ at h
 split at h
 ·rename_i s p
  simp only[Option.some.injEq] at h
  subst h
  obtain⟨st,e1,e2⟩:=Un (runK (CC L7) 1) 1 s p
  exact⟨2,_,_,_,_,_,aQ E8 rfl e1 e2,Jo _ _ _,OA _ _⟩
 ·cases h
end Go.Proofs.YtjdmodeenbdfpaaGreat
namespace Go.Ab
open Go
def dv (b:Nat):Nat:=(b+208) % 256
def stp (a b:Nat):Nat:=10*a+dv b
def dec (a:Nat)(l:List Nat):Nat:=l.foldl stp a
theorem qe (a b:Nat)(l:List Nat):dec a (b::l)=dec (stp a b) l:=rfl
def kZ (b:Nat):Bool:=Nat.ble 48 b && Nat.ble b 57
def eI:List Nat→Bool
 | []=>true
 | b::l=>kZ b && eI l
theorem dx {b:Nat} : kZ b=true ↔ 48≤b∧b≤57:=by simp[kZ]
theorem lS (a:Nat)(l m:List Nat):dec a (l++m)=dec (dec a l) m:=by
 unfold dec;rw[List.foldl_append]
theorem J0 (a:Nat)(l:List Nat):dec a l=a*10 ^ l.length+dec 0 l:=by
 induction l generalizing a with
 | nil=>simp[dec]
 | cons b l ih =>
  have h1:=ih (stp a b)
  have h2:=ih (stp 0 b)
  rw[qe,qe,h1,h2,List.length_cons,Nat.pow_succ]
  unfold stp
  generalize dv b=c
  grind
theorem fX (l m:List Nat):eI (l++m)=(eI l && eI m):=by
 induction l with
 | nil=>rfl
 | cons b l ih=>simp[eI,ih,Bool.and_assoc]
theorem dec_lt (l:List Nat)(h:eI l=true):dec 0 l<10 ^ l.length:=by
 induction l using iR with
 | h0=>simp[dec]
 | h1 l b ih =>
  rw[fX,Bool.and_eq_true] at h
  have h1:=ih h.1
  have h2:kZ b=true:=by simpa [eI] using h.2
  rw[dx] at h2
  rw[lS,List.length_append,List.length_singleton,Nat.pow_succ]
  rw[qe,stp]
  show 10*dec 0 l+dv b<10 ^ l.length*10
  unfold dv
  omega
def u8v (n:Nat):PV:=.sc (.int .u8 n)
def wS (l:List Nat):PV:=.imm l.length false (l.map u8v)
theorem aaH (l:List Nat)(i:Nat)(h:i<l.length):(br (l.map u8v) i).head?=some (.sc (.int .u8 (l[i]:Int))):=by
 rw[cM,← List.map_drop,List.drop_eq_getElem_cons h];rfl
def bys (s:ByteArray):List Nat:=(bH s).map UInt8.toNat
theorem IG (k:IntKind)(a s:Nat)(h:s=10*a)(hs:s≤hiN k):bA k (10*(a:Int))=(s:Int):=by
 have e:(10*(a:Int))=(s:Int):=by omega
 rw[e];exact dm k _ hs
theorem Ak (k:IntKind)(a s:Nat)(h:a=s+48)(hs:s≤hiN k):bA k ((a:Int) - 48)=(s:Int):=by
 have e:((a:Int) - 48)=(s:Int):=by omega
 rw[e];exact dm k _ hs
theorem Ow (z:Int)(h : -9223372036854775808≤z - 9)(h2:z - 9≤9223372036854775807):bA .i64 (z - 9)=z - 9:=by
 unfold bA
 have h1:decide (loK .i64≤z - 9)=true:=decide_eq_true (by simp only[loK];omega)
 have h2:decide (z - 9≤hiK .i64)=true:=decide_eq_true (by simp only[hiK];omega)
 rw[h1,h2];rfl
theorem jM {C:Cfg}{run:aq}{k i:Nat}{b:Code}{st st':St}(h:af C run k b st=some (.ret,st')):af C run k (.block i b) st=some (.ret,st'):=by
 simp only[af,h]
theorem jw (s:ByteArray):(bys s).length=(bH s).length:=by simp[bys]
theorem KS (s:ByteArray)(l h:Nat)(h1:l≤h)(h2:h≤(bH s).length) :
  dF s (some (.sc (.int .i64 (l:Int)))) (some (.sc (.int .i64 (h:Int)))) none=some (.sc (.string (mkStr (((bH s).take h).drop l)))):=by
 simp[dF,bnd,fN,bk,h1,h2]
theorem Ur (l:List UInt8):(.imm (bH (mkStr l)).length false ((bH (mkStr l)).map fun b=>PV.sc (.int .u8 (b.toNat:Int))):PV)=wS (l.map UInt8.toNat):=by
 rw[fg,wS,List.length_map,List.map_map];rfl
theorem AE (hp:List Blk)(id i:Nat)(h:i≠id):aZ (roB hp [id]) i=aZ hp i:=by
 unfold roB
 split
 ·rename_i cs e
  simp only[roB]
  rw[cJ e,if_neg h]
 ·rfl
theorem dE.arg {b:Nat}{hp:List Blk}{l:List Nat}{p:PV}(h:dE b hp l p)(n:Bool) :
  ∃ q ids,bq (Ab.snap hp bj) [.sc (.bool n),p]=some ([.sc (.bool n),q],ids)∧aJ [.sc (.bool n),q]=[.sc (.bool n),aL l]∧∀ i,i<b→aZ (roB hp ids) i=aZ hp i:=by
 obtain⟨hb,h⟩:=h
 rcases h with ⟨rfl,rfl⟩| ⟨id,m,hid,_,rfl,h⟩
 ·exact⟨.sc (.slice none 0 0),[],rfl,rfl,fun _ _=>rfl⟩
 ·have ht:bE (br ((l++m).map dg) 0) (l.length*1)=some (l.map dg):=by
   rw[cM,dS (by simp)]
   simp
  have hs:=jE hp 10 l
  have h1:Ab.snap hp 12 (.own id 1 0 l.length false)=some (.imm l.length false (l.map dg),[id]):=by
   rw[Ab.snap]
   simp only[h]
   rw[if_neg (by simp),ht]
   simp only[hs]
  refine⟨.imm l.length false (l.map dg),[id],?_,?_,fun i hi=>AE hp id i (by omega)⟩
  ·simp only[bj,bq,h1]
   rfl
  ·simp only[aJ,canon,iC];rfl
theorem wU (l:List Nat)(lo e:Nat)(h:lo≤e)(he:e≤l.length):l.drop lo=(l.take e).drop lo++l.drop e:=by
 conv=>lhs;rw[← List.take_append_drop e l]
 rw[List.drop_append_of_le_length (by rw[List.length_take];omega)]
theorem YL {n m:Nat}(h:n.log2<29*m):(aA n).length≤m:=by
 by_cases h0:n=0
 ·subst h0;simp[fj]
 ·have h1:n<2 ^ (n.log2+1):=Nat.lt_log2_self
  have h2:2 ^ (n.log2+1)≤2 ^ (29*m):=Nat.pow_le_pow_right (by omega) h
  have h3:(2:Nat) ^ (29*m)≤1000000000 ^ m:=by
   rw[Nat.pow_mul]
   exact Nat.pow_le_pow_left (by decide) _
  exact da (Nat.lt_of_lt_of_le h1 (Nat.le_trans h2 h3))
theorem YK {n:Nat}(h:n.log2<11000000):(aA n).length<400000 :=
 Nat.lt_of_le_of_lt (YL (m:=399999) (Nat.lt_trans h (by decide))) (by decide)
end Go.Ab
