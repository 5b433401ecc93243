/- Contracts of num's integers, part 21 of the proof; each lemma states its own conditions. -/
import Derived.Test.YtjdmodeenbdfpaaGreatT20
import Derived.Test.YtjdmodeenbdfpaaGreatT13
set_option linter.unusedSimpArgs false
set_option linter.unusedVariables false
namespace Go.Proofs.YtjdmodeenbdfpaaGreat
open Go Go.Ab List Tryz
attribute [local simp] FzZ aA aF aG aH aU aa ab ae af ag ai aj an ao aq az
theorem uS:und TT 9=some .string:=by kernel_rfl
theorem uAI:und TT 94=some .string:=by kernel_rfl
theorem u8:und TT 5=some (.int .u8):=by kernel_rfl
theorem uBs:und TT 43=some (.slice 5):=by kernel_rfl
theorem s8:dt TT 5=some 1:=by kernel_rfl
theorem a8:fZ TT 5=some false:=by kernel_rfl
theorem F3:base.F.get 142=some f142:=by kernel_rfl
theorem Cs:base.F.get 184=some f184:=by kernel_rfl
theorem F6:base.F.get 170=some f170:=by kernel_rfl
theorem tC:base.F.get 154=some f154:=by kernel_rfl
theorem MJ:base.shared 142=false:=by kernel_rfl
theorem GQ:base.shared 184=false:=by kernel_rfl
theorem ML:base.shared 170=false:=by kernel_rfl
theorem Y0:base.shared 154=false:=by kernel_rfl
def jd (p s:List UInt8):Bool:=p.length.ble s.length && eqL (s.take p.length) p
theorem EP (L:Lst)(run:ar)(k:Nat)(s p:ByteArray) :
  ∃ st,af (CC L) run k (f142.body.getD .skip) ⟨entry 18 [.sc (.string s),.sc (.string p)],[],[]⟩=some (.ret,st)∧aU TT st.fr st.hp f142.results.toList=some [.sc (.bool (jd (bT p) (bT s)))]:=by
 obtain⟨e1,e2,e3⟩:=cn 16 (.sc (.string s)) (.sc (.string p))
 generalize entry 18 [.sc (.string s),.sc (.string p)]=fr0 at *
 by_cases h:(bT p).length≤(bT s).length
 ·have hs:eu s none (some (.sc (.int .i64 ((bT p).length:Int)))) none=some (.sc (.string (mkStr ((bT s).take (bT p).length)))):=by
   simp[eu,bnd,fk,bm,h]
  have hb:(bT p).length.ble (bT s).length=true:=by rw[Nat.ble_eq];exact h
  have hb2:(bT p).length≤(bT s).length:=h
  simp[f142,e1,e2,e3,bc,aw,bj,bO,bd,uS,h,dq,hs,eD,fy,jd,hb]
 ·have hb:(bT p).length.ble (bT s).length=false:=by
   cases e:(bT p).length.ble (bT s).length with
   | false=>rfl
   | true=>rw[Nat.ble_eq] at e;exact absurd e h
  simp[f142,e1,e2,e3,bc,aw,bj,bO,bd,uS,h,jd,hb]
def vD:List PV→Option (List PV)
 | [.sc (.string s),.sc (.string p)]=>some [.sc (.bool (jd (bT p) (bT s)))]
 | _=>none
theorem xE (hp:List Blk)(b:Bool):bq (snap hp bn) [.sc (.bool b)]=some ([.sc (.bool b)],[]):=rfl
theorem EO:Ab.Spec base.P 142 vD:=Ab.Spec.bM (C:=CC []) (cP trivial) fun args rs h=>by
 unfold vD at h
 split at h
 ·rename_i s p
  simp only[OiE] at h
  subst h
  obtain⟨st,e1,e2⟩:=EP [] (runK (CC []) 1) 1 s p
  exact⟨2,_,_,_,_,_,aP F3 rfl e1 e2,xE _ _,Wk.refl rfl,trivial⟩
 ·cases h
noncomputable def L6:Lst:=[(142,vD)]
theorem o6:bu L6 142=fun a=>vD (aJ a):=rfl
theorem call6 (run:ar)(dr:Bool)(hp:List Blk)(s p:ByteArray):bX (CC L6) run dr hp 142 [.sc (.string s),.sc (.string p)]=some (.sc (.bool (jd (bT p) (bT s))),hp,⟨[],[],false,false⟩) :=
 bw MJ o6 run dr hp _ [.sc (.bool (jd (bT p) (bT s)))] rfl rfl rfl
def ic (s p:ByteArray):List PV:=bif jd (bT p) (bT s) then [.sc (.string (mkStr ((bT s).drop (bT p).length))),.sc (.bool true)] else [.sc (.string s),.sc (.bool false)]
theorem OJ (run:ar)(k:Nat)(s p:ByteArray) :
  ∃ st,af (CC L6) run k (f184.body.getD .skip) ⟨entry 15 [.sc (.string s),.sc (.string p)],[],[]⟩=some (.ret,st)∧aU TT st.fr st.hp f184.results.toList=some (ic s p):=by
 obtain⟨e1,e2,e3⟩:=cn 13 (.sc (.string s)) (.sc (.string p))
 generalize entry 15 [.sc (.string s),.sc (.string p)]=fr0 at *
 have hc:=fun dr hp=>call6 run dr hp s p
 unfold ic
 cases h:jd (bT p) (bT s) with
 | false =>
  rw[h] at hc
  simp[f184,e1,e2,e3,aL,unP,hc]
 | true =>
  rw[h] at hc
  have hl:(bT p).length≤(bT s).length:=by
   simp only[jd,Bool.and_eq_true,Nat.ble_eq] at h
   exact h.1
  have hs:eu s (some (.sc (.int .i64 ((bT p).length:Int)))) none none=some (.sc (.string (mkStr ((bT s).drop (bT p).length)))):=by
   simp[eu,bnd,fk,bm,hl]
  simp[f184,e1,e2,e3,aL,bO,unP,bd,hc,uS,dq,hs]
def lk:List PV→Option (List PV)
 | [.sc (.string s),.sc (.string p)]=>some (ic s p)
 | _=>none
theorem KH (hp:List Blk)(s p:ByteArray):bq (snap hp bn) (ic s p)=some (ic s p,[]):=by
 unfold ic;cases jd (bT p) (bT s) <;> rfl
theorem P4 (s p:ByteArray):WkL (ic s p) (ic s p):=WkL.refl (by unfold ic;cases jd (bT p) (bT s) <;> rfl)
theorem OI:Ab.Spec base.P 184 lk:=Ab.Spec.bM (C:=CC L6) (cP ⟨EO,trivial⟩) fun args rs h=>by
 unfold lk at h
 split at h
 ·rename_i s p
  simp only[OiE] at h
  subst h
  obtain⟨st,e1,e2⟩:=OJ (runK (CC L6) 1) 1 s p
  exact⟨2,_,_,_,_,_,aP Cs rfl e1 e2,KH _ _ _,P4 _ _⟩
 ·cases h
noncomputable def L7:Lst:=[(184,lk)]
theorem o7:bu L7 184=fun a=>lk (aJ a):=rfl
theorem call7 (run:ar)(dr:Bool)(hp:List Blk)(s p:ByteArray):bX (CC L7) run dr hp 184 [.sc (.string s),.sc (.string p)]=some (jk (ic s p),hp,⟨[],[],false,false⟩) :=
 bw GQ o7 run dr hp _ (ic s p) rfl rfl rfl
theorem Wz (run:ar)(k:Nat)(s p:ByteArray) :
  ∃ st,af (CC L7) run k (f170.body.getD .skip) ⟨entry 11 [.sc (.string s),.sc (.string p)],[],[]⟩=some (.ret,st)∧aU TT st.fr st.hp f170.results.toList=some (ic s p):=by
 obtain⟨e1,e2,e3⟩:=cn 9 (.sc (.string s)) (.sc (.string p))
 generalize entry 11 [.sc (.string s),.sc (.string p)]=fr0 at *
 have hc:=fun dr hp=>call7 run dr hp s p
 unfold ic at hc ⊢
 cases h:jd (bT p) (bT s) <;> rw[h] at hc <;> simp only[cond_true,cond_false,jk] at hc ⊢ <;> simp[f170,e1,e2,e3,aL,hc]
theorem Wy:Ab.Spec base.P 170 lk:=Ab.Spec.bM (C:=CC L7) (cP ⟨OI,trivial⟩) fun args rs h=>by
 unfold lk at h
 split at h
 ·rename_i s p
  simp only[OiE] at h
  subst h
  obtain⟨st,e1,e2⟩:=Wz (runK (CC L7) 1) 1 s p
  exact⟨2,_,_,_,_,_,aP F6 rfl e1 e2,KH _ _ _,P4 _ _⟩
 ·cases h
end Go.Proofs.YtjdmodeenbdfpaaGreat
namespace Go.Ab
open Go List
def dv (b:Nat):Nat:=(b+208) % 256
def stp (a b:Nat):Nat:=10*a+dv b
def dec (a:Nat)(l:List Nat):Nat:=l.foldl stp a
theorem rN (a b:Nat)(l:List Nat):dec a (b::l)=dec (stp a b) l:=rfl
def l7 (b:Nat):Bool:=Nat.ble 48 b && Nat.ble b 57
def fc:List Nat→Bool
 | []=>true
 | b::l=>l7 b && fc l
theorem dN {b:Nat} : l7 b=true ↔ 48≤b∧b≤57:=by simp[l7]
theorem mX (a:Nat)(l m:List Nat):dec a (l++m)=dec (dec a l) m:=by
 unfold dec;rw[foldl_append]
theorem Ls (a:Nat)(l:List Nat):dec a l=a*10 ^ l.length+dec 0 l:=by
 induction l generalizing a with
 | nil=>simp[dec]
 | cons b l ih =>
  have h1:=ih (stp a b)
  have h2:=ih (stp 0 b)
  rw[rN,rN,h1,h2,length_cons,Nat.pow_succ]
  unfold stp
  generalize dv b=c
  grind
theorem gF (l m:List Nat):fc (l++m)=(fc l && fc m):=by
 induction l with
 | nil=>rfl
 | cons b l ih=>simp[fc,ih,Bool.and_assoc]
theorem dec_lt (l:List Nat)(h:fc l=true):dec 0 l<10 ^ l.length:=by
 induction l using jC with
 | h0=>simp[dec]
 | h1 l b ih =>
  rw[gF,Bool.and_eq_true] at h
  have h1:=ih h.1
  have h2:l7 b=true:=by simpa [fc] using h.2
  rw[dN] at h2
  rw[mX,length_append,length_singleton,Nat.pow_succ]
  rw[rN,stp]
  show 10*dec 0 l+dv b<10 ^ l.length*10
  unfold dv
  omega
def u8v (n:Nat):PV:=.sc (.int .u8 n)
def yb (l:List Nat):PV:=.imm l.length false (l.map u8v)
theorem adm (l:List Nat)(i:Nat)(h:i<l.length):(br (l.map u8v) i).head?=some (.sc (.int .u8 (l[i]:Int))):=by
 rw[cA,← map_drop,drop_eq_getElem_cons h];rfl
def bys (s:ByteArray):List Nat:=(bT s).map UInt8.toNat
theorem JJ (k:IntKind)(a s:Nat)(h:s=10*a)(hs:s≤hiN k):bE k (10*(a:Int))=(s:Int):=by
 have e:(10*(a:Int))=(s:Int):=by omega
 rw[e];exact dG k _ hs
theorem Ba (k:IntKind)(a s:Nat)(h:a=s+48)(hs:s≤hiN k):bE k ((a:Int) - 48)=(s:Int):=by
 have e:((a:Int) - 48)=(s:Int):=by omega
 rw[e];exact dG k _ hs
theorem P0 (z:Int)(h : -9223372036854775808≤z - 9)(h2:z - 9≤9223372036854775807):bE .i64 (z - 9)=z - 9:=by
 unfold bE
 have h1:decide (loK .i64≤z - 9)=true:=decide_eq_true (by simp only[loK];omega)
 have h2:decide (z - 9≤hiK .i64)=true:=decide_eq_true (by simp only[hiK];omega)
 rw[h1,h2];rfl
theorem kE {C:Cfg}{run:ar}{k i:Nat}{b:Code}{st st':St}(h:af C run k b st=some (.ret,st')):af C run k (.block i b) st=some (.ret,st'):=by
 simp only[af,h]
theorem kc (s:ByteArray):(bys s).length=(bT s).length:=by simp[bys]
theorem Mm (s:ByteArray)(l h:Nat)(h1:l≤h)(h2:h≤(bT s).length) :
  eu s (some (.sc (.int .i64 (l:Int)))) (some (.sc (.int .i64 (h:Int)))) none=some (.sc (.string (mkStr (((bT s).take h).drop l)))):=by
 simp[eu,bnd,fk,bm,h1,h2]
theorem WE (l:List UInt8):(.imm (bT (mkStr l)).length false ((bT (mkStr l)).map fun b=>PV.sc (.int .u8 (b.toNat:Int))):PV)=yb (l.map UInt8.toNat):=by
 rw[fy,yb,length_map,map_map];rfl
theorem Br (hp:List Blk)(id i:Nat)(h:i≠id):aY (roB hp [id]) i=aY hp i:=by
 unfold roB
 split
 ·rename_i cs e
  simp only[roB]
  rw[cT e,if_neg h]
 ·rfl
theorem dU.arg {b:Nat}{hp:List Blk}{l:List Nat}{p:PV}(h:dU b hp l p)(n:Bool) :
  ∃ q ids,bq (Ab.snap hp bn) [.sc (.bool n),p]=some ([.sc (.bool n),q],ids)∧aJ [.sc (.bool n),q]=[.sc (.bool n),aQ l]∧∀ i,i<b→aY (roB hp ids) i=aY hp i:=by
 obtain⟨hb,h⟩:=h
 rcases h with ⟨rfl,rfl⟩| ⟨id,m,hid,_,rfl,h⟩
 ·exact⟨.sc (.slice none 0 0),[],rfl,rfl,fun _ _=>rfl⟩
 ·have ht:bF (br ((l++m).map dg) 0) (l.length*1)=some (l.map dg):=by
   rw[cA,dh (by simp)]
   simp
  have hs:=kn hp 10 l
  have h1:Ab.snap hp 12 (.own id 1 0 l.length false)=some (.imm l.length false (l.map dg),[id]):=by
   rw[Ab.snap]
   simp only[h]
   rw[if_neg (by simp),ht]
   simp only[hs]
  refine⟨.imm l.length false (l.map dg),[id],?_,?_,fun i hi=>Br hp id i (by omega)⟩
  ·simp only[bn,bq,h1]
   rfl
  ·simp only[aJ,canon,jo];rfl
theorem yd (l:List Nat)(lo e:Nat)(h:lo≤e)(he:e≤l.length):l.drop lo=(l.take e).drop lo++l.drop e:=by
 conv=>lhs;rw[← take_append_drop e l]
 rw[drop_append_of_le_length (by rw[length_take];omega)]
theorem abx {n m:Nat}(h:n.log2<29*m):(aK n).length≤m:=by
 by_cases h0:n=0
 ·subst h0;simp[fB]
 ·have h1:n<2 ^ (n.log2+1):=Nat.lt_log2_self
  have h2:2 ^ (n.log2+1)≤2 ^ (29*m):=Nat.pow_le_pow_right (by omega) h
  have h3:(2:Nat) ^ (29*m)≤1000000000 ^ m:=by
   rw[Nat.pow_mul]
   exact Nat.pow_le_pow_left (by decide) _
  exact du (Nat.lt_of_lt_of_le h1 (Nat.le_trans h2 h3))
theorem abw {n:Nat}(h:n.log2<11000000):(aK n).length<400000 :=
 Nat.lt_of_le_of_lt (abx (m:=399999) (Nat.lt_trans h (by decide))) (by decide)
end Go.Ab
