/- Contracts of num's integers, part 23 of the proof; each lemma states its own conditions. -/
import Derived.Test.YtjdmodeenbdfpaaGreatR22
import Derived.Test.YtjdmodeenbdfpaaGreatR15
set_option linter.unusedSimpArgs false
set_option linter.unusedVariables false
namespace Go.Proofs.YtjdmodeenbdfpaaGreat
open Go Go.Ab
theorem uS:und TT 9=some .string:=by kernel_rfl
theorem uAI:und TT 94=some .string:=by kernel_rfl
theorem u8:und TT 5=some (.int .u8):=by kernel_rfl
theorem uBs:und TT 43=some (.slice 5):=by kernel_rfl
theorem s8:dc TT 5=some 1:=by kernel_rfl
theorem a8:fR TT 5=some false:=by kernel_rfl
theorem Eg:base.F.get 142=some Tryz.f142:=by kernel_rfl
theorem AZ:base.F.get 184=some Tryz.f184:=by kernel_rfl
theorem Ej:base.F.get 170=some Tryz.f170:=by kernel_rfl
theorem rW:base.F.get 154=some Tryz.f154:=by kernel_rfl
theorem J7:base.shared 142=false:=by kernel_rfl
theorem EW:base.shared 184=false:=by kernel_rfl
theorem J9:base.shared 170=false:=by kernel_rfl
theorem VU:base.shared 154=false:=by kernel_rfl
def iJ (p s:List UInt8):Bool:=p.length.ble s.length && eqL (s.take p.length) p
theorem C8 (L:Lst)(run:ar)(k:Nat)(s p:ByteArray) :
  ∃ st,af (CC L) run k (Tryz.f142.body.getD .skip) ⟨entry 18 [.sc (.string s),.sc (.string p)],[],[]⟩=some (.ret,st)∧aZ TT st.fr st.hp Tryz.f142.results.toList=some [.sc (.bool (iJ (bK p) (bK s)))]:=by
 obtain⟨e1,e2,e3⟩:=cC 16 (.sc (.string s)) (.sc (.string p))
 generalize entry 18 [.sc (.string s),.sc (.string p)]=fr0 at *
 by_cases h:(bK p).length≤(bK s).length
 ·have hs:dT s none (some (.sc (.int .i64 ((bK p).length:Int)))) none=some (.sc (.string (mkStr ((bK s).take (bK p).length)))):=by
   simp[dT,bnd,fk,bm,h]
  have hb:(bK p).length.ble (bK s).length=true:=by rw[Nat.ble_eq];exact h
  have hb2:(bK p).length≤(bK s).length:=h
  simp[Tryz.f142,e1,e2,e3,af,aJ,ao,aq,aH,ag,ai,aj,an,aF,aC,FP.none,bd,au,bj,aw,bM,aa,ae,ab,bh,uS,h,dt,hs,fl,ff,aZ,iJ,hb]
 ·have hb:(bK p).length.ble (bK s).length=false:=by
   cases e:(bK p).length.ble (bK s).length with
   | false=>rfl
   | true=>rw[Nat.ble_eq] at e;exact absurd e h
  simp[Tryz.f142,e1,e2,e3,af,aJ,ao,aq,aH,ag,ai,aj,an,aF,aC,FP.none,bd,au,bj,aw,bM,aa,ae,ab,bh,uS,h,aZ,iJ,hb]
def tS:List PV→Option (List PV)
 | [.sc (.string s),.sc (.string p)]=>some [.sc (.bool (iJ (bK p) (bK s)))]
 | _=>none
theorem vN (hp:List Blk)(b:Bool):bt (snap hp bp) [.sc (.bool b)]=some ([.sc (.bool b)],[]):=rfl
theorem C7:Ab.Spec base.P 142 tS:=Ab.Spec.bQ (C:=CC []) (cV trivial) fun args rs h=>by
 unfold tS at h
 split at h
 ·rename_i s p
  simp only[Option.some.injEq] at h
  subst h
  obtain⟨st,e1,e2⟩:=C8 [] (runK (CC []) 1) 1 s p
  exact⟨2,_,_,_,_,_,aX Eg rfl e1 e2,vN _ _,Wk.refl rfl,trivial⟩
 ·cases h
noncomputable def L6:Lst:=[(142,tS)]
theorem o6:bw L6 142=fun a=>tS (aK a):=rfl
theorem call6 (run:ar)(dr:Bool)(hp:List Blk)(s p:ByteArray):cg (CC L6) run dr hp 142 [.sc (.string s),.sc (.string p)]=some (.sc (.bool (iJ (bK p) (bK s))),hp,⟨[],[],false,false⟩) :=
 bu J7 o6 run dr hp _ [.sc (.bool (iJ (bK p) (bK s)))] rfl rfl rfl
def gI (s p:ByteArray):List PV:=bif iJ (bK p) (bK s) then [.sc (.string (mkStr ((bK s).drop (bK p).length))),.sc (.bool true)] else [.sc (.string s),.sc (.bool false)]
theorem ME (run:ar)(k:Nat)(s p:ByteArray) :
  ∃ st,af (CC L6) run k (Tryz.f184.body.getD .skip) ⟨entry 15 [.sc (.string s),.sc (.string p)],[],[]⟩=some (.ret,st)∧aZ TT st.fr st.hp Tryz.f184.results.toList=some (gI s p):=by
 obtain⟨e1,e2,e3⟩:=cC 13 (.sc (.string s)) (.sc (.string p))
 generalize entry 15 [.sc (.string s),.sc (.string p)]=fr0 at *
 have hc:=fun dr hp=>call6 run dr hp s p
 unfold gI
 cases h:iJ (bK p) (bK s) with
 | false =>
  rw[h] at hc
  simp[Tryz.f184,e1,e2,e3,af,aJ,ao,aq,aH,ag,ai,aQ,aj,an,aF,aC,FP.none,aw,unP,aa,ae,ab,hc,aZ]
 | true =>
  rw[h] at hc
  have hl:(bK p).length≤(bK s).length:=by
   simp only[iJ,Bool.and_eq_true,Nat.ble_eq] at h
   exact h.1
  have hs:dT s (some (.sc (.int .i64 ((bK p).length:Int)))) none none=some (.sc (.string (mkStr ((bK s).drop (bK p).length)))):=by
   simp[dT,bnd,fk,bm,hl]
  simp[Tryz.f184,e1,e2,e3,af,aJ,ao,aq,aH,ag,ai,aQ,aj,an,aF,aC,FP.none,aw,bM,unP,aa,ae,ab,bh,hc,uS,dt,hs,aZ]
def ko:List PV→Option (List PV)
 | [.sc (.string s),.sc (.string p)]=>some (gI s p)
 | _=>none
theorem IE (hp:List Blk)(s p:ByteArray):bt (snap hp bp) (gI s p)=some (gI s p,[]):=by
 unfold gI;cases iJ (bK p) (bK s) <;> rfl
theorem NZ (s p:ByteArray):WkL (gI s p) (gI s p):=WkL.refl (by unfold gI;cases iJ (bK p) (bK s) <;> rfl)
theorem MD:Ab.Spec base.P 184 ko:=Ab.Spec.bQ (C:=CC L6) (cV ⟨C7,trivial⟩) fun args rs h=>by
 unfold ko at h
 split at h
 ·rename_i s p
  simp only[Option.some.injEq] at h
  subst h
  obtain⟨st,e1,e2⟩:=ME (runK (CC L6) 1) 1 s p
  exact⟨2,_,_,_,_,_,aX AZ rfl e1 e2,IE _ _ _,NZ _ _⟩
 ·cases h
noncomputable def L7:Lst:=[(184,ko)]
theorem o7:bw L7 184=fun a=>ko (aK a):=rfl
theorem call7 (run:ar)(dr:Bool)(hp:List Blk)(s p:ByteArray):cg (CC L7) run dr hp 184 [.sc (.string s),.sc (.string p)]=some (iO (gI s p),hp,⟨[],[],false,false⟩) :=
 bu EW o7 run dr hp _ (gI s p) rfl rfl rfl
theorem TV (run:ar)(k:Nat)(s p:ByteArray) :
  ∃ st,af (CC L7) run k (Tryz.f170.body.getD .skip) ⟨entry 11 [.sc (.string s),.sc (.string p)],[],[]⟩=some (.ret,st)∧aZ TT st.fr st.hp Tryz.f170.results.toList=some (gI s p):=by
 obtain⟨e1,e2,e3⟩:=cC 9 (.sc (.string s)) (.sc (.string p))
 generalize entry 11 [.sc (.string s),.sc (.string p)]=fr0 at *
 have hc:=fun dr hp=>call7 run dr hp s p
 unfold gI at hc ⊢
 cases h:iJ (bK p) (bK s) <;> rw[h] at hc <;> simp only[cond_true,cond_false,iO] at hc ⊢ <;> simp[Tryz.f170,e1,e2,e3,af,aJ,ao,aq,aH,ag,ai,aQ,aj,an,aF,aC,FP.none,aw,aa,ae,ab,hc,aZ]
theorem TU:Ab.Spec base.P 170 ko:=Ab.Spec.bQ (C:=CC L7) (cV ⟨MD,trivial⟩) fun args rs h=>by
 unfold ko at h
 split at h
 ·rename_i s p
  simp only[Option.some.injEq] at h
  subst h
  obtain⟨st,e1,e2⟩:=TV (runK (CC L7) 1) 1 s p
  exact⟨2,_,_,_,_,_,aX Ej rfl e1 e2,IE _ _ _,NZ _ _⟩
 ·cases h
end Go.Proofs.YtjdmodeenbdfpaaGreat
namespace Go.Ab
open Go
def dv (b:Nat):Nat:=(b+208) % 256
def stp (a b:Nat):Nat:=10*a+dv b
def dec (a:Nat)(l:List Nat):Nat:=l.foldl stp a
theorem qm (a b:Nat)(l:List Nat):dec a (b::l)=dec (stp a b) l:=rfl
def ll (b:Nat):Bool:=Nat.ble 48 b && Nat.ble b 57
def eH:List Nat→Bool
 | []=>true
 | b::l=>ll b && eH l
theorem dH {b:Nat} : ll b=true ↔ 48≤b∧b≤57:=by simp[ll]
theorem mg (a:Nat)(l m:List Nat):dec a (l++m)=dec (dec a l) m:=by
 unfold dec;rw[List.foldl_append]
theorem Jj (a:Nat)(l:List Nat):dec a l=a*10 ^ l.length+dec 0 l:=by
 induction l generalizing a with
 | nil=>simp[dec]
 | cons b l ih =>
  have h1:=ih (stp a b)
  have h2:=ih (stp 0 b)
  rw[qm,qm,h1,h2,List.length_cons,Nat.pow_succ]
  unfold stp
  generalize dv b=c
  grind
theorem fS (l m:List Nat):eH (l++m)=(eH l && eH m):=by
 induction l with
 | nil=>rfl
 | cons b l ih=>simp[eH,ih,Bool.and_assoc]
theorem dec_lt (l:List Nat)(h:eH l=true):dec 0 l<10 ^ l.length:=by
 induction l using jd with
 | h0=>simp[dec]
 | h1 l b ih =>
  rw[fS,Bool.and_eq_true] at h
  have h1:=ih h.1
  have h2:ll b=true:=by simpa [eH] using h.2
  rw[dH] at h2
  rw[mg,List.length_append,List.length_singleton,Nat.pow_succ]
  rw[qm,stp]
  show 10*dec 0 l+dv b<10 ^ l.length*10
  unfold dv
  omega
def u8v (n:Nat):PV:=.sc (.int .u8 n)
def wC (l:List Nat):PV:=.imm l.length false (l.map u8v)
theorem aaA (l:List Nat)(i:Nat)(h:i<l.length):(br (l.map u8v) i).head?=some (.sc (.int .u8 (l[i]:Int))):=by
 rw[cL,← List.map_drop,List.drop_eq_getElem_cons h];rfl
def bys (s:ByteArray):List Nat:=(bK s).map UInt8.toNat
theorem HZ (k:IntKind)(a s:Nat)(h:s=10*a)(hs:s≤hiN k):bA k (10*(a:Int))=(s:Int):=by
 have e:(10*(a:Int))=(s:Int):=by omega
 rw[e];exact dy k _ hs
theorem zC (k:IntKind)(a s:Nat)(h:a=s+48)(hs:s≤hiN k):bA k ((a:Int) - 48)=(s:Int):=by
 have e:((a:Int) - 48)=(s:Int):=by omega
 rw[e];exact dy k _ hs
theorem NV (z:Int)(h : -9223372036854775808≤z - 9)(h2:z - 9≤9223372036854775807):bA .i64 (z - 9)=z - 9:=by
 unfold bA
 have h1:decide (loK .i64≤z - 9)=true:=decide_eq_true (by simp only[loK];omega)
 have h2:decide (z - 9≤hiK .i64)=true:=decide_eq_true (by simp only[hiK];omega)
 rw[h1,h2];rfl
theorem jQ {C:Cfg}{run:ar}{k i:Nat}{b:Code}{st st':St}(h:af C run k b st=some (.ret,st')):af C run k (.block i b) st=some (.ret,st'):=by
 simp only[af,h]
theorem jz (s:ByteArray):(bys s).length=(bK s).length:=by simp[bys]
theorem JP (s:ByteArray)(l h:Nat)(h1:l≤h)(h2:h≤(bK s).length) :
  dT s (some (.sc (.int .i64 (l:Int)))) (some (.sc (.int .i64 (h:Int)))) none=some (.sc (.string (mkStr (((bK s).take h).drop l)))):=by
 simp[dT,bnd,fk,bm,h1,h2]
theorem TZ (l:List UInt8):(.imm (bK (mkStr l)).length false ((bK (mkStr l)).map fun b=>PV.sc (.int .u8 (b.toNat:Int))):PV)=wC (l.map UInt8.toNat):=by
 rw[ff,wC,List.length_map,List.map_map];rfl
theorem zT (hp:List Blk)(id i:Nat)(h:i≠id):aV (roB hp [id]) i=aV hp i:=by
 unfold roB
 split
 ·rename_i cs e
  simp only[roB]
  rw[cQ e,if_neg h]
 ·rfl
theorem dI.arg {b:Nat}{hp:List Blk}{l:List Nat}{p:PV}(h:dI b hp l p)(n:Bool) :
  ∃ q ids,bt (Ab.snap hp bp) [.sc (.bool n),p]=some ([.sc (.bool n),q],ids)∧aK [.sc (.bool n),q]=[.sc (.bool n),aM l]∧∀ i,i<b→aV (roB hp ids) i=aV hp i:=by
 obtain⟨hb,h⟩:=h
 rcases h with ⟨rfl,rfl⟩| ⟨id,m,hid,_,rfl,h⟩
 ·exact⟨.sc (.slice none 0 0),[],rfl,rfl,fun _ _=>rfl⟩
 ·have ht:bG (br ((l++m).map dg) 0) (l.length*1)=some (l.map dg):=by
   rw[cL,dM (by simp)]
   simp
  have hs:=jF hp 10 l
  have h1:Ab.snap hp 12 (.own id 1 0 l.length false)=some (.imm l.length false (l.map dg),[id]):=by
   rw[Ab.snap]
   simp only[h]
   rw[if_neg (by simp),ht]
   simp only[hs]
  refine⟨.imm l.length false (l.map dg),[id],?_,?_,fun i hi=>zT hp id i (by omega)⟩
  ·simp only[bp,bt,h1]
   rfl
  ·simp only[aK,canon,iR];rfl
theorem wE (l:List Nat)(lo e:Nat)(h:lo≤e)(he:e≤l.length):l.drop lo=(l.take e).drop lo++l.drop e:=by
 conv=>lhs;rw[← List.take_append_drop e l]
 rw[List.drop_append_of_le_length (by rw[List.length_take];omega)]
theorem YU {n m:Nat}(h:n.log2<29*m):(aG n).length≤m:=by
 by_cases h0:n=0
 ·subst h0;simp[fj]
 ·have h1:n<2 ^ (n.log2+1):=Nat.lt_log2_self
  have h2:2 ^ (n.log2+1)≤2 ^ (29*m):=Nat.pow_le_pow_right (by omega) h
  have h3:(2:Nat) ^ (29*m)≤1000000000 ^ m:=by
   rw[Nat.pow_mul]
   exact Nat.pow_le_pow_left (by decide) _
  exact di (Nat.lt_of_lt_of_le h1 (Nat.le_trans h2 h3))
theorem YT {n:Nat}(h:n.log2<11000000):(aG n).length<400000 :=
 Nat.lt_of_le_of_lt (YU (m:=399999) (Nat.lt_trans h (by decide))) (by decide)
end Go.Ab
