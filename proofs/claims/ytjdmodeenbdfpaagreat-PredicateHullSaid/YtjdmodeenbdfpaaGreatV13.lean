/- Contracts of num's integers, part 13; each lemma states its conditions. -/
import Derived.Test.YtjdmodeenbdfpaaGreatV12
set_option linter.unusedSimpArgs false
set_option linter.unusedVariables false
namespace Go.Proofs.YtjdmodeenbdfpaaGreat
open Go Go.Ab Tryz
attribute [local simp] FzZ aC aF aG aH aX aa ab ae af ag ah aj an ao aq av
theorem uS:und TT 9=some .string:=by kernel_rfl
theorem uAI:und TT 94=some .string:=by kernel_rfl
theorem u8:und TT 5=some (.int .u8):=by kernel_rfl
theorem uBs:und TT 43=some (.slice 5):=by kernel_rfl
theorem s8:de TT 5=some 1:=by kernel_rfl
theorem a8:fR TT 5=some false:=by kernel_rfl
theorem GG:base.F.get 142=some f142:=by kernel_rfl
theorem CT:base.F.get 184=some f184:=by kernel_rfl
theorem GK:base.F.get 170=some f170:=by kernel_rfl
theorem tH:base.F.get 154=some f154:=by kernel_rfl
theorem NC:base.shared 142=false:=by kernel_rfl
theorem Hm:base.shared 184=false:=by kernel_rfl
theorem NF:base.shared 170=false:=by kernel_rfl
theorem aas:base.shared 154=false:=by kernel_rfl
def jg (p s:List UInt8):Bool:=p.length.ble s.length && eqL (s.take p.length) p
theorem Ft (L:Lst)(run:aw)(k:Nat)(s p:ByteArray) :
  ∃ st,ae (CC L) run k (f142.body.getD .skip) ⟨entry 18 [.sc (.string s),.sc (.string p)],[],[]⟩=some (.ret,st)∧aX TT st.fr st.hp f142.results.toList=some [.sc (.bool (jg (bQ p) (bQ s)))]:=by
 obtain⟨e1,e2,e3⟩:=cl 16 (.sc (.string s)) (.sc (.string p))
 generalize entry 18 [.sc (.string s),.sc (.string p)]=fr0 at *
 by_cases h:(bQ p).length≤(bQ s).length
 ·have hs:dW s none (some (.sc (.int .i64 ((bQ p).length:Int)))) none=some (.sc (.string (mkStr ((bQ s).take (bQ p).length)))):=by
   simp[dW,bnd,fv,bn,h]
  have hb:(bQ p).length.ble (bQ s).length=true:=by rw[Nat.ble_eq];exact h
  have hb2:(bQ p).length≤(bQ s).length:=h
  simp[f142,e1,e2,e3,aZ,au,bf,bL,bc,uS,h,dw,hs,fw,fk,jg,hb]
 ·have hb:(bQ p).length.ble (bQ s).length=false:=by
   cases e:(bQ p).length.ble (bQ s).length with
   | false=>rfl
   | true=>rw[Nat.ble_eq] at e;exact absurd e h
  simp[f142,e1,e2,e3,aZ,au,bf,bL,bc,uS,h,jg,hb]
def vK:Ψ→Option Ψ
 | [.sc (.string s),.sc (.string p)]=>some [.sc (.bool (jg (bQ p) (bQ s)))]
 | _=>none
theorem xF (hp:Θ)(b:Bool):bw (snap hp bq) [.sc (.bool b)]=some ([.sc (.bool b)],[]):=rfl
theorem Fs:Ab.Spec base.P 142 vK:=Ab.Spec.bS (C:=CC []) (cR trivial) fun args rs h=>by
 unfold vK at h
 split at h
 ·rename_i s p
  simp only[OiE] at h
  subst h
  obtain⟨st,e1,e2⟩:=Ft [] (runK (CC []) 1) 1 s p
  exact⟨2,_,_,_,_,_,ba GG rfl e1 e2,xF _ _,Wk.refl rfl,trivial⟩
 ·cases h
noncomputable def L6:Lst:=[(142,vK)]
theorem o6:bx L6 142=fun a=>vK (aK a):=rfl
theorem call6 (run:aw)(dr:Bool)(hp:Θ)(s p:ByteArray):bP (CC L6) run dr hp 142 [.sc (.string s),.sc (.string p)]=some (.sc (.bool (jg (bQ p) (bQ s))),hp,⟨[],[],false,false⟩) :=
 bt NC o6 run dr hp _ [.sc (.bool (jg (bQ p) (bQ s)))] rfl rfl rfl
def gQ (s p:ByteArray):Ψ:=bif jg (bQ p) (bQ s) then [.sc (.string (mkStr ((bQ s).drop (bQ p).length))),.sc (.bool true)] else [.sc (.string s),.sc (.bool false)]
theorem Pw (run:aw)(k:Nat)(s p:ByteArray) :
  ∃ st,ae (CC L6) run k (f184.body.getD .skip) ⟨entry 15 [.sc (.string s),.sc (.string p)],[],[]⟩=some (.ret,st)∧aX TT st.fr st.hp f184.results.toList=some (gQ s p):=by
 obtain⟨e1,e2,e3⟩:=cl 13 (.sc (.string s)) (.sc (.string p))
 generalize entry 15 [.sc (.string s),.sc (.string p)]=fr0 at *
 have hc:=fun dr hp=>call6 run dr hp s p
 unfold gQ
 cases h:jg (bQ p) (bQ s) with
 | false =>
  rw[h] at hc
  simp[f184,e1,e2,e3,aM,unP,hc]
 | true =>
  rw[h] at hc
  have hl:(bQ p).length≤(bQ s).length:=by
   simp only[jg,Bool.and_eq_true,Nat.ble_eq] at h
   exact h.1
  have hs:dW s (some (.sc (.int .i64 ((bQ p).length:Int)))) none none=some (.sc (.string (mkStr ((bQ s).drop (bQ p).length)))):=by
   simp[dW,bnd,fv,bn,hl]
  simp[f184,e1,e2,e3,aM,bL,unP,bc,hc,uS,dw,hs]
def lh:Ψ→Option Ψ
 | [.sc (.string s),.sc (.string p)]=>some (gQ s p)
 | _=>none
theorem Lz (hp:Θ)(s p:ByteArray):bw (snap hp bq) (gQ s p)=some (gQ s p,[]):=by
 unfold gQ;cases jg (bQ p) (bQ s) <;> rfl
theorem RG (s p:ByteArray):WkL (gQ s p) (gQ s p):=WkL.refl (by unfold gQ;cases jg (bQ p) (bQ s) <;> rfl)
theorem Pv:Ab.Spec base.P 184 lh:=Ab.Spec.bS (C:=CC L6) (cR ⟨Fs,trivial⟩) fun args rs h=>by
 unfold lh at h
 split at h
 ·rename_i s p
  simp only[OiE] at h
  subst h
  obtain⟨st,e1,e2⟩:=Pw (runK (CC L6) 1) 1 s p
  exact⟨2,_,_,_,_,_,ba CT rfl e1 e2,Lz _ _ _,RG _ _⟩
 ·cases h
noncomputable def L7:Lst:=[(184,lh)]
theorem o7:bx L7 184=fun a=>lh (aK a):=rfl
theorem call7 (run:aw)(dr:Bool)(hp:Θ)(s p:ByteArray):bP (CC L7) run dr hp 184 [.sc (.string s),.sc (.string p)]=some (jm (gQ s p),hp,⟨[],[],false,false⟩) :=
 bt Hm o7 run dr hp _ (gQ s p) rfl rfl rfl
theorem XV (run:aw)(k:Nat)(s p:ByteArray) :
  ∃ st,ae (CC L7) run k (f170.body.getD .skip) ⟨entry 11 [.sc (.string s),.sc (.string p)],[],[]⟩=some (.ret,st)∧aX TT st.fr st.hp f170.results.toList=some (gQ s p):=by
 obtain⟨e1,e2,e3⟩:=cl 9 (.sc (.string s)) (.sc (.string p))
 generalize entry 11 [.sc (.string s),.sc (.string p)]=fr0 at *
 have hc:=fun dr hp=>call7 run dr hp s p
 unfold gQ at hc ⊢
 cases h:jg (bQ p) (bQ s) <;> rw[h] at hc <;> simp only[cond_true,cond_false,jm] at hc ⊢ <;> simp[f170,e1,e2,e3,aM,hc]
theorem XU:Ab.Spec base.P 170 lh:=Ab.Spec.bS (C:=CC L7) (cR ⟨Pv,trivial⟩) fun args rs h=>by
 unfold lh at h
 split at h
 ·rename_i s p
  simp only[OiE] at h
  subst h
  obtain⟨st,e1,e2⟩:=XV (runK (CC L7) 1) 1 s p
  exact⟨2,_,_,_,_,_,ba GK rfl e1 e2,Lz _ _ _,RG _ _⟩
 ·cases h
end Go.Proofs.YtjdmodeenbdfpaaGreat
