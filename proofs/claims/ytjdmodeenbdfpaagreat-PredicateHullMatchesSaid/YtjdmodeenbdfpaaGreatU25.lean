/- Contracts of num's integers, part 25; each lemma states its conditions. -/
import Derived.Test.YtjdmodeenbdfpaaGreatU24
set_option linter.unusedSimpArgs false
set_option linter.unusedVariables false
namespace Go.Proofs.YtjdmodeenbdfpaaGreat
open Go Go.Ab Tryz
attribute [local simp] FzZ aC aF aG aH aY aa ab ae af ag ah aj an aq ar au
theorem uS:und TT 9=some .string:=by kernel_rfl
theorem uAI:und TT 94=some .string:=by kernel_rfl
theorem u8:und TT 5=some (.int .u8):=by kernel_rfl
theorem uBs:und TT 43=some (.slice 5):=by kernel_rfl
theorem s8:dm TT 5=some 1:=by kernel_rfl
theorem a8:ia TT 5=some false:=by kernel_rfl
theorem Gq:base.F.get 142=some f142:=by kernel_rfl
theorem CE:base.F.get 184=some f184:=by kernel_rfl
theorem Gt:base.F.get 170=some f170:=by kernel_rfl
theorem tz:base.F.get 154=some f154:=by kernel_rfl
theorem M4:base.shared 142=false:=by kernel_rfl
theorem He:base.shared 184=false:=by kernel_rfl
theorem M6:base.shared 170=false:=by kernel_rfl
theorem Zh:base.shared 154=false:=by kernel_rfl
def iQ (p s:List UInt8):Bool:=p.length.ble s.length && eqL (s.take p.length) p
theorem Fa (L:Lst)(run:av)(k:Nat)(s p:ByteArray) :
  ∃ st,ae (CC L) run k (f142.body.getD .skip) ⟨entry 18 [.sc (.string s),.sc (.string p)],[],[]⟩=some (.ret,st)∧aY TT st.fr st.hp f142.results.toList=some [.sc (.bool (iQ (bO p) (bO s)))]:=by
 obtain⟨e1,e2,e3⟩:=cb 16 (.sc (.string s)) (.sc (.string p))
 generalize entry 18 [.sc (.string s),.sc (.string p)]=fr0 at *
 by_cases h:(bO p).length≤(bO s).length
 ·have hs:dT s none (some (.sc (.int .i64 ((bO p).length:Int)))) none=some (.sc (.string (mkStr ((bO s).take (bO p).length)))):=by
   simp[dT,bnd,fG,bm,h]
  have hb:(bO p).length.ble (bO s).length=true:=by rw[Nat.ble_eq];exact h
  have hb2:(bO p).length≤(bO s).length:=h
  simp[f142,e1,e2,e3,ba,aw,bg,bM,bf,uS,h,dH,hs,eo,fh,iQ,hb]
 ·have hb:(bO p).length.ble (bO s).length=false:=by
   cases e:(bO p).length.ble (bO s).length with
   | false=>rfl
   | true=>rw[Nat.ble_eq] at e;exact absurd e h
  simp[f142,e1,e2,e3,ba,aw,bg,bM,bf,uS,h,iQ,hb]
def vC:Ψ→Option Ψ
 | [.sc (.string s),.sc (.string p)]=>some [.sc (.bool (iQ (bO p) (bO s)))]
 | _=>none
theorem xw (hp:Θ)(b:Bool):bu (snap hp bn) [.sc (.bool b)]=some ([.sc (.bool b)],[]):=rfl
theorem E9:Ab.Spec base.P 142 vC:=Ab.Spec.bL (C:=CC []) (cP trivial) fun args rs h=>by
 unfold vC at h
 split at h
 ·rename_i s p
  simp only[OiE] at h
  subst h
  obtain⟨st,e1,e2⟩:=Fa [] (runK (CC []) 1) 1 s p
  exact⟨2,_,_,_,_,_,aZ Gq rfl e1 e2,xw _ _,Wk.refl rfl,trivial⟩
 ·cases h
noncomputable def L6:Lst:=[(142,vC)]
theorem o6:bC L6 142=fun a=>vC (aK a):=rfl
theorem call6 (run:av)(dr:Bool)(hp:Θ)(s p:ByteArray):bS (CC L6) run dr hp 142 [.sc (.string s),.sc (.string p)]=some (.sc (.bool (iQ (bO p) (bO s))),hp,⟨[],[],false,false⟩) :=
 bq M4 o6 run dr hp _ [.sc (.bool (iQ (bO p) (bO s)))] rfl rfl rfl
def gG (s p:ByteArray):Ψ:=bif iQ (bO p) (bO s) then [.sc (.string (mkStr ((bO s).drop (bO p).length))),.sc (.bool true)] else [.sc (.string s),.sc (.bool false)]
theorem OS (run:av)(k:Nat)(s p:ByteArray) :
  ∃ st,ae (CC L6) run k (f184.body.getD .skip) ⟨entry 15 [.sc (.string s),.sc (.string p)],[],[]⟩=some (.ret,st)∧aY TT st.fr st.hp f184.results.toList=some (gG s p):=by
 obtain⟨e1,e2,e3⟩:=cb 13 (.sc (.string s)) (.sc (.string p))
 generalize entry 15 [.sc (.string s),.sc (.string p)]=fr0 at *
 have hc:=fun dr hp=>call6 run dr hp s p
 unfold gG
 cases h:iQ (bO p) (bO s) with
 | false =>
  rw[h] at hc
  simp[f184,e1,e2,e3,aM,unP,hc]
 | true =>
  rw[h] at hc
  have hl:(bO p).length≤(bO s).length:=by
   simp only[iQ,Bool.and_eq_true,Nat.ble_eq] at h
   exact h.1
  have hs:dT s (some (.sc (.int .i64 ((bO p).length:Int)))) none none=some (.sc (.string (mkStr ((bO s).drop (bO p).length)))):=by
   simp[dT,bnd,fG,bm,hl]
  simp[f184,e1,e2,e3,aM,bM,unP,bf,hc,uS,dH,hs]
def kK:Ψ→Option Ψ
 | [.sc (.string s),.sc (.string p)]=>some (gG s p)
 | _=>none
theorem KW (hp:Θ)(s p:ByteArray):bu (snap hp bn) (gG s p)=some (gG s p,[]):=by
 unfold gG;cases iQ (bO p) (bO s) <;> rfl
theorem QI (s p:ByteArray):WkL (gG s p) (gG s p):=WkL.refl (by unfold gG;cases iQ (bO p) (bO s) <;> rfl)
theorem OQ:Ab.Spec base.P 184 kK:=Ab.Spec.bL (C:=CC L6) (cP ⟨E9,trivial⟩) fun args rs h=>by
 unfold kK at h
 split at h
 ·rename_i s p
  simp only[OiE] at h
  subst h
  obtain⟨st,e1,e2⟩:=OS (runK (CC L6) 1) 1 s p
  exact⟨2,_,_,_,_,_,aZ CE rfl e1 e2,KW _ _ _,QI _ _⟩
 ·cases h
noncomputable def L7:Lst:=[(184,kK)]
theorem o7:bC L7 184=fun a=>kK (aK a):=rfl
theorem call7 (run:av)(dr:Bool)(hp:Θ)(s p:ByteArray):bS (CC L7) run dr hp 184 [.sc (.string s),.sc (.string p)]=some (iL (gG s p),hp,⟨[],[],false,false⟩) :=
 bq He o7 run dr hp _ (gG s p) rfl rfl rfl
theorem WE (run:av)(k:Nat)(s p:ByteArray) :
  ∃ st,ae (CC L7) run k (f170.body.getD .skip) ⟨entry 11 [.sc (.string s),.sc (.string p)],[],[]⟩=some (.ret,st)∧aY TT st.fr st.hp f170.results.toList=some (gG s p):=by
 obtain⟨e1,e2,e3⟩:=cb 9 (.sc (.string s)) (.sc (.string p))
 generalize entry 11 [.sc (.string s),.sc (.string p)]=fr0 at *
 have hc:=fun dr hp=>call7 run dr hp s p
 unfold gG at hc ⊢
 cases h:iQ (bO p) (bO s) <;> rw[h] at hc <;> simp only[cond_true,cond_false,iL] at hc ⊢ <;> simp[f170,e1,e2,e3,aM,hc]
theorem WD:Ab.Spec base.P 170 kK:=Ab.Spec.bL (C:=CC L7) (cP ⟨OQ,trivial⟩) fun args rs h=>by
 unfold kK at h
 split at h
 ·rename_i s p
  simp only[OiE] at h
  subst h
  obtain⟨st,e1,e2⟩:=WE (runK (CC L7) 1) 1 s p
  exact⟨2,_,_,_,_,_,aZ Gt rfl e1 e2,KW _ _ _,QI _ _⟩
 ·cases h
end Go.Proofs.YtjdmodeenbdfpaaGreat
