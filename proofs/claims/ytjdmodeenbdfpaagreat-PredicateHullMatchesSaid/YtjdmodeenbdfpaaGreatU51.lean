/- The law PredicateHullMatches holds: whatever the input, it returns true and leaves the input as it was; no condition. -/
import Derived.Test.YtjdmodeenbdfpaaGreatU49
import Derived.Test.YtjdmodeenbdfpaaGreatU50
import Derived.Test.YtjdmodeenbdfpaaGreatU16
set_option linter.unusedSimpArgs false
set_option linter.unusedVariables false
namespace Go.Proofs.YtjdmodeenbdfpaaGreat
open Go Go.Ab
theorem ai3 (p:CPt)(h:aiy p):hmF (cpE p)=some [.sc (.bool true)]:=pU (fun _ _ _ _ _=>rfl) h
theorem aci (p:CPt):bT (cpE p)=true:=rfl
namespace predicateHullMatches
open Go.ChangeShapes Go.WideShapes Go.ChangeAt Go.RowKit
theorem aim:ownKnob Tryz.prog.godebug=none:=by kernel_rfl
set_option maxRecDepth 100000 in
theorem Vr (os:Os)(started:os.Started)(H:Type)(enc:TypeId × Value→H) :
  ReturnsInHanded {} Tryz.checked os 7 .any (Rows.predicateHullMatchesSpec.pre6 enc Tryz.prog Tryz.f7 Rows.predicateHullMatchesRow.domain false) (Rows.predicateHullMatchesSpec.post enc Tryz.prog Tryz.f7 false true false false):=by
 refine returnsInHanded_of_change_sized (C:=Tryz.checked) aim started (by kernel_rfl) Tryz.func7
  (ChangeSpec.witness6 (enc:=enc) (C:=Tryz.checked) false ⟨#[],#[.slice none 0 0,.slice none 0 0],[]⟩ 8 (by kernel_rfl) (by kernel_rfl) (by kernel_rfl) (by kernel_rfl)) ?_
 intro W base args ds gs before hval0 hW hcnd hsz0 _
 have hW':=hW
 obtain⟨p,q,hA0,hV,rfl,hfz,hnd⟩:=hW
 have hA:DataW.TrodAll enc Tryz.prog W 0 (fun _=>true) true Tryz.f7.params.toList args.toList ds p:=hA0
 have hval:∀ (j:Nat) t v,Tryz.f7.params[j]?=some t→args[j]?=some v→Value.okWide Tryz.prog W .any base t v:=hval0
 have hsz:(DataW.weightsEach Tryz.prog (Tryz.f7.params.toList++Rows.predicateHullMatchesSpec.plain.varTypes Tryz.prog) (ds++gs)).all (· ≤ reachBytes)=true:=hsz0
 rw[Tryz.params7] at hA hval hsz
 obtain⟨v0,v1,d0,d1,p0,p1,rfl,rfl,rfl,h0,h1⟩:=trodAll_two hA
 obtain⟨rfl,rfl⟩:=trodVars_none hV
 obtain⟨a0,n0,c0,rfl⟩:=okWide_slice Tryz.underlying23 (hval 0 23 v0 rfl rfl)
 obtain⟨a1,n1,c1,rfl⟩:=okWide_slice Tryz.underlying39 (hval 1 39 v1 rfl rfl)
 obtain⟨c,hc,hv0⟩:=KM ajT rfl h0 (wts hsz 0 rfl rfl)
 obtain⟨l,hl,hv1⟩:=KM aic rfl h1 (wts hsz 1 rfl rfl)
 have hcalls:=y0 Tryz.call7 acp (ai3 (c,l) ⟨fun q hq=>XG (hc.2 q hq).1,XG hl.1⟩) (aci _) (.cons hv0 (.cons hv1 .nil))
 clear hA0 hval0 hsz0
 refine hcalls.mono fun e W' ⟨he,bel⟩ => ?_
 subst he
 have e0:=Below.trod (by kernel_rfl:laidOutB Tryz.prog=true) (by kernel_rfl) (of_decide_eq_true (by kernel_rfl)) h0 bel (predicateSwaps.CW h0)
 have e1:=Below.trod (by kernel_rfl:laidOutB Tryz.prog=true) (by kernel_rfl) (of_decide_eq_true (by kernel_rfl)) h1 bel (predicateSwaps.CW h1)
 exact⟨_,rfl,_,_,_,[],_,[],hW',trodAll_mk1 (shut_bool Tryz.underlying4 _),trodAll_mk2 e0 e1,rfl,bel.frame _,fun h=>by cases h⟩
theorem afh:Rows.predicateHullMatchesRow.holds Tryz.pinned (OpenSpec.ofChange Rows.predicateHullMatchesSpec) :=
 OpenClaim.holds_of_wide 7 Tryz.f7 rfl rfl rfl rfl rfl rfl rfl ⟨rfl,rfl,rfl,rfl,rfl⟩ rfl rfl rfl rfl rfl (by kernel_rfl) Tryz.func7 (by kernel_rfl)
  (of_decide_eq_true (by kernel_rfl)) (by unfold Func.isWrapper;first | (rw[if_pos (by decide +kernel)];kernel_rfl) | (rw[if_neg (by decide +kernel)];exact⟨rfl,rfl⟩))
  (fun os started H enc _=>Vr os started H enc)
theorem TN:Rows.PredicateHullMatchesSaid:=afh
end predicateHullMatches
theorem predicateHullMatches_holds:Rows.PredicateHullMatchesSaid:=predicateHullMatches.TN
end Go.Proofs.YtjdmodeenbdfpaaGreat
