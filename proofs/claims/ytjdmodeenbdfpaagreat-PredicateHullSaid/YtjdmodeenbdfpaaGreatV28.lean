/- The law PredicateHull holds: whatever the input, it returns true and leaves the input as it was; no condition. -/
import Derived.Test.YtjdmodeenbdfpaaGreatV27
set_option linter.unusedSimpArgs false
set_option linter.unusedVariables false
namespace Go.Proofs.YtjdmodeenbdfpaaGreat
open Go Go.Ab
theorem ajB (c:Pl)(h:ajq c):lhF [cE c]=some [.sc (.bool true)]:=oB (e:=fun c=>[cE c]) (fun _ _ _ _ _=>rfl) h
theorem ac6 (c:Pl):bV [cE c]=true:=rfl
namespace predicateHull
open Go.ChangeShapes Go.WideShapes Go.ChangeAt Go.RowKit
theorem ajf:ownKnob Tryz.prog.godebug=none:=by kernel_rfl
set_option maxRecDepth 100000 in
theorem Wl (os:Os)(started:os.Started)(H:Type)(enc:TypeId × Value→H) :
  ReturnsInHanded {} Tryz.checked os 8 .any (Rows.predicateHullSpec.pre6 enc Tryz.prog Tryz.f8 Rows.predicateHullRow.domain false) (Rows.predicateHullSpec.post enc Tryz.prog Tryz.f8 false true false false):=by
 refine returnsInHanded_of_change_sized (C:=Tryz.checked) ajf started (by kernel_rfl) Tryz.func8
  (ChangeSpec.witness6 (enc:=enc) (C:=Tryz.checked) false ⟨#[],#[.slice none 0 0],[]⟩ 8 (by kernel_rfl) (by kernel_rfl) (by kernel_rfl) (by kernel_rfl)) ?_
 intro W base args ds gs before hval0 hW hcnd hsz0 _
 have hW':=hW
 obtain⟨p,q,hA0,hV,rfl,hfz,hnd⟩:=hW
 have hA:DataW.TrodAll enc Tryz.prog W 0 (fun _=>true) true Tryz.f8.params.toList args.toList ds p:=hA0
 have hval:∀ (j:Nat) t v,Tryz.f8.params[j]?=some t→args[j]?=some v→Value.okWide Tryz.prog W .any base t v:=hval0
 have hsz:(DataW.weightsEach Tryz.prog (Tryz.f8.params.toList++Rows.predicateHullSpec.plain.varTypes Tryz.prog) (ds++gs)).all (· ≤ reachBytes)=true:=hsz0
 rw[Tryz.params8] at hA hval hsz
 obtain⟨v0,d0,rfl,rfl,h0⟩:=trodAll_one hA
 obtain⟨rfl,rfl⟩:=trodVars_none hV
 obtain⟨a0,n0,c0,rfl⟩:=okWide_slice Tryz.underlying23 (hval 0 23 v0 rfl rfl)
 obtain⟨c,hc,hv0⟩:=aaV akW rfl h0 (wts hsz 0 rfl rfl)
 have hcalls:=zk Tryz.call8 acK (ajB c fun q hq=>ahS (hc.2 q hq).1) (ac6 _) (.cons hv0 .nil)
 clear hA0 hval0 hsz0
 refine hcalls.mono fun e W' ⟨he,bel⟩ => ?_
 subst he
 have e0:=Below.trod (by kernel_rfl:laidOutB Tryz.prog=true) (by kernel_rfl) (of_decide_eq_true (by kernel_rfl)) h0 bel (predicateSwaps.RQ h0)
 exact⟨_,rfl,_,_,_,[],_,[],hW',trodAll_mk1 (shut_bool Tryz.underlying4 _),trodAll_mk1 e0,rfl,bel.frame _,fun h=>by cases h⟩
theorem af7:Rows.predicateHullRow.holds Tryz.pinned (OpenSpec.ofChange Rows.predicateHullSpec) :=
 OpenClaim.holds_of_wide 8 Tryz.f8 rfl rfl rfl rfl rfl rfl rfl ⟨rfl,rfl,rfl,rfl,rfl⟩ rfl rfl rfl rfl rfl (by kernel_rfl) Tryz.func8 (by kernel_rfl)
  (of_decide_eq_true (by kernel_rfl)) (by unfold Func.isWrapper;first | (rw[if_pos (by decide +kernel)];kernel_rfl) | (rw[if_neg (by decide +kernel)];exact⟨rfl,rfl⟩))
  (fun os started H enc _=>Wl os started H enc)
theorem Uy:Rows.PredicateHullSaid:=af7
end predicateHull
theorem predicateHull_holds:Rows.PredicateHullSaid:=predicateHull.Uy
end Go.Proofs.YtjdmodeenbdfpaaGreat
