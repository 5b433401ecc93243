/- PredicateRanks: a list of one point more than there are axes has the number of axes as its rank if and only if its determinant is not 0, and adding a point increases the rank by at most 1; the statement itself, with no further condition. -/
import Derived.Test.YtjdmodeenbdfpaaGreatR49
import Derived.Test.YtjdmodeenbdfpaaGreatR50
import Derived.Test.YtjdmodeenbdfpaaGreatR51
set_option linter.unusedSimpArgs false
set_option linter.unusedVariables false
namespace Go.Proofs.YtjdmodeenbdfpaaGreat
open Go Go.Ab
theorem Pu (p:RkA)(h:aaw p):Pv (adv p)=some [.sc (.bool true)]:=rN (fun _ _ _ _ _=>rfl) h
theorem SQ (p:RkA):cq (adv p)=true:=rfl
namespace predicateRanks
open Go.ChangeShapes Go.WideShapes Go.ChangeAt Go.RowKit
theorem aeK:ownKnob Tryz.prog.godebug=none:=by kernel_rfl
set_option maxRecDepth 100000 in
theorem SB (os:Os)(started:os.Started)(H:Type)(enc:TypeId × Value→H) :
  ReturnsInHanded {} Tryz.checked os 5 .any (Rows.predicateRanksSpec.pre6 enc Tryz.prog Tryz.f5 Rows.predicateRanksRow.domain false) (Rows.predicateRanksSpec.post enc Tryz.prog Tryz.f5 false true false false):=by
 refine returnsInHanded_of_change_sized (C:=Tryz.checked) aeK started (by kernel_rfl) Tryz.func5
  (ChangeSpec.witness6 (enc:=enc) (C:=Tryz.checked) false ⟨#[],#[.slice none 0 0,.slice none 0 0],[]⟩ 8 (by kernel_rfl) (by kernel_rfl) (by kernel_rfl) (by kernel_rfl)) ?_
 intro W base args ds gs before hval0 hW hcnd hsz0 _
 have hW':=hW
 obtain⟨p,q,hA0,hV,rfl,hfz,hnd⟩:=hW
 have hA:DataW.TrodAll enc Tryz.prog W 0 (fun _=>true) true Tryz.f5.params.toList args.toList ds p:=hA0
 have hval:∀ (j:Nat) t v,Tryz.f5.params[j]?=some t→args[j]?=some v→Value.okWide Tryz.prog W .any base t v:=hval0
 have hsz:(DataW.weightsEach Tryz.prog (Tryz.f5.params.toList++Rows.predicateRanksSpec.plain.varTypes Tryz.prog) (ds++gs)).all (· ≤ reachBytes)=true:=hsz0
 rw[Tryz.params5] at hA hval hsz
 obtain⟨v0,v1,d0,d1,p0,p1,rfl,rfl,rfl,h0,h1⟩:=trodAll_two hA
 obtain⟨rfl,rfl⟩:=trodVars_none hV
 obtain⟨a0,n0,c0,rfl⟩:=okWide_slice Tryz.underlying23 (hval 0 23 v0 rfl rfl)
 obtain⟨a1,n1,c1,rfl⟩:=okWide_slice Tryz.underlying43 (hval 1 43 v1 rfl rfl)
 obtain⟨c,hc,hv0⟩:=It afI rfl h0 (wts hsz 0 rfl rfl)
 obtain⟨l,hl,hv1⟩:=It (qY Tryz.underlying43 (by kernel_rfl) (by decide +kernel) (fun _=>rfl) (abl Tryz.underlying5)) rfl h1 (wts hsz 1 rfl rfl)
 have hcalls:=xz Tryz.call5 Fm (Pu (c,l) ⟨fun q hq=>adN (hc.2 q hq).1,hl.2⟩) (SQ _) (.cons hv0 (.cons hv1 .nil))
 clear hA0 hval0 hsz0
 refine hcalls.mono fun e W' ⟨he,bel⟩ => ?_
 subst he
 have e0:=Below.trod (by kernel_rfl:laidOutB Tryz.prog=true) (by kernel_rfl) (of_decide_eq_true (by kernel_rfl)) h0 bel (predicateSwaps.Be h0)
 have e1:=Below.trod (by kernel_rfl:laidOutB Tryz.prog=true) (by kernel_rfl) (of_decide_eq_true (by kernel_rfl)) h1 bel (predicateSwaps.Be h1)
 exact⟨_,rfl,_,_,_,[],_,[],hW',trodAll_mk1 (shut_bool Tryz.underlying4 _),trodAll_mk2 e0 e1,rfl,bel.frame _,fun h=>by cases h⟩
theorem abG:Rows.predicateRanksRow.holds Tryz.pinned (OpenSpec.ofChange Rows.predicateRanksSpec) :=
 OpenClaim.holds_of_wide 5 Tryz.f5 rfl rfl rfl rfl rfl rfl rfl ⟨rfl,rfl,rfl,rfl,rfl⟩ rfl rfl rfl rfl rfl (by kernel_rfl) Tryz.func5 (by kernel_rfl)
  (of_decide_eq_true (by kernel_rfl)) (by unfold Func.isWrapper;first | (rw[if_pos (by decide +kernel)];kernel_rfl) | (rw[if_neg (by decide +kernel)];exact⟨rfl,rfl⟩))
  (fun os started H enc _=>SB os started H enc)
theorem QO:Rows.PredicateRanksSaid:=abG
end predicateRanks
theorem predicateRanks_holds:Rows.PredicateRanksSaid:=predicateRanks.QO
end Go.Proofs.YtjdmodeenbdfpaaGreat
