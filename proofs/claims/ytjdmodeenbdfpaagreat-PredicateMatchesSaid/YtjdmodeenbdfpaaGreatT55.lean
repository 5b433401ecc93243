/- PredicateMatches: Det, Orient, Rank and Sphere return what the reference implementation returns, and do not modify the list; the statement itself, with no further condition. -/
import Derived.Test.YtjdmodeenbdfpaaGreatT52
import Derived.Test.YtjdmodeenbdfpaaGreatT53
import Derived.Test.YtjdmodeenbdfpaaGreatT54
set_option linter.unusedSimpArgs false
set_option linter.unusedVariables false
namespace Go.Proofs.YtjdmodeenbdfpaaGreat
open Go Go.Ab
theorem UF (p:CL)(h:ah7 p):UG (eCL p)=some [.sc (.bool true)]:=jn (fun _ _ _ _ _=>rfl) h
theorem Vu (p:CL):bU (eCL p)=true:=rfl
theorem acb (l:List Int):(PV.imm l.length false (l.map fun n:Int=>.sc (.int .i64 n)))=aE l:=by
 unfold aE fg
 rw[Lf];rfl
namespace predicateMatches
open Go.ChangeShapes Go.WideShapes Go.ChangeAt Go.RowKit
theorem ah4:ownKnob Tryz.prog.godebug=none:=by kernel_rfl
set_option maxRecDepth 100000 in
theorem U2 (os:Os)(started:os.Started)(H:Type)(enc:TypeId × Value→H) :
  ReturnsInHanded {} Tryz.checked os 3 .any (Rows.predicateMatchesSpec.pre6 enc Tryz.prog Tryz.f3 Rows.predicateMatchesRow.domain false) (Rows.predicateMatchesSpec.post enc Tryz.prog Tryz.f3 false true false false):=by
 refine returnsInHanded_of_change_sized (C:=Tryz.checked) ah4 started (by kernel_rfl) Tryz.func3
  (ChangeSpec.witness6 (enc:=enc) (C:=Tryz.checked) false ⟨#[],#[.slice none 0 0,.slice none 0 0,.int .i64 0],[]⟩ 8 (by kernel_rfl) (by kernel_rfl) (by kernel_rfl) (by kernel_rfl)) ?_
 intro W base args ds gs before hval0 hW hcnd hsz0 _
 have hW':=hW
 obtain⟨p,q,hA0,hV,rfl,hfz,hnd⟩:=hW
 have hA:DataW.TrodAll enc Tryz.prog W 0 (fun _=>true) true Tryz.f3.params.toList args.toList ds p:=hA0
 have hval:∀ (j:Nat) t v,Tryz.f3.params[j]?=some t→args[j]?=some v→Value.okWide Tryz.prog W .any base t v:=hval0
 have hsz:(DataW.weightsEach Tryz.prog (Tryz.f3.params.toList++Rows.predicateMatchesSpec.plain.varTypes Tryz.prog) (ds++gs)).all (· ≤ reachBytes)=true:=hsz0
 rw[Tryz.params3] at hA hval hsz
 obtain⟨v0,v1,v2,d0,d1,d2,p0,p1,p2,rfl,rfl,rfl,h0,h1,h2⟩:=trodAll_three hA
 obtain⟨rfl,rfl⟩:=trodVars_none hV
 obtain⟨a0,n0,c0,rfl⟩:=okWide_slice Tryz.underlying23 (hval 0 23 v0 rfl rfl)
 obtain⟨a1,n1,c1,rfl⟩:=okWide_slice Tryz.underlying24 (hval 1 24 v1 rfl rfl)
 obtain⟨m2,rfl,rfl,rfl,-⟩:=open_int Tryz.underlying3 (hval 2 3 v2 rfl rfl) h2
 obtain⟨c,hc,hv0⟩:=BA ajl rfl h0 (wts hsz 0 rfl rfl)
 obtain⟨l,hl,hv1⟩:=BA (sH Tryz.underlying24 (by kernel_rfl) (by decide +kernel) (fun _=>rfl) (J9 Tryz.underlying3)) rfl h1 (wts hsz 1 rfl rfl)
 obtain⟨z,hz,hv2⟩:=BA (J9 Tryz.underlying3) rfl h2 (wts hsz 2 rfl rfl)
 rw[acb] at hv1
 have hcalls:=yZ Tryz.call3 Ic (UF (c,l,z) fun q hq=>agL (hc.2 q hq).1) (Vu _) (.cons hv0 (.cons hv1 (.cons hv2 .nil)))
 clear hA0 hval0 hsz0
 refine hcalls.mono fun e W' ⟨he,bel⟩ => ?_
 subst he
 have e0:=Below.trod (by kernel_rfl:laidOutB Tryz.prog=true) (by kernel_rfl) (of_decide_eq_true (by kernel_rfl)) h0 bel (predicateSwaps.vZ h0)
 have e1:=Below.trod (by kernel_rfl:laidOutB Tryz.prog=true) (by kernel_rfl) (of_decide_eq_true (by kernel_rfl)) h1 bel (predicateSwaps.vZ h1)
 have e2:=Below.trod (by kernel_rfl:laidOutB Tryz.prog=true) (by kernel_rfl) (of_decide_eq_true (by kernel_rfl)) h2 bel (predicateSwaps.vZ h2)
 exact⟨_,rfl,_,_,_,[],_,[],hW',trodAll_mk1 (shut_bool Tryz.underlying4 _),trodAll_mk3 e0 e1 e2,rfl,bel.frame _,fun h=>by cases h⟩
theorem aeI:Rows.predicateMatchesRow.holds Tryz.pinned (OpenSpec.ofChange Rows.predicateMatchesSpec) :=
 OpenClaim.holds_of_wide 3 Tryz.f3 rfl rfl rfl rfl rfl rfl rfl ⟨rfl,rfl,rfl,rfl,rfl⟩ rfl rfl rfl rfl rfl (by kernel_rfl) Tryz.func3 (by kernel_rfl)
  (of_decide_eq_true (by kernel_rfl)) (by unfold Func.isWrapper;first | (rw[if_pos (by decide +kernel)];kernel_rfl) | (rw[if_neg (by decide +kernel)];exact⟨rfl,rfl⟩))
  (fun os started H enc _=>U2 os started H enc)
theorem Tn:Rows.PredicateMatchesSaid:=aeI
end predicateMatches
theorem predicateMatches_holds:Rows.PredicateMatchesSaid:=predicateMatches.Tn
end Go.Proofs.YtjdmodeenbdfpaaGreat
