/- The law PredicateSpheres returns true and leaves its arguments as they were, for every input: the statement PredicateSpheresSaid, with no condition. -/
import Derived.Test.YtjdmodeenbdfpaaGreatQ48
set_option linter.unusedSimpArgs false
set_option linter.unusedVariables false
namespace Go.Proofs.YtjdmodeenbdfpaaGreat
open Go Go.Ab
theorem Fm (p:PqA)(h:aeR p):pqF (ePq p)=some [.sc (.bool true)]:=mZ (fun _ _ _ _ _=>rfl) h
theorem Y3 (p:PqA):bM (ePq p)=true:=rfl
namespace predicateSpheres
open Go.ChangeShapes Go.WideShapes Go.ChangeAt Go.RowKit
theorem aeP:ownKnob Tryz.prog.godebug=none:=by kernel_rfl
set_option maxRecDepth 100000 in
theorem SZ (os:Os)(started:os.Started)(H:Type)(enc:TypeId × Value→H) :
  ReturnsInHanded {} Tryz.checked os 6 .any (Rows.predicateSpheresSpec.pre6 enc Tryz.prog Tryz.f6 Rows.predicateSpheresRow.domain false) (Rows.predicateSpheresSpec.post enc Tryz.prog Tryz.f6 false true false false):=by
 refine returnsInHanded_of_change_sized (C:=Tryz.checked) aeP started (by kernel_rfl) Tryz.func6
  (ChangeSpec.witness6 (enc:=enc) (C:=Tryz.checked) false ⟨#[],#[.slice none 0 0,.int .u8 0,.int .u8 0,.int .u8 0],[]⟩ 8 (by kernel_rfl) (by kernel_rfl) (by kernel_rfl) (by kernel_rfl)) ?_
 intro W base args ds gs before hval0 hW hcnd hsz0 _
 have hW':=hW
 obtain⟨p,q,hA0,hV,rfl,hfz,hnd⟩:=hW
 have hA:DataW.TrodAll enc Tryz.prog W 0 (fun _=>true) true Tryz.f6.params.toList args.toList ds p:=hA0
 have hval:∀ (j:Nat) t v,Tryz.f6.params[j]?=some t→args[j]?=some v→Value.okWide Tryz.prog W .any base t v:=hval0
 have hsz:(DataW.weightsEach Tryz.prog (Tryz.f6.params.toList++Rows.predicateSpheresSpec.plain.varTypes Tryz.prog) (ds++gs)).all (· ≤ reachBytes)=true:=hsz0
 rw[Tryz.params6] at hA hval hsz
 obtain⟨v0,v1,v2,v3,d0,d1,d2,d3,p0,p1,p2,p3,rfl,rfl,rfl,h0,h1,h2,h3⟩:=trodAll_four hA
 obtain⟨rfl,rfl⟩:=trodVars_none hV
 obtain⟨a0,n0,c0,rfl⟩:=okWide_slice Tryz.underlying23 (hval 0 23 v0 rfl rfl)
 obtain⟨m1,rfl,rfl,rfl,-⟩:=open_int Tryz.underlying5 (hval 1 5 v1 rfl rfl) h1
 obtain⟨m2,rfl,rfl,rfl,-⟩:=open_int Tryz.underlying5 (hval 2 5 v2 rfl rfl) h2
 obtain⟨m3,rfl,rfl,rfl,-⟩:=open_int Tryz.underlying5 (hval 3 5 v3 rfl rfl) h3
 obtain⟨c,hc,hv0⟩:=tP af3 rfl h0 (wts hsz 0 rfl rfl)
 obtain⟨l,hl,hv1⟩:=tP (Gf Tryz.underlying5) rfl h1 (wts hsz 1 rfl rfl)
 obtain⟨a,ha,hv2⟩:=tP (Gf Tryz.underlying5) rfl h2 (wts hsz 2 rfl rfl)
 obtain⟨b,hb,hv3⟩:=tP (Gf Tryz.underlying5) rfl h3 (wts hsz 3 rfl rfl)
 have hcalls:=xT Tryz.call6 (Aq ab3) (Fm (c,l,a,b) ⟨fun q hq=>adJ (hc.2 q hq).1,hl,ha,hb⟩) (Y3 _) (vs4 hv0 hv1 hv2 hv3)
 clear hA0 hval0 hsz0
 refine hcalls.mono fun e W' ⟨he,bel⟩ => ?_
 subst he
 have e0:=Below.trod (by kernel_rfl:laidOutB Tryz.prog=true) (by kernel_rfl) (of_decide_eq_true (by kernel_rfl)) h0 bel (predicateSwaps.pd h0)
 have e1:=Below.trod (by kernel_rfl:laidOutB Tryz.prog=true) (by kernel_rfl) (of_decide_eq_true (by kernel_rfl)) h1 bel (predicateSwaps.pd h1)
 have e2:=Below.trod (by kernel_rfl:laidOutB Tryz.prog=true) (by kernel_rfl) (of_decide_eq_true (by kernel_rfl)) h2 bel (predicateSwaps.pd h2)
 have e3:=Below.trod (by kernel_rfl:laidOutB Tryz.prog=true) (by kernel_rfl) (of_decide_eq_true (by kernel_rfl)) h3 bel (predicateSwaps.pd h3)
 exact⟨_,rfl,_,_,_,[],_,[],hW',trodAll_mk1 (shut_bool Tryz.underlying4 _),trodAll_mk4 e0 e1 e2 e3,rfl,bel.frame _,fun h=>by cases h⟩
theorem aca:Rows.predicateSpheresRow.holds Tryz.pinned (OpenSpec.ofChange Rows.predicateSpheresSpec) :=
 OpenClaim.holds_of_wide 6 Tryz.f6 rfl rfl rfl rfl rfl rfl rfl ⟨rfl,rfl,rfl,rfl,rfl⟩ rfl rfl rfl rfl rfl (by kernel_rfl) Tryz.func6 (by kernel_rfl)
  (of_decide_eq_true (by kernel_rfl)) (by unfold Func.isWrapper;first | (rw[if_pos (by decide +kernel)];kernel_rfl) | (rw[if_neg (by decide +kernel)];exact⟨rfl,rfl⟩))
  (fun os started H enc _=>SZ os started H enc)
theorem RD:Rows.PredicateSpheresSaid:=aca
end predicateSpheres
theorem predicateSpheres_holds:Rows.PredicateSpheresSaid:=predicateSpheres.RD
end Go.Proofs.YtjdmodeenbdfpaaGreat
