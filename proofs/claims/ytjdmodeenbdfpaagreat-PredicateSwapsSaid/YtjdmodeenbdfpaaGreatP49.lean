/- The law PredicateSwaps returns true and leaves its arguments as they were, for every input: the statement PredicateSwapsSaid, with no condition. -/
import Derived.Test.YtjdmodeenbdfpaaGreatP47
import Derived.Test.YtjdmodeenbdfpaaGreatP48
import Derived.Test.YtjdmodeenbdfpaaGreatRows
import Derived.WalkKit
import Derived.ProofKit
import Derived.OpenShut
import Derived.ShutString
import Derived.ChangeOld
import Derived.Below
import Derived.SizedLaws
set_option linter.unusedSimpArgs false
set_option linter.unusedVariables false
namespace Go.Proofs.YtjdmodeenbdfpaaGreat
open Go Go.Ab
theorem SR {α:Type}(f:α→PV):∀ l:List α,l.map f=l.flatMap fun a=>[f a]
 | []=>rfl
 | a::l=>by rw[List.map_cons,List.flatMap_cons,SR f l];rfl
theorem aeZ:Rdg Tryz.prog 39 pE fun p=>p.length≤reachBytes∧∀ s ∈ p,s.size≤reachBytes:=fun H enc W fuel cs x h hw=>by
 obtain⟨a,v,h1,h2,h3⟩:=yg Tryz.underlying39 (by kernel_rfl) (by decide +kernel) (fun _=>rfl) (FI Tryz.underlying27) H enc W fuel cs x h hw
 refine⟨a,v,h1,h2,?_⟩
 dsimp only at h3
 rw[SR] at h3
 exact h3
theorem abV (p:List ByteArray):(pE p).ct=true:=by
 have:=(acn).idf p
 simpa only[ep,bK,Bool.and_true] using this
theorem ae0:Rdg Tryz.prog 23 cE fun c=>c.length≤reachBytes∧∀ p ∈ c,p.length≤reachBytes∧∀ s ∈ p,s.size≤reachBytes:=fun H enc W fuel cs x h hw=>by
 obtain⟨a,v,h1,h2,h3⟩:=yg Tryz.underlying23 (by kernel_rfl) (by decide +kernel) abV aeZ H enc W fuel cs x h hw
 refine⟨a,v,h1,h2,?_⟩
 dsimp only at h3
 rw[SR] at h3
 exact h3
theorem acM {n:Nat}(h:n≤reachBytes):Bl n:=Nat.lt_of_le_of_lt h (by decide)
theorem Oe (p:SwA)(h:adT p):Og (eSw p)=some [.sc (.bool true)]:=mK (fun _ _ _ _ _=>rfl) h
theorem ot:∀ l:List Nat,bK (l.map u8v)=true
 | []=>rfl
 | _::l=>by rw[List.map_cons,bK,ot l];rfl
theorem Yg (p:SwA):bK (eSw p)=true:=by
 simp only[eSw,bK,cE,gB,u8v,PV.ct,Bool.and_true,Bool.true_and]
 exact ot _
namespace predicateSwaps
open Go.ChangeShapes Go.WideShapes Go.ChangeAt Go.RowKit
theorem oT {H:Type}{enc:TypeId × Value→H}{P:Program}{W:World}{t:TypeId}{v:Value}{d:DataW H}{ps:List MemPlace}(h:DataW.Trod enc P W 0 (fun _=>true) true t v d ps):∀ x ∈ ps,x.block<W.heap.size:=by
 obtain⟨fu,hf⟩:=h
 exact DataW.trod_lt _ _ _ _ hf
theorem own:ownKnob Tryz.prog.godebug=none:=by kernel_rfl
set_option maxRecDepth 100000 in
theorem lifted (os:Os)(started:os.Started)(H:Type)(enc:TypeId × Value→H) :
  ReturnsInHanded {} Tryz.checked os 4 .any (Rows.predicateSwapsSpec.pre6 enc Tryz.prog Tryz.f4 Rows.predicateSwapsRow.domain false) (Rows.predicateSwapsSpec.post enc Tryz.prog Tryz.f4 false true false false):=by
 refine returnsInHanded_of_change_sized (C:=Tryz.checked) own started (by kernel_rfl) Tryz.func4
  (ChangeSpec.witness6 (enc:=enc) (C:=Tryz.checked) false ⟨#[],#[.slice none 0 0,.agg #[.int .u8 0,.int .u8 0,.int .u8 0,.int .u8 0,.int .u8 0],.int .u8 0,.int .u8 0],[]⟩ 8 (by kernel_rfl) (by kernel_rfl) (by kernel_rfl) (by kernel_rfl)) ?_
 intro W base args ds gs before hval0 hW hcnd hsz0 _
 have hW':=hW
 obtain⟨p,q,hA0,hV,rfl,hfz,hnd⟩:=hW
 have hA:DataW.TrodAll enc Tryz.prog W 0 (fun _=>true) true Tryz.f4.params.toList args.toList ds p:=hA0
 have hval:∀ (j:Nat) t v,Tryz.f4.params[j]?=some t→args[j]?=some v→Value.okWide Tryz.prog W .any base t v:=hval0
 have hsz:(DataW.weightsEach Tryz.prog (Tryz.f4.params.toList++Rows.predicateSwapsSpec.plain.varTypes Tryz.prog) (ds++gs)).all (· ≤ reachBytes)=true:=hsz0
 rw[Tryz.params4] at hA hval hsz
 obtain⟨v0,v1,v2,v3,d0,d1,d2,d3,p0,p1,p2,p3,rfl,rfl,rfl,h0,h1,h2,h3⟩:=trodAll_four hA
 obtain⟨rfl,rfl⟩:=trodVars_none hV
 obtain⟨a0,n0,c0,rfl⟩:=okWide_slice Tryz.underlying23 (hval 0 23 v0 rfl rfl)
 obtain⟨as',rfl,hs1⟩:∃ cs,v1 = .agg cs∧cs.size=Tryz.prog.cellsOf 36:=by
  have:=hval 1 36 v1 rfl rfl
  simp only[Value.okWide,Tryz.underlying36] at this
  obtain⟨cs,h1,h2,_⟩:=this
  exact⟨cs,h1,h2⟩
 obtain⟨m2,rfl,rfl,rfl,-⟩:=open_int Tryz.underlying5 (hval 2 5 v2 rfl rfl) h2
 obtain⟨m3,rfl,rfl,rfl,-⟩:=open_int Tryz.underlying5 (hval 3 5 v3 rfl rfl) h3
 obtain⟨c,hc,hv0⟩:=Ao ae0 rfl h0 (wts hsz 0 rfl rfl)
 obtain⟨fu,hf1⟩:=h1
 obtain⟨l,hl,hl9,hv1⟩:=Lc Tryz.underlying36 (by kernel_rfl) (by kernel_rfl) (FH Tryz.underlying5) hf1 (wts hsz 1 rfl rfl)
 have h1:DataW.Trod enc Tryz.prog W 0 (fun _=>true) true 36 (.agg as') d1 p1:=⟨fu,hf1⟩
 obtain⟨a,ha,hv2⟩:=Ao (FH Tryz.underlying5) rfl h2 (wts hsz 2 rfl rfl)
 obtain⟨b,hb,hv3⟩:=Ao (FH Tryz.underlying5) rfl h3 (wts hsz 3 rfl rfl)
 have hcalls:=xA Tryz.call4 (ET aaz) (Oe (c,l,a,b) ⟨fun q hq=>acM (hc.2 q hq).1,hl,hl9,ha,hb⟩) (Yg _) (vs4 hv0 hv1 hv2 hv3)
 clear hA0 hval0 hsz0
 refine hcalls.mono fun e W' ⟨he,bel⟩ => ?_
 subst he
 have e0:=Below.trod (by kernel_rfl:laidOutB Tryz.prog=true) (by kernel_rfl) (of_decide_eq_true (by kernel_rfl)) h0 bel (oT h0)
 have e1:=Below.trod (by kernel_rfl:laidOutB Tryz.prog=true) (by kernel_rfl) (of_decide_eq_true (by kernel_rfl)) h1 bel (oT h1)
 have e2:=Below.trod (by kernel_rfl:laidOutB Tryz.prog=true) (by kernel_rfl) (of_decide_eq_true (by kernel_rfl)) h2 bel (oT h2)
 have e3:=Below.trod (by kernel_rfl:laidOutB Tryz.prog=true) (by kernel_rfl) (of_decide_eq_true (by kernel_rfl)) h3 bel (oT h3)
 exact⟨_,rfl,_,_,_,[],_,[],hW',trodAll_mk1 (shut_bool Tryz.underlying4 _),trodAll_mk4 e0 e1 e2 e3,rfl,bel.frame _,fun h=>by cases h⟩
theorem ae6:Rows.predicateSwapsRow.holds Tryz.pinned (OpenSpec.ofChange Rows.predicateSwapsSpec) :=
 OpenClaim.holds_of_wide 4 Tryz.f4 rfl rfl rfl rfl rfl rfl rfl ⟨rfl,rfl,rfl,rfl,rfl⟩ rfl rfl rfl rfl rfl (by kernel_rfl) Tryz.func4 (by kernel_rfl)
  (of_decide_eq_true (by kernel_rfl)) (by unfold Func.isWrapper;first | (rw[if_pos (by decide +kernel)];kernel_rfl) | (rw[if_neg (by decide +kernel)];exact⟨rfl,rfl⟩))
  (fun os started H enc _=>lifted os started H enc)
theorem proved:Rows.PredicateSwapsSaid:=ae6
end predicateSwaps
theorem predicateSwaps_holds:Rows.PredicateSwapsSaid:=predicateSwaps.proved
end Go.Proofs.YtjdmodeenbdfpaaGreat
