/- PredicateMaps: the law's contract and its row: the statement holds, for every argument. -/
import Derived.Test.YtjdmodeenbdfpaaGreatW32
set_option linter.unusedSimpArgs false
set_option linter.unusedVariables false
namespace Go.Proofs.YtjdmodeenbdfpaaGreat
open Go Go.Ab
theorem afi (l:List ByteArray):l.map (fun s=>PV.sc (.string s))=l.flatMap es:=Li _ l
namespace predicateMaps
open Go.ChangeShapes Go.WideShapes Go.ChangeAt Go.RowKit
theorem m5 {H:Type}{enc:TypeId × Value→H}{P:Program}{W:World}{t:TypeId}{v:Value}{d:DataW H}{ps:List MemPlace}(h:DataW.Trod enc P W 0 (fun _=>true) true t v d ps):∀ x ∈ ps,x.block<W.heap.size:=by
 obtain⟨fu,hf⟩:=h
 exact DataW.trod_lt _ _ _ _ hf
theorem ahK:ownKnob Tryz.prog.godebug=none:=by kernel_rfl
set_option maxRecDepth 100000 in
theorem Vo (os:Os)(started:os.Started)(H:Type)(enc:TypeId × Value→H) :
  ReturnsInHanded {} Tryz.checked os 9 .any (Rows.predicateMapsSpec.pre6 enc Tryz.prog Tryz.f9 Rows.predicateMapsRow.domain false) (Rows.predicateMapsSpec.post enc Tryz.prog Tryz.f9 false true false false):=by
 refine returnsInHanded_of_change_sized (C:=Tryz.checked) ahK started (by kernel_rfl) Tryz.func9
  (ChangeSpec.witness6 (enc:=enc) (C:=Tryz.checked) false ⟨#[],#[.slice none 0 0,.agg #[.string ⟨#[]⟩,.string ⟨#[]⟩,.string ⟨#[]⟩,.string ⟨#[]⟩,.string ⟨#[]⟩,.string ⟨#[]⟩,.string ⟨#[]⟩,.string ⟨#[]⟩,.string ⟨#[]⟩],.slice none 0 0,.agg #[.int .u8 0,.int .u8 0,.int .u8 0,.int .u8 0,.int .u8 0]],[]⟩ 8 (by kernel_rfl) (by kernel_rfl) (by kernel_rfl) (by kernel_rfl)) ?_
 intro W base args ds gs before hval0 hW hcnd hsz0 _
 have hW':=hW
 obtain⟨p,q,hA0,hV,rfl,hfz,hnd⟩:=hW
 have hA:DataW.TrodAll enc Tryz.prog W 0 (fun _=>true) true Tryz.f9.params.toList args.toList ds p:=hA0
 have hval:∀ (j:Nat) t v,Tryz.f9.params[j]?=some t→args[j]?=some v→Value.okWide Tryz.prog W .any base t v:=hval0
 have hsz:(DataW.weightsEach Tryz.prog (Tryz.f9.params.toList++Rows.predicateMapsSpec.plain.varTypes Tryz.prog) (ds++gs)).all (· ≤ reachBytes)=true:=hsz0
 rw[Tryz.params9] at hA hval hsz
 obtain⟨v0,v1,v2,v3,d0,d1,d2,d3,p0,p1,p2,p3,rfl,rfl,rfl,h0,h1,h2,h3⟩:=trodAll_four hA
 obtain⟨rfl,rfl⟩:=trodVars_none hV
 obtain⟨a0,n0,c0,rfl⟩:=okWide_slice Tryz.underlying23 (hval 0 23 v0 rfl rfl)
 obtain⟨am,rfl,hs1⟩:∃ cs,v1 = .agg cs∧cs.size=Tryz.prog.cellsOf 54:=by
  have:=hval 1 54 v1 rfl rfl
  simp only[Value.okWide,Tryz.underlying54] at this
  obtain⟨cs,h1,h2,_⟩:=this
  exact⟨cs,h1,h2⟩
 obtain⟨a2,n2,c2,rfl⟩:=okWide_slice Tryz.underlying39 (hval 2 39 v2 rfl rfl)
 obtain⟨as',rfl,hs3⟩:∃ cs,v3 = .agg cs∧cs.size=Tryz.prog.cellsOf 36:=by
  have:=hval 3 36 v3 rfl rfl
  simp only[Value.okWide,Tryz.underlying36] at this
  obtain⟨cs,h1,h2,_⟩:=this
  exact⟨cs,h1,h2⟩
 obtain⟨c,hc,hv0⟩:=Kq ajp rfl h0 (wts hsz 0 rfl rfl)
 obtain⟨fu,hf1⟩:=h1
 have c9:Tryz.prog.cellsOf 54=9:=by kernel_rfl
 obtain⟨ms,hml,-,hv1⟩:=Hg (n:=3) (r:=3) Tryz.underlying54 Tryz.underlying53 (by kernel_rfl) (by kernel_rfl) (by omega) (hs1.trans c9) (wC Tryz.underlying27) hf1 (wts hsz 1 rfl rfl)
 have h1:DataW.Trod enc Tryz.prog W 0 (fun _=>true) true 54 (.agg am) d1 p1:=⟨fu,hf1⟩
 obtain⟨b,hb,hv2⟩:=Kq ahF rfl h2 (wts hsz 2 rfl rfl)
 obtain⟨fu3,hf3⟩:=h3
 obtain⟨l,hl,hl9,hv3⟩:=Nc Tryz.underlying36 (by kernel_rfl) (by kernel_rfl) (ad5 Tryz.underlying5) hf3 (wts hsz 3 rfl rfl)
 have h3:DataW.Trod enc Tryz.prog W 0 (fun _=>true) true 36 (.agg as') d3 p3:=⟨fu3,hf3⟩
 rw[afi] at hv1
 have hcalls:=yQ Tryz.call9 Ol (aaX (c,ms,b,l) ⟨fun q hq=>I6 (hc.2 q hq).1,I6 hc.1,hml,I6 hb.1,hl,hl9⟩) (abn _) (vs4 hv0 hv1 hv2 hv3)
 clear hA0 hval0 hsz0
 refine hcalls.mono fun e W' ⟨he,bel⟩ => ?_
 subst he
 have e0:=Below.trod (by kernel_rfl:laidOutB Tryz.prog=true) (by kernel_rfl) (of_decide_eq_true (by kernel_rfl)) h0 bel (m5 h0)
 have e1:=Below.trod (by kernel_rfl:laidOutB Tryz.prog=true) (by kernel_rfl) (of_decide_eq_true (by kernel_rfl)) h1 bel (m5 h1)
 have e2:=Below.trod (by kernel_rfl:laidOutB Tryz.prog=true) (by kernel_rfl) (of_decide_eq_true (by kernel_rfl)) h2 bel (m5 h2)
 have e3:=Below.trod (by kernel_rfl:laidOutB Tryz.prog=true) (by kernel_rfl) (of_decide_eq_true (by kernel_rfl)) h3 bel (m5 h3)
 exact⟨_,rfl,_,_,_,[],_,[],hW',trodAll_mk1 (shut_bool Tryz.underlying4 _),trodAll_mk4 e0 e1 e2 e3,rfl,bel.frame _,fun h=>by cases h⟩
theorem aes:Rows.predicateMapsRow.holds Tryz.pinned (OpenSpec.ofChange Rows.predicateMapsSpec) :=
 OpenClaim.holds_of_wide 9 Tryz.f9 rfl rfl rfl rfl rfl rfl rfl ⟨rfl,rfl,rfl,rfl,rfl⟩ rfl rfl rfl rfl rfl (by kernel_rfl) Tryz.func9 (by kernel_rfl)
  (of_decide_eq_true (by kernel_rfl)) (by unfold Func.isWrapper;first | (rw[if_pos (by decide +kernel)];kernel_rfl) | (rw[if_neg (by decide +kernel)];exact⟨rfl,rfl⟩))
  (fun os started H enc _=>Vo os started H enc)
theorem TB:Rows.PredicateMapsSaid:=aes
end predicateMaps
theorem predicateMaps_holds:Rows.PredicateMapsSaid:=predicateMaps.TB
end Go.Proofs.YtjdmodeenbdfpaaGreat
