/- Contracts of the law and of what it calls, and facts about determinants, part 50 of the proof; each lemma states its own conditions. -/
import Derived.Test.YtjdmodeenbdfpaaGreatR47
import Derived.Test.YtjdmodeenbdfpaaGreatR49
import Derived.Test.YtjdmodeenbdfpaaGreatRows
import Derived.WalkKit
import Derived.ProofKit
import Derived.OpenShut
import Derived.ShutString
import Derived.ChangeOld
import Derived.Below
import Derived.SizedLaws
set_option linter.unusedSimpArgs false
set_option linter.unusedVariables false
namespace Go.Proofs.YtjdmodeenbdfpaaGreat
open Go Go.Ab
theorem Ta {α:Type}(f:α→PV):∀ l:List α,l.map f=l.flatMap fun a=>[f a]
 | []=>rfl
 | a::l=>by rw[List.map_cons,List.flatMap_cons,Ta f l];rfl
theorem afH:Rdg Tryz.prog 39 pE fun p=>p.length≤reachBytes∧∀ s ∈ p,s.size≤reachBytes:=fun H enc W fuel cs x h hw=>by
 obtain⟨a,v,h1,h2,h3⟩:=qY Tryz.underlying39 (by kernel_rfl) (by decide +kernel) (fun _=>rfl) (Fl Tryz.underlying27) H enc W fuel cs x h hw
 refine⟨a,v,h1,h2,?_⟩
 dsimp only at h3
 rw[Ta] at h3
 exact h3
theorem ac6 (p:List ByteArray):(pE p).cO=true:=by
 have:=(ads).idf p
 simpa only[ep,cq,Bool.and_true] using this
theorem afI:Rdg Tryz.prog 23 cE fun c=>c.length≤reachBytes∧∀ p ∈ c,p.length≤reachBytes∧∀ s ∈ p,s.size≤reachBytes:=fun H enc W fuel cs x h hw=>by
 obtain⟨a,v,h1,h2,h3⟩:=qY Tryz.underlying23 (by kernel_rfl) (by decide +kernel) ac6 afH H enc W fuel cs x h hw
 refine⟨a,v,h1,h2,?_⟩
 dsimp only at h3
 rw[Ta] at h3
 exact h3
theorem adN {n:Nat}(h:n≤reachBytes):Bl n:=Nat.lt_of_le_of_lt h (by decide)
theorem rI:∀ l:List Nat,cq (l.map u8v)=true
 | []=>rfl
 | _::l=>by rw[List.map_cons,cq,rI l];rfl
namespace predicateSwaps
open Go.ChangeShapes Go.WideShapes Go.ChangeAt Go.RowKit
theorem Be {H:Type}{enc:TypeId × Value→H}{P:Program}{W:World}{t:TypeId}{v:Value}{d:DataW H}{ps:List MemPlace}(h:DataW.Trod enc P W 0 (fun _=>true) true t v d ps):∀ x ∈ ps,x.block<W.heap.size:=by
 obtain⟨fu,hf⟩:=h
 exact DataW.trod_lt _ _ _ _ hf
end predicateSwaps
end Go.Proofs.YtjdmodeenbdfpaaGreat
