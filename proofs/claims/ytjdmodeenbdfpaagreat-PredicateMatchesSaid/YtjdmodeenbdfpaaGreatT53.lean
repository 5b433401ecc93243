/- Contracts of the law and of what it calls, and facts about determinants, part 53 of the proof; each lemma states its own conditions. -/
import Derived.Test.YtjdmodeenbdfpaaGreatT45
import Derived.Test.YtjdmodeenbdfpaaGreatT46
import Derived.Test.YtjdmodeenbdfpaaGreatT52
import Derived.Test.YtjdmodeenbdfpaaGreatRows
import Derived.WalkKit
import Derived.ProofKit
import Derived.OpenShut
import Derived.ShutString
import Derived.ChangeOld
import Derived.Below
import Derived.SizedLaws
set_option linter.unusedSimpArgs false
set_option linter.unusedVariables false
namespace Go.Proofs.YtjdmodeenbdfpaaGreat
open Go Go.Ab
theorem Lf {α:Type}(f:α→PV):∀ l:List α,l.map f=l.flatMap fun a=>[f a]
 | []=>rfl
 | a::l=>by rw[List.map_cons,List.flatMap_cons,Lf f l];rfl
theorem ajk:Rdg Tryz.prog 39 pE fun p=>p.length≤reachBytes∧∀ s ∈ p,s.size≤reachBytes:=fun H enc W fuel cs x h hw=>by
 obtain⟨a,v,h1,h2,h3⟩:=sH Tryz.underlying39 (by kernel_rfl) (by decide +kernel) (fun _=>rfl) (Hc Tryz.underlying27) H enc W fuel cs x h hw
 refine⟨a,v,h1,h2,?_⟩
 dsimp only at h3
 rw[Lf] at h3
 exact h3
theorem af3 (p:List ByteArray):(pE p).cO=true:=by
 have:=(VT).idf p
 simpa only[ep,bU,Bool.and_true] using this
theorem ajl:Rdg Tryz.prog 23 cE fun c=>c.length≤reachBytes∧∀ p ∈ c,p.length≤reachBytes∧∀ s ∈ p,s.size≤reachBytes:=fun H enc W fuel cs x h hw=>by
 obtain⟨a,v,h1,h2,h3⟩:=sH Tryz.underlying23 (by kernel_rfl) (by decide +kernel) af3 ajk H enc W fuel cs x h hw
 refine⟨a,v,h1,h2,?_⟩
 dsimp only at h3
 rw[Lf] at h3
 exact h3
theorem agL {n:Nat}(h:n≤reachBytes):Bl n:=Nat.lt_of_le_of_lt h (by decide)
theorem tf:∀ l:List Nat,bU (l.map u8v)=true
 | []=>rfl
 | _::l=>by rw[List.map_cons,bU,tf l];rfl
namespace predicateSwaps
open Go.ChangeShapes Go.WideShapes Go.ChangeAt Go.RowKit
theorem vZ {H:Type}{enc:TypeId × Value→H}{P:Program}{W:World}{t:TypeId}{v:Value}{d:DataW H}{ps:List MemPlace}(h:DataW.Trod enc P W 0 (fun _=>true) true t v d ps):∀ x ∈ ps,x.block<W.heap.size:=by
 obtain⟨fu,hf⟩:=h
 exact DataW.trod_lt _ _ _ _ hf
end predicateSwaps
end Go.Proofs.YtjdmodeenbdfpaaGreat
