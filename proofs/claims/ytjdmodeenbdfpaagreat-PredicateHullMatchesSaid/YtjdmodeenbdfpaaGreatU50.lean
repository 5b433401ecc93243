/- Contracts of the law and of what it calls, and facts about determinants, part 50; each lemma states its conditions. -/
import Derived.Test.YtjdmodeenbdfpaaGreatU40
import Derived.Test.YtjdmodeenbdfpaaGreatU16
import Derived.Test.YtjdmodeenbdfpaaGreatRows
import Derived.WalkKit
import Derived.ProofKit
import Derived.OpenShut
import Derived.ShutString
import Derived.ChangeOld
import Derived.Below
import Derived.SizedLaws
set_option linter.unusedSimpArgs false
set_option linter.unusedVariables false
namespace Go.Proofs.YtjdmodeenbdfpaaGreat
open Go Go.Ab
theorem VX {α:Type}(f:α→PV):∀ l:List α,l.map f=l.flatMap fun a=>[f a]
 | []=>rfl
 | a::l=>by rw[List.map_cons,List.flatMap_cons,VX f l];rfl
theorem aic:Rdg Tryz.prog 39 pE fun p=>p.length≤reachBytes∧∀ s ∈ p,s.size≤reachBytes:=fun H enc W fuel cs x h hw=>by
 obtain⟨a,v,h1,h2,h3⟩:=zK Tryz.underlying39 (by kernel_rfl) (by decide +kernel) (fun _=>rfl) (Hz Tryz.underlying27) H enc W fuel cs x h hw
 refine⟨a,v,h1,h2,?_⟩
 dsimp only at h3
 rw[VX] at h3
 exact h3
theorem af9 (p:List ByteArray):(pE p).cG=true:=by
 have:=(I7).idf p
 simpa only[ep,bT,Bool.and_true] using this
theorem ajT:Rdg Tryz.prog 23 cE fun c=>c.length≤reachBytes∧∀ p ∈ c,p.length≤reachBytes∧∀ s ∈ p,s.size≤reachBytes:=fun H enc W fuel cs x h hw=>by
 obtain⟨a,v,h1,h2,h3⟩:=zK Tryz.underlying23 (by kernel_rfl) (by decide +kernel) af9 aic H enc W fuel cs x h hw
 refine⟨a,v,h1,h2,?_⟩
 dsimp only at h3
 rw[VX] at h3
 exact h3
theorem XG {n:Nat}(h:n≤reachBytes):Bl n:=Nat.lt_of_le_of_lt h (by decide)
theorem td:∀ l:Ω,bT (l.map u8v)=true
 | []=>rfl
 | _::l=>by rw[List.map_cons,bT,td l];rfl
namespace predicateSwaps
open Go.ChangeShapes Go.WideShapes Go.ChangeAt Go.RowKit
theorem CW {H:Type}{enc:TypeId × Value→H}{P:Program}{W:World}{t:TypeId}{v:Value}{d:DataW H}{ps:List MemPlace}(h:DataW.Trod enc P W 0 (fun _=>true) true t v d ps):∀ x ∈ ps,x.block<W.heap.size:=by
 obtain⟨fu,hf⟩:=h
 exact DataW.trod_lt _ _ _ _ hf
end predicateSwaps
end Go.Proofs.YtjdmodeenbdfpaaGreat
