/-
  No cell of these rows narrows 'for every input' (looked for: loops, veiled, ifaces, maps, wideKeys, modest, calm, conditions, laid).
  DERIVED. THE GIVEN ROWS OF THIS SEAT. 8 by the template 'for every input the law returns true; each argument reads behind the call as it read before'; 0 by the template 'total and deterministic' (their statements: YtjdmodeenbdfpaaGreatTotals.lean).
  GIVEN WITH THE SEED: the statements are not yours to turn. If you find one false, say at which input.
  Laid BY PROGRAM, IN A SANDBOX (cutbox-rows.mjs): the forced cells as the released guide's own fill.sh prints them over the translation 9bc0020c3d659117… (all of the seat's roots in one cut). By AI agents, Wed Nov 11 2026. No macro, syntax, notation, axiom, sorry.
-/
import Derived.Test.YtjdmodeenbdfpaaGreatChecked
import GoSem.Claim
import GoSem.ClaimJoined
import GoSem.ClaimMapViews
import Derived.JoinedTies
import Derived.KernelRfl
namespace Go.Proofs.YtjdmodeenbdfpaaGreat
/- THE CELL 'sum', in the pinned program and in every row, IS THE sha256 OF THE DUMP (.gsa) THAT YtjdmodeenbdfpaaGreatProg.lean LOADS. Nothing in Lean hashes anything: it is a label: what it is worth is what the hold of that sum in a sandbox is worth. -/
noncomputable def Tryz.pinned : Pinned := { name := "ytjdmodeenbdfpaagreat", sum := "9bc0020c3d659117ff84c0600eca573d96cc3a7369c87f79e8c3cc20cd8abc4a", checked := Tryz.checked }
namespace Rows
def none {H : Type} : Left H := { results := [], args := [] }

/-- 'toruslaw12.PredicateMatches': WHATEVER THE INPUT: true; the input reads as it did. -/
def predicateMatchesSpec : ChangeSpec := { name := "predicateMatches", fn := fun _ => fun
  | [d1, d2, d3] => { results := [.lit (.bool true)], args := [d1, d2, d3] }
  | _ => none }
def predicateMatchesRow : OpenClaim := { program := "ytjdmodeenbdfpaagreat", sum := "9bc0020c3d659117ff84c0600eca573d96cc3a7369c87f79e8c3cc20cd8abc4a", func := "torus/toruslaw12.PredicateMatches", spec := "predicateMatches", inPlace := ["internal/bytealg.IndexByteString", "internal/bytealg.IndexString"], unfollowed := true, recurses := true, named := ["internal/bytealg.MaxLen"], apart := false }
def PredicateMatchesSaid : Prop := predicateMatchesRow.holds Tryz.pinned (OpenSpec.ofChange predicateMatchesSpec)

/-- ITS FALSE NEIGHBOUR: 'it returns false'. Refute it at one input. -/
def predicateMatchesWrong : ChangeSpec := { name := "predicateMatches", fn := fun _ => fun
  | [d1, d2, d3] => { results := [.lit (.bool false)], args := [d1, d2, d3] }
  | _ => none }
def PredicateMatchesWrongFalsely : Prop := predicateMatchesRow.holds Tryz.pinned (OpenSpec.ofChange predicateMatchesWrong)

/-- 'toruslaw12.PredicateSwaps': WHATEVER THE INPUT: true; the input reads as it did. -/
def predicateSwapsSpec : ChangeSpec := { name := "predicateSwaps", fn := fun _ => fun
  | [d1, d2, d3, d4] => { results := [.lit (.bool true)], args := [d1, d2, d3, d4] }
  | _ => none }
def predicateSwapsRow : OpenClaim := { program := "ytjdmodeenbdfpaagreat", sum := "9bc0020c3d659117ff84c0600eca573d96cc3a7369c87f79e8c3cc20cd8abc4a", func := "torus/toruslaw12.PredicateSwaps", spec := "predicateSwaps", inPlace := ["internal/bytealg.IndexByteString", "internal/bytealg.IndexString"], unfollowed := true, recurses := true, named := ["internal/bytealg.MaxLen"], apart := false }
def PredicateSwapsSaid : Prop := predicateSwapsRow.holds Tryz.pinned (OpenSpec.ofChange predicateSwapsSpec)

/-- ITS FALSE NEIGHBOUR: 'it returns false'. Refute it at one input. -/
def predicateSwapsWrong : ChangeSpec := { name := "predicateSwaps", fn := fun _ => fun
  | [d1, d2, d3, d4] => { results := [.lit (.bool false)], args := [d1, d2, d3, d4] }
  | _ => none }
def PredicateSwapsWrongFalsely : Prop := predicateSwapsRow.holds Tryz.pinned (OpenSpec.ofChange predicateSwapsWrong)

/-- 'toruslaw12.PredicateRanks': WHATEVER THE INPUT: true; the input reads as it did. -/
def predicateRanksSpec : ChangeSpec := { name := "predicateRanks", fn := fun _ => fun
  | [d1, d2] => { results := [.lit (.bool true)], args := [d1, d2] }
  | _ => none }
def predicateRanksRow : OpenClaim := { program := "ytjdmodeenbdfpaagreat", sum := "9bc0020c3d659117ff84c0600eca573d96cc3a7369c87f79e8c3cc20cd8abc4a", func := "torus/toruslaw12.PredicateRanks", spec := "predicateRanks", inPlace := ["internal/bytealg.IndexByteString", "internal/bytealg.IndexString"], unfollowed := true, recurses := true, named := ["internal/bytealg.MaxLen"], apart := false }
def PredicateRanksSaid : Prop := predicateRanksRow.holds Tryz.pinned (OpenSpec.ofChange predicateRanksSpec)

/-- ITS FALSE NEIGHBOUR: 'it returns false'. Refute it at one input. -/
def predicateRanksWrong : ChangeSpec := { name := "predicateRanks", fn := fun _ => fun
  | [d1, d2] => { results := [.lit (.bool false)], args := [d1, d2] }
  | _ => none }
def PredicateRanksWrongFalsely : Prop := predicateRanksRow.holds Tryz.pinned (OpenSpec.ofChange predicateRanksWrong)

/-- 'toruslaw12.PredicateSpheres': WHATEVER THE INPUT: true; the input reads as it did. -/
def predicateSpheresSpec : ChangeSpec := { name := "predicateSpheres", fn := fun _ => fun
  | [d1, d2, d3, d4] => { results := [.lit (.bool true)], args := [d1, d2, d3, d4] }
  | _ => none }
def predicateSpheresRow : OpenClaim := { program := "ytjdmodeenbdfpaagreat", sum := "9bc0020c3d659117ff84c0600eca573d96cc3a7369c87f79e8c3cc20cd8abc4a", func := "torus/toruslaw12.PredicateSpheres", spec := "predicateSpheres", inPlace := ["internal/bytealg.IndexByteString", "internal/bytealg.IndexString"], unfollowed := true, recurses := true, named := ["internal/bytealg.MaxLen"], apart := false }
def PredicateSpheresSaid : Prop := predicateSpheresRow.holds Tryz.pinned (OpenSpec.ofChange predicateSpheresSpec)

/-- ITS FALSE NEIGHBOUR: 'it returns false'. Refute it at one input. -/
def predicateSpheresWrong : ChangeSpec := { name := "predicateSpheres", fn := fun _ => fun
  | [d1, d2, d3, d4] => { results := [.lit (.bool false)], args := [d1, d2, d3, d4] }
  | _ => none }
def PredicateSpheresWrongFalsely : Prop := predicateSpheresRow.holds Tryz.pinned (OpenSpec.ofChange predicateSpheresWrong)

/-- 'toruslaw12.PredicateHullMatches': WHATEVER THE INPUT: true; the input reads as it did. -/
def predicateHullMatchesSpec : ChangeSpec := { name := "predicateHullMatches", fn := fun _ => fun
  | [d1, d2] => { results := [.lit (.bool true)], args := [d1, d2] }
  | _ => none }
def predicateHullMatchesRow : OpenClaim := { program := "ytjdmodeenbdfpaagreat", sum := "9bc0020c3d659117ff84c0600eca573d96cc3a7369c87f79e8c3cc20cd8abc4a", func := "torus/toruslaw12.PredicateHullMatches", spec := "predicateHullMatches", inPlace := ["internal/bytealg.IndexByteString", "internal/bytealg.IndexString"], unfollowed := true, recurses := true, named := ["internal/bytealg.MaxLen"], apart := false }
def PredicateHullMatchesSaid : Prop := predicateHullMatchesRow.holds Tryz.pinned (OpenSpec.ofChange predicateHullMatchesSpec)

/-- ITS FALSE NEIGHBOUR: 'it returns false'. Refute it at one input. -/
def predicateHullMatchesWrong : ChangeSpec := { name := "predicateHullMatches", fn := fun _ => fun
  | [d1, d2] => { results := [.lit (.bool false)], args := [d1, d2] }
  | _ => none }
def PredicateHullMatchesWrongFalsely : Prop := predicateHullMatchesRow.holds Tryz.pinned (OpenSpec.ofChange predicateHullMatchesWrong)

/-- 'toruslaw12.PredicateHull': WHATEVER THE INPUT: true; the input reads as it did. -/
def predicateHullSpec : ChangeSpec := { name := "predicateHull", fn := fun _ => fun
  | [d] => { results := [.lit (.bool true)], args := [d] }
  | _ => none }
def predicateHullRow : OpenClaim := { program := "ytjdmodeenbdfpaagreat", sum := "9bc0020c3d659117ff84c0600eca573d96cc3a7369c87f79e8c3cc20cd8abc4a", func := "torus/toruslaw12.PredicateHull", spec := "predicateHull", inPlace := ["internal/bytealg.IndexByteString", "internal/bytealg.IndexString"], unfollowed := true, recurses := true, named := ["internal/bytealg.MaxLen"], apart := false }
def PredicateHullSaid : Prop := predicateHullRow.holds Tryz.pinned (OpenSpec.ofChange predicateHullSpec)

/-- ITS FALSE NEIGHBOUR: 'it returns false'. Refute it at one input. -/
def predicateHullWrong : ChangeSpec := { name := "predicateHull", fn := fun _ => fun
  | [d] => { results := [.lit (.bool false)], args := [d] }
  | _ => none }
def PredicateHullWrongFalsely : Prop := predicateHullRow.holds Tryz.pinned (OpenSpec.ofChange predicateHullWrong)

/-- 'toruslaw12.PredicateMaps': WHATEVER THE INPUT: true; the input reads as it did. -/
def predicateMapsSpec : ChangeSpec := { name := "predicateMaps", fn := fun _ => fun
  | [d1, d2, d3, d4] => { results := [.lit (.bool true)], args := [d1, d2, d3, d4] }
  | _ => none }
def predicateMapsRow : OpenClaim := { program := "ytjdmodeenbdfpaagreat", sum := "9bc0020c3d659117ff84c0600eca573d96cc3a7369c87f79e8c3cc20cd8abc4a", func := "torus/toruslaw12.PredicateMaps", spec := "predicateMaps", inPlace := ["internal/bytealg.IndexByteString", "internal/bytealg.IndexString"], unfollowed := true, recurses := true, named := ["internal/bytealg.MaxLen"], apart := false }
def PredicateMapsSaid : Prop := predicateMapsRow.holds Tryz.pinned (OpenSpec.ofChange predicateMapsSpec)

/-- ITS FALSE NEIGHBOUR: 'it returns false'. Refute it at one input. -/
def predicateMapsWrong : ChangeSpec := { name := "predicateMaps", fn := fun _ => fun
  | [d1, d2, d3, d4] => { results := [.lit (.bool false)], args := [d1, d2, d3, d4] }
  | _ => none }
def PredicateMapsWrongFalsely : Prop := predicateMapsRow.holds Tryz.pinned (OpenSpec.ofChange predicateMapsWrong)

/-- 'toruslaw12.PredicateExamples': WHATEVER THE INPUT: true; the input reads as it did. -/
def predicateExamplesSpec : ChangeSpec := { name := "predicateExamples", fn := fun _ => fun
  | [] => { results := [.lit (.bool true)], args := [] }
  | _ => none }
def predicateExamplesRow : OpenClaim := { program := "ytjdmodeenbdfpaagreat", sum := "9bc0020c3d659117ff84c0600eca573d96cc3a7369c87f79e8c3cc20cd8abc4a", func := "torus/toruslaw12.PredicateExamples", spec := "predicateExamples", inPlace := ["internal/bytealg.IndexByteString", "internal/bytealg.IndexString", "internal/abi.NoEscape", "internal/bytealg.MakeNoZero"], unfollowed := true, recurses := true, named := ["internal/bytealg.MaxLen"], apart := false }
def PredicateExamplesSaid : Prop := predicateExamplesRow.holds Tryz.pinned (OpenSpec.ofChange predicateExamplesSpec)

/-- ITS FALSE NEIGHBOUR: 'it returns false'. Refute it at one input. -/
def predicateExamplesWrong : ChangeSpec := { name := "predicateExamples", fn := fun _ => fun
  | [] => { results := [.lit (.bool false)], args := [] }
  | _ => none }
def PredicateExamplesWrongFalsely : Prop := predicateExamplesRow.holds Tryz.pinned (OpenSpec.ofChange predicateExamplesWrong)

/- THE SECOND FORM. 'bulk': how many values and letters a reading holds, each counted each time it is reached (what is shared counts as often as it is met; a slice's spare places count too). A statement '..UptoSaid' is the law's where the arguments, and the package variables that the reading takes, are together of bulk at most 1048576: NARROWER than '..Said'. Prove '..Said' where nothing that the law and all that it calls make is longer than what came in: it says more and counts as full. Else prove '..UptoSaid'. A law counts once. -/
mutual
def uptoBulk {H : Type} : DataW H → Nat
  | .lit (.string bytes) => bytes.length + 1
  | .lit _ => 1
  | .nil => 1
  | .ptr d => uptoBulk d + 1
  | .slice elems spare => uptoBulkAll elems + uptoBulkAll spare + 1
  | .agg parts => uptoBulkAll parts + 1
  | .iface _ d => uptoBulk d + 1
  | .map entries => uptoBulkEntries entries + 1
  | .held _ => 1
def uptoBulkAll {H : Type} : List (DataW H) → Nat
  | [] => 0
  | d :: r => uptoBulk d + uptoBulkAll r
def uptoBulkEntries {H : Type} : List (Lit × DataW H) → Nat
  | [] => 0
  | x :: r => uptoBulkEntry x + uptoBulkEntries r
def uptoBulkEntry {H : Type} : Lit × DataW H → Nat
  | (.string bytes, d) => bytes.length + uptoBulk d + 1
  | (_, d) => uptoBulk d + 1
 end
def uptoSmall : (H : Type) → List (DataW H) → Bool := fun _ ds => decide (uptoBulkAll ds ≤ 1048576)
def OpenSpec.upto (s : _root_.Go.ChangeSpec) : _root_.Go.OpenSpec := { _root_.Go.OpenSpec.ofChange s with cond := some uptoSmall }

/-- 'toruslaw12.PredicateMatches', WHERE WHAT IT READS IS OF BULK AT MOST 1048576: true; the input reads as it did. -/
def predicateMatchesUptoRow : OpenClaim := { program := "ytjdmodeenbdfpaagreat", sum := "9bc0020c3d659117ff84c0600eca573d96cc3a7369c87f79e8c3cc20cd8abc4a", func := "torus/toruslaw12.PredicateMatches", spec := "predicateMatches", inPlace := ["internal/bytealg.IndexByteString", "internal/bytealg.IndexString"], unfollowed := true, recurses := true, named := ["internal/bytealg.MaxLen"], apart := false, narrowed := true }
def PredicateMatchesUptoSaid : Prop := predicateMatchesUptoRow.holds Tryz.pinned (OpenSpec.upto predicateMatchesSpec)

/-- 'toruslaw12.PredicateSwaps', WHERE WHAT IT READS IS OF BULK AT MOST 1048576: true; the input reads as it did. -/
def predicateSwapsUptoRow : OpenClaim := { program := "ytjdmodeenbdfpaagreat", sum := "9bc0020c3d659117ff84c0600eca573d96cc3a7369c87f79e8c3cc20cd8abc4a", func := "torus/toruslaw12.PredicateSwaps", spec := "predicateSwaps", inPlace := ["internal/bytealg.IndexByteString", "internal/bytealg.IndexString"], unfollowed := true, recurses := true, named := ["internal/bytealg.MaxLen"], apart := false, narrowed := true }
def PredicateSwapsUptoSaid : Prop := predicateSwapsUptoRow.holds Tryz.pinned (OpenSpec.upto predicateSwapsSpec)

/-- 'toruslaw12.PredicateRanks', WHERE WHAT IT READS IS OF BULK AT MOST 1048576: true; the input reads as it did. -/
def predicateRanksUptoRow : OpenClaim := { program := "ytjdmodeenbdfpaagreat", sum := "9bc0020c3d659117ff84c0600eca573d96cc3a7369c87f79e8c3cc20cd8abc4a", func := "torus/toruslaw12.PredicateRanks", spec := "predicateRanks", inPlace := ["internal/bytealg.IndexByteString", "internal/bytealg.IndexString"], unfollowed := true, recurses := true, named := ["internal/bytealg.MaxLen"], apart := false, narrowed := true }
def PredicateRanksUptoSaid : Prop := predicateRanksUptoRow.holds Tryz.pinned (OpenSpec.upto predicateRanksSpec)

/-- 'toruslaw12.PredicateSpheres', WHERE WHAT IT READS IS OF BULK AT MOST 1048576: true; the input reads as it did. -/
def predicateSpheresUptoRow : OpenClaim := { program := "ytjdmodeenbdfpaagreat", sum := "9bc0020c3d659117ff84c0600eca573d96cc3a7369c87f79e8c3cc20cd8abc4a", func := "torus/toruslaw12.PredicateSpheres", spec := "predicateSpheres", inPlace := ["internal/bytealg.IndexByteString", "internal/bytealg.IndexString"], unfollowed := true, recurses := true, named := ["internal/bytealg.MaxLen"], apart := false, narrowed := true }
def PredicateSpheresUptoSaid : Prop := predicateSpheresUptoRow.holds Tryz.pinned (OpenSpec.upto predicateSpheresSpec)

/-- 'toruslaw12.PredicateHullMatches', WHERE WHAT IT READS IS OF BULK AT MOST 1048576: true; the input reads as it did. -/
def predicateHullMatchesUptoRow : OpenClaim := { program := "ytjdmodeenbdfpaagreat", sum := "9bc0020c3d659117ff84c0600eca573d96cc3a7369c87f79e8c3cc20cd8abc4a", func := "torus/toruslaw12.PredicateHullMatches", spec := "predicateHullMatches", inPlace := ["internal/bytealg.IndexByteString", "internal/bytealg.IndexString"], unfollowed := true, recurses := true, named := ["internal/bytealg.MaxLen"], apart := false, narrowed := true }
def PredicateHullMatchesUptoSaid : Prop := predicateHullMatchesUptoRow.holds Tryz.pinned (OpenSpec.upto predicateHullMatchesSpec)

/-- 'toruslaw12.PredicateHull', WHERE WHAT IT READS IS OF BULK AT MOST 1048576: true; the input reads as it did. -/
def predicateHullUptoRow : OpenClaim := { program := "ytjdmodeenbdfpaagreat", sum := "9bc0020c3d659117ff84c0600eca573d96cc3a7369c87f79e8c3cc20cd8abc4a", func := "torus/toruslaw12.PredicateHull", spec := "predicateHull", inPlace := ["internal/bytealg.IndexByteString", "internal/bytealg.IndexString"], unfollowed := true, recurses := true, named := ["internal/bytealg.MaxLen"], apart := false, narrowed := true }
def PredicateHullUptoSaid : Prop := predicateHullUptoRow.holds Tryz.pinned (OpenSpec.upto predicateHullSpec)

/-- 'toruslaw12.PredicateMaps', WHERE WHAT IT READS IS OF BULK AT MOST 1048576: true; the input reads as it did. -/
def predicateMapsUptoRow : OpenClaim := { program := "ytjdmodeenbdfpaagreat", sum := "9bc0020c3d659117ff84c0600eca573d96cc3a7369c87f79e8c3cc20cd8abc4a", func := "torus/toruslaw12.PredicateMaps", spec := "predicateMaps", inPlace := ["internal/bytealg.IndexByteString", "internal/bytealg.IndexString"], unfollowed := true, recurses := true, named := ["internal/bytealg.MaxLen"], apart := false, narrowed := true }
def PredicateMapsUptoSaid : Prop := predicateMapsUptoRow.holds Tryz.pinned (OpenSpec.upto predicateMapsSpec)

/-- 'toruslaw12.PredicateExamples', WHERE WHAT IT READS IS OF BULK AT MOST 1048576: true; the input reads as it did. -/
def predicateExamplesUptoRow : OpenClaim := { program := "ytjdmodeenbdfpaagreat", sum := "9bc0020c3d659117ff84c0600eca573d96cc3a7369c87f79e8c3cc20cd8abc4a", func := "torus/toruslaw12.PredicateExamples", spec := "predicateExamples", inPlace := ["internal/bytealg.IndexByteString", "internal/bytealg.IndexString", "internal/abi.NoEscape", "internal/bytealg.MakeNoZero"], unfollowed := true, recurses := true, named := ["internal/bytealg.MaxLen"], apart := false, narrowed := true }
def PredicateExamplesUptoSaid : Prop := predicateExamplesUptoRow.holds Tryz.pinned (OpenSpec.upto predicateExamplesSpec)

end Rows
end Go.Proofs.YtjdmodeenbdfpaaGreat
