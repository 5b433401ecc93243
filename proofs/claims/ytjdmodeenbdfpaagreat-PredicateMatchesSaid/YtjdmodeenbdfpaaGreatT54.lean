/- An abstract interpreter over the model's code and its soundness, part 54 of the proof; each lemma states its own conditions. -/
import Derived.Test.YtjdmodeenbdfpaaGreatT52
set_option linter.unusedSimpArgs false
set_option linter.unusedVariables false
namespace Go.Ab
open Go
theorem Vs.nil {W:World}{M:Nat→Prop}{σ:List Addr}{L:Nat→Prop} : Vs W M σ L [] []:=⟨rfl,fun k p v hp hv=>by cases hp⟩
theorem Vs.cons {W:World}{M:Nat→Prop}{σ:List Addr}{L:Nat→Prop}{a:PV}{v:Value}{bs:List PV}{vs:List Value}(h:V W M σ L a v)(h':Vs W M σ L bs vs):Vs W M σ L (a::bs) (v::vs) :=
 ⟨by rw[List.length_cons,List.length_cons,h'.1],fun k p v hp hv=>by
  match k,hp,hv with
  | 0,hp,hv=>cases hp;cases hv;exact h
  | k+1,hp,hv=>exact h'.2 k p v (by simpa using hp) (by simpa using hv)⟩
end Go.Ab
