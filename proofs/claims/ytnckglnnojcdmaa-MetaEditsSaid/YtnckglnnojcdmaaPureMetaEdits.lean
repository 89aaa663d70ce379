/- Set and Delete answer the document's lists and errors (within the law's bounds): the printed law MetaEdits is true, under no condition but the sizes that memory allows. -/
import Derived.Test.YtnckglnnojcdmaaPuJ
import Derived.Test.YtnckglnnojcdmaaPO
namespace Go.Proofs.Ytnckglnnojcdmaa.Pure
open Go.Proofs.Ytnckglnnojcdmaa.P
theorem MetaEdits : ∀ (l0 : List (S42)) (a1 : ByteArray) (a2 : ByteArray), (l0.length * 32 ≤ 140737488351232 ∧ ∀ z ∈ l0, G42 z) → (a1.size ≤ 140737488351232) → (a2.size ≤ 140737488351232) → ∃ k, waveletlaw47_MetaEdits.f k l0 a1 a2 = some true :=
  fun l0 a1 a2 _ _ _ => (law_edits l0 a1 a2).rounds
end Go.Proofs.Ytnckglnnojcdmaa.Pure
