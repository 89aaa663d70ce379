/- Merge answers the document's list or error, for all lists (within the law's bounds): the printed law MetaMerges is true, under no condition but the sizes that memory allows. -/
import Derived.Test.YtnckglnnojcdmaaPuI
import Derived.Test.YtnckglnnojcdmaaPO
namespace Go.Proofs.Ytnckglnnojcdmaa.Pure
open Go.Proofs.Ytnckglnnojcdmaa.P
theorem MetaMerges : ∀ (l0 : List (S42)) (l1 : List (S42)), (l0.length * 32 ≤ 140737488351232 ∧ ∀ z ∈ l0, G42 z) → (l1.length * 32 ≤ 140737488351232 ∧ ∀ z ∈ l1, G42 z) → ∃ k, waveletlaw47_MetaMerges.f k l0 l1 = some true :=
  fun l0 l1 _ _ => (law_merges l0 l1).rounds
end Go.Proofs.Ytnckglnnojcdmaa.Pure
