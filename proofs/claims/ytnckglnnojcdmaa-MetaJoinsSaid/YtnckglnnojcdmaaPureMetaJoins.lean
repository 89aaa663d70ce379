/- Merging a valid list with itself or with an empty list gives it back, and merging is associative (within the law's bounds): the printed law MetaJoins is true, under no condition but the sizes that memory allows. -/
import Derived.Test.YtnckglnnojcdmaaPuI
import Derived.Test.YtnckglnnojcdmaaPO
namespace Go.Proofs.Ytnckglnnojcdmaa.Pure
open Go.Proofs.Ytnckglnnojcdmaa.P
theorem MetaJoins : ∀ (l0 : List (S42)) (l1 : List (S42)) (l2 : List (S42)), (l0.length * 32 ≤ 140737488351232 ∧ ∀ z ∈ l0, G42 z) → (l1.length * 32 ≤ 140737488351232 ∧ ∀ z ∈ l1, G42 z) → (l2.length * 32 ≤ 140737488351232 ∧ ∀ z ∈ l2, G42 z) → ∃ k, waveletlaw47_MetaJoins.f k l0 l1 l2 = some true :=
  fun l0 l1 l2 _ _ _ => (law_joins l0 l1 l2).rounds
end Go.Proofs.Ytnckglnnojcdmaa.Pure
