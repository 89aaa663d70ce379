/- After Set, Get gives the value, and all other keys have theirs; Delete undoes the Set of a new key (within the law's bounds): the printed law MetaAccess is true, under no condition but the sizes that memory allows. -/
import Derived.Test.YtnckglnnojcdmaaPuK
import Derived.Test.YtnckglnnojcdmaaPO
namespace Go.Proofs.Ytnckglnnojcdmaa.Pure
open Go.Proofs.Ytnckglnnojcdmaa.P
theorem MetaAccess : ∀ (l0 : List (S42)) (a1 : ByteArray) (a2 : ByteArray), (l0.length * 32 ≤ 140737488351232 ∧ ∀ z ∈ l0, G42 z) → (a1.size ≤ 140737488351232) → (a2.size ≤ 140737488351232) → ∃ k, waveletlaw47_MetaAccess.f k l0 a1 a2 = some true :=
  fun l0 a1 a2 _ _ _ => (law_access l0 a1 a2).rounds
end Go.Proofs.Ytnckglnnojcdmaa.Pure
