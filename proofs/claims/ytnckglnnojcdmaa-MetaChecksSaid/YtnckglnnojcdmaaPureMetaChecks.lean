/- For every list of entries, meta.Check and the reference's Check return the same error, and the examples of the chapter hold: the printed law MetaChecks is true, under no condition but the sizes that memory allows. -/
import Derived.Test.YtnckglnnojcdmaaPuD
import Derived.Test.YtnckglnnojcdmaaPO
namespace Go.Proofs.Ytnckglnnojcdmaa.Pure
open Go.Proofs.Ytnckglnnojcdmaa.P
theorem MetaChecks : ∀ (l0 : List (S42)), (l0.length * 32 ≤ 140737488351232 ∧ ∀ z ∈ l0, G42 z) → ∃ k, waveletlaw47_MetaChecks.f k l0 = some true :=
  fun l0 _ => (law_checks l0).rounds
end Go.Proofs.Ytnckglnnojcdmaa.Pure
