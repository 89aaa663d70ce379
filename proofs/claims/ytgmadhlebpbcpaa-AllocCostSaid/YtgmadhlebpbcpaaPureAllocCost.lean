/- For all curves and choices (within the law's bounds), alloc.Cost and the reference's Cost return the same rate, distortion and error, and the chapter's examples hold: the printed law AllocCost is true, under no condition but the sizes that memory allows. -/
import Derived.Test.YtgmadhlebpbcpaaAlC
import Derived.Test.YtgmadhlebpbcpaaPO
namespace Go.Proofs.Ytgmadhlebpbcpaa.Pure
open Go.Proofs.Ytgmadhlebpbcpaa.P
theorem AllocCost : ∀ (l0 : List (S37)) (l1 : List Int), (l0.length * 48 ≤ 140737488351232 ∧ ∀ z ∈ l0, G37 z) → (l1.length * 8 ≤ 140737488351232 ∧ ∀ z ∈ l1, ((Lit.int .i64 z).wf = true)) → ∃ k, waveletlaw21_AllocCost.f k l0 l1 = some true :=
  fun l0 l1 _ _ => (law_cost l0 l1).rounds
end Go.Proofs.Ytgmadhlebpbcpaa.Pure
