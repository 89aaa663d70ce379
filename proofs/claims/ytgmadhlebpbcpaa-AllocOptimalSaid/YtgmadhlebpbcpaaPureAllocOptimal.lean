/- For at most 4 valid curves of at most 6 points each and every budget, no choice has at most the rate of the chosen one and less distortion, this rate is at most the budget, and the chapter's examples hold: the printed law AllocOptimal is true, under no condition but the sizes that memory allows. -/
import Derived.Test.YtgmadhlebpbcpaaAlO
import Derived.Test.YtgmadhlebpbcpaaPO
namespace Go.Proofs.Ytgmadhlebpbcpaa.Pure
open Go.Proofs.Ytgmadhlebpbcpaa.P
theorem AllocOptimal : ∀ (l0 : List (S37)) (a1 : Int), (l0.length * 48 ≤ 140737488351232 ∧ ∀ z ∈ l0, G37 z) → ((Lit.int .i64 a1).wf = true) → ∃ k, waveletlaw21_AllocOptimal.f k l0 a1 = some true :=
  fun l0 a1 _ h => (law_optimal l0 a1 (wf_bd h).2).rounds
end Go.Proofs.Ytgmadhlebpbcpaa.Pure
