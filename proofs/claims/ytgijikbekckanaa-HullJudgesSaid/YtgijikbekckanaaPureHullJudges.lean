/- For every curve, hull.Valid and the reference's Valid agree (for curves of at most 200 points), and the examples of the chapter hold: the printed law HullJudges is true, under no condition but the sizes that memory allows. -/
import Derived.Test.YtgijikbekckanaaPuC
import Derived.Test.YtgijikbekckanaaPO
namespace Go.Proofs.Ytgijikbekckanaa.Pure
open Go.Proofs.Ytgijikbekckanaa.P
theorem HullJudges : ∀ (l0_0 : List Int) (l0_1 : List Int), (l0_0.length * 8 ≤ 140737488351232 ∧ ∀ z ∈ l0_0, ((Lit.int .i64 z).wf = true)) → (l0_1.length * 8 ≤ 140737488351232 ∧ ∀ z ∈ l0_1, ((Lit.int .i64 z).wf = true)) → ∃ k, waveletlaw20_HullJudges.f k l0_0 l0_1 = some true :=
  fun l0_0 l0_1 _ _ => (law_judges l0_0 l0_1).rounds
end Go.Proofs.Ytgijikbekckanaa.Pure
