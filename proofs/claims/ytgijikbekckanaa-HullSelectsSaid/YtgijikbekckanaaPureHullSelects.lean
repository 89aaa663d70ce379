/- For every curve, hull.Points and the reference's Points return the same list (for curves of at most 200 points), and the examples of the chapter hold: the printed law HullSelects is true, under no condition but the sizes that memory allows. -/
import Derived.Test.YtgijikbekckanaaPuC
import Derived.Test.YtgijikbekckanaaPO
namespace Go.Proofs.Ytgijikbekckanaa.Pure
open Go.Proofs.Ytgijikbekckanaa.P
theorem HullSelects : ∀ (l0_0 : List Int) (l0_1 : List Int), (l0_0.length * 8 ≤ 140737488351232 ∧ ∀ z ∈ l0_0, ((Lit.int .i64 z).wf = true)) → (l0_1.length * 8 ≤ 140737488351232 ∧ ∀ z ∈ l0_1, ((Lit.int .i64 z).wf = true)) → ∃ k, waveletlaw20_HullSelects.f k l0_0 l0_1 = some true :=
  fun l0_0 l0_1 _ _ => (law_selects l0_0 l0_1).rounds
end Go.Proofs.Ytgijikbekckanaa.Pure
