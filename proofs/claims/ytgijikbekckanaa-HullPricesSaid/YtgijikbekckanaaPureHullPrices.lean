/- For every curve and every price, hull.Best and the reference's Best return the same point (for curves of at most 200 points), and the examples of the chapter hold: the printed law HullPrices is true, under no condition but the sizes that memory allows. -/
import Derived.Test.YtgijikbekckanaaPuC
import Derived.Test.YtgijikbekckanaaPO
namespace Go.Proofs.Ytgijikbekckanaa.Pure
open Go.Proofs.Ytgijikbekckanaa.P
theorem HullPrices : ∀ (l0_0 : List Int) (l0_1 : List Int) (a1 : Int) (a2 : Int), (l0_0.length * 8 ≤ 140737488351232 ∧ ∀ z ∈ l0_0, ((Lit.int .i64 z).wf = true)) → (l0_1.length * 8 ≤ 140737488351232 ∧ ∀ z ∈ l0_1, ((Lit.int .i64 z).wf = true)) → ((Lit.int .i64 a1).wf = true) → ((Lit.int .i64 a2).wf = true) → ∃ k, waveletlaw20_HullPrices.f k l0_0 l0_1 a1 a2 = some true :=
  fun l0_0 l0_1 a1 a2 _ _ _ _ => (law_prices l0_0 l0_1 a1 a2).rounds
end Go.Proofs.Ytgijikbekckanaa.Pure
