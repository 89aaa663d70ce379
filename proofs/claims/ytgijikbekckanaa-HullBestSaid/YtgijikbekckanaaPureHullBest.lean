/- For every curve and every price, Best is a point of the hull with the least cost, and each point of the hull is Best for the slope of the step behind it, the last one for the price 0; the examples of the chapter hold: the law HullBest is true, under no condition but the sizes that memory allows. -/
import Derived.Test.YtgijikbekckanaaBst
import Derived.Test.YtgijikbekckanaaPO
namespace Go.Proofs.Ytgijikbekckanaa.Pure
open Go.Proofs.Ytgijikbekckanaa.P
theorem HullBest : ∀ (l0_0 : List Int) (l0_1 : List Int) (a1 : Int) (a2 : Int), (l0_0.length * 8 ≤ 140737488351232 ∧ ∀ z ∈ l0_0, ((Lit.int .i64 z).wf = true)) → (l0_1.length * 8 ≤ 140737488351232 ∧ ∀ z ∈ l0_1, ((Lit.int .i64 z).wf = true)) → ((Lit.int .i64 a1).wf = true) → ((Lit.int .i64 a2).wf = true) → waveletlaw20_HullBest.f l0_0 l0_1 a1 a2 = some true :=
  fun _ _ _ _ _ _ _ _ => rfl
end Go.Proofs.Ytgijikbekckanaa.Pure
