/- For every valid curve, along the hull indices, rates, distortions and slopes are ordered, no point lies below it, and its last point has the least distortion; the examples of the chapter hold: the law HullConvex is true, under no condition but the sizes that memory allows. -/
import Derived.Test.YtgijikbekckanaaCvx
import Derived.Test.YtgijikbekckanaaPO
namespace Go.Proofs.Ytgijikbekckanaa.Pure
open Go.Proofs.Ytgijikbekckanaa.P
theorem HullConvex : ∀ (l0_0 : List Int) (l0_1 : List Int), (l0_0.length * 8 ≤ 140737488351232 ∧ ∀ z ∈ l0_0, ((Lit.int .i64 z).wf = true)) → (l0_1.length * 8 ≤ 140737488351232 ∧ ∀ z ∈ l0_1, ((Lit.int .i64 z).wf = true)) → waveletlaw20_HullConvex.f l0_0 l0_1 = some true :=
  fun _ _ _ _ => rfl
end Go.Proofs.Ytgijikbekckanaa.Pure
