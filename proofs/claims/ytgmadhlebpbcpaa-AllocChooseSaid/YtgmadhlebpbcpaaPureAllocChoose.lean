/- For all curves (within the law's bounds) and all budgets, alloc.Choose and the reference's Choose return the same choice, or the same error, and the chapter's examples hold: the printed law AllocChoose is true, under no condition but the sizes that memory allows. -/
import Derived.Test.YtgmadhlebpbcpaaAlH
import Derived.Test.YtgmadhlebpbcpaaPO
namespace Go.Proofs.Ytgmadhlebpbcpaa.Pure
open Go.Proofs.Ytgmadhlebpbcpaa.P
theorem AllocChoose : ∀ (l0 : List (S37)) (a1 : Int), (l0.length * 48 ≤ 140737488351232 ∧ ∀ z ∈ l0, G37 z) → ((Lit.int .i64 a1).wf = true) → ∃ k, waveletlaw21_AllocChoose.f k l0 a1 = some true :=
  fun l0 a1 _ h => (law_choose l0 a1 (wf_bd h).1 (wf_bd h).2).rounds
end Go.Proofs.Ytgmadhlebpbcpaa.Pure
