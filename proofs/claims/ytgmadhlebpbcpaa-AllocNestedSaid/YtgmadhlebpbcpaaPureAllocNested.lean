/- For valid curves (within the law's bounds), for a greater budget, and for -1, every curve has the same point or a later one, and the chapter's examples hold: the printed law AllocNested is true, under no condition but the sizes that memory allows. -/
import Derived.Test.YtgmadhlebpbcpaaAlN
import Derived.Test.YtgmadhlebpbcpaaPO
namespace Go.Proofs.Ytgmadhlebpbcpaa.Pure
open Go.Proofs.Ytgmadhlebpbcpaa.P
theorem AllocNested : ∀ (l0 : List (S37)) (a1 : Int) (a2 : Int), (l0.length * 48 ≤ 140737488351232 ∧ ∀ z ∈ l0, G37 z) → ((Lit.int .i64 a1).wf = true) → ((Lit.int .i64 a2).wf = true) → ∃ k, waveletlaw21_AllocNested.f k l0 a1 a2 = some true :=
  fun l0 a1 a2 _ h1 h2 => (law_nested l0 a1 a2 (wf_bd h2).2).rounds
end Go.Proofs.Ytgmadhlebpbcpaa.Pure
