/- More than 65536 curves are rejected with ErrLimit, even if they are not valid, and so are more than 16 budgets (for at most 200 budgets), and the chapter's examples hold: the printed law AllocLimits is true, under no condition but the sizes that memory allows. -/
import Derived.Test.YtgmadhlebpbcpaaAlM
import Derived.Test.YtgmadhlebpbcpaaPO
namespace Go.Proofs.Ytgmadhlebpbcpaa.Pure
open Go.Proofs.Ytgmadhlebpbcpaa.P
open Go.RowKit Go.Proofs.YtgmadhlebpbcpaaW.PrintWords Go.Proofs.YtgmadhlebpbcpaaW.PrintLast
theorem AllocLimits : ∀ (a0 : Int) (l1 : List Int), ((Lit.int .i64 a0).wf = true) → (l1.length * 8 ≤ 140737488351232 ∧ ∀ z ∈ l1, ((Lit.int .i64 z).wf = true)) → ∃ k, waveletlaw21_AllocLimits.f k a0 l1 = some true :=
  fun a0 l1 _ h => (law_limits a0 l1 (fun b hb => wf_bd (h.2 b hb))).rounds
end Go.Proofs.Ytgmadhlebpbcpaa.Pure
