/- For all curves and budgets (within the law's bounds), alloc.Layers and the reference's Layers return the same choices, or the same error, and the chapter's examples hold: the printed law AllocLayers is true, under no condition but the sizes that memory allows. -/
import Derived.Test.YtgmadhlebpbcpaaAlL
import Derived.Test.YtgmadhlebpbcpaaPO
namespace Go.Proofs.Ytgmadhlebpbcpaa.Pure
open Go.Proofs.Ytgmadhlebpbcpaa.P
theorem AllocLayers : ∀ (l0 : List (S37)) (l1 : List Int), (l0.length * 48 ≤ 140737488351232 ∧ ∀ z ∈ l0, G37 z) → (l1.length * 8 ≤ 140737488351232 ∧ ∀ z ∈ l1, ((Lit.int .i64 z).wf = true)) → ∃ k, waveletlaw21_AllocLayers.f k l0 l1 = some true :=
  fun l0 l1 _ h => (law_layers l0 l1 (fun b hb => wf_bd (h.2 b hb))).rounds
end Go.Proofs.Ytgmadhlebpbcpaa.Pure
