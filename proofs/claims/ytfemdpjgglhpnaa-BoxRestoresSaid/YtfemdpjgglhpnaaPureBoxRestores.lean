/- For every list of boxes (at most 20000 boxes and bytes on at most six levels), box.Parse restores what box.Write wrote, and the chapter's examples hold: the printed law BoxRestores is true, under no condition but the sizes that memory allows. -/
import Derived.Test.YtfemdpjgglhpnaaPuI
import Derived.Test.YtfemdpjgglhpnaaPO
namespace Go.Proofs.Ytfemdpjgglhpnaa.Pure
open Go.Proofs.Ytfemdpjgglhpnaa.P
theorem BoxRestores : ∀ (l0 : List (S37)), (l0.length * 64 ≤ 140737488351232 ∧ ∀ z ∈ l0, G37 z) → ∃ k, waveletlaw45_BoxRestores.f k l0 = some true :=
  fun l0 h => (law_restores l0 (GL_all h.2)).rounds
end Go.Proofs.Ytfemdpjgglhpnaa.Pure
