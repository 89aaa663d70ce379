/- For every list of boxes (at most 20000 boxes and bytes on at most six levels), box.Write and box.Count answer what the reference's Write and Count answer, and the chapter's examples hold: the printed law BoxWrites is true, under no condition but the sizes that memory allows. -/
import Derived.Test.YtfemdpjgglhpnaaPuH
import Derived.Test.YtfemdpjgglhpnaaPO
namespace Go.Proofs.Ytfemdpjgglhpnaa.Pure
open Go.Proofs.Ytfemdpjgglhpnaa.P
theorem BoxWrites : ∀ (l0 : List (S37)), (l0.length * 64 ≤ 140737488351232 ∧ ∀ z ∈ l0, G37 z) → ∃ k, waveletlaw45_BoxWrites.f k l0 = some true :=
  fun l0 _ => (law_writes l0).rounds
end Go.Proofs.Ytfemdpjgglhpnaa.Pure
