/- For every list of entries, meta.Encode and the reference's Encode return the same bytes or the same error, and the examples of the chapter hold: the printed law MetaEncodes is true, under no condition but the sizes that memory allows. -/
import Derived.Test.YtnckglnnojcdmaaPuE
import Derived.Test.YtnckglnnojcdmaaPO
namespace Go.Proofs.Ytnckglnnojcdmaa.Pure
open Go.Proofs.Ytnckglnnojcdmaa.P
theorem MetaEncodes : ∀ (l0 : List (S42)), (l0.length * 32 ≤ 140737488351232 ∧ ∀ z ∈ l0, G42 z) → ∃ k, waveletlaw47_MetaEncodes.f k l0 = some true :=
  fun l0 _ => (law_encodes l0).rounds
end Go.Proofs.Ytnckglnnojcdmaa.Pure
