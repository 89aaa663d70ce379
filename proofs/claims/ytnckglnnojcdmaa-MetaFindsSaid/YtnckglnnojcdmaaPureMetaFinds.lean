/- For every list of entries and every key, meta.Get and the reference's Get return the same value, and the examples of the chapter hold: the printed law MetaFinds is true, under no condition but the sizes that memory allows. -/
import Derived.Test.YtnckglnnojcdmaaPuE
import Derived.Test.YtnckglnnojcdmaaPO
namespace Go.Proofs.Ytnckglnnojcdmaa.Pure
open Go.Proofs.Ytnckglnnojcdmaa.P
theorem MetaFinds : ∀ (l0 : List (S42)) (a1 : ByteArray), (l0.length * 32 ≤ 140737488351232 ∧ ∀ z ∈ l0, G42 z) → (a1.size ≤ 140737488351232) → ∃ k, waveletlaw47_MetaFinds.f k l0 a1 = some true :=
  fun l0 a1 _ _ => (law_finds l0 a1).rounds
end Go.Proofs.Ytnckglnnojcdmaa.Pure
