/- For all lists (within the law's bounds) and bytes (at most 20000), Decode of Encode is the list and Encode of Decode are the bytes, and the chapter's examples hold: the printed law MetaRestores is true, under no condition but the sizes that memory allows. -/
import Derived.Test.YtnckglnnojcdmaaPuF
import Derived.Test.YtnckglnnojcdmaaPO
namespace Go.Proofs.Ytnckglnnojcdmaa.Pure
open Go.Proofs.Ytnckglnnojcdmaa.P
theorem MetaRestores : ∀ (l0 : List (S42)) (l1 : List Int), (l0.length * 32 ≤ 140737488351232 ∧ ∀ z ∈ l0, G42 z) → (l1.length * 1 ≤ 140737488351232 ∧ ∀ z ∈ l1, ((Lit.int .u8 z).wf = true)) → ∃ k, waveletlaw47_MetaRestores.f k l0 l1 = some true :=
  fun l0 l1 _ h => (law_restores l0 l1 (fun z hz => wf_byte (h.2 z hz))).rounds
end Go.Proofs.Ytnckglnnojcdmaa.Pure
