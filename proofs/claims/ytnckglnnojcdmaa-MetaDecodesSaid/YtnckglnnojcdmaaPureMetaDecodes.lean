/- For all bytes (at most 20000), meta.Decode and the reference's Decode return the same list or error, and the chapter's examples hold: the printed law MetaDecodes is true, under no condition but the sizes that memory allows. -/
import Derived.Test.YtnckglnnojcdmaaPuF
import Derived.Test.YtnckglnnojcdmaaPO
namespace Go.Proofs.Ytnckglnnojcdmaa.Pure
open Go.Proofs.Ytnckglnnojcdmaa.P
theorem MetaDecodes : ∀ (l0 : List Int), (l0.length * 1 ≤ 140737488351232 ∧ ∀ z ∈ l0, ((Lit.int .u8 z).wf = true)) → ∃ k, waveletlaw47_MetaDecodes.f k l0 = some true :=
  fun l0 h => (law_decodes l0 (fun z hz => wf_byte (h.2 z hz))).rounds
end Go.Proofs.Ytnckglnnojcdmaa.Pure
