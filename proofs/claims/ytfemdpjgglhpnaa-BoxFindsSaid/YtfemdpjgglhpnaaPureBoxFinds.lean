/- For all lists of boxes (at most 20000 boxes and bytes on six levels) and all paths (of at most ten), the program's Find and the reference's answer the same box, Same answers as the reference's, and a path of two is two paths of one; the chapter's examples hold: the law BoxFinds is true, under no condition but the sizes that memory allows. -/
import Derived.Test.YtfemdpjgglhpnaaFnd
import Derived.Test.YtfemdpjgglhpnaaPO
namespace Go.Proofs.Ytfemdpjgglhpnaa.Pure
open Go.Proofs.Ytfemdpjgglhpnaa.P
theorem BoxFinds : ∀ (l0 : List (S37)) (l1 : List (S37)) (l2 : List ByteArray), (l0.length * 64 ≤ 140737488351232 ∧ ∀ z ∈ l0, G37 z) → (l1.length * 64 ≤ 140737488351232 ∧ ∀ z ∈ l1, G37 z) → (l2.length * 16 ≤ 140737488351232 ∧ ∀ z ∈ l2, (z.size ≤ 140737488351232)) → waveletlaw45_BoxFinds.f l0 l1 l2 = some true :=
  fun _ _ _ _ _ _ => rfl
end Go.Proofs.Ytfemdpjgglhpnaa.Pure
