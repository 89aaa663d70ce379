/- What box.Parse has read, box.Write writes back, and lists can be joined, for all bytes (at most 20000 each); the chapter's examples hold: the printed law BoxEncodes is true, under no condition but the sizes that memory allows. -/
import Derived.Test.YtfemdpjgglhpnaaPuL
import Derived.Test.YtfemdpjgglhpnaaPO
namespace Go.Proofs.Ytfemdpjgglhpnaa.Pure
open Go.Proofs.Ytfemdpjgglhpnaa.P
theorem wfb {z : Int} (h : (Lit.int .u8 z).wf = true) : 0 ≤ z ∧ z < 256 := by
  simp only [Lit.wf, Bool.and_eq_true, decide_eq_true_eq] at h
  have h1 : (0 : Int) ≤ z := h.1
  have h2 : z ≤ 255 := h.2
  omega
theorem BoxEncodes : ∀ (l0 : List Int) (l1 : List Int), (l0.length * 1 ≤ 140737488351232 ∧ ∀ z ∈ l0, ((Lit.int .u8 z).wf = true)) → (l1.length * 1 ≤ 140737488351232 ∧ ∀ z ∈ l1, ((Lit.int .u8 z).wf = true)) → ∃ k, waveletlaw45_BoxEncodes.f k l0 l1 = some true :=
  fun l m h g => (law_encodes l m (fun z hz => wfb (h.2 z hz)) (fun z hz => wfb (g.2 z hz))).rounds
end Go.Proofs.Ytfemdpjgglhpnaa.Pure
