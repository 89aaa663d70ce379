/- For all bytes (at most 20000), box.Parse and the reference's Parse return the same list or error, and the chapter's examples hold: the printed law BoxParses is true, under no condition but the sizes that memory allows. -/
import Derived.Test.YtfemdpjgglhpnaaPuJ
import Derived.Test.YtfemdpjgglhpnaaPO
namespace Go.Proofs.Ytfemdpjgglhpnaa.Pure
open Go.Proofs.Ytfemdpjgglhpnaa.P
theorem wfb {z : Int} (h : (Lit.int .u8 z).wf = true) : 0 ≤ z ∧ z < 256 := by
  simp only [Lit.wf, Bool.and_eq_true, decide_eq_true_eq] at h
  have h1 : (0 : Int) ≤ z := h.1
  have h2 : z ≤ 255 := h.2
  omega
theorem BoxParses : ∀ (l0 : List Int), (l0.length * 1 ≤ 140737488351232 ∧ ∀ z ∈ l0, ((Lit.int .u8 z).wf = true)) → ∃ k, waveletlaw45_BoxParses.f k l0 = some true :=
  fun l h => (law_parses l (fun z hz => wfb (h.2 z hz))).rounds
end Go.Proofs.Ytfemdpjgglhpnaa.Pure
