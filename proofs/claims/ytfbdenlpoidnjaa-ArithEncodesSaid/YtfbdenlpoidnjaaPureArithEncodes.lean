/- The law ArithEncodes: the results of any calls of an encoder, and its sizes and probabilities after each of them, are the defined ones, for at most 300 calls; else the examples of the chapter: under no condition but the sizes that memory allows. -/
import Derived.Test.YtfbdenlpoidnjaaLEn
import Derived.Test.YtfbdenlpoidnjaaPO
namespace Go.Proofs.Ytfbdenlpoidnjaa.Pure
open Go.Proofs.Ytfbdenlpoidnjaa.P
theorem ArithEncodes : ∀ (a0 : Int) (l1 : List (S48)), ((Lit.int .i64 a0).wf = true) → (l1.length * 48 ≤ 140737488351232 ∧ ∀ z ∈ l1, G48 z) → waveletlaw11_ArithEncodes.f a0 l1 = some true := by
  intro a0 l1 _ h
  unfold waveletlaw11_ArithEncodes.f
  rw [if_pos]
  intro x hx z hz
  have h1 := (h.2 x hx).2.2.2.2 z hz
  simp only [Lit.wf, Bool.and_eq_true, decide_eq_true_eq] at h1
  have e0 : IntKind.u8.min = 0 := by decide
  have e1 : IntKind.u8.max = 255 := by decide
  rw [e0, e1] at h1
  omega
end Go.Proofs.Ytfbdenlpoidnjaa.Pure
