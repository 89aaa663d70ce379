/- The law ArithShortest: no string shorter than the codeword is decoded to the same symbols, and a codeword does not end with a zero byte, for at most 2000 valid symbols and 2000 other bytes; else the examples of the chapter: under no condition but the sizes that memory allows. -/
import Derived.Test.YtfbdenlpoidnjaaLSh
import Derived.Test.YtfbdenlpoidnjaaPO
namespace Go.Proofs.Ytfbdenlpoidnjaa.Pure
open Go.Proofs.Ytfbdenlpoidnjaa.P
theorem ArithShortest : ∀ (l0 : List (S69)) (l1 : List Int), (l0.length * 16 ≤ 140737488351232 ∧ ∀ z ∈ l0, G69 z) → (l1.length * 1 ≤ 140737488351232 ∧ ∀ z ∈ l1, ((Lit.int .u8 z).wf = true)) → waveletlaw11_ArithShortest.f l0 l1 = some true := by
  intro l0 l1 _ h
  unfold waveletlaw11_ArithShortest.f
  rw [if_pos (byt_wf h.2)]
end Go.Proofs.Ytfbdenlpoidnjaa.Pure
