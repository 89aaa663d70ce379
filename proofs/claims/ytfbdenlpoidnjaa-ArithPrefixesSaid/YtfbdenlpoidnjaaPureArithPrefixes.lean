/- The law ArithPrefixes: Size bytes suffice to decode the symbols so far, whatever follows, for at most 2000 valid symbols and 300 other bytes; else the examples of the chapter: under no condition but the sizes that memory allows. -/
import Derived.Test.YtfbdenlpoidnjaaLPr
import Derived.Test.YtfbdenlpoidnjaaPO
namespace Go.Proofs.Ytfbdenlpoidnjaa.Pure
open Go.Proofs.Ytfbdenlpoidnjaa.P
theorem ArithPrefixes : ∀ (l0 : List (S69)) (a1 : Int) (l2 : List Int), (l0.length * 16 ≤ 140737488351232 ∧ ∀ z ∈ l0, G69 z) → ((Lit.int .i64 a1).wf = true) → (l2.length * 1 ≤ 140737488351232 ∧ ∀ z ∈ l2, ((Lit.int .u8 z).wf = true)) → waveletlaw11_ArithPrefixes.f l0 a1 l2 = some true := by
  intro l0 a1 l2 _ _ h
  unfold waveletlaw11_ArithPrefixes.f
  rw [if_pos (byt_wf h.2)]
end Go.Proofs.Ytfbdenlpoidnjaa.Pure
