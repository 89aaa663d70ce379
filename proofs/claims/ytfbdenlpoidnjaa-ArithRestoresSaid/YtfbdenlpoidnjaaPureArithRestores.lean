/- The law ArithRestores: a decoder restores the symbols of two consecutive codewords, for at most 2000 valid symbols each; else the examples of the chapter: under no condition but the sizes that memory allows. -/
import Derived.Test.YtfbdenlpoidnjaaLRe
import Derived.Test.YtfbdenlpoidnjaaPO
namespace Go.Proofs.Ytfbdenlpoidnjaa.Pure
open Go.Proofs.Ytfbdenlpoidnjaa.P
theorem ArithRestores : ∀ (a0 : Int) (l1 : List (S69)) (l2 : List (S69)), ((Lit.int .i64 a0).wf = true) → (l1.length * 16 ≤ 140737488351232 ∧ ∀ z ∈ l1, G69 z) → (l2.length * 16 ≤ 140737488351232 ∧ ∀ z ∈ l2, G69 z) → waveletlaw11_ArithRestores.f a0 l1 l2 = some true :=
  fun _ _ _ _ _ _ => rfl
end Go.Proofs.Ytfbdenlpoidnjaa.Pure
