/- The law ArithNone: what coders answer that are nil or that no function returned, for all arguments, and the examples of the chapter: under no condition but the sizes that memory allows. -/
import Derived.Test.YtfbdenlpoidnjaaLNo
import Derived.Test.YtfbdenlpoidnjaaPO
namespace Go.Proofs.Ytfbdenlpoidnjaa.Pure
open Go.Proofs.Ytfbdenlpoidnjaa.P
theorem ArithNone : ∀ (a0 : Int) (a1 : Int) (l2 : List Int), ((Lit.int .i64 a0).wf = true) → ((Lit.int .i64 a1).wf = true) → (l2.length * 1 ≤ 140737488351232 ∧ ∀ z ∈ l2, ((Lit.int .u8 z).wf = true)) → waveletlaw11_ArithNone.f a0 a1 l2 = some true :=
  fun _ _ _ _ _ _ => rfl
end Go.Proofs.Ytfbdenlpoidnjaa.Pure
