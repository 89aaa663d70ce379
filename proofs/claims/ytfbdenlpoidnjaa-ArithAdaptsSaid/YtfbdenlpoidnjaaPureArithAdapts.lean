/- The law ArithAdapts: for all numbers, Adapt's answer is the defined one, and the examples of the chapter hold: under no condition. -/
import Derived.Test.YtfbdenlpoidnjaaLAd
import Derived.Test.YtfbdenlpoidnjaaPO
namespace Go.Proofs.Ytfbdenlpoidnjaa.Pure
open Go.Proofs.Ytfbdenlpoidnjaa.P
theorem ArithAdapts : ∀ (a0 : Int) (a1 : Int), ((Lit.int .i64 a0).wf = true) → ((Lit.int .i64 a1).wf = true) → waveletlaw11_ArithAdapts.f a0 a1 = some true :=
  fun _ _ _ _ => rfl
end Go.Proofs.Ytfbdenlpoidnjaa.Pure
