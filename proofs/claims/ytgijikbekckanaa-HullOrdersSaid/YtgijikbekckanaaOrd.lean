/- The law HullOrders: its walk. -/
import Derived.Test.YtgijikbekckanaaCmp
import Derived.LoopN
set_option linter.unusedVariables false
set_option linter.unusedSimpArgs false
namespace Go.Proofs.Ytgijikbekckanaa.P
open Go.RowKit Go.Proofs.YtgijikbekckanaaW.PrintWords Go.Proofs.YtgijikbekckanaaW.PrintLast Go.Proofs.YtgijikbekckanaaW.PrintMore
attribute [local go_sem] max2_int min2_int max_two min_two

theorem steeper_is {d1 r1 d2 r2 x : Int} (h : Hid (stP d1 r1 d2 r2 = x)) (w : World) : Calls Try.prog 14 #[.int .i64 d1, .int .i64 r1, .int .i64 d2, .int .i64 r2] w fun e w' => e = .returned (.int .i64 x) ∧ w' = w := by
  have := h.out
  subst this
  exact steeper_quiet _ _ _ _ _

/-- What the law needs of the comparisons. -/
def OrdCases (x y z v : Int) : Prop := (x = -1 ∧ v = 1) ∨ (x = 0 ∧ v = 0 ∧ y = -1) ∨ (x = 1 ∧ v = -1 ∧ y = -1) ∨ (x = 0 ∧ v = 0 ∧ y = 0 ∧ z = 0) ∨ (x = 0 ∧ v = 0 ∧ y = 0 ∧ z = 1) ∨ (x = 0 ∧ v = 0 ∧ y = 1 ∧ z = 1) ∨ (x = 1 ∧ v = -1 ∧ y = 0 ∧ z = 1) ∨ (x = 1 ∧ v = -1 ∧ y = 1 ∧ z = 1)

set_option maxHeartbeats 4000000 in
theorem orders_out (a0 a1 b0 b1 c0 c1 : Int) (hF : Hid (¬ (ranged a0 a1 ∧ ranged b0 b1 ∧ ranged c0 c1)))
    (w : World) : Calls Try.prog 7 #[.agg #[.int .i64 a0, .int .i64 a1, .int .i64 b0, .int .i64 b1, .int .i64 c0, .int .i64 c1]] w fun e w' => e = .returned (.bool true) ∧ Below w.heap.size w w' := by
  go_enter Try.func7, Try.ntmps7
  have hB0 := below_alloc (Below.refl w.heap.size w) (.cells #[.int .i64 a0, .int .i64 a1, .int .i64 b0, .int .i64 b1, .int .i64 c0, .int .i64 c1] 34)
  go_wp2
  refine wp_loop_rounds 4 ?_
  iterate 3
    rw [rounds_succ]
    go_wp2_with (go_at_call 11; (with_reducible refine (example_calls _).mono ?_); rintro e w' ⟨rfl, hb⟩)
    all_goals try (go_ret; exact ⟨rfl, below_then hB0 hB0.size hb⟩)
  exfalso
  refine hF.out ?_
  clear hF hB0
  unfold ranged
  omega

end Go.Proofs.Ytgijikbekckanaa.P
