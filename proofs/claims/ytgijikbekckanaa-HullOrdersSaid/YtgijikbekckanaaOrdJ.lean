/- The law HullOrders: its walk for slopes in range, case by case. (Written by a program: one theorem for each way in which the slopes compare.) -/
import Derived.Test.YtgijikbekckanaaOrd
set_option linter.unusedVariables false
set_option linter.unusedSimpArgs false
namespace Go.Proofs.Ytgijikbekckanaa.P
open Go.RowKit Go.Proofs.YtgijikbekckanaaW.PrintWords Go.Proofs.YtgijikbekckanaaW.PrintLast Go.Proofs.YtgijikbekckanaaW.PrintMore
attribute [local go_sem] max2_int min2_int max_two min_two

set_option maxHeartbeats 4000000 in
theorem orders_in5 (a0 a1 b0 b1 c0 c1 : Int) (h1 : decide (a0 < 0) = false) (h2 : decide (70368744177664 < a0) = false) (h3 : decide (a1 < 0) = false) (h4 : decide (65535 < a1) = false)
    (i1 : decide (b0 < 0) = false) (i2 : decide (70368744177664 < b0) = false) (i3 : decide (b1 < 0) = false) (i4 : decide (65535 < b1) = false)
    (j1 : decide (c0 < 0) = false) (j2 : decide (70368744177664 < c0) = false) (j3 : decide (c1 < 0) = false) (j4 : decide (65535 < c1) = false)
    (hx : Hid (stP a0 a1 b0 b1 = 0)) (hy : Hid (stP b0 b1 c0 c1 = 0)) (hz : Hid (stP a0 a1 c0 c1 = 1)) (hv : Hid (stP b0 b1 a0 a1 = 0)) (ho : Hid (stP a0 a1 a0 a1 = 0))
    (w : World) : Calls Try.prog 7 #[.agg #[.int .i64 a0, .int .i64 a1, .int .i64 b0, .int .i64 b1, .int .i64 c0, .int .i64 c1]] w fun e w' => e = .returned (.bool true) ∧ Below w.heap.size w w' := by
  go_enter Try.func7, Try.ntmps7
  have hB0 := below_alloc (Below.refl w.heap.size w) (.cells #[.int .i64 a0, .int .i64 a1, .int .i64 b0, .int .i64 b1, .int .i64 c0, .int .i64 c1] 34)
  go_wp2
  refine wp_loop_rounds 4 ?_
  rw [rounds_succ]
  go_wp2
  rw [rounds_succ]
  go_wp2
  rw [rounds_succ]
  go_wp2
  rw [rounds_succ]
  go_wp2
  go_region
  all_goals
    go_wp2_with (first | (go_at_call 14; (first | (with_reducible refine (steeper_is hx _).mono ?_) | (with_reducible refine (steeper_is hy _).mono ?_) | (with_reducible refine (steeper_is hz _).mono ?_) | (with_reducible refine (steeper_is hv _).mono ?_) | (with_reducible refine (steeper_is ho _).mono ?_)); rintro e w' ⟨rfl, rfl⟩) | (go_at_call 11; (with_reducible refine (example_calls _).mono ?_); rintro e w' ⟨rfl, hb⟩))
  all_goals
    go_ret
    exact ⟨rfl, below_then (below_drew (below_alloc (below_alloc (below_alloc hB0 _) _) _)) (below_drew (below_alloc (below_alloc (below_alloc hB0 _) _) _)).size hb⟩

set_option maxHeartbeats 4000000 in
theorem orders_in6 (a0 a1 b0 b1 c0 c1 : Int) (h1 : decide (a0 < 0) = false) (h2 : decide (70368744177664 < a0) = false) (h3 : decide (a1 < 0) = false) (h4 : decide (65535 < a1) = false)
    (i1 : decide (b0 < 0) = false) (i2 : decide (70368744177664 < b0) = false) (i3 : decide (b1 < 0) = false) (i4 : decide (65535 < b1) = false)
    (j1 : decide (c0 < 0) = false) (j2 : decide (70368744177664 < c0) = false) (j3 : decide (c1 < 0) = false) (j4 : decide (65535 < c1) = false)
    (hx : Hid (stP a0 a1 b0 b1 = 0)) (hy : Hid (stP b0 b1 c0 c1 = 1)) (hz : Hid (stP a0 a1 c0 c1 = 1)) (hv : Hid (stP b0 b1 a0 a1 = 0)) (ho : Hid (stP a0 a1 a0 a1 = 0))
    (w : World) : Calls Try.prog 7 #[.agg #[.int .i64 a0, .int .i64 a1, .int .i64 b0, .int .i64 b1, .int .i64 c0, .int .i64 c1]] w fun e w' => e = .returned (.bool true) ∧ Below w.heap.size w w' := by
  go_enter Try.func7, Try.ntmps7
  have hB0 := below_alloc (Below.refl w.heap.size w) (.cells #[.int .i64 a0, .int .i64 a1, .int .i64 b0, .int .i64 b1, .int .i64 c0, .int .i64 c1] 34)
  go_wp2
  refine wp_loop_rounds 4 ?_
  rw [rounds_succ]
  go_wp2
  rw [rounds_succ]
  go_wp2
  rw [rounds_succ]
  go_wp2
  rw [rounds_succ]
  go_wp2
  go_region
  all_goals
    go_wp2_with (first | (go_at_call 14; (first | (with_reducible refine (steeper_is hx _).mono ?_) | (with_reducible refine (steeper_is hy _).mono ?_) | (with_reducible refine (steeper_is hz _).mono ?_) | (with_reducible refine (steeper_is hv _).mono ?_) | (with_reducible refine (steeper_is ho _).mono ?_)); rintro e w' ⟨rfl, rfl⟩) | (go_at_call 11; (with_reducible refine (example_calls _).mono ?_); rintro e w' ⟨rfl, hb⟩))
  all_goals
    go_ret
    exact ⟨rfl, below_then (below_drew (below_alloc (below_alloc (below_alloc hB0 _) _) _)) (below_drew (below_alloc (below_alloc (below_alloc hB0 _) _) _)).size hb⟩

set_option maxHeartbeats 4000000 in
theorem orders_in7 (a0 a1 b0 b1 c0 c1 : Int) (h1 : decide (a0 < 0) = false) (h2 : decide (70368744177664 < a0) = false) (h3 : decide (a1 < 0) = false) (h4 : decide (65535 < a1) = false)
    (i1 : decide (b0 < 0) = false) (i2 : decide (70368744177664 < b0) = false) (i3 : decide (b1 < 0) = false) (i4 : decide (65535 < b1) = false)
    (j1 : decide (c0 < 0) = false) (j2 : decide (70368744177664 < c0) = false) (j3 : decide (c1 < 0) = false) (j4 : decide (65535 < c1) = false)
    (hx : Hid (stP a0 a1 b0 b1 = 1)) (hy : Hid (stP b0 b1 c0 c1 = 0)) (hz : Hid (stP a0 a1 c0 c1 = 1)) (hv : Hid (stP b0 b1 a0 a1 = -1)) (ho : Hid (stP a0 a1 a0 a1 = 0))
    (w : World) : Calls Try.prog 7 #[.agg #[.int .i64 a0, .int .i64 a1, .int .i64 b0, .int .i64 b1, .int .i64 c0, .int .i64 c1]] w fun e w' => e = .returned (.bool true) ∧ Below w.heap.size w w' := by
  go_enter Try.func7, Try.ntmps7
  have hB0 := below_alloc (Below.refl w.heap.size w) (.cells #[.int .i64 a0, .int .i64 a1, .int .i64 b0, .int .i64 b1, .int .i64 c0, .int .i64 c1] 34)
  go_wp2
  refine wp_loop_rounds 4 ?_
  rw [rounds_succ]
  go_wp2
  rw [rounds_succ]
  go_wp2
  rw [rounds_succ]
  go_wp2
  rw [rounds_succ]
  go_wp2
  go_region
  all_goals
    go_wp2_with (first | (go_at_call 14; (first | (with_reducible refine (steeper_is hx _).mono ?_) | (with_reducible refine (steeper_is hy _).mono ?_) | (with_reducible refine (steeper_is hz _).mono ?_) | (with_reducible refine (steeper_is hv _).mono ?_) | (with_reducible refine (steeper_is ho _).mono ?_)); rintro e w' ⟨rfl, rfl⟩) | (go_at_call 11; (with_reducible refine (example_calls _).mono ?_); rintro e w' ⟨rfl, hb⟩))
  all_goals
    go_ret
    exact ⟨rfl, below_then (below_drew (below_alloc (below_alloc (below_alloc hB0 _) _) _)) (below_drew (below_alloc (below_alloc (below_alloc hB0 _) _) _)).size hb⟩

set_option maxHeartbeats 4000000 in
theorem orders_in8 (a0 a1 b0 b1 c0 c1 : Int) (h1 : decide (a0 < 0) = false) (h2 : decide (70368744177664 < a0) = false) (h3 : decide (a1 < 0) = false) (h4 : decide (65535 < a1) = false)
    (i1 : decide (b0 < 0) = false) (i2 : decide (70368744177664 < b0) = false) (i3 : decide (b1 < 0) = false) (i4 : decide (65535 < b1) = false)
    (j1 : decide (c0 < 0) = false) (j2 : decide (70368744177664 < c0) = false) (j3 : decide (c1 < 0) = false) (j4 : decide (65535 < c1) = false)
    (hx : Hid (stP a0 a1 b0 b1 = 1)) (hy : Hid (stP b0 b1 c0 c1 = 1)) (hz : Hid (stP a0 a1 c0 c1 = 1)) (hv : Hid (stP b0 b1 a0 a1 = -1)) (ho : Hid (stP a0 a1 a0 a1 = 0))
    (w : World) : Calls Try.prog 7 #[.agg #[.int .i64 a0, .int .i64 a1, .int .i64 b0, .int .i64 b1, .int .i64 c0, .int .i64 c1]] w fun e w' => e = .returned (.bool true) ∧ Below w.heap.size w w' := by
  go_enter Try.func7, Try.ntmps7
  have hB0 := below_alloc (Below.refl w.heap.size w) (.cells #[.int .i64 a0, .int .i64 a1, .int .i64 b0, .int .i64 b1, .int .i64 c0, .int .i64 c1] 34)
  go_wp2
  refine wp_loop_rounds 4 ?_
  rw [rounds_succ]
  go_wp2
  rw [rounds_succ]
  go_wp2
  rw [rounds_succ]
  go_wp2
  rw [rounds_succ]
  go_wp2
  go_region
  all_goals
    go_wp2_with (first | (go_at_call 14; (first | (with_reducible refine (steeper_is hx _).mono ?_) | (with_reducible refine (steeper_is hy _).mono ?_) | (with_reducible refine (steeper_is hz _).mono ?_) | (with_reducible refine (steeper_is hv _).mono ?_) | (with_reducible refine (steeper_is ho _).mono ?_)); rintro e w' ⟨rfl, rfl⟩) | (go_at_call 11; (with_reducible refine (example_calls _).mono ?_); rintro e w' ⟨rfl, hb⟩))
  all_goals
    go_ret
    exact ⟨rfl, below_then (below_drew (below_alloc (below_alloc (below_alloc hB0 _) _) _)) (below_drew (below_alloc (below_alloc (below_alloc hB0 _) _) _)).size hb⟩
end Go.Proofs.Ytgijikbekckanaa.P
