/- The reference's Steeper: what it answers, in plain numbers, and that it leaves memory alone. (Written by wip/gen/hull2alloc.py from wip/hull/Cmp.lean.) -/
import Derived.Test.YtgmadhlebpbcpaaPtb
import Derived.Deep.RegionHeld3
import Derived.WalkSpells
set_option linter.unusedVariables false
set_option linter.unusedSimpArgs false
namespace Go.Proofs.Ytgmadhlebpbcpaa.P
open Go.RowKit Go.Proofs.YtgmadhlebpbcpaaW.PrintWords Go.Proofs.YtgmadhlebpbcpaaW.PrintLast Go.Proofs.YtgmadhlebpbcpaaW.PrintMore
attribute [local go_sem] max2_int min2_int max_two min_two

theorem mul_bd {a b A B : Int} (h0 : 0 ≤ a) (h1 : a ≤ A) (h2 : 0 ≤ b) (h3 : b ≤ B) : 0 ≤ a * b ∧ a * b ≤ A * B :=
  ⟨Int.mul_nonneg h0 h2, Int.mul_le_mul h1 h3 h2 (Int.le_trans h0 h1)⟩
theorem rslope_yes (d r : Int) (w : World) (h : ranged d r) : Calls Try.prog 38 #[.int .i64 d, .int .i64 r] w fun e w' => e = .returned (.bool true) ∧ w' = w := by
  obtain ⟨h1, h2, h3, h4⟩ := h
  go_enter Try.func38, Try.ntmps38
  go_wp2
  all_goals
    go_ret
    exact ⟨rfl, rfl⟩
theorem rslope_no (d r : Int) (w : World) (h : ¬ ranged d r) : Calls Try.prog 38 #[.int .i64 d, .int .i64 r] w fun e w' => e = .returned (.bool false) ∧ w' = w := by
  have h' : ¬ (0 ≤ d ∧ d ≤ 70368744177664 ∧ 0 ≤ r ∧ r ≤ 65535) := h
  clear h
  rcases (show d < 0 ∨ (0 ≤ d ∧ 70368744177664 < d) ∨ (0 ≤ d ∧ d ≤ 70368744177664 ∧ r < 0) ∨ (0 ≤ d ∧ d ≤ 70368744177664 ∧ 0 ≤ r ∧ 65535 < r) by omega) with h | ⟨h, h2⟩ | ⟨h, h2, h3⟩ | ⟨h, h2, h3, h4⟩
  all_goals
    clear h'
    (try have hD := decide_eq_false (show ¬ r ≤ 65535 by omega))
    go_enter Try.func38, Try.ntmps38
    go_wp2
  all_goals
    go_ret
    exact ⟨rfl, rfl⟩
theorem rslope_q (d r : Int) (w : World) : Calls Try.prog 38 #[.int .i64 d, .int .i64 r] w fun e w' => e = .returned (.bool (rangedB d r)) ∧ w' = w := by
  by_cases h : ranged d r
  · rw [show rangedB d r = true from decide_eq_true h]; exact rslope_yes d r w h
  · rw [show rangedB d r = false from decide_eq_false h]; exact rslope_no d r w h

set_option maxHeartbeats 2000000 in
theorem rsteeper_quiet (d1 r1 d2 r2 : Int) (w : World) : Calls Try.prog 32 #[.int .i64 d1, .int .i64 r1, .int .i64 d2, .int .i64 r2] w fun e w' => e = .returned (.int .i64 (stP d1 r1 d2 r2)) ∧ w' = w := by
  cases hR1 : rangedB d1 r1 with
  | false =>
    have e : stP d1 r1 d2 r2 = 0 := by unfold stP; rw [if_neg (fun h => of_decide_eq_false hR1 h.1)]
    rw [e]
    clear e
    go_enter Try.func32, Try.ntmps32
    go_wp2_with (go_at_call 38; (with_reducible refine (rslope_q _ _ _).mono ?_); rintro e w' ⟨rfl, rfl⟩)
    go_ret
    exact ⟨rfl, rfl⟩
  | true =>
    cases hR2 : rangedB d2 r2 with
    | false =>
      have e : stP d1 r1 d2 r2 = 0 := by unfold stP; rw [if_neg (fun h => of_decide_eq_false hR2 h.2)]
      rw [e]
      clear e
      go_enter Try.func32, Try.ntmps32
      go_wp2_with (go_at_call 38; (with_reducible refine (rslope_q _ _ _).mono ?_); rintro e w' ⟨rfl, rfl⟩)
      go_ret
      exact ⟨rfl, rfl⟩
    | true =>
      have hst : stP d1 r1 d2 r2 = if (r1 = 0 ∧ d1 > 0) ∧ (r2 = 0 ∧ d2 > 0) then 0 else if r1 = 0 ∧ d1 > 0 then 1 else if r2 = 0 ∧ d2 > 0 then -1 else cmpP (d1 * mx r2 1) (d2 * mx r1 1) := by
        unfold stP; rw [if_pos ⟨of_decide_eq_true hR1, of_decide_eq_true hR2⟩]
      have q1 := of_decide_eq_true hR1
      have q2 := of_decide_eq_true hR2
      have b1 := q1.1
      have b2 := q2.1
      have b3 := q1.2.2.1
      have b4 := q2.2.2.1
      have b5 := q1.2.1
      have b6 := q2.2.1
      have m1 := mul_bd q1.1 q1.2.1 q2.2.2.1 q2.2.2.2
      have m2 := mul_bd q2.1 q2.2.1 q1.2.2.1 q1.2.2.2
      have m1a := m1.1
      have m1b : d1 * r2 ≤ 4611615649683210240 := m1.2
      have m2a := m2.1
      have m2b : d2 * r1 ≤ 4611615649683210240 := m2.2
      have ST := Lib.hid hst
      clear hst q1 q2 m1 m2
      rcases (show (r1 = 0 ∧ 0 < d1) ∨ (r1 = 0 ∧ d1 = 0) ∨ 1 ≤ r1 by omega) with ⟨rfl, i1⟩ | ⟨rfl, rfl⟩ | i1
      all_goals
        rcases (show (r2 = 0 ∧ 0 < d2) ∨ (r2 = 0 ∧ d2 = 0) ∨ 1 ≤ r2 by omega) with ⟨rfl, i2⟩ | ⟨rfl, rfl⟩ | i2
        all_goals
          (try simp only [Int.mul_zero, Int.zero_mul] at m1a m1b m2a m2b)
          go_enter Try.func32, Try.ntmps32
          go_wp2_with (go_at_call 38; (with_reducible refine (rslope_q _ _ _).mono ?_); rintro e w' ⟨rfl, rfl⟩)
      all_goals
        go_ret
        refine ⟨ret_int ?_, rfl⟩
        rw [ST.out]
        (try simp only [true_and, and_true, Int.mul_one, Int.zero_mul, Int.mul_zero])
        (try unfold cmpP)
        (try unfold mx)
        repeat' split
        all_goals first | rfl | omega | (simp only [Int.mul_one, Int.zero_mul, Int.mul_zero] at *; omega)

end Go.Proofs.Ytgmadhlebpbcpaa.P
