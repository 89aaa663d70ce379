/- (Written by wip/gen/hull2alloc.py from wip/hull/OrdP.lean.) -/
/- Slopes that are in range are ordered: the facts that the law HullOrders reads off. -/
import Derived.Test.YtgmadhlebpbcpaaPuA
set_option linter.unusedVariables false
set_option linter.unusedSimpArgs false
namespace Go.Proofs.Ytgmadhlebpbcpaa.P
open Go.RowKit Go.Proofs.YtgmadhlebpbcpaaW.PrintWords Go.Proofs.YtgmadhlebpbcpaaW.PrintLast Go.Proofs.YtgmadhlebpbcpaaW.PrintMore

theorem cross {d1 R1 d2 R2 d3 R3 : Int} (h1 : 1 ≤ R1) (h2 : 1 ≤ R2) (h3 : 1 ≤ R3) (x : d2 * R1 ≤ d1 * R2) (y : d3 * R2 ≤ d2 * R3) : d3 * R1 ≤ d1 * R3 := by
  have a := Int.mul_le_mul_of_nonneg_right x (show (0 : Int) ≤ R3 by omega)
  have b := Int.mul_le_mul_of_nonneg_right y (show (0 : Int) ≤ R1 by omega)
  have c : R2 * (d3 * R1) ≤ R2 * (d1 * R3) := by
    have e1 : d2 * R1 * R3 = d2 * R3 * R1 := by rw [Int.mul_assoc, Int.mul_comm R1, ← Int.mul_assoc]
    have e2 : R2 * (d3 * R1) = d3 * R2 * R1 := by rw [← Int.mul_assoc, Int.mul_comm R2]
    have e3 : R2 * (d1 * R3) = d1 * R2 * R3 := by rw [← Int.mul_assoc, Int.mul_comm R2]
    omega
  exact Int.le_of_mul_le_mul_left c (by omega)
theorem cross_lt1 {d1 R1 d2 R2 d3 R3 : Int} (h1 : 1 ≤ R1) (h2 : 1 ≤ R2) (h3 : 1 ≤ R3) (x : d2 * R1 < d1 * R2) (y : d3 * R2 ≤ d2 * R3) : d3 * R1 < d1 * R3 := by
  have a := Int.mul_lt_mul_of_pos_right x (show (0 : Int) < R3 by omega)
  have b := Int.mul_le_mul_of_nonneg_right y (show (0 : Int) ≤ R1 by omega)
  have c : R2 * (d3 * R1) < R2 * (d1 * R3) := by
    have e1 : d2 * R1 * R3 = d2 * R3 * R1 := by rw [Int.mul_assoc, Int.mul_comm R1, ← Int.mul_assoc]
    have e2 : R2 * (d3 * R1) = d3 * R2 * R1 := by rw [← Int.mul_assoc, Int.mul_comm R2]
    have e3 : R2 * (d1 * R3) = d1 * R2 * R3 := by rw [← Int.mul_assoc, Int.mul_comm R2]
    omega
  exact Int.lt_of_mul_lt_mul_left c (by omega)
theorem cross_lt2 {d1 R1 d2 R2 d3 R3 : Int} (h1 : 1 ≤ R1) (h2 : 1 ≤ R2) (h3 : 1 ≤ R3) (x : d2 * R1 ≤ d1 * R2) (y : d3 * R2 < d2 * R3) : d3 * R1 < d1 * R3 := by
  have a := Int.mul_le_mul_of_nonneg_right x (show (0 : Int) ≤ R3 by omega)
  have b := Int.mul_lt_mul_of_pos_right y (show (0 : Int) < R1 by omega)
  have c : R2 * (d3 * R1) < R2 * (d1 * R3) := by
    have e1 : d2 * R1 * R3 = d2 * R3 * R1 := by rw [Int.mul_assoc, Int.mul_comm R1, ← Int.mul_assoc]
    have e2 : R2 * (d3 * R1) = d3 * R2 * R1 := by rw [← Int.mul_assoc, Int.mul_comm R2]
    have e3 : R2 * (d1 * R3) = d1 * R2 * R3 := by rw [← Int.mul_assoc, Int.mul_comm R2]
    omega
  exact Int.lt_of_mul_lt_mul_left c (by omega)
theorem mx_one (r : Int) : 1 ≤ mx r 1 := by unfold mx; split <;> omega
/-- The three ways in which two slopes compare. -/
theorem st_inf {d1 r1 d2 r2 : Int} (h1 : ranged d1 r1) (h2 : ranged d2 r2) : stP d1 r1 d2 r2 = if (r1 = 0 ∧ d1 > 0) ∧ (r2 = 0 ∧ d2 > 0) then 0 else if r1 = 0 ∧ d1 > 0 then 1 else if r2 = 0 ∧ d2 > 0 then -1 else cmpP (d1 * mx r2 1) (d2 * mx r1 1) := by
  unfold stP; rw [if_pos ⟨h1, h2⟩]
theorem cmp_cases (a b : Int) : (cmpP a b = -1 ∧ a < b) ∨ (cmpP a b = 0 ∧ a = b) ∨ (cmpP a b = 1 ∧ b < a) := by
  unfold cmpP; repeat' split
  all_goals omega
theorem st_neg {d1 r1 d2 r2 : Int} (h1 : ranged d1 r1) (h2 : ranged d2 r2) : stP d2 r2 d1 r1 = - stP d1 r1 d2 r2 := by
  rw [st_inf h1 h2, st_inf h2 h1]
  by_cases i1 : r1 = 0 ∧ d1 > 0 <;> by_cases i2 : r2 = 0 ∧ d2 > 0
  all_goals simp only [i1, i2, and_self, if_true, if_false, false_and, and_false]
  all_goals try omega
  rcases cmp_cases (d1 * mx r2 1) (d2 * mx r1 1) with ⟨e, h⟩ | ⟨e, h⟩ | ⟨e, h⟩ <;> rcases cmp_cases (d2 * mx r1 1) (d1 * mx r2 1) with ⟨f, g⟩ | ⟨f, g⟩ | ⟨f, g⟩ <;> omega
theorem st_self {d r : Int} (h : ranged d r) : stP d r d r = 0 := by
  have := st_neg h h
  omega
theorem st_three {d1 r1 d2 r2 : Int} (h1 : ranged d1 r1) (h2 : ranged d2 r2) : stP d1 r1 d2 r2 = -1 ∨ stP d1 r1 d2 r2 = 0 ∨ stP d1 r1 d2 r2 = 1 := by
  rw [st_inf h1 h2]
  repeat' split
  · omega
  · omega
  · omega
  · rcases cmp_cases (d1 * mx r2 1) (d2 * mx r1 1) with ⟨e, _⟩ | ⟨e, _⟩ | ⟨e, _⟩ <;> omega
theorem st_trans {d1 r1 d2 r2 d3 r3 : Int} (h1 : ranged d1 r1) (h2 : ranged d2 r2) (h3 : ranged d3 r3) (x : 0 ≤ stP d1 r1 d2 r2) (y : 0 ≤ stP d2 r2 d3 r3) :
    0 ≤ stP d1 r1 d3 r3 ∧ (0 < stP d1 r1 d2 r2 + stP d2 r2 d3 r3 → 0 < stP d1 r1 d3 r3) := by
  rw [st_inf h1 h2] at x ⊢
  rw [st_inf h2 h3] at y ⊢
  rw [st_inf h1 h3]
  by_cases i1 : r1 = 0 ∧ d1 > 0 <;> by_cases i2 : r2 = 0 ∧ d2 > 0 <;> by_cases i3 : r3 = 0 ∧ d3 > 0
  all_goals simp only [i1, i2, i3, and_self, if_true, if_false, false_and, and_false] at x y ⊢
  all_goals try omega
  have k1 := mx_one r1
  have k2 := mx_one r2
  have k3 := mx_one r3
  rcases cmp_cases (d1 * mx r2 1) (d2 * mx r1 1) with ⟨e, h⟩ | ⟨e, h⟩ | ⟨e, h⟩ <;> rcases cmp_cases (d2 * mx r3 1) (d3 * mx r2 1) with ⟨f, g⟩ | ⟨f, g⟩ | ⟨f, g⟩ <;> rw [e] at x ⊢ <;> rw [f] at y ⊢
  all_goals try omega
  · have := cross k1 k2 k3 (show d2 * mx r1 1 ≤ d1 * mx r2 1 by omega) (show d3 * mx r2 1 ≤ d2 * mx r3 1 by omega)
    rcases cmp_cases (d1 * mx r3 1) (d3 * mx r1 1) with ⟨t, u⟩ | ⟨t, u⟩ | ⟨t, u⟩ <;> omega
  · have := cross_lt2 k1 k2 k3 (show d2 * mx r1 1 ≤ d1 * mx r2 1 by omega) (show d3 * mx r2 1 < d2 * mx r3 1 by omega)
    rcases cmp_cases (d1 * mx r3 1) (d3 * mx r1 1) with ⟨t, u⟩ | ⟨t, u⟩ | ⟨t, u⟩ <;> omega
  · have := cross_lt1 k1 k2 k3 (show d2 * mx r1 1 < d1 * mx r2 1 by omega) (show d3 * mx r2 1 ≤ d2 * mx r3 1 by omega)
    rcases cmp_cases (d1 * mx r3 1) (d3 * mx r1 1) with ⟨t, u⟩ | ⟨t, u⟩ | ⟨t, u⟩ <;> omega
  · have := cross_lt1 k1 k2 k3 (show d2 * mx r1 1 < d1 * mx r2 1 by omega) (show d3 * mx r2 1 ≤ d2 * mx r3 1 by omega)
    rcases cmp_cases (d1 * mx r3 1) (d3 * mx r1 1) with ⟨t, u⟩ | ⟨t, u⟩ | ⟨t, u⟩ <;> omega
end Go.Proofs.Ytgmadhlebpbcpaa.P
