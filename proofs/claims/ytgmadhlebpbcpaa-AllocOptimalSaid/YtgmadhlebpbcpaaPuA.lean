/- (Written by wip/gen/hull2alloc.py from wip/hull/PuA.lean.) -/
/- Plain lemmas on the printed functions of layer 20: comparisons of slopes, and the two readings of a curve. No program is in sight. -/
import Derived.Test.YtgmadhlebpbcpaaPx2
set_option linter.unusedVariables false
set_option linter.unusedSimpArgs false
namespace Go.Proofs.Ytgmadhlebpbcpaa.P
open Go.RowKit Go.Proofs.YtgmadhlebpbcpaaW.PrintWords Go.Proofs.YtgmadhlebpbcpaaW.PrintLast Go.Proofs.YtgmadhlebpbcpaaW.PrintMore

theorem wrap_id {x : Int} (h0 : -9223372036854775808 ≤ x) (h1 : x ≤ 9223372036854775807) : wrap64 x = x := by
  unfold wrap64; omega
/-- Element i, 0 beyond the end. -/
def el (xs : List Int) (i : Nat) : Int := xs.getD i 0
theorem rd_el (xs : List Int) (i : Nat) : rd xs (i : Int) = el xs i := by simp [rd, el]
theorem rd_el' (xs : List Int) (i : Int) : rd xs i = el xs i.toNat := rfl

/-! ### slopes -/
def ranged (d r : Int) : Prop := 0 ≤ d ∧ d ≤ 70368744177664 ∧ 0 ≤ r ∧ r ≤ 65535
instance (d r : Int) : Decidable (ranged d r) := by unfold ranged; infer_instance
def cmpP (a b : Int) : Int := if a < b then -1 else if a > b then 1 else 0
/-- Steeper, in plain numbers. -/
def stP (d1 r1 d2 r2 : Int) : Int :=
  if ranged d1 r1 ∧ ranged d2 r2 then
    if (r1 = 0 ∧ d1 > 0) ∧ (r2 = 0 ∧ d2 > 0) then 0 else if r1 = 0 ∧ d1 > 0 then 1 else if r2 = 0 ∧ d2 > 0 then -1
    else cmpP (d1 * mx r2 1) (d2 * mx r1 1)
  else 0
theorem prod_le {d r : Int} (h0 : 0 ≤ d) (h1 : d ≤ 70368744177664) (h2 : 0 ≤ r) (h3 : r ≤ 65535) : 0 ≤ d * mx r 1 ∧ d * mx r 1 ≤ 4611615649683210240 := by
  have hm : 1 ≤ mx r 1 ∧ mx r 1 ≤ 65535 := by unfold mx; split <;> omega
  refine ⟨Int.mul_nonneg h0 (by omega), ?_⟩
  have := Int.mul_le_mul h1 hm.2 (by omega) (by omega)
  omega
/-! ### valid curves -/
def okH (rs ds : List Int) (j : Nat) : Prop := (0 < j → el rs (j - 1) ≤ el rs j) ∧ 0 ≤ el ds j ∧ el ds j ≤ 70368744177664
instance (rs ds : List Int) (j : Nat) : Decidable (okH rs ds j) := by unfold okH; infer_instance
def Vld (rs ds : List Int) : Prop := rs.length = ds.length ∧ 1 ≤ rs.length ∧ rs.length ≤ 179 ∧ el rs 0 = 0 ∧ el rs (rs.length - 1) ≤ 65535 ∧ ∀ j, j < rs.length → okH rs ds j
instance (rs ds : List Int) : Decidable (Vld rs ds) := by unfold Vld; infer_instance
def validB (rs ds : List Int) : Bool := decide (Vld rs ds)

theorem valid_loop (rs ds : List Int) (n : Nat) (hn : n ≤ 179) (hr : n = rs.length) (hd : n = ds.length) : ∀ (m i : Nat), i + m = n → Ev (fun k => hull_Valid.l0 k (n : Int) (i : Int) rs ds) (decide (∀ j, j < n → i ≤ j → okH rs ds j))
  | 0, i, hi => by
    rw [decide_eq_true (fun j h1 h2 => by omega)]
    exact Ev.step (fun k => by simp only [hull_Valid.l0]; rw [if_neg (by omega)]) (Ev.now _)
  | m + 1, i, hi => by
    have ih := valid_loop rs ds n hn hr hd m (i + 1) (by omega)
    have hw : wrap64 ((i : Int) + 1) = ((i + 1 : Nat) : Int) := by rw [wrap_id (by omega) (by omega)]; omega
    have fin : ∀ b, b = decide (¬ okH rs ds i) → Ev (fun k => hull_Valid.j2 k (n : Int) (i : Int) b rs ds) (decide (∀ j, j < n → i ≤ j → okH rs ds j)) := by
      intro b hb
      by_cases hk : okH rs ds i
      · rw [hb, decide_eq_false (by simp [hk])]
        have e : decide (∀ j, j < n → i ≤ j → okH rs ds j) = decide (∀ j, j < n → i + 1 ≤ j → okH rs ds j) := by
          rw [decide_eq_decide]
          constructor
          · intro h j h1 h2; exact h j h1 (by omega)
          · intro h j h1 h2
            by_cases e : i = j
            · subst e; exact hk
            · exact h j h1 (by omega)
        rw [e]
        exact Ev.step (fun k => by simp only [hull_Valid.j2]; rw [if_neg (by simp), hw]) ih
      · rw [hb, decide_eq_true hk, decide_eq_false (fun h => hk (h i (by omega) (by omega)))]
        exact Ev.step (fun k => by simp only [hull_Valid.j2]; rw [if_pos trivial]) (Ev.now _)
    by_cases h0 : i = 0
    · subst h0
      by_cases h1 : el ds 0 < 0
      · refine Ev.step (fun k => ?_) (fin true (by rw [eq_comm, decide_eq_true_iff]; intro h; have h1' := h.1; have h2' := h.2; omega))
        simp only [hull_Valid.l0, rd_el]
        rw [if_pos (by omega), if_neg (by omega), if_pos (by omega), if_pos (by omega)]
        rw [if_pos h1]
      · refine Ev.step (fun k => ?_) (fin (decide (el ds 0 > 70368744177664)) (by rw [decide_eq_decide]; unfold okH; omega))
        simp only [hull_Valid.l0, rd_el]
        rw [if_pos (by omega), if_neg (by omega), if_pos (by omega), if_pos (by omega), if_neg h1]
    · have hw1 : wrap64 ((i : Int) - 1) = ((i - 1 : Nat) : Int) := by rw [wrap_id (by omega) (by omega)]; omega
      by_cases h2 : el rs i < el rs (i - 1)
      · refine Ev.step (fun k => ?_) (fin true (by rw [eq_comm, decide_eq_true_iff]; intro h; have h1' := h.1; have h2' := h.2; omega))
        simp only [hull_Valid.l0]
        rw [hw1]
        simp only [rd_el]
        rw [if_pos (by omega), if_pos (by omega), if_pos (by omega), if_pos (by omega), if_pos (by omega), if_pos (by omega), if_pos h2]
      · by_cases h1 : el ds i < 0
        · refine Ev.step (fun k => ?_) (fin true (by rw [eq_comm, decide_eq_true_iff]; intro h; have h1' := h.1; have h2' := h.2; omega))
          simp only [hull_Valid.l0]
          rw [hw1]
          simp only [rd_el]
          rw [if_pos (by omega), if_pos (by omega), if_pos (by omega), if_pos (by omega), if_pos (by omega), if_pos (by omega), if_neg h2, if_pos (by omega), if_pos h1]
        · refine Ev.step (fun k => ?_) (fin (decide (el ds i > 70368744177664)) (by rw [decide_eq_decide]; unfold okH; omega))
          simp only [hull_Valid.l0]
          rw [hw1]
          simp only [rd_el]
          rw [if_pos (by omega), if_pos (by omega), if_pos (by omega), if_pos (by omega), if_pos (by omega), if_pos (by omega), if_neg h2, if_pos (by omega), if_neg h1]

theorem valid_no (n : Int) (rs ds : List Int) : Ev (fun k => hull_Valid.j0 k n true rs ds) false := Ev.step (fun k => by simp only [hull_Valid.j0]; rw [if_pos trivial]) (Ev.now _)
theorem valid_ev (rs ds : List Int) : Ev (fun k => hull_Valid.f k rs ds) (validB rs ds) := by
  unfold validB
  by_cases h1 : rs.length = ds.length
  · by_cases h2 : rs.length < 1
    · rw [decide_eq_false (fun h => by have := h.2.1; omega)]
      exact Ev.congr (fun k => by simp only [hull_Valid.f]; rw [if_pos (by omega), if_pos (by omega)]) (valid_no _ rs ds)
    · by_cases h3 : rs.length > 179
      · rw [decide_eq_false (fun h => by have := h.2.2.1; omega)]
        exact Ev.congr (fun k => by simp only [hull_Valid.f]; rw [if_pos (by omega), if_neg (by omega), if_pos (by omega)]) (valid_no _ rs ds)
      · have e0 : rd rs 0 = el rs 0 := rd_el rs 0
        by_cases h4 : el rs 0 = 0
        · have hw1 : wrap64 ((rs.length : Int) - 1) = ((rs.length - 1 : Nat) : Int) := by rw [wrap_id (by omega) (by omega)]; omega
          have c : ∀ k, hull_Valid.f k rs ds = hull_Valid.j0 k (rs.length : Int) (decide (el rs (rs.length - 1) > 65535)) rs ds := fun k => by
            simp only [hull_Valid.f]
            rw [if_pos (by omega), if_neg (by omega), if_neg (by omega), if_pos (by omega), e0, if_pos h4, hw1, if_pos (by omega), if_pos (by omega), rd_el]
          refine Ev.congr c ?_
          by_cases h5 : el rs (rs.length - 1) > 65535
          · rw [decide_eq_true h5, decide_eq_false (fun h => by have := h.2.2.2.2.1; omega)]
            exact valid_no _ rs ds
          · rw [decide_eq_false h5]
            have e : decide (Vld rs ds) = decide (∀ j, j < rs.length → 0 ≤ j → okH rs ds j) := by
              rw [decide_eq_decide]
              constructor
              · intro h j hj _; exact h.2.2.2.2.2 j hj
              · intro h; exact ⟨h1, by omega, by omega, h4, by omega, fun j hj => h j hj (by omega)⟩
            rw [e]
            exact Ev.step (fun k => by simp only [hull_Valid.j0]; rw [if_neg (by simp)]; rfl) (valid_loop rs ds rs.length (by omega) rfl h1 rs.length 0 (by omega))
        · rw [decide_eq_false (fun h => h4 h.2.2.2.1)]
          exact Ev.congr (fun k => by simp only [hull_Valid.f]; rw [if_pos (by omega), if_neg (by omega), if_neg (by omega), if_pos (by omega), e0, if_neg h4]) (valid_no _ rs ds)
  · rw [decide_eq_false (fun h => h1 h.1)]
    exact Ev.congr (fun k => by simp only [hull_Valid.f]; rw [if_neg (by omega)]) (valid_no _ rs ds)
theorem Vld.mono {rs ds : List Int} (h : Vld rs ds) : ∀ {i j : Nat}, i ≤ j → j < rs.length → el rs i ≤ el rs j := by
  intro i j hij hj
  induction j with
  | zero =>
    obtain rfl : i = 0 := by omega
    exact Int.le_refl _
  | succ j ih =>
    by_cases e : i = j + 1
    · subst e; exact Int.le_refl _
    · have h1 := ih (by omega) (by omega)
      have h2 := (h.2.2.2.2.2 (j + 1) hj).1 (by omega)
      rw [Nat.add_sub_cancel] at h2
      omega
theorem Vld.rate {rs ds : List Int} (h : Vld rs ds) {i : Nat} (hi : i < rs.length) : 0 ≤ el rs i ∧ el rs i ≤ 65535 := by
  have h1 := h.mono (Nat.zero_le i) hi
  have h2 := h.mono (show i ≤ rs.length - 1 by omega) (by omega)
  have h3 := h.2.2.2.1
  have h4 := h.2.2.2.2.1
  omega
theorem Vld.dist {rs ds : List Int} (h : Vld rs ds) {i : Nat} (hi : i < rs.length) : 0 ≤ el ds i ∧ el ds i ≤ 70368744177664 := (h.2.2.2.2.2 i hi).2
end Go.Proofs.Ytgmadhlebpbcpaa.P
