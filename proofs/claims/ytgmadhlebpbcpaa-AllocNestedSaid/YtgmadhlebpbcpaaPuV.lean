/- (Written by wip/gen/hull2alloc.py from wip/hull/PuV.lean.) -/
/- Plain lemmas on the reference's Valid of layer 20. No program is in sight. -/
import Derived.Test.YtgmadhlebpbcpaaPuA
import Derived.Test.YtgmadhlebpbcpaaPx6
set_option linter.unusedVariables false
set_option linter.unusedSimpArgs false
namespace Go.Proofs.Ytgmadhlebpbcpaa.P
open Go.RowKit Go.Proofs.YtgmadhlebpbcpaaW.PrintWords Go.Proofs.YtgmadhlebpbcpaaW.PrintLast Go.Proofs.YtgmadhlebpbcpaaW.PrintMore

/-! ### the reference's Valid -/
def okR (rs ds : List Int) (j : Nat) : Prop := 0 ≤ el rs j ∧ el rs j ≤ 65535 ∧ 0 ≤ el ds j ∧ el ds j ≤ 70368744177664 ∧ (0 < j → el rs (j - 1) ≤ el rs j)
instance (rs ds : List Int) (j : Nat) : Decidable (okR rs ds j) := by unfold okR; infer_instance
theorem rvalid_loop (rs ds : List Int) (n : Nat) (hn : n ≤ 179) (hr : n = rs.length) (hd : n = ds.length) : ∀ (m i : Nat), i + m = n → Ev (fun k => waveletref20_Valid.l0 k (n : Int) (i : Int) rs ds) (decide (∀ j, j < n → i ≤ j → okR rs ds j))
  | 0, i, hi => by
    rw [decide_eq_true (fun j h1 h2 => by omega)]
    exact Ev.step (fun k => by simp only [waveletref20_Valid.l0]; rw [if_neg (by omega)]) (Ev.now _)
  | m + 1, i, hi => by
    have ih := rvalid_loop rs ds n hn hr hd m (i + 1) (by omega)
    have hw : wrap64 ((i : Int) + 1) = ((i + 1 : Nat) : Int) := by rw [wrap_id (by omega) (by omega)]; omega
    have no : ¬ okR rs ds i → decide (∀ j, j < n → i ≤ j → okR rs ds j) = false := fun h => decide_eq_false (fun h' => h (h' i (by omega) (by omega)))
    have bad : Ev (fun k => waveletref20_Valid.j2 k (n : Int) (i : Int) true rs ds) false := Ev.step (fun k => by simp only [waveletref20_Valid.j2]; rw [if_pos trivial]) (Ev.now _)
    by_cases h1 : el rs i < 0
    · rw [no (fun h => by have := h.1; omega)]
      exact Ev.step (fun k => by simp only [waveletref20_Valid.l0, rd_el]; rw [if_pos (by omega), if_pos (by omega), if_pos (by omega), if_pos h1]) bad
    by_cases h2 : el rs i > 65535
    · rw [no (fun h => by have := h.2.1; omega)]
      exact Ev.step (fun k => by simp only [waveletref20_Valid.l0, rd_el]; rw [if_pos (by omega), if_pos (by omega), if_pos (by omega), if_neg h1, if_pos h2]) bad
    by_cases h3 : el ds i < 0
    · rw [no (fun h => by have := h.2.2.1; omega)]
      exact Ev.step (fun k => by simp only [waveletref20_Valid.l0, rd_el]; rw [if_pos (by omega), if_pos (by omega), if_pos (by omega), if_neg h1, if_neg h2, if_pos (by omega), if_pos h3]) bad
    by_cases h4 : el ds i > 70368744177664
    · rw [no (fun h => by have := h.2.2.2.1; omega)]
      exact Ev.step (fun k => by simp only [waveletref20_Valid.l0, rd_el]; rw [if_pos (by omega), if_pos (by omega), if_pos (by omega), if_neg h1, if_neg h2, if_pos (by omega), if_neg h3, decide_eq_true h4]) bad
    refine Ev.step (f := fun k => waveletref20_Valid.j2 k (n : Int) (i : Int) false rs ds) (fun k => by simp only [waveletref20_Valid.l0, rd_el]; rw [if_pos (by omega), if_pos (by omega), if_pos (by omega), if_neg h1, if_neg h2, if_pos (by omega), if_neg h3, decide_eq_false h4]) ?_
    have yes : okR rs ds i → decide (∀ j, j < n → i ≤ j → okR rs ds j) = decide (∀ j, j < n → i + 1 ≤ j → okR rs ds j) := fun hk => by
      rw [decide_eq_decide]
      constructor
      · intro h j h1 h2; exact h j h1 (by omega)
      · intro h j h1 h2
        by_cases e : i = j
        · subst e; exact hk
        · exact h j h1 (by omega)
    by_cases h0 : i = 0
    · rw [yes ⟨by omega, by omega, by omega, by omega, by omega⟩]
      refine Ev.step (f := fun k => waveletref20_Valid.j3 k (n : Int) (i : Int) false rs ds) (fun k => by simp only [waveletref20_Valid.j2]; rw [if_neg (by simp), if_neg (by omega)]) ?_
      exact Ev.step (fun k => by simp only [waveletref20_Valid.j3]; rw [if_neg (by simp), hw]) ih
    · have hw1 : wrap64 ((i : Int) - 1) = ((i - 1 : Nat) : Int) := by rw [wrap_id (by omega) (by omega)]; omega
      refine Ev.step (f := fun k => waveletref20_Valid.j3 k (n : Int) (i : Int) (decide (el rs i < el rs (i - 1))) rs ds) (fun k => by
        simp only [waveletref20_Valid.j2]
        rw [hw1]
        simp only [rd_el]
        rw [if_neg (by simp), if_pos (by omega), if_pos (by omega), if_pos (by omega), if_pos (by omega), if_pos (by omega)]) ?_
      by_cases h5 : el rs i < el rs (i - 1)
      · rw [decide_eq_true h5, no (fun h => by have := h.2.2.2.2 (by omega); omega)]
        exact Ev.step (fun k => by simp only [waveletref20_Valid.j3]; rw [if_pos trivial]) (Ev.now _)
      · rw [decide_eq_false h5, yes ⟨by omega, by omega, by omega, by omega, fun _ => by omega⟩]
        exact Ev.step (fun k => by simp only [waveletref20_Valid.j3]; rw [if_neg (by simp), hw]) ih
theorem vld_iff (rs ds : List Int) (h1 : rs.length = ds.length) (h2 : 1 ≤ rs.length) (h3 : rs.length ≤ 179) (h4 : el rs 0 = 0) : (∀ j, j < rs.length → 0 ≤ j → okR rs ds j) ↔ Vld rs ds := by
  constructor
  · intro h
    exact ⟨h1, h2, h3, h4, (h (rs.length - 1) (by omega) (by omega)).2.1, fun j hj => ⟨(h j hj (by omega)).2.2.2.2, (h j hj (by omega)).2.2.1, (h j hj (by omega)).2.2.2.1⟩⟩
  · intro h j hj _
    exact ⟨(h.rate hj).1, (h.rate hj).2, (h.dist hj).1, (h.dist hj).2, (h.2.2.2.2.2 j hj).1⟩
theorem rvalid_no (n : Int) (rs ds : List Int) : Ev (fun k => waveletref20_Valid.j0 k n true rs ds) false := Ev.step (fun k => by simp only [waveletref20_Valid.j0]; rw [if_pos trivial]) (Ev.now _)
theorem rvalid_ev (rs ds : List Int) : Ev (fun k => waveletref20_Valid.f k rs ds) (validB rs ds) := by
  unfold validB
  by_cases h2 : rs.length < 1
  · rw [decide_eq_false (fun h => by have := h.2.1; omega)]
    exact Ev.congr (fun k => by simp only [waveletref20_Valid.f]; rw [if_pos (by omega)]) (rvalid_no _ rs ds)
  · by_cases h3 : rs.length > 179
    · rw [decide_eq_false (fun h => by have := h.2.2.1; omega)]
      exact Ev.congr (fun k => by simp only [waveletref20_Valid.f]; rw [if_neg (by omega), if_pos (by omega)]) (rvalid_no _ rs ds)
    · by_cases h1 : rs.length = ds.length
      · have e0 : rd rs 0 = el rs 0 := rd_el rs 0
        have c : ∀ k, waveletref20_Valid.f k rs ds = waveletref20_Valid.j0 k (rs.length : Int) (el rs 0 != 0) rs ds := fun k => by
          simp only [waveletref20_Valid.f]
          rw [if_neg (by omega), if_neg (by omega), if_pos (by omega), if_pos (by omega), e0]
        refine Ev.congr c ?_
        by_cases h4 : el rs 0 = 0
        · rw [show (el rs 0 != 0) = false by simp [h4]]
          rw [show decide (Vld rs ds) = decide (∀ j, j < rs.length → 0 ≤ j → okR rs ds j) from decide_eq_decide.2 (vld_iff rs ds h1 (by omega) (by omega) h4).symm]
          exact Ev.step (fun k => by simp only [waveletref20_Valid.j0]; rw [if_neg (by simp)]; rfl) (rvalid_loop rs ds rs.length (by omega) rfl h1 rs.length 0 (by omega))
        · rw [show (el rs 0 != 0) = true by simp [h4], decide_eq_false (fun h => h4 h.2.2.2.1)]
          exact rvalid_no _ rs ds
      · rw [decide_eq_false (fun h => h1 h.1)]
        exact Ev.congr (fun k => by simp only [waveletref20_Valid.f]; rw [if_neg (by omega), if_neg (by omega), if_neg (by omega)]) (rvalid_no _ rs ds)

end Go.Proofs.Ytgmadhlebpbcpaa.P
