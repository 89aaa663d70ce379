/- (Written by wip/gen/hull2alloc.py from wip/hull/PuB.lean.) -/
/- Plain lemmas on the printed functions of layer 20: the reference's Valid, Steeper, Points and Best, and hull.Best, in plain numbers. No program is in sight. -/
import Derived.Test.YtgmadhlebpbcpaaPts
import Derived.Test.YtgmadhlebpbcpaaPuV
import Derived.Test.YtgmadhlebpbcpaaPx7
import Derived.Test.YtgmadhlebpbcpaaPx8
import Derived.Test.YtgmadhlebpbcpaaPx9
set_option linter.unusedVariables false
set_option linter.unusedSimpArgs false
namespace Go.Proofs.Ytgmadhlebpbcpaa.P
open Go.RowKit Go.Proofs.YtgmadhlebpbcpaaW.PrintWords Go.Proofs.YtgmadhlebpbcpaaW.PrintLast Go.Proofs.YtgmadhlebpbcpaaW.PrintMore

/-! ### the reference's Steeper -/
theorem rranged_ev (d r : Int) : waveletref20_ranged.f d r = some (decide (ranged d r)) := by
  unfold waveletref20_ranged.f
  rw [show decide (ranged d r) = decide (0 ≤ d ∧ d ≤ 70368744177664 ∧ 0 ≤ r ∧ r ≤ 65535) from decide_eq_decide.2 Iff.rfl]
  repeat' split
  all_goals (congr 1; first | (rw [decide_eq_decide]; omega) | (rw [eq_comm, decide_eq_false_iff_not]; omega))
theorem rsteeper_ev (d1 r1 d2 r2 : Int) : Ev (fun k => waveletref20_Steeper.f k d1 r1 d2 r2) (stP d1 r1 d2 r2) := by
  have c0 : ∀ k, waveletref20_Steeper.f k d1 r1 d2 r2 = waveletref20_Steeper.j0 k d1 r1 d2 r2 (!decide (ranged d1 r1 ∧ ranged d2 r2)) := fun k => by
    simp only [waveletref20_Steeper.f, rranged_ev, Option.bind_some]
    by_cases h1 : ranged d1 r1
    · simp [h1]
    · simp [h1]
  refine Ev.congr c0 ?_
  unfold stP
  by_cases hr : ranged d1 r1 ∧ ranged d2 r2
  · rw [decide_eq_true hr, if_pos hr, Bool.not_true]
    have p1 := prod_le hr.1.1 hr.1.2.1 hr.2.2.2.1 hr.2.2.2.2
    have p2 := prod_le hr.2.1 hr.2.2.1 hr.1.2.2.1 hr.1.2.2.2
    refine Ev.step (f := fun k => waveletref20_Steeper.j1 k d1 r1 d2 r2 (decide (r1 = 0 ∧ d1 > 0))) (fun k => ?_) ?_
    · simp only [waveletref20_Steeper.j0]
      rw [if_neg (by simp)]
      by_cases h1 : r1 = 0
      · simp [h1]
      · simp [h1]
    · refine Ev.step (f := fun k => waveletref20_Steeper.j2 k d1 r1 d2 r2 (decide (r1 = 0 ∧ d1 > 0)) (decide (r2 = 0 ∧ d2 > 0))) (fun k => ?_) ?_
      · simp only [waveletref20_Steeper.j1]
        by_cases h1 : r2 = 0
        · simp [h1]
        · simp [h1]
      · refine Ev.step (f := fun k => waveletref20_Steeper.j3 k d1 r1 d2 r2 (decide (r1 = 0 ∧ d1 > 0)) (decide (r2 = 0 ∧ d2 > 0)) (decide ((r1 = 0 ∧ d1 > 0) ∧ (r2 = 0 ∧ d2 > 0)))) (fun k => ?_) ?_
        · simp only [waveletref20_Steeper.j2]
          by_cases h1 : r1 = 0 ∧ d1 > 0
          · simp [h1]
          · simp [h1]
        · refine Ev.step (f := fun _ => some _) (fun k => ?_) (Ev.now _)
          simp only [waveletref20_Steeper.j3, cmpP, decide_eq_true_eq]
          rw [wrap_id (x := d1 * mx r2 1) (by omega) (by omega), wrap_id (x := d2 * mx r1 1) (by omega) (by omega)]
          repeat' split
          all_goals first | rfl | (exfalso; omega)
  · rw [decide_eq_false hr, if_neg hr, Bool.not_false]
    exact Ev.step (fun k => by simp only [waveletref20_Steeper.j0]; rw [if_pos trivial]) (Ev.now _)

/-! ### the reference's Points -/
theorem next_loop (rs ds : List Int) (hV : Vld rs ds) (i : Nat) (hi : i < rs.length) : ∀ (m j : Nat) (nx : Int), j + m = rs.length → i < j → -1 ≤ nx → nx < (j : Int) →
    Ev (fun k => waveletref20_next.l0 k (i : Int) nx (j : Int) rs ds) (scanP rs ds i m j nx)
  | 0, j, nx, hj, hij, h0, h1 => Ev.step (fun k => by simp only [waveletref20_next.l0]; rw [if_neg (by omega)]; rfl) (Ev.now _)
  | m + 1, j, nx, hj, hij, h0, h1 => by
    have hld := hV.1
    have h179 := hV.2.2.1
    have hw : wrap64 ((j : Int) + 1) = ((j + 1 : Nat) : Int) := by rw [wrap_id (by omega) (by omega)]; omega
    simp only [scanP]
    by_cases hy : el ds j < el ds i
    · by_cases hn : nx < 0
      · have hb : betterP rs ds i j nx = true := by unfold betterP; rw [if_pos hn]
        rw [hb, decide_eq_true hy, Bool.true_and, if_pos rfl]
        refine Ev.step (fun k => ?_) (next_loop rs ds hV i hi m (j + 1) (j : Int) (by omega) (by omega) (by omega) (by omega))
        simp only [waveletref20_next.l0, rd_el]
        rw [if_pos (by omega), if_pos (by omega), if_pos (by omega), if_pos (by omega), if_pos (by omega), if_neg (by omega), if_pos hn, hw]
      · obtain ⟨q, rfl⟩ : ∃ q : Nat, nx = (q : Int) := ⟨nx.toNat, by omega⟩
        have ri := hV.rate hi
        have rj := hV.rate (show j < rs.length by omega)
        have rq := hV.rate (show q < rs.length by omega)
        have di := hV.dist hi
        have dj := hV.dist (show j < rs.length by omega)
        have dq := hV.dist (show q < rs.length by omega)
        have hb : betterP rs ds i j (q : Int) = (decide (stP (el ds i - el ds j) (el rs j - el rs i) (el ds i - el ds q) (el rs q - el rs i) > 0) ||
            (stP (el ds i - el ds j) (el rs j - el rs i) (el ds i - el ds q) (el rs q - el rs i) == 0 && decide (el ds j < el ds q))) := by
          unfold betterP; rw [if_neg hn]; rfl
        rw [hb, decide_eq_true hy, Bool.true_and]
        have st := rsteeper_ev (el ds i - el ds j) (el rs j - el rs i) (el ds i - el ds q) (el rs q - el rs i)
        generalize stP (el ds i - el ds j) (el rs j - el rs i) (el ds i - el ds q) (el rs q - el rs i) = s at *
        have fin : ∀ b : Bool, Ev (fun k => waveletref20_next.j1 k (i : Int) (q : Int) (j : Int) b rs ds) (scanP rs ds i m (j + 1) (if b = true then (j : Int) else (q : Int))) := by
          intro b
          cases b with
          | true =>
            rw [if_pos rfl]
            exact Ev.step (fun k => by simp only [waveletref20_next.j1]; rw [if_pos trivial, hw]) (next_loop rs ds hV i hi m (j + 1) (j : Int) (by omega) (by omega) (by omega) (by omega))
          | false =>
            rw [if_neg (by simp)]
            exact Ev.step (fun k => by simp only [waveletref20_next.j1]; rw [if_neg (by simp), hw]) (next_loop rs ds hV i hi m (j + 1) (q : Int) (by omega) (by omega) (by omega) (by omega))
        refine Ev.step (f := fun k => (waveletref20_Steeper.f k (el ds i - el ds j) (el rs j - el rs i) (el ds i - el ds q) (el rs q - el rs i)).bind fun t201 => (if t201 > 0 then (waveletref20_next.j1 k i q j true rs ds) else (if t201 = 0 then (waveletref20_next.j1 k i q j (decide (el ds j < el ds q)) rs ds) else (waveletref20_next.j1 k i q j false rs ds)))) (fun k => ?_) ?_
        · simp only [waveletref20_next.l0, rd_el]
          rw [if_pos (by omega), if_pos (by omega), if_pos (by omega), if_pos (by omega), if_pos (by omega), if_neg (by omega), if_neg hn, if_pos (by omega), if_pos (by omega), if_pos (by omega), if_pos (by omega)]
          rw [wrap_id (x := el ds i - el ds j) (by omega) (by omega), wrap_id (x := el rs j - el rs i) (by omega) (by omega), wrap_id (x := el ds i - el ds q) (by omega) (by omega), wrap_id (x := el rs q - el rs i) (by omega) (by omega)]
        · refine Ev.bind st ?_
          by_cases hs : s > 0
          · rw [decide_eq_true hs, Bool.true_or]
            exact Ev.congr (fun k => by rw [if_pos hs]) (fin true)
          · rw [decide_eq_false hs, Bool.false_or]
            by_cases hz : s = 0
            · rw [show (s == 0) = true by simp [hz], Bool.true_and]
              exact Ev.congr (fun k => by rw [if_neg hs, if_pos hz]) (fin (decide (el ds j < el ds q)))
            · rw [show (s == 0) = false by simp [hz], Bool.false_and]
              exact Ev.congr (fun k => by rw [if_neg hs, if_neg hz]) (fin false)
    · rw [decide_eq_false hy, Bool.false_and, if_neg (by simp)]
      refine Ev.step (fun k => ?_) (next_loop rs ds hV i hi m (j + 1) nx (by omega) (by omega) (by omega) (by omega))
      simp only [waveletref20_next.l0, rd_el]
      rw [if_pos (by omega), if_pos (by omega), if_pos (by omega), if_pos (by omega), if_pos (by omega), if_pos (by omega), hw]
theorem next_ev (rs ds : List Int) (hV : Vld rs ds) (i : Nat) (hi : i < rs.length) : Ev (fun k => waveletref20_next.f k rs ds (i : Int)) (nextP rs ds i) := by
  have h179 := hV.2.2.1
  have hw : wrap64 ((i : Int) + 1) = ((i + 1 : Nat) : Int) := by rw [wrap_id (by omega) (by omega)]; omega
  exact Ev.congr (fun k => by simp only [waveletref20_next.f]; rw [hw]) (next_loop rs ds hV i hi (rs.length - (i + 1)) (i + 1) (-1) (by omega) (by omega) (by omega) (by omega))
theorem rpoints_loop (rs ds : List Int) (hV : Vld rs ds) : ∀ (f i : Nat) (acc : List Int), i < rs.length → rs.length ≤ f + i → acc.length ≤ i → Ev (fun k => waveletref20_Points.l0 k acc (i : Int) rs ds) (acc ++ chainP rs ds f i)
  | 0, i, acc, hi, hf, ha => by omega
  | f + 1, i, acc, hi, hf, ha => by
    have h179 := hV.2.2.1
    refine Ev.step (f := fun k => (waveletref20_next.f k rs ds (i : Int)).bind fun t209 => (waveletref20_Points.l0 k (acc ++ [(i : Int)]) t209 rs ds)) (fun k => by simp only [waveletref20_Points.l0]; rw [if_pos (by omega), if_pos (by omega)]) ?_
    refine Ev.bind (next_ev rs ds hV i hi) ?_
    simp only [chainP]
    have hb := next_bound rs ds i hi
    by_cases hn : nextP rs ds i < 0
    · rw [if_pos hn]
      exact Ev.step (fun k => by simp only [waveletref20_Points.l0]; rw [if_neg (by omega)]) (Ev.now _)
    · rw [if_neg hn]
      have ih := rpoints_loop rs ds hV f (nextP rs ds i).toNat (acc ++ [(i : Int)]) (by omega) (by omega) (by simp; omega)
      rw [Int.toNat_of_nonneg (by omega), List.append_assoc] at ih
      exact ih
theorem rpoints_ev (rs ds : List Int) : Ev (fun k => waveletref20_Points.f k rs ds) (pointsP rs ds) := by
  refine Ev.congr (fun k => by simp only [waveletref20_Points.f]; rfl) ?_
  refine Ev.bind (rvalid_ev rs ds) ?_
  unfold pointsP
  by_cases hv : validB rs ds = true
  · rw [if_pos hv, hv]
    have hV : Vld rs ds := of_decide_eq_true hv
    have h1 := hV.2.1
    exact Ev.congr (fun k => by rw [if_pos rfl]; rfl) (rpoints_loop rs ds hV rs.length 0 [] (by omega) (by omega) (by simp))
  · rw [if_neg hv, Bool.eq_false_iff.2 hv]
    exact Ev.congr (fun k => by rw [if_neg (by simp)]) (Ev.now _)
end Go.Proofs.Ytgmadhlebpbcpaa.P
