/- Plain lemmas on the printed functions of layer 20: the reference's Valid, Steeper, Points and Best, and hull.Best, in plain numbers. No program is in sight. -/
import Derived.Test.YtgijikbekckanaaPts
import Derived.Test.YtgijikbekckanaaPx3
import Derived.Test.YtgijikbekckanaaPx5
import Derived.Test.YtgijikbekckanaaPx6
import Derived.Test.YtgijikbekckanaaPx7
import Derived.Test.YtgijikbekckanaaPx8
import Derived.Test.YtgijikbekckanaaPx9
set_option linter.unusedVariables false
set_option linter.unusedSimpArgs false
namespace Go.Proofs.Ytgijikbekckanaa.P
open Go.RowKit Go.Proofs.YtgijikbekckanaaW.PrintWords Go.Proofs.YtgijikbekckanaaW.PrintLast Go.Proofs.YtgijikbekckanaaW.PrintMore

/-! ### the reference's Steeper -/
theorem rranged_ev (d r : Int) : waveletref20_ranged.f d r = some (decide (ranged d r)) := by
  unfold waveletref20_ranged.f
  rw [show decide (ranged d r) = decide (0 ≤ d ∧ d ≤ 70368744177664 ∧ 0 ≤ r ∧ r ≤ 65535) from decide_eq_decide.2 Iff.rfl]
  repeat' split
  all_goals (congr 1; first | (rw [decide_eq_decide]; omega) | (rw [eq_comm, decide_eq_false_iff_not]; omega))
theorem rsteeper_ev (d1 r1 d2 r2 : Int) : Ev (fun k => waveletref20_Steeper.f k d1 r1 d2 r2) (stP d1 r1 d2 r2) := by
  have c0 : ∀ k, waveletref20_Steeper.f k d1 r1 d2 r2 = waveletref20_Steeper.j0 k d1 r1 d2 r2 (!decide (ranged d1 r1 ∧ ranged d2 r2)) := fun k => by
    simp only [waveletref20_Steeper.f, rranged_ev, Option.bind_some]
    by_cases h1 : ranged d1 r1
    · simp [h1]
    · simp [h1]
  refine Ev.congr c0 ?_
  unfold stP
  by_cases hr : ranged d1 r1 ∧ ranged d2 r2
  · rw [decide_eq_true hr, if_pos hr, Bool.not_true]
    have p1 := prod_le hr.1.1 hr.1.2.1 hr.2.2.2.1 hr.2.2.2.2
    have p2 := prod_le hr.2.1 hr.2.2.1 hr.1.2.2.1 hr.1.2.2.2
    refine Ev.step (f := fun k => waveletref20_Steeper.j1 k d1 r1 d2 r2 (decide (r1 = 0 ∧ d1 > 0))) (fun k => ?_) ?_
    · simp only [waveletref20_Steeper.j0]
      rw [if_neg (by simp)]
      by_cases h1 : r1 = 0
      · simp [h1]
      · simp [h1]
    · refine Ev.step (f := fun k => waveletref20_Steeper.j2 k d1 r1 d2 r2 (decide (r1 = 0 ∧ d1 > 0)) (decide (r2 = 0 ∧ d2 > 0))) (fun k => ?_) ?_
      · simp only [waveletref20_Steeper.j1]
        by_cases h1 : r2 = 0
        · simp [h1]
        · simp [h1]
      · refine Ev.step (f := fun k => waveletref20_Steeper.j3 k d1 r1 d2 r2 (decide (r1 = 0 ∧ d1 > 0)) (decide (r2 = 0 ∧ d2 > 0)) (decide ((r1 = 0 ∧ d1 > 0) ∧ (r2 = 0 ∧ d2 > 0)))) (fun k => ?_) ?_
        · simp only [waveletref20_Steeper.j2]
          by_cases h1 : r1 = 0 ∧ d1 > 0
          · simp [h1]
          · simp [h1]
        · refine Ev.step (f := fun _ => some _) (fun k => ?_) (Ev.now _)
          simp only [waveletref20_Steeper.j3, cmpP, decide_eq_true_eq]
          rw [wrap_id (x := d1 * mx r2 1) (by omega) (by omega), wrap_id (x := d2 * mx r1 1) (by omega) (by omega)]
          repeat' split
          all_goals first | rfl | (exfalso; omega)
  · rw [decide_eq_false hr, if_neg hr, Bool.not_false]
    exact Ev.step (fun k => by simp only [waveletref20_Steeper.j0]; rw [if_pos trivial]) (Ev.now _)

/-! ### the reference's Valid -/
def okR (rs ds : List Int) (j : Nat) : Prop := 0 ≤ el rs j ∧ el rs j ≤ 65535 ∧ 0 ≤ el ds j ∧ el ds j ≤ 70368744177664 ∧ (0 < j → el rs (j - 1) ≤ el rs j)
instance (rs ds : List Int) (j : Nat) : Decidable (okR rs ds j) := by unfold okR; infer_instance
theorem rvalid_loop (rs ds : List Int) (n : Nat) (hn : n ≤ 179) (hr : n = rs.length) (hd : n = ds.length) : ∀ (m i : Nat), i + m = n → Ev (fun k => waveletref20_Valid.l0 k (n : Int) (i : Int) rs ds) (decide (∀ j, j < n → i ≤ j → okR rs ds j))
  | 0, i, hi => by
    rw [decide_eq_true (fun j h1 h2 => by omega)]
    exact Ev.step (fun k => by simp only [waveletref20_Valid.l0]; rw [if_neg (by omega)]) (Ev.now _)
  | m + 1, i, hi => by
    have ih := rvalid_loop rs ds n hn hr hd m (i + 1) (by omega)
    have hw : wrap64 ((i : Int) + 1) = ((i + 1 : Nat) : Int) := by rw [wrap_id (by omega) (by omega)]; omega
    have no : ¬ okR rs ds i → decide (∀ j, j < n → i ≤ j → okR rs ds j) = false := fun h => decide_eq_false (fun h' => h (h' i (by omega) (by omega)))
    have bad : Ev (fun k => waveletref20_Valid.j2 k (n : Int) (i : Int) true rs ds) false := Ev.step (fun k => by simp only [waveletref20_Valid.j2]; rw [if_pos trivial]) (Ev.now _)
    by_cases h1 : el rs i < 0
    · rw [no (fun h => by have := h.1; omega)]
      exact Ev.step (fun k => by simp only [waveletref20_Valid.l0, rd_el]; rw [if_pos (by omega), if_pos (by omega), if_pos (by omega), if_pos h1]) bad
    by_cases h2 : el rs i > 65535
    · rw [no (fun h => by have := h.2.1; omega)]
      exact Ev.step (fun k => by simp only [waveletref20_Valid.l0, rd_el]; rw [if_pos (by omega), if_pos (by omega), if_pos (by omega), if_neg h1, if_pos h2]) bad
    by_cases h3 : el ds i < 0
    · rw [no (fun h => by have := h.2.2.1; omega)]
      exact Ev.step (fun k => by simp only [waveletref20_Valid.l0, rd_el]; rw [if_pos (by omega), if_pos (by omega), if_pos (by omega), if_neg h1, if_neg h2, if_pos (by omega), if_pos h3]) bad
    by_cases h4 : el ds i > 70368744177664
    · rw [no (fun h => by have := h.2.2.2.1; omega)]
      exact Ev.step (fun k => by simp only [waveletref20_Valid.l0, rd_el]; rw [if_pos (by omega), if_pos (by omega), if_pos (by omega), if_neg h1, if_neg h2, if_pos (by omega), if_neg h3, decide_eq_true h4]) bad
    refine Ev.step (f := fun k => waveletref20_Valid.j2 k (n : Int) (i : Int) false rs ds) (fun k => by simp only [waveletref20_Valid.l0, rd_el]; rw [if_pos (by omega), if_pos (by omega), if_pos (by omega), if_neg h1, if_neg h2, if_pos (by omega), if_neg h3, decide_eq_false h4]) ?_
    have yes : okR rs ds i → decide (∀ j, j < n → i ≤ j → okR rs ds j) = decide (∀ j, j < n → i + 1 ≤ j → okR rs ds j) := fun hk => by
      rw [decide_eq_decide]
      constructor
      · intro h j h1 h2; exact h j h1 (by omega)
      · intro h j h1 h2
        by_cases e : i = j
        · subst e; exact hk
        · exact h j h1 (by omega)
    by_cases h0 : i = 0
    · rw [yes ⟨by omega, by omega, by omega, by omega, by omega⟩]
      refine Ev.step (f := fun k => waveletref20_Valid.j3 k (n : Int) (i : Int) false rs ds) (fun k => by simp only [waveletref20_Valid.j2]; rw [if_neg (by simp), if_neg (by omega)]) ?_
      exact Ev.step (fun k => by simp only [waveletref20_Valid.j3]; rw [if_neg (by simp), hw]) ih
    · have hw1 : wrap64 ((i : Int) - 1) = ((i - 1 : Nat) : Int) := by rw [wrap_id (by omega) (by omega)]; omega
      refine Ev.step (f := fun k => waveletref20_Valid.j3 k (n : Int) (i : Int) (decide (el rs i < el rs (i - 1))) rs ds) (fun k => by
        simp only [waveletref20_Valid.j2]
        rw [hw1]
        simp only [rd_el]
        rw [if_neg (by simp), if_pos (by omega), if_pos (by omega), if_pos (by omega), if_pos (by omega), if_pos (by omega)]) ?_
      by_cases h5 : el rs i < el rs (i - 1)
      · rw [decide_eq_true h5, no (fun h => by have := h.2.2.2.2 (by omega); omega)]
        exact Ev.step (fun k => by simp only [waveletref20_Valid.j3]; rw [if_pos trivial]) (Ev.now _)
      · rw [decide_eq_false h5, yes ⟨by omega, by omega, by omega, by omega, fun _ => by omega⟩]
        exact Ev.step (fun k => by simp only [waveletref20_Valid.j3]; rw [if_neg (by simp), hw]) ih
theorem vld_iff (rs ds : List Int) (h1 : rs.length = ds.length) (h2 : 1 ≤ rs.length) (h3 : rs.length ≤ 179) (h4 : el rs 0 = 0) : (∀ j, j < rs.length → 0 ≤ j → okR rs ds j) ↔ Vld rs ds := by
  constructor
  · intro h
    exact ⟨h1, h2, h3, h4, (h (rs.length - 1) (by omega) (by omega)).2.1, fun j hj => ⟨(h j hj (by omega)).2.2.2.2, (h j hj (by omega)).2.2.1, (h j hj (by omega)).2.2.2.1⟩⟩
  · intro h j hj _
    exact ⟨(h.rate hj).1, (h.rate hj).2, (h.dist hj).1, (h.dist hj).2, (h.2.2.2.2.2 j hj).1⟩
theorem rvalid_no (n : Int) (rs ds : List Int) : Ev (fun k => waveletref20_Valid.j0 k n true rs ds) false := Ev.step (fun k => by simp only [waveletref20_Valid.j0]; rw [if_pos trivial]) (Ev.now _)
theorem rvalid_ev (rs ds : List Int) : Ev (fun k => waveletref20_Valid.f k rs ds) (validB rs ds) := by
  unfold validB
  by_cases h2 : rs.length < 1
  · rw [decide_eq_false (fun h => by have := h.2.1; omega)]
    exact Ev.congr (fun k => by simp only [waveletref20_Valid.f]; rw [if_pos (by omega)]) (rvalid_no _ rs ds)
  · by_cases h3 : rs.length > 179
    · rw [decide_eq_false (fun h => by have := h.2.2.1; omega)]
      exact Ev.congr (fun k => by simp only [waveletref20_Valid.f]; rw [if_neg (by omega), if_pos (by omega)]) (rvalid_no _ rs ds)
    · by_cases h1 : rs.length = ds.length
      · have e0 : rd rs 0 = el rs 0 := rd_el rs 0
        have c : ∀ k, waveletref20_Valid.f k rs ds = waveletref20_Valid.j0 k (rs.length : Int) (el rs 0 != 0) rs ds := fun k => by
          simp only [waveletref20_Valid.f]
          rw [if_neg (by omega), if_neg (by omega), if_pos (by omega), if_pos (by omega), e0]
        refine Ev.congr c ?_
        by_cases h4 : el rs 0 = 0
        · rw [show (el rs 0 != 0) = false by simp [h4]]
          rw [show decide (Vld rs ds) = decide (∀ j, j < rs.length → 0 ≤ j → okR rs ds j) from decide_eq_decide.2 (vld_iff rs ds h1 (by omega) (by omega) h4).symm]
          exact Ev.step (fun k => by simp only [waveletref20_Valid.j0]; rw [if_neg (by simp)]; rfl) (rvalid_loop rs ds rs.length (by omega) rfl h1 rs.length 0 (by omega))
        · rw [show (el rs 0 != 0) = true by simp [h4], decide_eq_false (fun h => h4 h.2.2.2.1)]
          exact rvalid_no _ rs ds
      · rw [decide_eq_false (fun h => h1 h.1)]
        exact Ev.congr (fun k => by simp only [waveletref20_Valid.f]; rw [if_neg (by omega), if_neg (by omega), if_neg (by omega)]) (rvalid_no _ rs ds)

/-! ### the reference's Points -/
theorem next_loop (rs ds : List Int) (hV : Vld rs ds) (i : Nat) (hi : i < rs.length) : ∀ (m j : Nat) (nx : Int), j + m = rs.length → i < j → -1 ≤ nx → nx < (j : Int) →
    Ev (fun k => waveletref20_next.l0 k (i : Int) nx (j : Int) rs ds) (scanP rs ds i m j nx)
  | 0, j, nx, hj, hij, h0, h1 => Ev.step (fun k => by simp only [waveletref20_next.l0]; rw [if_neg (by omega)]; rfl) (Ev.now _)
  | m + 1, j, nx, hj, hij, h0, h1 => by
    have hld := hV.1
    have h179 := hV.2.2.1
    have hw : wrap64 ((j : Int) + 1) = ((j + 1 : Nat) : Int) := by rw [wrap_id (by omega) (by omega)]; omega
    simp only [scanP]
    by_cases hy : el ds j < el ds i
    · by_cases hn : nx < 0
      · have hb : betterP rs ds i j nx = true := by unfold betterP; rw [if_pos hn]
        rw [hb, decide_eq_true hy, Bool.true_and, if_pos rfl]
        refine Ev.step (fun k => ?_) (next_loop rs ds hV i hi m (j + 1) (j : Int) (by omega) (by omega) (by omega) (by omega))
        simp only [waveletref20_next.l0, rd_el]
        rw [if_pos (by omega), if_pos (by omega), if_pos (by omega), if_pos (by omega), if_pos (by omega), if_neg (by omega), if_pos hn, hw]
      · obtain ⟨q, rfl⟩ : ∃ q : Nat, nx = (q : Int) := ⟨nx.toNat, by omega⟩
        have ri := hV.rate hi
        have rj := hV.rate (show j < rs.length by omega)
        have rq := hV.rate (show q < rs.length by omega)
        have di := hV.dist hi
        have dj := hV.dist (show j < rs.length by omega)
        have dq := hV.dist (show q < rs.length by omega)
        have hb : betterP rs ds i j (q : Int) = (decide (stP (el ds i - el ds j) (el rs j - el rs i) (el ds i - el ds q) (el rs q - el rs i) > 0) ||
            (stP (el ds i - el ds j) (el rs j - el rs i) (el ds i - el ds q) (el rs q - el rs i) == 0 && decide (el ds j < el ds q))) := by
          unfold betterP; rw [if_neg hn]; rfl
        rw [hb, decide_eq_true hy, Bool.true_and]
        have st := rsteeper_ev (el ds i - el ds j) (el rs j - el rs i) (el ds i - el ds q) (el rs q - el rs i)
        generalize stP (el ds i - el ds j) (el rs j - el rs i) (el ds i - el ds q) (el rs q - el rs i) = s at *
        have fin : ∀ b : Bool, Ev (fun k => waveletref20_next.j1 k (i : Int) (q : Int) (j : Int) b rs ds) (scanP rs ds i m (j + 1) (if b = true then (j : Int) else (q : Int))) := by
          intro b
          cases b with
          | true =>
            rw [if_pos rfl]
            exact Ev.step (fun k => by simp only [waveletref20_next.j1]; rw [if_pos trivial, hw]) (next_loop rs ds hV i hi m (j + 1) (j : Int) (by omega) (by omega) (by omega) (by omega))
          | false =>
            rw [if_neg (by simp)]
            exact Ev.step (fun k => by simp only [waveletref20_next.j1]; rw [if_neg (by simp), hw]) (next_loop rs ds hV i hi m (j + 1) (q : Int) (by omega) (by omega) (by omega) (by omega))
        refine Ev.step (f := fun k => (waveletref20_Steeper.f k (el ds i - el ds j) (el rs j - el rs i) (el ds i - el ds q) (el rs q - el rs i)).bind fun t201 => (if t201 > 0 then (waveletref20_next.j1 k i q j true rs ds) else (if t201 = 0 then (waveletref20_next.j1 k i q j (decide (el ds j < el ds q)) rs ds) else (waveletref20_next.j1 k i q j false rs ds)))) (fun k => ?_) ?_
        · simp only [waveletref20_next.l0, rd_el]
          rw [if_pos (by omega), if_pos (by omega), if_pos (by omega), if_pos (by omega), if_pos (by omega), if_neg (by omega), if_neg hn, if_pos (by omega), if_pos (by omega), if_pos (by omega), if_pos (by omega)]
          rw [wrap_id (x := el ds i - el ds j) (by omega) (by omega), wrap_id (x := el rs j - el rs i) (by omega) (by omega), wrap_id (x := el ds i - el ds q) (by omega) (by omega), wrap_id (x := el rs q - el rs i) (by omega) (by omega)]
        · refine Ev.bind st ?_
          by_cases hs : s > 0
          · rw [decide_eq_true hs, Bool.true_or]
            exact Ev.congr (fun k => by rw [if_pos hs]) (fin true)
          · rw [decide_eq_false hs, Bool.false_or]
            by_cases hz : s = 0
            · rw [show (s == 0) = true by simp [hz], Bool.true_and]
              exact Ev.congr (fun k => by rw [if_neg hs, if_pos hz]) (fin (decide (el ds j < el ds q)))
            · rw [show (s == 0) = false by simp [hz], Bool.false_and]
              exact Ev.congr (fun k => by rw [if_neg hs, if_neg hz]) (fin false)
    · rw [decide_eq_false hy, Bool.false_and, if_neg (by simp)]
      refine Ev.step (fun k => ?_) (next_loop rs ds hV i hi m (j + 1) nx (by omega) (by omega) (by omega) (by omega))
      simp only [waveletref20_next.l0, rd_el]
      rw [if_pos (by omega), if_pos (by omega), if_pos (by omega), if_pos (by omega), if_pos (by omega), if_pos (by omega), hw]
theorem next_ev (rs ds : List Int) (hV : Vld rs ds) (i : Nat) (hi : i < rs.length) : Ev (fun k => waveletref20_next.f k rs ds (i : Int)) (nextP rs ds i) := by
  have h179 := hV.2.2.1
  have hw : wrap64 ((i : Int) + 1) = ((i + 1 : Nat) : Int) := by rw [wrap_id (by omega) (by omega)]; omega
  exact Ev.congr (fun k => by simp only [waveletref20_next.f]; rw [hw]) (next_loop rs ds hV i hi (rs.length - (i + 1)) (i + 1) (-1) (by omega) (by omega) (by omega) (by omega))
theorem rpoints_loop (rs ds : List Int) (hV : Vld rs ds) : ∀ (f i : Nat) (acc : List Int), i < rs.length → rs.length ≤ f + i → acc.length ≤ i → Ev (fun k => waveletref20_Points.l0 k acc (i : Int) rs ds) (acc ++ chainP rs ds f i)
  | 0, i, acc, hi, hf, ha => by omega
  | f + 1, i, acc, hi, hf, ha => by
    have h179 := hV.2.2.1
    refine Ev.step (f := fun k => (waveletref20_next.f k rs ds (i : Int)).bind fun t209 => (waveletref20_Points.l0 k (acc ++ [(i : Int)]) t209 rs ds)) (fun k => by simp only [waveletref20_Points.l0]; rw [if_pos (by omega), if_pos (by omega)]) ?_
    refine Ev.bind (next_ev rs ds hV i hi) ?_
    simp only [chainP]
    have hb := next_bound rs ds i hi
    by_cases hn : nextP rs ds i < 0
    · rw [if_pos hn]
      exact Ev.step (fun k => by simp only [waveletref20_Points.l0]; rw [if_neg (by omega)]) (Ev.now _)
    · rw [if_neg hn]
      have ih := rpoints_loop rs ds hV f (nextP rs ds i).toNat (acc ++ [(i : Int)]) (by omega) (by omega) (by simp; omega)
      rw [Int.toNat_of_nonneg (by omega), List.append_assoc] at ih
      exact ih
theorem rpoints_ev (rs ds : List Int) : Ev (fun k => waveletref20_Points.f k rs ds) (pointsP rs ds) := by
  refine Ev.congr (fun k => by simp only [waveletref20_Points.f]; rfl) ?_
  refine Ev.bind (rvalid_ev rs ds) ?_
  unfold pointsP
  by_cases hv : validB rs ds = true
  · rw [if_pos hv, hv]
    have hV : Vld rs ds := of_decide_eq_true hv
    have h1 := hV.2.1
    exact Ev.congr (fun k => by rw [if_pos rfl]; rfl) (rpoints_loop rs ds hV rs.length 0 [] (by omega) (by omega) (by simp))
  · rw [if_neg hv, Bool.eq_false_iff.2 hv]
    exact Ev.congr (fun k => by rw [if_neg (by simp)]) (Ev.now _)
end Go.Proofs.Ytgijikbekckanaa.P
