/- The printed law AllocCost. No program is in sight. -/
import Derived.Test.YtgmadhlebpbcpaaAlo
import Derived.Test.YtgmadhlebpbcpaaPx14
import Derived.Test.YtgmadhlebpbcpaaPx15
set_option linter.unusedVariables false
set_option linter.unusedSimpArgs false
namespace Go.Proofs.Ytgmadhlebpbcpaa.P
open Go.RowKit Go.Proofs.YtgmadhlebpbcpaaW.PrintWords Go.Proofs.YtgmadhlebpbcpaaW.PrintLast Go.Proofs.YtgmadhlebpbcpaaW.PrintMore

/-! ### Cost -/
theorem cost_loop (l : List S37) (ch : List Int) (hV : allV l) (hc : ch.length = l.length) : ∀ (m i : Nat) (a b : Int), i + m = l.length →
    ∃ r, Ev (fun k => alloc_Cost.l0 k ch a b l (l.length : Int) (i : Int)) r ∧ Ev (fun k => waveletref21_Cost.l0 k ch a b l (l.length : Int) (i : Int)) r
  | 0, i, a, b, hi => ⟨_, Ev.step (fun k => by simp only [alloc_Cost.l0]; rw [if_neg (by omega)]) (Ev.now _), Ev.step (fun k => by simp only [waveletref21_Cost.l0]; rw [if_neg (by omega)]) (Ev.now _)⟩
  | m + 1, i, a, b, hi => by
    have hlt : i < l.length := by omega
    have h1 := hV.1
    have hv := hV.2 l[i] (List.getElem_mem hlt)
    have hld := hv.1
    have hw : wrap64 ((i : Int) + 1) = ((i + 1 : Nat) : Int) := by rw [wrap_id (by omega) (by omega)]; omega
    have e1 : ∀ k, alloc_Cost.l0 (k + 1) ch a b l (l.length : Int) (i : Int) = alloc_Cost.j1 k ch a b (rd ch i) l (l.length : Int) (i : Int) (decide (rd ch i < 0 ∨ rd ch i ≥ (l[i].f0.length : Int))) l[i].f0 l[i].f1 := fun k => by
      simp only [alloc_Cost.l0]
      rw [if_pos (by omega), if_pos (by omega), if_pos (by omega), if_pos (by omega), rd37_nat l i hlt]
      by_cases h : rd ch i < 0
      · rw [if_pos h, decide_eq_true (Or.inl h)]
      · rw [if_neg h]
        congr 1
        rw [decide_eq_decide]
        simp [h]
    have e2 : ∀ k, waveletref21_Cost.l0 (k + 1) ch a b l (l.length : Int) (i : Int) = waveletref21_Cost.j1 k ch a b (i : Int) l (l.length : Int) (i : Int) (decide (rd ch i < 0 ∨ rd ch i ≥ (l[i].f0.length : Int))) l[i].f0 l[i].f1 := fun k => by
      simp only [waveletref21_Cost.l0]
      rw [if_pos (by omega), if_pos (by omega), if_pos (by omega), if_pos (by omega), rd37_nat l i hlt]
      by_cases h : rd ch i < 0
      · rw [if_pos h, decide_eq_true (Or.inl h)]
      · rw [if_neg h]
        congr 1
        rw [decide_eq_decide]
        simp [h]
    by_cases hb : rd ch i < 0 ∨ rd ch i ≥ (l[i].f0.length : Int)
    · refine ⟨(0, 0, 2), Ev.step (fun k => e1 k) (Ev.step (fun k => ?_) (Ev.now _)), Ev.step (fun k => e2 k) (Ev.step (fun k => ?_) (Ev.now _))⟩
      · rw [decide_eq_true hb]; simp only [alloc_Cost.j1]; rw [if_pos trivial]
      · rw [decide_eq_true hb]; simp only [waveletref21_Cost.j1]; rw [if_pos trivial]
    · obtain ⟨r, h1, h2⟩ := cost_loop l ch hV hc m (i + 1) (wrap64 (a + rd l[i].f0 (rd ch i))) (wrap64 (b + rd l[i].f1 (rd ch i))) (by omega)
      refine ⟨r, Ev.step (fun k => e1 k) (Ev.step (fun k => ?_) h1), Ev.step (fun k => e2 k) (Ev.step (fun k => ?_) h2)⟩
      · rw [decide_eq_false hb]; simp only [alloc_Cost.j1]; rw [if_neg (by simp), if_pos (by omega), if_pos (by omega), if_pos (by omega), hw]
      · rw [decide_eq_false hb]; simp only [waveletref21_Cost.j1]; rw [if_neg (by simp), if_pos (by omega), if_pos (by omega), if_pos (by omega), if_pos (by omega), if_pos (by omega), hw]
theorem cost_both (l : List S37) (ch : List Int) : ∃ r, Ev (fun k => alloc_Cost.f k l ch) r ∧ Ev (fun k => waveletref21_Cost.f k l ch) r := by
  by_cases hc : chkP l = 0
  · by_cases hn : (ch.length : Int) = (l.length : Int)
    · obtain ⟨r, h1, h2⟩ := cost_loop l ch (chk_zero hc) (by omega) l.length 0 0 0 (by omega)
      refine ⟨r, Ev.congr (fun k => by simp only [alloc_Cost.f]; rfl) (Ev.bind (check_ev l) (Ev.congr (fun k => by rw [if_pos hc, if_pos hn]; rfl) h1)), Ev.congr (fun k => by simp only [waveletref21_Cost.f]; rfl) (Ev.bind (rcheck_ev l) (Ev.congr (fun k => by rw [if_pos hc, if_pos hn]; rfl) h2))⟩
    · refine ⟨(0, 0, 4), Ev.congr (fun k => by simp only [alloc_Cost.f]; rfl) (Ev.bind (check_ev l) (Ev.congr (fun k => by rw [if_pos hc, if_neg hn]) (Ev.now _))), Ev.congr (fun k => by simp only [waveletref21_Cost.f]; rfl) (Ev.bind (rcheck_ev l) (Ev.congr (fun k => by rw [if_pos hc, if_neg hn]) (Ev.now _)))⟩
  · refine ⟨(0, 0, chkP l), Ev.congr (fun k => by simp only [alloc_Cost.f]; rfl) (Ev.bind (check_ev l) (Ev.congr (fun k => by rw [if_neg hc]) (Ev.now _))), Ev.congr (fun k => by simp only [waveletref21_Cost.f]; rfl) (Ev.bind (rcheck_ev l) (Ev.congr (fun k => by rw [if_neg hc]) (Ev.now _)))⟩

theorem law_cost (l : List S37) (ch : List Int) : Ev (fun k => waveletlaw21_AllocCost.f k l ch) true := by
  obtain ⟨b, hb, _⟩ := few_any l
  refine Ev.congr (fun k => by simp only [waveletlaw21_AllocCost.f]; rfl) (Ev.bind hb ?_)
  have j : ∀ x, Ev (fun k => waveletlaw21_AllocCost.j0 k l ch x) true := fun x => by
    cases x with
    | true => exact Ev.step (fun k => by simp only [waveletlaw21_AllocCost.j0]; rw [if_pos trivial]) example_bind
    | false =>
      obtain ⟨r, h1, h2⟩ := cost_both l ch
      refine Ev.step (fun k => by simp only [waveletlaw21_AllocCost.j0]; rw [if_neg (by simp)]) (Ev.bind h1 (Ev.bind h2 ?_))
      exact Ev.congr (fun k => by rw [if_pos rfl, if_pos rfl, if_pos rfl]) example_bind
  cases b with
  | true => exact Ev.congr (fun k => by rw [if_pos rfl]) (j _)
  | false => exact Ev.congr (fun k => by rw [if_neg (by simp)]) (j _)
end Go.Proofs.Ytgmadhlebpbcpaa.P
