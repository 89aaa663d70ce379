/- The printed law AllocLimits. No program is in sight. -/
import Derived.Test.YtgmadhlebpbcpaaAlo
import Derived.Test.YtgmadhlebpbcpaaPx5
import Derived.Test.YtgmadhlebpbcpaaPx13
set_option linter.unusedVariables false
set_option linter.unusedSimpArgs false
namespace Go.Proofs.Ytgmadhlebpbcpaa.P
open Go.RowKit Go.Proofs.YtgmadhlebpbcpaaW.PrintWords Go.Proofs.YtgmadhlebpbcpaaW.PrintLast Go.Proofs.YtgmadhlebpbcpaaW.PrintMore

/-! ### limits -/
theorem law_limits (x : Int) (bs : List Int) (hw : ∀ b ∈ bs, -9223372036854775808 ≤ b ∧ b ≤ 9223372036854775807) : Ev (fun k => waveletlaw21_AllocLimits.f k x bs) true := by
  have yes : Ev (fun k => waveletlaw21_AllocLimits.j0 k x bs true) true := Ev.step (fun k => by simp only [waveletlaw21_AllocLimits.j0]; rw [if_pos trivial]) example_bind
  by_cases h1 : x < 1
  · exact Ev.congr (fun k => by simp only [waveletlaw21_AllocLimits.f]; rw [if_pos h1]) yes
  · by_cases h2 : x > 10
    · exact Ev.congr (fun k => by simp only [waveletlaw21_AllocLimits.f]; rw [if_neg h1, if_pos h2]) yes
    · by_cases h3 : (bs.length : Int) > 200
      · exact Ev.congr (fun k => by simp only [waveletlaw21_AllocLimits.f]; rw [if_neg h1, if_neg h2, decide_eq_true h3]) yes
      · refine Ev.congr (fun k => by simp only [waveletlaw21_AllocLimits.f]; rw [if_neg h1, if_neg h2, decide_eq_false h3]) ?_
        have hwx : wrap64 (65536 + x) = 65536 + x := wrap_id (by omega) (by omega)
        obtain ⟨l, hl⟩ : ∃ l, l = List.replicate (65536 + x).toNat z37 := ⟨_, rfl⟩
        have hln : l.length > 65536 := by rw [hl, List.length_replicate]; omega
        have hc : chkP l = 5 := by unfold chkP; rw [if_pos hln]
        have c1 : Ev (fun k => alloc_Cost.f k l []) (0, 0, 5) := Ev.congr (fun k => by simp only [alloc_Cost.f]; rfl) (Ev.bind (check_ev l) (Ev.congr (fun k => by rw [hc, if_neg (by omega)]) (Ev.now _)))
        have c2 := choose_ev l (-5) (by omega) (by omega)
        rw [show chooseP l (-5) = ([], 5) by unfold chooseP; rw [hc, if_neg (by omega)]] at c2
        have c3 : Ev (fun k => alloc_Layers.f k l bs) ([], 5) := Ev.congr (fun k => by simp only [alloc_Layers.f]; rw [if_pos (by omega)]) (Ev.step (fun k => by simp only [alloc_Layers.j0]; rw [if_pos trivial]) (Ev.now _))
        obtain ⟨z, hz⟩ : ∃ z, z = ([(⟨([] : List Int), ([] : List Int)⟩ : S37)] : List (S37)) := ⟨_, rfl⟩
        have hzc : chkP z = 1 := by rw [hz]; decide +kernel
        have c4 : ∃ e : Int, Ev (fun k => alloc_Layers.f k z bs) ([], e) ∧ ((e == 5) == decide ((bs.length : Int) > 16)) = true := by
          have hz1 : ¬ (z.length : Int) > 65536 := by rw [hz]; simp
          by_cases h4 : (bs.length : Int) > 16
          · exact ⟨5, Ev.congr (fun k => by simp only [alloc_Layers.f]; rw [if_neg hz1, decide_eq_true h4]) (Ev.step (fun k => by simp only [alloc_Layers.j0]; rw [if_pos trivial]) (Ev.now _)), by rw [decide_eq_true h4]; rfl⟩
          · exact ⟨1, Ev.congr (fun k => by simp only [alloc_Layers.f]; rw [if_neg hz1, decide_eq_false h4]) (Ev.step (fun k => by simp only [alloc_Layers.j0]; rw [if_neg (by simp)]) (Ev.bind (check_ev z) (Ev.congr (fun k => by rw [hzc, if_neg (by omega)]) (Ev.now _)))), by rw [decide_eq_false h4]; rfl⟩
        obtain ⟨e, c4, c5⟩ := c4
        refine Ev.step (fun k => by simp only [waveletlaw21_AllocLimits.j0]; rw [if_neg (by simp), hwx, if_pos (by omega), if_pos (by omega), Option.bind_some, ← hl, ← hz]) ?_
        refine Ev.bind c1 (Ev.bind c2 (Ev.bind c3 (Ev.bind c4 ?_)))
        refine Ev.congr (fun k => by rw [if_pos rfl, if_pos rfl]) (Ev.step (fun k => ?_) example_bind)
        simp only [waveletlaw21_AllocLimits.j1]
        rw [if_neg (by simp), if_pos c5]
end Go.Proofs.Ytgmadhlebpbcpaa.P
