/- The printed law AllocChoose. No program is in sight. -/
import Derived.Test.YtgmadhlebpbcpaaAlR
import Derived.Test.YtgmadhlebpbcpaaPx16
set_option linter.unusedVariables false
set_option linter.unusedSimpArgs false
namespace Go.Proofs.Ytgmadhlebpbcpaa.P
open Go.RowKit Go.Proofs.YtgmadhlebpbcpaaW.PrintWords Go.Proofs.YtgmadhlebpbcpaaW.PrintLast Go.Proofs.YtgmadhlebpbcpaaW.PrintMore

theorem law_choose (l : List S37) (b : Int) (h0 : -9223372036854775808 ≤ b) (h1 : b ≤ 9223372036854775807) : Ev (fun k => waveletlaw21_AllocChoose.f k l b) true := by
  obtain ⟨f, hf, _⟩ := few_any l
  refine Ev.congr (fun k => by simp only [waveletlaw21_AllocChoose.f]; rfl) (Ev.bind hf ?_)
  cases f with
  | true =>
    refine Ev.congr (fun k => by rw [if_pos rfl]) (Ev.bind (choose_ev l b h0 h1) (Ev.bind (rchoose_ev l b h0 h1) (Ev.bind (sameInts_refl (chooseP l b).1 (by have := choose_len l b; omega)) ?_)))
    exact Ev.congr (fun k => by rw [if_pos rfl, if_pos rfl]) example_bind
  | false => exact Ev.congr (fun k => by rw [if_neg (by simp)]) example_bind

end Go.Proofs.Ytgmadhlebpbcpaa.P
