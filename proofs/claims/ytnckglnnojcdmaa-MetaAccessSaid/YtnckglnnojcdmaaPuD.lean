/- Plain lemmas on the printed functions of layer 47: the chapter's examples hold; the laws of Check. No program is in sight. -/
import Derived.Test.YtnckglnnojcdmaaPuC
set_option linter.unusedVariables false
set_option linter.unusedSimpArgs false
namespace Go.Proofs.Ytnckglnnojcdmaa.P
open Go.RowKit Go.Proofs.YtnckglnnojcdmaaW.PrintWords Go.Proofs.YtnckglnnojcdmaaW.PrintLast

theorem awake_ok : Ev (fun k => waveletlaw47_awake.f k) true := Ev.of waveletlaw47_awake.mono (k := 12) (by decide +kernel)

theorem law_checks (l : List S42) : Ev (fun k => waveletlaw47_MetaChecks.f k l) true := by
  obtain ⟨b, hb, hf⟩ := few_any l
  refine Ev.congr (fun k => by simp only [waveletlaw47_MetaChecks.f]; rfl) ?_
  refine Ev.bind hb ?_
  have ha : Ev (fun k => (waveletlaw47_awake.f k).bind fun t165 => (some t165)) true := Ev.bind awake_ok (Ev.now _)
  cases b with
  | false => exact Ev.congr (fun k => by rw [if_neg (by simp)]) ha
  | true =>
    refine Ev.congr (fun k => by rw [if_pos rfl]) ?_
    refine Ev.bind (chk l) ?_
    refine Ev.bind (rchk l) ?_
    exact Ev.congr (fun k => by rw [if_pos rfl]) ha
end Go.Proofs.Ytnckglnnojcdmaa.P
