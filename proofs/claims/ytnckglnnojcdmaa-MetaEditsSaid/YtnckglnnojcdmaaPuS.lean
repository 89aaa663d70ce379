/- A list is the same as itself. -/
import Derived.Test.YtnckglnnojcdmaaPuE
import Derived.Test.YtnckglnnojcdmaaPx9
set_option linter.unusedVariables false
set_option linter.unusedSimpArgs false
namespace Go.Proofs.Ytnckglnnojcdmaa.P
open Go.RowKit Go.Proofs.YtnckglnnojcdmaaW.PrintWords Go.Proofs.YtnckglnnojcdmaaW.PrintLast

theorem same_loop (l : List S42) (hl : l.length ≤ 1000000) : ∀ (m i : Nat), i + m = l.length → Ev (fun k => waveletref47_Same.l0 k l l (l.length : Int) (i : Int)) true
  | 0, i, hi => Ev.step (fun k => by simp only [waveletref47_Same.l0]; rw [if_neg (by omega)]) (Ev.now _)
  | m + 1, i, hi => Ev.step (fun k => by
      simp only [waveletref47_Same.l0]
      rw [if_pos (by omega), if_pos (by omega), if_pos (by omega), if_pos (by omega), if_neg (by simp), wrap_id (by omega) (by omega)]; rfl) (same_loop l hl m (i + 1) (by omega))
theorem same_ok (l : List S42) (hl : l.length ≤ 1000000) : Ev (fun k => waveletref47_Same.f k l l) true :=
  Ev.congr (fun k => by simp only [waveletref47_Same.f]; rw [if_pos trivial]; rfl) (same_loop l hl l.length 0 (by omega))
end Go.Proofs.Ytnckglnnojcdmaa.P
