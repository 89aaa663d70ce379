/- A list is the same as itself. -/
import Derived.Test.YtnckglnnojcdmaaPuE
import Derived.Test.YtnckglnnojcdmaaPuG
import Derived.Test.YtnckglnnojcdmaaPx9
set_option linter.unusedVariables false
set_option linter.unusedSimpArgs false
namespace Go.Proofs.Ytnckglnnojcdmaa.P
open Go.RowKit Go.Proofs.YtnckglnnojcdmaaW.PrintWords Go.Proofs.YtnckglnnojcdmaaW.PrintLast

theorem same_loop (l : List S42) (hl : l.length ≤ 1000000) : ∀ (m i : Nat), i + m = l.length → Ev (fun k => waveletref47_Same.l0 k l l (l.length : Int) (i : Int)) true
  | 0, i, hi => Ev.step (fun k => by simp only [waveletref47_Same.l0]; rw [if_neg (by omega)]) (Ev.now _)
  | m + 1, i, hi => Ev.step (fun k => by
      simp only [waveletref47_Same.l0]
      rw [if_pos (by omega), if_pos (by omega), if_pos (by omega), if_pos (by omega), if_neg (by simp), wrap_id (by omega) (by omega)]; rfl) (same_loop l hl m (i + 1) (by omega))
theorem same_ok (l : List S42) (hl : l.length ≤ 1000000) : Ev (fun k => waveletref47_Same.f k l l) true :=
  Ev.congr (fun k => by simp only [waveletref47_Same.f]; rw [if_pos trivial]; rfl) (same_loop l hl l.length 0 (by omega))
theorem find_in (key : ByteArray) (l : List S42) : findL key l 0 < 0 ↔ ¬ In key l := by
  have := find_get key l 0 (by omega)
  rw [List.drop_zero] at this
  rcases this with ⟨h1, h2⟩ | ⟨j, hj, h1, _, he, h2⟩
  · rw [h1]
    constructor
    · intro _ ⟨y, hy, e⟩
      have : ∀ (l : List S42), getL key l = (emptyS, false) → ∀ y ∈ l, ¬ y.f0 = key := by
        intro l
        induction l with
        | nil => intro _ y hy; cases hy
        | cons x l ih =>
          intro h y hy
          simp only [getL] at h
          split at h
          · injection h with _ h; cases h
          · rename_i hne
            rcases List.mem_cons.1 hy with rfl | hy
            · intro e; exact hne (by rw [e])
            · exact ih h y hy
      exact this l h2 y hy e
    · intro _; omega
  · rw [h1]
    constructor
    · intro h; omega
    · intro h; exact absurd ⟨l[j], List.getElem_mem hj, toL_inj he⟩ h
end Go.Proofs.Ytnckglnnojcdmaa.P
