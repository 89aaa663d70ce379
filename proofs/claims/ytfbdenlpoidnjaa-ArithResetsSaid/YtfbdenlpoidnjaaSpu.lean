/- What Start and Decode compute, in plain terms. -/
import Derived.Test.YtfbdenlpoidnjaaDnx
set_option linter.unusedVariables false
set_option linter.unusedSimpArgs false
namespace Go.Proofs.Ytfbdenlpoidnjaa.P
open Go.RowKit Go.Proofs.YtfbdenlpoidnjaaW.PrintWords

theorem nextP_bd {data : List Int} (h : Byt data) (a : Nat) : 0 ≤ nextP data a ∧ nextP data a < 256 := by
  unfold nextP
  split
  · rename_i hl
    unfold rd
    rw [Int.toNat_natCast, List.getD_eq_getElem?_getD, List.getElem?_eq_getElem hl]
    exact h _ (List.getElem_mem hl)
  · omega
/-- So many bytes behind a value. -/
def pullP (data : List Int) : Nat → Nat → Int → Nat × Int
  | 0, a, v => (a, v)
  | n + 1, a, v => pullP data n (nextA data a) (v * 256 + nextP data a)
/-- Start's answer. -/
def startD (s : DecS) (data : List Int) : DecS :=
  let t := pullP data 4 0 0
  ⟨s.p, data, (t.1 : Int), min t.2 4294967294, 4294967295, true⟩
theorem pullP_bd {data : List Int} (h : Byt data) : ∀ (n a : Nat) (v : Int), 0 ≤ v → 0 ≤ (pullP data n a v).2 ∧ (pullP data n a v).2 < (v + 1) * 256 ^ n ∧ (pullP data n a v).1 ≤ max a data.length
  | 0, a, v, hv => by
    rw [pullP]
    exact ⟨hv, by simp; omega, by omega⟩
  | n + 1, a, v, hv => by
    have hb := nextP_bd h a
    obtain ⟨i1, i2, i3⟩ := pullP_bd h n (nextA data a) (v * 256 + nextP data a) (by omega)
    rw [pullP]
    refine ⟨i1, ?_, ?_⟩
    · refine Int.lt_of_lt_of_le i2 ?_
      rw [Int.pow_succ', ← Int.mul_assoc]
      exact Int.mul_le_mul_of_nonneg_right (by omega) (Int.pow_nonneg (by omega))
    · refine Nat.le_trans i3 ?_
      unfold nextA
      split <;> omega
end Go.Proofs.Ytfbdenlpoidnjaa.P
