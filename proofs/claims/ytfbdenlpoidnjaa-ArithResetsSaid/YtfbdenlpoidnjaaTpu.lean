/- Terminate's codeword in plain terms. -/
import Derived.Test.YtfbdenlpoidnjaaCho
set_option linter.unusedVariables false
set_option linter.unusedSimpArgs false
namespace Go.Proofs.Ytfbdenlpoidnjaa.P
open Go.RowKit Go.Proofs.YtfbdenlpoidnjaaW.PrintWords

/-- Without the zeros at the end. -/
def trimR : List Int → List Int
  | [] => []
  | x :: r => if x = 0 then trimR r else x :: r
def trimP (l : List Int) : List Int := (trimR l.reverse).reverse
def lit4P (v : Int) : List Int := [v / 16777216, v / 65536 % 256, v / 256 % 256, v % 256]
def fullP (s : EncS) : List Int := (if (chooseP s.low s.size).2 then carryP s.out else s.out) ++ lit4P (chooseP s.low s.size).1
def termP (s : EncS) : List Int := trimP (fullP s)
def termE (s : EncS) : EncS := ⟨s.p, [], 0, 4294967295, false⟩
theorem chooseP_bd {low size : Int} (l0 : 0 ≤ low) (l1 : low ≤ 4294967295) : 0 ≤ (chooseP low size).1 ∧ (chooseP low size).1 ≤ 4294967295 := by
  have hc : ∀ m : Int, 0 < m → 0 ≤ ceilP low m := fun m hm => Int.mul_nonneg (Int.ediv_nonneg (by omega) (by omega)) (by omega)
  have c1 := hc 16777216 (by decide)
  have c2 := hc 65536 (by decide)
  have c3 := hc 256 (by decide)
  unfold chooseP
  split
  · exact ⟨Int.le_refl _, by decide⟩
  · split
    · exact ⟨Int.le_refl _, by decide⟩
    · split
      · exact ⟨c1, by omega⟩
      · split
        · exact ⟨c2, by omega⟩
        · split
          · exact ⟨c3, by omega⟩
          · exact ⟨l0, l1⟩
theorem termE_ok {s : EncS} (h : EncOk s) : EncOk (termE s) := ⟨h.p0, h.p1, h.p, (fun z hz => by cases hz), by show (0 : Int) ≤ 0; omega, by show (0 : Int) ≤ 4294967295; omega, by show (16777216 : Int) ≤ 4294967295; omega, by show (4294967295 : Int) ≤ 4294967295; omega⟩
theorem take_last {l : List Int} {n : Nat} (h : n < l.length) : l.take (n + 1) = l.take n ++ [rd l (n : Int)] := by
  rw [List.take_succ_eq_append_getElem h]
  unfold rd
  rw [Int.toNat_natCast, List.getD_eq_getElem?_getD, List.getElem?_eq_getElem h]
  rfl
theorem trimP_zero {l : List Int} {n : Nat} (h : n < l.length) (hz : rd l (n : Int) = 0) : trimP (l.take (n + 1)) = trimP (l.take n) := by
  rw [take_last h, hz]
  unfold trimP
  rw [List.reverse_append, List.reverse_singleton, List.singleton_append, trimR, if_pos rfl]
theorem trimP_last {l : List Int} {n : Nat} (h : n < l.length) (hz : ¬ rd l (n : Int) = 0) : trimP (l.take (n + 1)) = l.take (n + 1) := by
  rw [take_last h]
  unfold trimP
  rw [List.reverse_append, List.reverse_singleton, List.singleton_append, trimR, if_neg hz, List.reverse_cons, List.reverse_reverse]
theorem lit4_C (w : World) (a b c d : Int) : (Kd.int .u8).C (w.alloc (.cells #[.int .u8 a, .int .u8 b, .int .u8 c, .int .u8 d] 5)) (some ⟨w.heap.size, 0, none⟩) 4 [a, b, c, d] := by
  obtain ⟨A, n, hA, hr⟩ := own_reads (own_lit w 0 5 .u8 [a, b, c, d] (Nat.zero_le _) (by simp))
  injection hA with h1 h2 h3
  subst h1
  exact Kd.C_of_reads (enc := Value.int .u8) (d := (0 : Int)) (h1 := fun _ => rfl) hr
end Go.Proofs.Ytfbdenlpoidnjaa.P
