/- Plain lemmas on the printed functions of layer 47: the two readings of values (code points), and the two Checks. No program is in sight. -/
import Derived.Test.YtnckglnnojcdmaaPuA
import Derived.Lib.DecodeN
import Derived.Lib.RuneCountTail
import Derived.Lib.QuoteLoop
set_option linter.unusedVariables false
set_option linter.unusedSimpArgs false
namespace Go.Proofs.Ytnckglnnojcdmaa.P
open Go.RowKit Go.Proofs.YtnckglnnojcdmaaW.PrintWords Go.Proofs.YtnckglnnojcdmaaW.PrintLast

/-- Byte i as a number, 0 beyond the end. -/
def gb (t : ByteArray) (i : Nat) : Nat := (t.get! i).toNat
theorem gb_at (t : ByteArray) (i : Nat) (h : i < t.size) : gb t i = (t[i]'h).toNat := by
  unfold gb
  rw [show t.get! i = t[i]'h from get_at t i h]
theorem gb_lt (t : ByteArray) (i : Nat) : gb t i < 256 := UInt8.toNat_lt _
theorem bt_gb (t : ByteArray) (i : Nat) (h : i < t.size) : wrap64 (bt t (i : Int)) = (gb t i : Int) := by
  rw [bt_nat t i h, gb_at t i h, wrap_id (by omega) (by have := (t[i]'h).toNat_lt; omega)]

/-- What the reference's size answers at the end of its loop. -/
def fin (n v least : Nat) : Int × Int := if v < least ∨ v > 1114111 ∨ (55296 ≤ v ∧ v < 57344) then (0, 0) else ((n : Int), (v : Int))
theorem size_end (t : ByteArray) (n v least : Nat) : Ev (fun k => waveletref47_size.l0 k t (n : Int) (v : Int) (least : Int) (n : Int)) (fin n v least) := by
  refine Ev.step (f := fun _ => some (fin n v least)) (fun k => ?_) (Ev.now _)
  simp only [waveletref47_size.l0, fin]
  rw [if_neg (by omega)]
  repeat' split
  all_goals first | rfl | (exfalso; omega)
theorem size_bad (t : ByteArray) (n v least i : Nat) (hi : i < n) (ht : i < t.size) (hb : gb t i < 128 ∨ 192 ≤ gb t i) : Ev (fun k => waveletref47_size.l0 k t (n : Int) (v : Int) (least : Int) (i : Int)) (0, 0) := by
  refine Ev.step (f := fun _ => some ((0, 0) : Int × Int)) (fun k => ?_) (Ev.now _)
  simp only [waveletref47_size.l0]
  rw [if_pos (by omega), if_pos (by omega), if_pos (by omega), bt_gb t i ht]
  repeat' split
  all_goals first | rfl | (exfalso; omega)
theorem size_step (t : ByteArray) (n v least i : Nat) (hi : i < n) (hn : n ≤ 4) (hv : v ≤ 2000000) (ht : i < t.size) (h1 : 128 ≤ gb t i) (h2 : gb t i < 192) {r : Int × Int}
    (h : Ev (fun k => waveletref47_size.l0 k t (n : Int) ((v * 64 + (gb t i - 128) : Nat) : Int) (least : Int) ((i + 1 : Nat) : Int)) r) : Ev (fun k => waveletref47_size.l0 k t (n : Int) (v : Int) (least : Int) (i : Int)) r := by
  refine Ev.step (fun k => ?_) h
  simp only [waveletref47_size.l0]
  rw [if_pos (by omega), if_pos (by omega), if_pos (by omega), bt_gb t i ht, if_neg (by omega), if_neg (by omega)]
  rw [wrap_id (x := (v : Int) * 64) (by omega) (by omega), wrap_id (x := (v : Int) * 64 + gb t i) (by omega) (by omega), wrap_id (x := (v : Int) * 64 + gb t i - 128) (by omega) (by omega), wrap_id (x := (i : Int) + 1) (by omega) (by omega)]
  rw [show (v : Int) * 64 + gb t i - 128 = ((v * 64 + (gb t i - 128) : Nat) : Int) by omega, show (i : Int) + 1 = ((i + 1 : Nat) : Int) by omega]

/-- The loop from place i on, in numbers. -/
def runN (n least size : Nat) (g : Nat → Nat) : Nat → Nat → Nat → Int × Int
  | 0, v, _ => fin n v least
  | d + 1, v, i => if g i < 128 ∨ 192 ≤ g i then (0, 0) else runN n least size g d (v * 64 + (g i - 128)) (i + 1)
theorem size_run (t : ByteArray) (n least : Nat) (hn : n ≤ 4) (hs : n ≤ t.size) : ∀ (d v i : Nat), i + d = n → 1 ≤ i → v < 32 * 64 ^ (i - 1) → Ev (fun k => waveletref47_size.l0 k t (n : Int) (v : Int) (least : Int) (i : Int)) (runN n least t.size (gb t) d v i)
  | 0, v, i, hi, _, _ => by
    obtain rfl : i = n := by omega
    exact size_end t i v least
  | d + 1, v, i, hi, h1, hv => by
    simp only [runN]
    split
    · rename_i hb
      exact size_bad t n v least i (by omega) (by omega) hb
    · rename_i hb
      have hv3 : v ≤ 2000000 := by
        have : i = 1 ∨ i = 2 ∨ i = 3 := by omega
        rcases this with rfl | rfl | rfl <;> simp at hv <;> omega
      refine size_step t n v least i (by omega) hn hv3 (by omega) (by omega) (by omega) ?_
      refine size_run t n least hn hs d _ (i + 1) (by omega) (by omega) ?_
      have : i = 1 ∨ i = 2 ∨ i = 3 := by omega
      rcases this with rfl | rfl | rfl <;> simp at hv ⊢ <;> omega

theorem size_j5 (t : ByteArray) (n d v least : Nat) (hd : n = 0 ∨ n = d + 1) (hn : n ≤ 4) (hv : v < 32) : Ev (fun k => waveletref47_size.j5 k t (n : Int) (v : Int) (least : Int)) (if n = 0 ∨ t.size < n then ((0, 0) : Int × Int) else runN n least t.size (gb t) d v 1) := by
  by_cases h0 : n = 0
  · subst h0
    rw [if_pos (.inl rfl)]
    refine Ev.step (f := fun k => waveletref47_size.j6 k t 0 (v : Int) (least : Int) true) (fun k => by simp only [waveletref47_size.j5]; rw [if_pos (by rfl)]; rfl) ?_
    exact Ev.step (fun k => by simp only [waveletref47_size.j6]; rw [if_pos trivial]) (Ev.now _)
  · by_cases hs : t.size < n
    · rw [if_pos (.inr hs)]
      refine Ev.step (f := fun k => waveletref47_size.j6 k t (n : Int) (v : Int) (least : Int) true) (fun k => by simp only [waveletref47_size.j5]; rw [if_neg (by omega), decide_eq_true (by omega)]) ?_
      exact Ev.step (fun k => by simp only [waveletref47_size.j6]; rw [if_pos trivial]) (Ev.now _)
    · rw [if_neg (by omega)]
      refine Ev.step (f := fun k => waveletref47_size.j6 k t (n : Int) (v : Int) (least : Int) false) (fun k => by simp only [waveletref47_size.j5]; rw [if_neg (by omega), decide_eq_false (by omega)]) ?_
      refine Ev.step (f := fun k => waveletref47_size.l0 k t (n : Int) (v : Int) (least : Int) 1) (fun k => by simp only [waveletref47_size.j6]; rw [if_neg (by simp)]) ?_
      exact size_run t n least hn (by omega) d v 1 (by omega) (by omega) (by simpa using hv)

/-- The reference's size, in numbers. -/
def szN (n b0 b1 b2 b3 : Nat) : Int × Int :=
  if (Lib.decodeN n b0 b1 b2 b3).1 = 65533 ∧ ¬ (3 ≤ n ∧ b0 = 239 ∧ b1 = 191 ∧ b2 = 189) then (0, 0) else (((Lib.decodeN n b0 b1 b2 b3).2 : Int), ((Lib.decodeN n b0 b1 b2 b3).1 : Int))

set_option maxHeartbeats 4000000 in
theorem run2 (n b0 b1 b2 b3 : Nat) (g : Nat → Nat) (h1 : g 1 = b1) (hb1 : b1 < 256) (h0 : 192 ≤ b0) (h0' : b0 < 224) : (if 2 = 0 ∨ n < 2 then ((0, 0) : Int × Int) else runN 2 128 n g 1 (b0 - 192) 1) = szN n b0 b1 b2 b3 := by
  simp only [szN, Lib.decodeN, runN, fin, h1]
  repeat' split
  all_goals first | (exfalso; omega) | (apply Prod.ext <;> simp only <;> omega)
set_option maxHeartbeats 4000000 in
theorem run3 (n b0 b1 b2 b3 : Nat) (g : Nat → Nat) (h1 : g 1 = b1) (h2 : g 2 = b2) (hb1 : b1 < 256) (hb2 : b2 < 256) (h0 : 224 ≤ b0) (h0' : b0 < 240) : (if 3 = 0 ∨ n < 3 then ((0, 0) : Int × Int) else runN 3 2048 n g 2 (b0 - 224) 1) = szN n b0 b1 b2 b3 := by
  simp only [szN, Lib.decodeN, runN, fin, h1, h2]
  repeat' split
  all_goals first | (exfalso; omega) | (apply Prod.ext <;> simp only <;> omega)
set_option maxHeartbeats 4000000 in
theorem run4 (n b0 b1 b2 b3 : Nat) (g : Nat → Nat) (h1 : g 1 = b1) (h2 : g 2 = b2) (h3 : g 3 = b3) (hb1 : b1 < 256) (hb2 : b2 < 256) (hb3 : b3 < 256) (h0 : 240 ≤ b0) (h0' : b0 < 248) : (if 4 = 0 ∨ n < 4 then ((0, 0) : Int × Int) else runN 4 65536 n g 3 (b0 - 240) 1) = szN n b0 b1 b2 b3 := by
  simp only [szN, Lib.decodeN, runN, fin, h1, h2, h3]
  repeat' split
  all_goals first | (exfalso; omega) | (apply Prod.ext <;> simp only <;> omega)
theorem run0 (n b0 b1 b2 b3 : Nat) (h0 : 128 ≤ b0) (h0' : b0 < 192 ∨ 248 ≤ b0) (hb : b0 < 256) : ((0, 0) : Int × Int) = szN n b0 b1 b2 b3 := by
  simp only [szN, Lib.decodeN]
  repeat' split
  all_goals first | (exfalso; omega) | (apply Prod.ext <;> simp only <;> omega)

theorem refSize (t : ByteArray) (h : 0 < t.size) : Ev (fun k => waveletref47_size.f k t) (szN t.size (gb t 0) (gb t 1) (gb t 2) (gb t 3)) := by
  have hb0 : wrap64 (bt t 0) = (gb t 0 : Int) := bt_gb t 0 h
  have l1 := gb_lt t 1
  have l2 := gb_lt t 2
  have l3 := gb_lt t 3
  have l0 := gb_lt t 0
  by_cases h128 : gb t 0 < 128
  · have : szN t.size (gb t 0) (gb t 1) (gb t 2) (gb t 3) = (1, (gb t 0 : Int)) := by
      simp only [szN, Lib.decodeN, if_pos h128]
      rw [if_neg (by omega)]
      rfl
    rw [this]
    refine Ev.congr (fun k => ?_) (Ev.now _)
    simp only [waveletref47_size.f]
    rw [if_pos (by omega), hb0, if_pos (by omega)]
  · -- the chain of tests
    have c0 : ∀ k, waveletref47_size.f k t = waveletref47_size.j0 k t (gb t 0 : Int) 0 0 0 (decide (192 ≤ gb t 0 ∧ gb t 0 < 224)) := fun k => by
      simp only [waveletref47_size.f]
      rw [if_pos (by omega), hb0, if_neg (by omega)]
      split
      · rw [show decide ((gb t 0 : Int) < 224) = decide (192 ≤ gb t 0 ∧ gb t 0 < 224) from decide_eq_decide.2 (by omega)]
      · rw [decide_eq_false (show ¬ (192 ≤ gb t 0 ∧ gb t 0 < 224) by omega)]
    refine Ev.congr c0 ?_
    by_cases h2 : 192 ≤ gb t 0 ∧ gb t 0 < 224
    · rw [decide_eq_true h2]
      refine Ev.step (f := fun k => waveletref47_size.j1 k t (gb t 0 : Int) ((2 : Nat) : Int) ((gb t 0 - 192 : Nat) : Int) ((128 : Nat) : Int)) (fun k => by simp only [waveletref47_size.j0]; rw [if_pos trivial, wrap_id (by omega) (by omega), show (gb t 0 : Int) - 192 = ((gb t 0 - 192 : Nat) : Int) by omega]; simp) ?_
      refine Ev.step (f := fun k => waveletref47_size.j2 k t (gb t 0 : Int) ((2 : Nat) : Int) ((gb t 0 - 192 : Nat) : Int) ((128 : Nat) : Int) false) (fun k => by simp only [waveletref47_size.j1]; rw [if_neg (by omega)]) ?_
      refine Ev.step (f := fun k => waveletref47_size.j3 k t (gb t 0 : Int) ((2 : Nat) : Int) ((gb t 0 - 192 : Nat) : Int) ((128 : Nat) : Int)) (fun k => by simp only [waveletref47_size.j2]; rw [if_neg (by simp)]) ?_
      refine Ev.step (f := fun k => waveletref47_size.j4 k t (gb t 0 : Int) ((2 : Nat) : Int) ((gb t 0 - 192 : Nat) : Int) ((128 : Nat) : Int) false) (fun k => by simp only [waveletref47_size.j3]; rw [if_neg (by omega)]) ?_
      refine Ev.step (f := fun k => waveletref47_size.j5 k t ((2 : Nat) : Int) ((gb t 0 - 192 : Nat) : Int) ((128 : Nat) : Int)) (fun k => by simp only [waveletref47_size.j4]; rw [if_neg (by simp)]) ?_
      rw [← run2 t.size (gb t 0) (gb t 1) (gb t 2) (gb t 3) (gb t) rfl l1 h2.1 h2.2]
      exact size_j5 t 2 1 _ 128 (.inr rfl) (by omega) (by omega)
    · rw [decide_eq_false h2]
      refine Ev.step (f := fun k => waveletref47_size.j1 k t (gb t 0 : Int) ((0 : Nat) : Int) ((0 : Nat) : Int) ((0 : Nat) : Int)) (fun k => by simp only [waveletref47_size.j0]; rw [if_neg (by simp)]; simp) ?_
      refine Ev.step (f := fun k => waveletref47_size.j2 k t (gb t 0 : Int) ((0 : Nat) : Int) ((0 : Nat) : Int) ((0 : Nat) : Int) (decide (224 ≤ gb t 0 ∧ gb t 0 < 240))) (fun k => by
        simp only [waveletref47_size.j1]
        split
        · rw [show decide ((gb t 0 : Int) < 240) = decide (224 ≤ gb t 0 ∧ gb t 0 < 240) from decide_eq_decide.2 (by omega)]
        · rw [decide_eq_false (show ¬ (224 ≤ gb t 0 ∧ gb t 0 < 240) by omega)]) ?_
      by_cases h3 : 224 ≤ gb t 0 ∧ gb t 0 < 240
      · rw [decide_eq_true h3]
        refine Ev.step (f := fun k => waveletref47_size.j3 k t (gb t 0 : Int) ((3 : Nat) : Int) ((gb t 0 - 224 : Nat) : Int) ((2048 : Nat) : Int)) (fun k => by simp only [waveletref47_size.j2]; rw [if_pos trivial, wrap_id (by omega) (by omega), show (gb t 0 : Int) - 224 = ((gb t 0 - 224 : Nat) : Int) by omega]; simp) ?_
        refine Ev.step (f := fun k => waveletref47_size.j4 k t (gb t 0 : Int) ((3 : Nat) : Int) ((gb t 0 - 224 : Nat) : Int) ((2048 : Nat) : Int) false) (fun k => by simp only [waveletref47_size.j3]; rw [if_neg (by omega)]) ?_
        refine Ev.step (f := fun k => waveletref47_size.j5 k t ((3 : Nat) : Int) ((gb t 0 - 224 : Nat) : Int) ((2048 : Nat) : Int)) (fun k => by simp only [waveletref47_size.j4]; rw [if_neg (by simp)]) ?_
        rw [← run3 t.size (gb t 0) (gb t 1) (gb t 2) (gb t 3) (gb t) rfl rfl l1 l2 h3.1 h3.2]
        exact size_j5 t 3 2 _ 2048 (.inr rfl) (by omega) (by omega)
      · rw [decide_eq_false h3]
        refine Ev.step (f := fun k => waveletref47_size.j3 k t (gb t 0 : Int) ((0 : Nat) : Int) ((0 : Nat) : Int) ((0 : Nat) : Int)) (fun k => by simp only [waveletref47_size.j2]; rw [if_neg (by simp)]) ?_
        refine Ev.step (f := fun k => waveletref47_size.j4 k t (gb t 0 : Int) ((0 : Nat) : Int) ((0 : Nat) : Int) ((0 : Nat) : Int) (decide (240 ≤ gb t 0 ∧ gb t 0 < 248))) (fun k => by
          simp only [waveletref47_size.j3]
          split
          · rw [show decide ((gb t 0 : Int) < 248) = decide (240 ≤ gb t 0 ∧ gb t 0 < 248) from decide_eq_decide.2 (by omega)]
          · rw [decide_eq_false (show ¬ (240 ≤ gb t 0 ∧ gb t 0 < 248) by omega)]) ?_
        by_cases h4 : 240 ≤ gb t 0 ∧ gb t 0 < 248
        · rw [decide_eq_true h4]
          refine Ev.step (f := fun k => waveletref47_size.j5 k t ((4 : Nat) : Int) ((gb t 0 - 240 : Nat) : Int) ((65536 : Nat) : Int)) (fun k => by simp only [waveletref47_size.j4]; rw [if_pos trivial, wrap_id (by omega) (by omega), show (gb t 0 : Int) - 240 = ((gb t 0 - 240 : Nat) : Int) by omega]; simp) ?_
          rw [← run4 t.size (gb t 0) (gb t 1) (gb t 2) (gb t 3) (gb t) rfl rfl rfl l1 l2 l3 h4.1 h4.2]
          exact size_j5 t 4 3 _ 65536 (.inr rfl) (by omega) (by omega)
        · rw [decide_eq_false h4]
          refine Ev.step (f := fun k => waveletref47_size.j5 k t ((0 : Nat) : Int) ((0 : Nat) : Int) ((0 : Nat) : Int)) (fun k => by simp only [waveletref47_size.j4]; rw [if_neg (by simp)]) ?_
          rw [← run0 t.size (gb t 0) (gb t 1) (gb t 2) (gb t 3) (by omega) (by omega) l0]
          have e := size_j5 t 0 0 0 0 (.inl rfl) (by omega) (by omega)
          rw [if_pos (.inl rfl)] at e
          exact e
end Go.Proofs.Ytnckglnnojcdmaa.P
