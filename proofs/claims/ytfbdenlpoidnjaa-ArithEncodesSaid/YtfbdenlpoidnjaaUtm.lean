/- The first power that up accepts gives Terminate's number. -/
import Derived.Test.YtfbdenlpoidnjaaUpp
import Derived.Test.YtfbdenlpoidnjaaRet
set_option linter.unusedVariables false
set_option linter.unusedSimpArgs false
namespace Go.Proofs.Ytfbdenlpoidnjaa.P
open Go.RowKit Go.Proofs.YtfbdenlpoidnjaaW.PrintWords

def awX : Int → List Int → Int
  | a, [] => a
  | a, x :: r => awX (256 * a + 255 - x) r
theorem awC_stop {w : Int} : ∀ (T : List Int) (a : Int), w ≤ a → awC w a T = a
  | [], a, h => rfl
  | x :: r, a, h => by rw [awC, if_neg (by omega), awC_stop r a h]
theorem awX_ge : ∀ (T : List Int) (a : Int), 0 ≤ a → Byt T → a ≤ awX a T
  | [], a, h, _ => Int.le_refl _
  | x :: r, a, h, hb => by
    have hx := hb x List.mem_cons_self
    have := awX_ge r (256 * a + 255 - x) (by omega) (fun y hy => hb y (List.mem_cons_of_mem _ hy))
    rw [awX]
    omega
theorem awC_iff {w : Int} : ∀ (T : List Int) (a : Int), 0 ≤ a → Byt T → (awC w a T + 1 ≥ w ↔ awX a T + 1 ≥ w)
  | [], a, h, _ => Iff.rfl
  | x :: r, a, h, hb => by
    have hx := hb x List.mem_cons_self
    have hr : Byt r := fun y hy => hb y (List.mem_cons_of_mem _ hy)
    rw [awC, awX]
    by_cases ha : a < w
    · rw [if_pos ha]
      exact awC_iff r _ (by omega) hr
    · rw [if_neg ha, awC_stop r a (by omega)]
      have := awX_ge r (256 * a + 255 - x) (by omega) hr
      omega
theorem awC_bd {w : Int} (hw0 : 0 < w) (hw : w ≤ 4294967295) : ∀ (T : List Int) (a : Int), 0 ≤ a → a ≤ 1099511628031 → Byt T → awC w a T ≤ 1099511628031 ∧ 0 ≤ awC w a T
  | [], a, h, h1, _ => ⟨h1, h⟩
  | x :: r, a, h, h1, hb => by
    have hx := hb x List.mem_cons_self
    rw [awC]
    exact awC_bd hw0 hw r _ (by split <;> omega) (by split <;> omega) (fun y hy => hb y (List.mem_cons_of_mem _ hy))
theorem valP_cons : ∀ (r : List Int) (x : Int), valP (x :: r) = x * 256 ^ r.length + valP r := by
  intro r
  have h : ∀ (a : List Int) (x : Int), valR (a ++ [x]) = valR a + x * 256 ^ a.length := by
    intro a
    induction a with
    | nil => intro x; show x + 256 * 0 = 0 + x * 256 ^ 0; rw [Int.pow_zero]; omega
    | cons y q ih =>
      intro x
      show y + 256 * valR (q ++ [x]) = y + 256 * valR q + x * 256 ^ (q.length + 1)
      rw [ih, pow256_succ, Int.mul_add, ← Int.mul_assoc, Int.mul_comm 256 x, Int.mul_assoc]
      omega
  intro x
  unfold valP
  rw [List.reverse_cons, h, List.length_reverse]
  omega
theorem valP_app : ∀ (P T : List Int), valP (P ++ T) = valP P * 256 ^ T.length + valP T
  | [], T => by show valP T = valP [] * _ + valP T; rw [valP_nil]; omega
  | x :: r, T => by
    rw [List.cons_append, valP_cons, valP_app r T, valP_cons, List.length_append, Int.pow_add, Int.add_mul, ← Int.mul_assoc]
    omega
theorem valP_zeros (k : Nat) : valP (List.replicate k 0) = 0 := by
  induction k with
  | zero => rfl
  | succ k ih => rw [List.replicate_succ, valP_cons, ih]; omega
theorem byt_zeros (k : Nat) : Byt (List.replicate k 0) := by
  intro z hz
  have := (List.mem_replicate.1 hz).2
  omega
theorem allZ_val : ∀ {T : List Int}, Byt T → (allZ T = true ↔ valP T = 0)
  | [], _ => ⟨fun _ => rfl, fun _ => rfl⟩
  | x :: r, hb => by
    have hx := hb x List.mem_cons_self
    have hr : Byt r := fun y hy => hb y (List.mem_cons_of_mem _ hy)
    have ih := allZ_val hr
    have hv := valP_bd hr
    have hp := pow256_pos r.length
    rw [allZ, valP_cons, Bool.and_eq_true, decide_eq_true_eq, ih]
    constructor
    · rintro ⟨rfl, h⟩; rw [h]; omega
    · intro h
      by_cases h0 : x = 0
      · exact ⟨h0, by rw [h0] at h; omega⟩
      · exfalso
        have : 1 * 256 ^ r.length ≤ x * 256 ^ r.length := Int.mul_le_mul_of_nonneg_right (by omega) (by omega)
        omega
theorem awX_val : ∀ (T : List Int) (a : Int), Byt T → awX a T = a * 256 ^ T.length + (256 ^ T.length - 1 - valP T)
  | [], a, _ => by show a = a * 256 ^ 0 + (256 ^ 0 - 1 - valP []); rw [valP_nil, Int.pow_zero]; omega
  | x :: r, a, hb => by
    rw [awX, awX_val r _ (fun y hy => hb y (List.mem_cons_of_mem _ hy)), valP_cons, List.length_cons, pow256_succ, Int.sub_mul, Int.add_mul, ← Int.mul_assoc, Int.mul_comm a 256]
    omega
/-- What up answers at the power k of an encoder's digits. -/
def upK (s : EncS) (k : Nat) : List Int × Bool := upP ((digP s).take ((digP s).length - k)) ((digP s).drop ((digP s).length - k)) s.size
theorem digP_byt {s : EncS} (h : EncOk s) : Byt (digP s) := byt_app h.out (lit4_byt h.low0 h.low1)
theorem digP_val {s : EncS} (h : EncOk s) : valP (digP s) = lowV s := lit4_val _ h.low0 h.low1
theorem upK_spec {s : EncS} (h : EncOk s) (hI : Inv s) {k : Nat} (hk : k ≤ (digP s).length) :
    let P := (digP s).take ((digP s).length - k)
    let T := (digP s).drop ((digP s).length - k)
    T.length = k ∧ Byt P ∧ Byt T ∧ (allZ T = false → ¬ awC s.size 0 T + 1 ≥ s.size → valP P + 1 < 256 ^ P.length) ∧
    ((upK s k).2 = true → (upK s k).1.length = (digP s).length ∧ Byt (upK s k).1 ∧ ∃ y, valP (upK s k).1 = y * 256 ^ k ∧ lowV s ≤ y * 256 ^ k ∧ y * 256 ^ k < lowV s + s.size ∧ y * 256 ^ k < lowV s + 256 ^ k) ∧
    ((upK s k).2 = false → ∀ y, ¬ (lowV s ≤ y * 256 ^ k ∧ y * 256 ^ k < lowV s + s.size)) := by
  intro P T
  have hTl : T.length = k := by show ((digP s).drop _).length = k; rw [List.length_drop]; omega
  have hPl : P.length = (digP s).length - k := by show ((digP s).take _).length = _; rw [List.length_take]; omega
  have hD := digP_byt h
  have hPb : Byt P := fun z hz => hD z (List.mem_of_mem_take hz)
  have hTb : Byt T := fun z hz => hD z (List.mem_of_mem_drop hz)
  have hV : lowV s = valP P * 256 ^ k + valP T := by
    rw [← digP_val h, ← hTl, ← valP_app]
    show _ = valP ((digP s).take _ ++ (digP s).drop _)
    rw [List.take_append_drop]
  have hTv := valP_bd hTb
  rw [hTl] at hTv
  have hPv := valP_bd hPb
  have hp := pow256_pos k
  have hI2 : lowV s + s.size ≤ 4294967295 * 256 ^ s.out.length := hI
  have hpn := pow256_pos s.out.length
  have hpow : (256 : Int) ^ P.length * 256 ^ k = 4294967296 * 256 ^ s.out.length := by
    rw [← Int.pow_add, hPl, show (digP s).length - k + k = s.out.length + 4 by rw [← digP_length]; omega, Int.pow_add, Int.mul_comm]
    rfl
  have hX : awX 0 T = 256 ^ k - 1 - valP T := by rw [awX_val T 0 hTb, hTl]; omega
  have hiff := awC_iff (w := s.size) T 0 (Int.le_refl _) hTb
  rw [hX] at hiff
  have hov : allZ T = false → ¬ awC s.size 0 T + 1 ≥ s.size → valP P + 1 < 256 ^ P.length := by
    intro _ ha
    rw [hiff] at ha
    have h1 : (valP P + 1) * 256 ^ k < 256 ^ P.length * 256 ^ k := by rw [hpow, Int.add_mul]; omega
    exact Int.lt_of_mul_lt_mul_right h1 (by omega)
  have hz := allZ_val hTb
  have hs0 := h.size0
  refine ⟨hTl, hPb, hTb, hov, ?_, ?_⟩
  · show (upP P T s.size).2 = true → _
    show _ → (upP P T s.size).1.length = _ ∧ Byt (upP P T s.size).1 ∧ ∃ y, valP (upP P T s.size).1 = _ ∧ _
    unfold upP
    by_cases hz0 : allZ T = true
    · rw [if_pos hz0]
      intro _
      have ht := hz.1 hz0
      refine ⟨by rw [List.length_append, List.length_replicate, hTl, hPl]; omega, byt_app hPb (byt_zeros _), valP P, ?_, by omega, by omega, by omega⟩
      rw [valP_app, valP_zeros, List.length_replicate, hTl]; omega
    · rw [if_neg hz0]
      have hz0' : allZ T = false := by cases h : allZ T <;> simp_all
      have ht : 0 < valP T := by
        rcases Int.lt_or_eq_of_le hTv.1 with h | h
        · exact h
        · exact absurd (hz.2 h.symm) hz0
      by_cases ha : awC s.size 0 T + 1 ≥ s.size
      · rw [if_pos ha]
        intro hf
        cases hf
      · rw [if_neg ha]
        intro _
        have hcv := carryP_val hPb (hov hz0' ha)
        rw [hiff] at ha
        refine ⟨by rw [List.length_append, List.length_replicate, carryP_length, hTl, hPl]; omega, byt_app (carryP_byt hPb) (byt_zeros _), valP P + 1, ?_, ?_, ?_, ?_⟩
        · rw [valP_app, valP_zeros, List.length_replicate, hTl, hcv]; omega
        all_goals
          rw [Int.add_mul]
          omega
  · show (upP P T s.size).2 = false → _
    unfold upP
    by_cases hz0 : allZ T = true
    · rw [if_pos hz0]
      intro hf
      cases hf
    · rw [if_neg hz0]
      have ht : 0 < valP T := by
        rcases Int.lt_or_eq_of_le hTv.1 with h | h
        · exact h
        · exact absurd (hz.2 h.symm) hz0
      by_cases ha : awC s.size 0 T + 1 ≥ s.size
      · rw [if_pos ha]
        intro _ y hy
        rw [hiff] at ha
        obtain ⟨y1, y2⟩ := hy
        have h1 : valP P * 256 ^ k < y * 256 ^ k := by omega
        have h2 : valP P < y := Int.lt_of_mul_lt_mul_right h1 (by omega)
        have h3 : (valP P + 1) * 256 ^ k ≤ y * 256 ^ k := Int.mul_le_mul_of_nonneg_right (by omega) (by omega)
        rw [Int.add_mul] at h3
        omega
      · rw [if_neg ha]
        intro hf
        cases hf
theorem full_least {s : EncS} (h : EncOk s) (hI : Inv s) {k : Nat} {y : Int} (h1 : lowV s ≤ y * 256 ^ k) (h2 : y * 256 ^ k < lowV s + s.size) (hno : ∀ y', ¬ (lowV s ≤ y' * 256 ^ (k + 1) ∧ y' * 256 ^ (k + 1) < lowV s + s.size)) : valP (fullP s) ≤ y * 256 ^ k := by
  obtain ⟨f1, f2, f3, f4, f5⟩ := full_val h hI
  have hs1 := h.size1
  have hs0 := h.size0
  have l0 := h.low0
  have l1 := h.low1
  have hI2 : lowV s + s.size ≤ 4294967295 * 256 ^ s.out.length := hI
  have hp := pow256_pos s.out.length
  have hb := valP_bd h.out
  by_cases hk : 4 ≤ k
  · obtain ⟨z, hz⟩ := f5 k y h1 h2
    have hpk := pow256_le (i := 4) (j := k) hk
    have e4 : (256 : Int) ^ 4 = 4294967296 := by decide
    rw [e4] at hpk
    rcases Int.lt_or_le z (y + 1) with hzy | hzy
    · rw [hz]
      exact Int.mul_le_mul_of_nonneg_right (by omega) (by omega)
    · exfalso
      have h3 : (y + 1) * 256 ^ k ≤ z * 256 ^ k := Int.mul_le_mul_of_nonneg_right hzy (by omega)
      rw [Int.add_mul] at h3
      omega
  · have hks : k = 0 ∨ k = 1 ∨ k = 2 ∨ k = 3 := by omega
    have p1 : (256 : Int) ^ 0 = 1 := rfl
    have p2 : (256 : Int) ^ (0 + 1) = 256 := rfl
    have p3 : (256 : Int) ^ 1 = 256 := rfl
    have p4 : (256 : Int) ^ (1 + 1) = 65536 := rfl
    have p5 : (256 : Int) ^ 2 = 65536 := rfl
    have p6 : (256 : Int) ^ (2 + 1) = 16777216 := rfl
    have p7 : (256 : Int) ^ 3 = 16777216 := rfl
    have p8 : (256 : Int) ^ (3 + 1) = 4294967296 := rfl
    have q1 := hno (valP (fullP s) / 256)
    have q2 := hno (valP (fullP s) / 65536)
    have q3 := hno (valP (fullP s) / 16777216)
    have q4 := hno (valP (fullP s) / 4294967296)
    by_cases c0 : s.low = 0
    · have ec : chooseP s.low s.size = (0, false) := by unfold chooseP; rw [if_pos c0]
      have ev : valP (fullP s) = valP s.out * 4294967296 := by unfold fullP; rw [ec]; show valP (s.out ++ lit4P 0) = _; rw [lit4_val _ (by decide) (by decide)]; omega
      rcases hks with rfl | rfl | rfl | rfl
      · rw [p2] at q1; omega
      · rw [p4] at q2; omega
      · rw [p6] at q3; omega
      · rw [p8] at q4; omega
    · by_cases c1 : 4294967296 < s.low + s.size
      · have ec : chooseP s.low s.size = (0, true) := by unfold chooseP; rw [if_neg c0, if_pos c1]
        have hcv : valP (carryP s.out) = valP s.out + 1 := carryP_val h.out (by unfold lowV at hI2; omega)
        have ev : valP (fullP s) = (valP s.out + 1) * 4294967296 := by unfold fullP; rw [ec]; show valP (carryP s.out ++ lit4P 0) = _; rw [lit4_val _ (by decide) (by decide), hcv]; omega
        rcases hks with rfl | rfl | rfl | rfl
        · rw [p2] at q1; omega
        · rw [p4] at q2; omega
        · rw [p6] at q3; omega
        · rw [p8] at q4; omega
      · have hbd := chooseP_bd (size := s.size) l0 l1
        have b1 := ceil_bd s.low 16777216 (by decide) l0
        have b2 := ceil_bd s.low 65536 (by decide) l0
        have b3 := ceil_bd s.low 256 (by decide) l0
        have ev : (chooseP s.low s.size).2 = false → valP (fullP s) = valP s.out * 4294967296 + (chooseP s.low s.size).1 := by
          intro he
          unfold fullP
          rw [he]
          exact lit4_val _ hbd.1 hbd.2
        unfold lowV at h1 h2
        by_cases d1 : ceilP s.low 16777216 < s.low + s.size
        · have ec : chooseP s.low s.size = (ceilP s.low 16777216, false) := by unfold chooseP; rw [if_neg c0, if_neg c1, if_pos d1]
          rw [ec] at ev
          have ev := ev rfl
          have hm : ceilP s.low 16777216 = (s.low + 16777216 - 1) / 16777216 * 16777216 := rfl
          dsimp only at ev
          rw [hm] at ev
          rcases hks with rfl | rfl | rfl | rfl
          · rw [p2] at q1; omega
          · rw [p4] at q2; omega
          · rw [p6] at q3; omega
          · rw [p7] at h1 h2 ⊢; omega
        · by_cases d2 : ceilP s.low 65536 < s.low + s.size
          · have ec : chooseP s.low s.size = (ceilP s.low 65536, false) := by unfold chooseP; rw [if_neg c0, if_neg c1, if_neg d1, if_pos d2]
            rw [ec] at ev
            have ev := ev rfl
            have hm : ceilP s.low 65536 = (s.low + 65536 - 1) / 65536 * 65536 := rfl
            have hm1 : ceilP s.low 16777216 = (s.low + 16777216 - 1) / 16777216 * 16777216 := rfl
            dsimp only at ev
            rw [hm] at ev
            rw [hm1] at d1
            rcases hks with rfl | rfl | rfl | rfl
            · rw [p2] at q1; omega
            · rw [p4] at q2; omega
            · rw [p5] at h1 h2 ⊢; omega
            · rw [p7] at h1 h2 ⊢; omega
          · by_cases d3 : ceilP s.low 256 < s.low + s.size
            · have ec : chooseP s.low s.size = (ceilP s.low 256, false) := by unfold chooseP; rw [if_neg c0, if_neg c1, if_neg d1, if_neg d2, if_pos d3]
              rw [ec] at ev
              have ev := ev rfl
              have hm : ceilP s.low 256 = (s.low + 256 - 1) / 256 * 256 := rfl
              have hm1 : ceilP s.low 16777216 = (s.low + 16777216 - 1) / 16777216 * 16777216 := rfl
              have hm2 : ceilP s.low 65536 = (s.low + 65536 - 1) / 65536 * 65536 := rfl
              dsimp only at ev
              rw [hm] at ev
              rw [hm1] at d1
              rw [hm2] at d2
              rcases hks with rfl | rfl | rfl | rfl
              · rw [p2] at q1; omega
              · rw [p3] at h1 h2 ⊢; omega
              · rw [p5] at h1 h2 ⊢; omega
              · rw [p7] at h1 h2 ⊢; omega
            · have ec : chooseP s.low s.size = (s.low, false) := by unfold chooseP; rw [if_neg c0, if_neg c1, if_neg d1, if_neg d2, if_neg d3]
              rw [ec] at ev
              have ev := ev rfl
              have hm : ceilP s.low 256 = (s.low + 256 - 1) / 256 * 256 := rfl
              have hm1 : ceilP s.low 16777216 = (s.low + 16777216 - 1) / 16777216 * 16777216 := rfl
              have hm2 : ceilP s.low 65536 = (s.low + 65536 - 1) / 65536 * 65536 := rfl
              dsimp only at ev
              rw [hm] at d3
              rw [hm1] at d1
              rw [hm2] at d2
              rcases hks with rfl | rfl | rfl | rfl
              · rw [p1] at h1 h2 ⊢; omega
              · rw [p3] at h1 h2 ⊢; omega
              · rw [p5] at h1 h2 ⊢; omega
              · rw [p7] at h1 h2 ⊢; omega
/-- The first power accepted: the digits are Terminate's. -/
theorem first_full {s : EncS} (h : EncOk s) (hI : Inv s) {k : Nat} (hk : k ≤ (digP s).length) (hacc : (upK s k).2 = true) (hrej : k < (digP s).length → (upK s (k + 1)).2 = false) : (upK s k).1 = fullP s := by
  obtain ⟨_, _, _, _, sp, _⟩ := upK_spec h hI hk
  obtain ⟨u1, u2, y, u3, u4, u5, u6⟩ := sp hacc
  obtain ⟨f1, f2, f3, f4, f5⟩ := full_val h hI
  obtain ⟨z, hz⟩ := f5 k y u4 u5
  have hp := pow256_pos k
  have hD := digP_length s
  have hI2 : lowV s + s.size ≤ 4294967295 * 256 ^ s.out.length := hI
  have hpn := pow256_pos s.out.length
  refine valP_inj u2 f3 (by rw [u1, f4, hD]) ?_
  rw [u3]
  have hge : y * 256 ^ k ≤ valP (fullP s) := by
    rw [hz]
    rcases Int.lt_or_le z y with hzy | hzy
    · exfalso
      have h3 : (z + 1) * 256 ^ k ≤ y * 256 ^ k := Int.mul_le_mul_of_nonneg_right (by omega) (by omega)
      rw [Int.add_mul] at h3
      omega
    · exact Int.mul_le_mul_of_nonneg_right hzy (by omega)
  have hle : valP (fullP s) ≤ y * 256 ^ k := by
    by_cases hkN : k < (digP s).length
    · obtain ⟨_, _, _, _, _, sr⟩ := upK_spec h hI (k := k + 1) (by omega)
      exact full_least h hI u4 u5 (sr (hrej hkN))
    · have hkn : k = s.out.length + 4 := by omega
      have hpow : (256 : Int) ^ k = 4294967296 * 256 ^ s.out.length := by
        rw [hkn, Int.pow_add, Int.mul_comm]
        rfl
      have hv0 : 0 ≤ lowV s := by have h8 := valP_bd h.out; have h9 := h.low0; unfold lowV; omega
      have hz1 : z < 1 := by
        have h3 : z * 256 ^ k < 1 * 256 ^ k := by rw [← hz, hpow]; omega
        exact Int.lt_of_mul_lt_mul_right h3 (by omega)
      have h4 : z * 256 ^ k ≤ 0 * 256 ^ k := Int.mul_le_mul_of_nonneg_right (by omega) (by omega)
      rw [hz]
      omega
  omega
/-- At the power 0 the digits themselves are accepted. -/
theorem upK_zero (s : EncS) : (upK s 0).2 = true := by
  unfold upK upP
  rw [Nat.sub_zero, List.drop_length]
  rw [if_pos (show allZ [] = true from rfl)]
end Go.Proofs.Ytfbdenlpoidnjaa.P
