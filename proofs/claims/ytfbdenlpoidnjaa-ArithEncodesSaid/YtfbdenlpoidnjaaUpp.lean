/- The reference's up and Terminate in plain terms: the first power that up accepts gives the codeword's number. -/
import Derived.Test.YtfbdenlpoidnjaaRpu
import Derived.Test.YtfbdenlpoidnjaaPx3
set_option linter.unusedVariables false
set_option linter.unusedSimpArgs false
namespace Go.Proofs.Ytfbdenlpoidnjaa.P
open Go.RowKit Go.Proofs.YtfbdenlpoidnjaaW.PrintWords

/-- The distance to the next multiple, less one, as the reference reckons it: no further than it matters. -/
def awC (w : Int) : Int → List Int → Int
  | a, [] => a
  | a, x :: r => awC w (if a < w then 256 * a + 255 - x else a) r
def allZ : List Int → Bool
  | [] => true
  | x :: r => decide (x = 0) && allZ r
theorem rd_at (P : List Int) (x : Int) (T : List Int) : rd (P ++ x :: T) (P.length : Int) = x := by
  unfold rd
  rw [Int.toNat_natCast, List.getD_eq_getElem?_getD, List.getElem?_append_right (Nat.le_refl _), Nat.sub_self]
  rfl
theorem set_at (P : List Int) (x y : Int) (T : List Int) : (P ++ x :: T).set P.length y = P ++ y :: T := by
  rw [List.set_append_right _ _ (Nat.le_refl _), Nat.sub_self, List.set_cons_zero]
theorem up_l0 (kk w : Int) (hw0 : 0 < w) (hw : w ≤ 4294967295) {R : List Int × Bool} : ∀ (T P : List Int) (z : Bool) (a : Int), Byt T → 0 ≤ a → a ≤ 1099511628031 → P.length + T.length ≤ 1000000000 →
    Ev (fun k => waveletref11_up.l0 k kk w (P ++ List.replicate T.length 0) (z && allZ T) (awC w a T) ((P.length + T.length : Nat) : Int)) R → Ev (fun k => waveletref11_up.l0 k kk w (P ++ T) z a (P.length : Int)) R
  | [], P, z, a, _, _, _, _, h => by
    simpa [awC, allZ] using h
  | x :: r, P, z, a, hb, h0, h1, hl, h => by
    have hx := hb x List.mem_cons_self
    have hr : Byt r := fun y hy => hb y (List.mem_cons_of_mem _ hy)
    rw [List.length_cons] at hl
    have hlen : (P.length : Int) < ((P ++ x :: r).length : Int) := by rw [List.length_append, List.length_cons]; omega
    have ih := up_l0 kk w hw0 hw r (P ++ [0]) (z && decide (x = 0)) (if a < w then 256 * a + 255 - x else a) hr (by split <;> omega) (by split <;> omega) (by rw [List.length_append, List.length_singleton]; omega) (R := R) ?_
    · have e1 : P ++ [0] ++ r = P ++ 0 :: r := by rw [List.append_assoc]; rfl
      have e2 : (((P ++ [0]).length : Nat) : Int) = (P.length : Int) + 1 := by rw [List.length_append]; rfl
      rw [e1, e2] at ih
      refine Ev.step (fun k => ?_) ih
      rw [waveletref11_up.l0, if_pos hlen, if_pos (by omega), rd_at, Int.toNat_natCast, set_at, wrap64_id (n := (P.length : Int) + 1) (by omega) (by omega)]
      by_cases hx0 : x = 0
      · rw [if_pos hx0]
        by_cases ha : a < w
        · rw [if_pos ha, if_pos ha, wrap64_id (n := 256 * a) (by omega) (by omega), wrap64_id (n := 256 * a + 255) (by omega) (by omega), wrap64_id (n := 256 * a + 255 - x) (by omega) (by omega), decide_eq_true hx0, Bool.and_true]
        · rw [if_neg ha, if_neg ha, decide_eq_true hx0, Bool.and_true]
      · rw [if_neg hx0]
        by_cases ha : a < w
        · rw [if_pos ha, if_pos ha, wrap64_id (n := 256 * a) (by omega) (by omega), wrap64_id (n := 256 * a + 255) (by omega) (by omega), wrap64_id (n := 256 * a + 255 - x) (by omega) (by omega), decide_eq_false hx0, Bool.and_false]
        · rw [if_neg ha, if_neg ha, decide_eq_false hx0, Bool.and_false]
    · rw [List.length_cons] at h
      have e3 : P ++ [0] ++ List.replicate r.length 0 = P ++ List.replicate (r.length + 1) 0 := by rw [List.append_assoc, List.replicate_succ]; rfl
      have e4 : (((P ++ [0]).length + r.length : Nat) : Int) = ((P.length + (r.length + 1) : Nat) : Int) := by rw [List.length_append, List.length_singleton]; omega
      have e5 : (z && decide (x = 0) && allZ r) = (z && allZ (x :: r)) := by rw [allZ, Bool.and_assoc]
      rw [e3, e4, e5]
      exact h
theorem up_l1 : ∀ (a z : List Int), Byt a → valR a + 1 < 256 ^ a.length → a.length + z.length ≤ 1000000000 → Ev (fun k => waveletref11_up.l1 k (a.reverse ++ z) ((a.length : Int) - 1)) ((carryR a).reverse ++ z, true)
  | [], z, _, h, _ => by simp [valR] at h
  | x :: r, z, hb, hv, hl => by
    have hx := hb x List.mem_cons_self
    have hr : Byt r := fun y hy => hb y (List.mem_cons_of_mem _ hy)
    rw [valR, List.length_cons, pow256_succ] at hv
    rw [List.length_cons] at hl
    have e1 : (x :: r).reverse ++ z = r.reverse ++ x :: z := by rw [List.reverse_cons, List.append_assoc]; rfl
    have e2 : (((x :: r).length : Nat) : Int) - 1 = (r.length : Int) := by rw [List.length_cons]; omega
    rw [e1, e2]
    have hlen : (r.length : Int) < ((r.reverse ++ x :: z).length : Int) := by rw [List.length_append, List.length_reverse, List.length_cons]; omega
    have step : ∀ k, waveletref11_up.l1 (k + 1) (r.reverse ++ x :: z) (r.length : Int) = if x + 1 < 256 then some (r.reverse ++ (x + 1) :: z, true) else waveletref11_up.l1 k (r.reverse ++ 0 :: z) ((r.length : Int) - 1) := by
      intro k
      rw [waveletref11_up.l1, if_pos (by omega), if_pos (by omega), if_pos hlen, Option.bind_some, rd_mid, Int.toNat_natCast, set_mid, wrap64_id (n := x + 1) (by omega) (by omega), rd_mid, set_mid, wrap64_id (n := (r.length : Int) - 1) (by omega) (by omega)]
    by_cases h : x = 255
    · have ih := up_l1 r (0 :: z) hr (by omega) (by rw [List.length_cons]; omega)
      have e4 : (carryR (x :: r)).reverse ++ z = (carryR r).reverse ++ 0 :: z := by rw [carryR, if_pos h, List.reverse_cons, List.append_assoc]; rfl
      rw [e4]
      exact Ev.step (fun k => by rw [step k, if_neg (by omega)]) ih
    · have e4 : (carryR (x :: r)).reverse ++ z = r.reverse ++ (x + 1) :: z := by rw [carryR, if_neg h, List.reverse_cons, List.append_assoc]; rfl
      rw [e4]
      exact Ev.step (f := fun _ => some (r.reverse ++ (x + 1) :: z, true)) (fun k => by rw [step k, if_pos (by omega)]) (Ev.now _)
/-- What up answers for P ++ T, T of k digits. -/
def upP (P T : List Int) (w : Int) : List Int × Bool := if allZ T = true then (P ++ List.replicate T.length 0, true) else if awC w 0 T + 1 ≥ w then ([], false) else (carryP P ++ List.replicate T.length 0, true)
theorem up_f {P T : List Int} {w : Int} (hP : Byt P) (hT : Byt T) (hw0 : 0 < w) (hw : w ≤ 4294967295) (hl : P.length + T.length ≤ 1000000000) (hov : allZ T = false → ¬ awC w 0 T + 1 ≥ w → valP P + 1 < 256 ^ P.length) (haw : awC w 0 T ≤ 1099511628031 ∧ 0 ≤ awC w 0 T) : Ev (fun k => waveletref11_up.f k (P ++ T) (T.length : Int) w) (upP P T w) := by
  have h0 : Ev (fun k => waveletref11_up.l0 k (T.length : Int) w (P ++ T) true 0 (P.length : Int)) (upP P T w) := by
    refine up_l0 (T.length : Int) w hw0 hw T P true 0 hT (by omega) (by omega) hl ?_
    have hN : ¬ ((P.length + T.length : Nat) : Int) < ((P ++ List.replicate T.length 0).length : Int) := by rw [List.length_append, List.length_replicate]; omega
    rw [Bool.true_and]
    unfold upP
    by_cases hz : allZ T = true
    · rw [if_pos hz]
      exact Ev.step (f := fun _ => some (P ++ List.replicate T.length 0, true)) (fun k => by rw [waveletref11_up.l0, if_neg hN, if_pos hz]) (Ev.now _)
    · rw [if_neg hz]
      have hz' : allZ T = false := by cases h : allZ T <;> simp_all
      by_cases ha : awC w 0 T + 1 ≥ w
      · rw [if_pos ha]
        refine Ev.step (f := fun _ => some (([] : List Int), false)) (fun k => ?_) (Ev.now _)
        rw [waveletref11_up.l0, if_neg hN, if_neg hz, wrap64_id (n := awC w 0 T + 1) (by omega) (by omega), if_pos ha]
      · rw [if_neg ha]
        have h1 := up_l1 P.reverse (List.replicate T.length 0) (byt_rev hP) (by rw [List.length_reverse]; exact hov hz' ha) (by rw [List.length_reverse, List.length_replicate]; exact hl)
        rw [List.reverse_reverse, List.length_reverse] at h1
        refine Ev.step (fun k => ?_) h1
        rw [waveletref11_up.l0, if_neg hN, if_neg hz, wrap64_id (n := awC w 0 T + 1) (by omega) (by omega), if_neg ha, List.length_append, List.length_replicate]
        congr 1
        rw [wrap64_id (n := ((P.length + T.length : Nat) : Int) - (T.length : Int)) (by omega) (by omega), wrap64_id (by omega) (by omega)]
        omega
  refine Ev.congr (fun k => ?_) h0
  unfold waveletref11_up.f
  rw [Option.bind_some, if_pos (by rw [List.length_append, List.length_nil]; omega), Option.bind_some, List.nil_append]
  congr 1
  rw [wrap64_id (by rw [List.length_append]; omega) (by rw [List.length_append]; omega), List.length_append]
  omega
end Go.Proofs.Ytfbdenlpoidnjaa.P
