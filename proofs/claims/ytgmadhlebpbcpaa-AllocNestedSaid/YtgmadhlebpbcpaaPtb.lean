/- (Written by wip/gen/hull2alloc.py from wip/hull/Ptb.lean.) -/
/- The comparisons of hull.Points: what Steeper and the local function 'better' answer, in plain numbers, and that they leave memory alone. -/
import Derived.Test.YtgmadhlebpbcpaaPuA
import Derived.LoopTactic
import Derived.WalkSpells
import Derived.Outline
import Derived.Lib.Hide
set_option linter.unusedVariables false
set_option linter.unusedSimpArgs false
namespace Go.Proofs.Ytgmadhlebpbcpaa.P
open Go.RowKit Go.Proofs.YtgmadhlebpbcpaaW.PrintWords Go.Proofs.YtgmadhlebpbcpaaW.PrintLast Go.Proofs.YtgmadhlebpbcpaaW.PrintMore
attribute [local go_sem] max2_int min2_int max_two min_two

/-- Is point j better than the best one so far, nx (-1: none)? -/
def betterP (rs ds : List Int) (i j : Nat) (nx : Int) : Bool :=
  if nx < 0 then true
  else decide (stP (el ds i - el ds j) (el rs j - el rs i) (el ds i - el ds nx.toNat) (el rs nx.toNat - el rs i) > 0) ||
    (stP (el ds i - el ds j) (el rs j - el rs i) (el ds i - el ds nx.toNat) (el rs nx.toNat - el rs i) == 0 && decide (el ds j < el ds nx.toNat))
/-- The scan over m points from j on. -/
def scanP (rs ds : List Int) (i : Nat) : Nat → Nat → Int → Int
  | 0, _, nx => nx
  | m + 1, j, nx => scanP rs ds i m (j + 1) (if (decide (el ds j < el ds i) && betterP rs ds i j nx) = true then (j : Int) else nx)
def nextP (rs ds : List Int) (i : Nat) : Int := scanP rs ds i (rs.length - (i + 1)) (i + 1) (-1)
/-- The hull from point i on. -/
def chainP (rs ds : List Int) : Nat → Nat → List Int
  | 0, i => [(i : Int)]
  | f + 1, i => (i : Int) :: (if nextP rs ds i < 0 then [] else chainP rs ds f (nextP rs ds i).toNat)
def pointsP (rs ds : List Int) : List Int := if validB rs ds = true then chainP rs ds rs.length 0 else []
def hull_Points.f (l0_0 l0_1 : List Int) : Option (List Int) := some (pointsP l0_0 l0_1)

theorem c_cells {w : World} {k : IntKind} {A : Option Addr} {xs : List Int} (h : Kd.C (Kd.int k) w A xs.length xs) (h0 : 0 < xs.length) : ∃ ad, A = some ad ∧ ∀ j, j < xs.length → w.cell? (ad.add j) = some (.int k (el xs j)) := by
  obtain ⟨ad, e, hc⟩ := h.2.2 h0
  refine ⟨ad, e, fun j hj => ?_⟩
  obtain ⟨c, hl, hk, hg⟩ := hc j _ (List.getElem?_eq_getElem hj)
  have hk' : c = [.int k xs[j]] := hk
  have := hg 0 (.int k xs[j]) (by rw [hk']; rfl)
  have this : w.cell? (ad.add (j * 1 + 0)) = some (.int k xs[j]) := this
  rw [Nat.mul_one, Nat.add_zero] at this
  rw [this]
  simp [el, List.getD_eq_getElem?_getD, hj]

theorem slope_yes (d r : Int) (w : World) (h : ranged d r) : Calls Try.prog 34 #[.int .i64 d, .int .i64 r] w fun e w' => e = .returned (.bool true) ∧ w' = w := by
  obtain ⟨h1, h2, h3, h4⟩ := h
  go_enter Try.func34, Try.ntmps34
  go_wp2
  all_goals
    go_ret
    exact ⟨rfl, rfl⟩
theorem slope_no (d r : Int) (w : World) (h : ¬ ranged d r) : Calls Try.prog 34 #[.int .i64 d, .int .i64 r] w fun e w' => e = .returned (.bool false) ∧ w' = w := by
  have h' : ¬ (0 ≤ d ∧ d ≤ 70368744177664 ∧ 0 ≤ r ∧ r ≤ 65535) := h
  clear h
  rcases (show d < 0 ∨ (0 ≤ d ∧ 70368744177664 < d) ∨ (0 ≤ d ∧ d ≤ 70368744177664 ∧ r < 0) ∨ (0 ≤ d ∧ d ≤ 70368744177664 ∧ 0 ≤ r ∧ 65535 < r) by omega) with h | ⟨h, h2⟩ | ⟨h, h2, h3⟩ | ⟨h, h2, h3, h4⟩
  all_goals
    clear h'
    (try have hD := decide_eq_false (show ¬ r ≤ 65535 by omega))
    go_enter Try.func34, Try.ntmps34
    go_wp2
  all_goals
    go_ret
    exact ⟨rfl, rfl⟩
theorem inf_yes (d r : Int) (w : World) (h : r = 0 ∧ d > 0) : Calls Try.prog 35 #[.int .i64 d, .int .i64 r] w fun e w' => e = .returned (.bool true) ∧ w' = w := by
  obtain ⟨rfl, h2⟩ := h
  go_enter Try.func35, Try.ntmps35
  go_wp2
  all_goals
    go_ret
    exact ⟨rfl, rfl⟩
theorem inf_no (d r : Int) (w : World) (h : ¬ (r = 0 ∧ d > 0)) : Calls Try.prog 35 #[.int .i64 d, .int .i64 r] w fun e w' => e = .returned (.bool false) ∧ w' = w := by
  rcases (show (r = 0 ∧ d ≤ 0) ∨ r ≠ 0 by omega) with ⟨rfl, h1⟩ | h1
  · clear h
    have hD := decide_eq_false (show ¬ 0 < d by omega)
    go_enter Try.func35, Try.ntmps35
    go_wp2
    all_goals
      go_ret
      exact ⟨rfl, rfl⟩
  · have hz : (r == 0) = false := by simp [h1]
    clear h h1
    go_enter Try.func35, Try.ntmps35
    go_wp2
    all_goals
      go_ret
      exact ⟨rfl, rfl⟩
theorem cmp_q (a b : Int) (w : World) : Calls Try.prog 36 #[.int .i64 a, .int .i64 b] w fun e w' => e = .returned (.int .i64 (cmpP a b)) ∧ w' = w := by
  rcases (show a < b ∨ (¬ a < b ∧ b < a) ∨ (¬ a < b ∧ ¬ b < a) by omega) with h | ⟨h, h2⟩ | ⟨h, h2⟩
  · have e : cmpP a b = -1 := by simp [cmpP, h]
    rw [e]
    clear e
    go_enter Try.func36, Try.ntmps36
    go_wp2
    all_goals
      go_ret
      exact ⟨rfl, rfl⟩
  · have e : cmpP a b = 1 := by unfold cmpP; rw [if_neg h, if_pos h2]
    rw [e]
    clear e
    go_enter Try.func36, Try.ntmps36
    go_wp2
    all_goals
      go_ret
      exact ⟨rfl, rfl⟩
  · have e : cmpP a b = 0 := by unfold cmpP; rw [if_neg h, if_neg h2]
    rw [e]
    clear e
    go_enter Try.func36, Try.ntmps36
    go_wp2
    all_goals
      go_ret
      exact ⟨rfl, rfl⟩

theorem ret_int {k : IntKind} {a b : Int} (h : a = b) : Ending.returned (.int k a) = .returned (.int k b) := by rw [h]
theorem ret_bool {a b : Bool} (h : a = b) : Ending.returned (.bool a) = .returned (.bool b) := by rw [h]
def rangedB (d r : Int) : Bool := decide (ranged d r)
def infB (d r : Int) : Bool := decide (r = 0 ∧ d > 0)
theorem slope_q (d r : Int) (w : World) : Calls Try.prog 34 #[.int .i64 d, .int .i64 r] w fun e w' => e = .returned (.bool (rangedB d r)) ∧ w' = w := by
  by_cases h : ranged d r
  · rw [show rangedB d r = true from decide_eq_true h]; exact slope_yes d r w h
  · rw [show rangedB d r = false from decide_eq_false h]; exact slope_no d r w h
theorem inf_q (d r : Int) (w : World) : Calls Try.prog 35 #[.int .i64 d, .int .i64 r] w fun e w' => e = .returned (.bool (infB d r)) ∧ w' = w := by
  by_cases h : r = 0 ∧ d > 0
  · rw [show infB d r = true from decide_eq_true h]; exact inf_yes d r w h
  · rw [show infB d r = false from decide_eq_false h]; exact inf_no d r w h

set_option maxHeartbeats 2000000 in
theorem steeper_quiet (d1 r1 d2 r2 : Int) (w : World) : Calls Try.prog 30 #[.int .i64 d1, .int .i64 r1, .int .i64 d2, .int .i64 r2] w fun e w' => e = .returned (.int .i64 (stP d1 r1 d2 r2)) ∧ w' = w := by
  cases hR1 : rangedB d1 r1 with
  | false =>
    have e : stP d1 r1 d2 r2 = 0 := by unfold stP; rw [if_neg (fun h => of_decide_eq_false hR1 h.1)]
    rw [e]
    clear e
    go_enter Try.func30, Try.ntmps30
    go_wp2_with (go_at_call 34; (with_reducible refine (slope_q _ _ _).mono ?_); rintro e w' ⟨rfl, rfl⟩)
    go_ret
    exact ⟨rfl, rfl⟩
  | true =>
    cases hR2 : rangedB d2 r2 with
    | false =>
      have e : stP d1 r1 d2 r2 = 0 := by unfold stP; rw [if_neg (fun h => of_decide_eq_false hR2 h.2)]
      rw [e]
      clear e
      go_enter Try.func30, Try.ntmps30
      go_wp2_with (go_at_call 34; (with_reducible refine (slope_q _ _ _).mono ?_); rintro e w' ⟨rfl, rfl⟩)
      go_ret
      exact ⟨rfl, rfl⟩
    | true =>
      have hst : stP d1 r1 d2 r2 = if (r1 = 0 ∧ d1 > 0) ∧ (r2 = 0 ∧ d2 > 0) then 0 else if r1 = 0 ∧ d1 > 0 then 1 else if r2 = 0 ∧ d2 > 0 then -1 else cmpP (d1 * mx r2 1) (d2 * mx r1 1) := by
        unfold stP; rw [if_pos ⟨of_decide_eq_true hR1, of_decide_eq_true hR2⟩]
      have q1 := of_decide_eq_true hR1
      have q2 := of_decide_eq_true hR2
      have p1 := prod_le q1.1 q1.2.1 q2.2.2.1 q2.2.2.2
      have p2 := prod_le q2.1 q2.2.1 q1.2.2.1 q1.2.2.2
      cases hI1 : infB d1 r1 with
      | true =>
        cases hI2 : infB d2 r2 with
        | true =>
          have e : stP d1 r1 d2 r2 = 0 := by rw [hst, if_pos ⟨of_decide_eq_true hI1, of_decide_eq_true hI2⟩]
          rw [e]
          clear e hst q1 q2 p1 p2
          go_enter Try.func30, Try.ntmps30
          go_wp2_with (first | (go_at_call 34; (with_reducible refine (slope_q _ _ _).mono ?_); rintro e w' ⟨rfl, rfl⟩) | (go_at_call 35; (with_reducible refine (inf_q _ _ _).mono ?_); rintro e w' ⟨rfl, rfl⟩))
          go_ret
          exact ⟨rfl, rfl⟩
        | false =>
          have e : stP d1 r1 d2 r2 = 1 := by rw [hst, if_neg (fun h => of_decide_eq_false hI2 h.2), if_pos (of_decide_eq_true hI1)]
          rw [e]
          clear e hst q1 q2 p1 p2
          go_enter Try.func30, Try.ntmps30
          go_wp2_with (first | (go_at_call 34; (with_reducible refine (slope_q _ _ _).mono ?_); rintro e w' ⟨rfl, rfl⟩) | (go_at_call 35; (with_reducible refine (inf_q _ _ _).mono ?_); rintro e w' ⟨rfl, rfl⟩))
          go_ret
          exact ⟨rfl, rfl⟩
      | false =>
        cases hI2 : infB d2 r2 with
        | true =>
          have e : stP d1 r1 d2 r2 = -1 := by rw [hst, if_neg (fun h => of_decide_eq_false hI1 h.1), if_neg (of_decide_eq_false hI1), if_pos (of_decide_eq_true hI2)]
          rw [e]
          clear e hst q1 q2 p1 p2
          go_enter Try.func30, Try.ntmps30
          go_wp2_with (first | (go_at_call 34; (with_reducible refine (slope_q _ _ _).mono ?_); rintro e w' ⟨rfl, rfl⟩) | (go_at_call 35; (with_reducible refine (inf_q _ _ _).mono ?_); rintro e w' ⟨rfl, rfl⟩))
          go_ret
          exact ⟨rfl, rfl⟩
        | false =>
          have e : stP d1 r1 d2 r2 = cmpP (d1 * mx r2 1) (d2 * mx r1 1) := by rw [hst, if_neg (fun h => of_decide_eq_false hI1 h.1), if_neg (of_decide_eq_false hI1), if_neg (of_decide_eq_false hI2)]
          rw [e]
          clear e hst q1 q2
          go_enter Try.func30, Try.ntmps30
          go_wp2_with (first | (go_at_call 34; (with_reducible refine (slope_q _ _ _).mono ?_); rintro e w' ⟨rfl, rfl⟩) | (go_at_call 35; (with_reducible refine (inf_q _ _ _).mono ?_); rintro e w' ⟨rfl, rfl⟩) | (go_at_call 36; (with_reducible refine (cmp_q _ _ _).mono ?_); rintro e w' ⟨rfl, rfl⟩))
          all_goals
            (first | rw [show mx r2 1 = 1 from if_pos (by assumption)] at p1 ⊢ | rw [show mx r2 1 = r2 from if_neg (by omega)] at p1 ⊢)
            (first | rw [show mx r1 1 = 1 from if_pos (by assumption)] at p2 ⊢ | rw [show mx r1 1 = r1 from if_neg (by omega)] at p2 ⊢)
            (try rw [Int.mul_one] at p1)
            (try rw [Int.mul_one] at p2)
            go_ret
            exact ⟨ret_int (by (try rw [Int.mul_one]); (try rw [Int.mul_one]); rw [wrap_id (by omega) (by omega), wrap_id (by omega) (by omega)]), rfl⟩

set_option maxRecDepth 1000000 in
set_option maxHeartbeats 2000000 in
/-- The local function: 'better'. -/
theorem better_calls (A0 : Option Addr) (c0 : Nat) (rs : List Int) (A1 : Option Addr) (c1 : Nat) (ds : List Int) (i j nx : Nat) (bn bc bi : Nat) (w : World) (hV : Vld rs ds) (hi : i < rs.length) (hj : j < rs.length) (hn : nx < rs.length)
    (hr : Kd.C (Kd.int .i64) w A0 rs.length rs) (hd : Kd.C (Kd.int .i64) w A1 ds.length ds)
    (kn : w.cell? ⟨bn, 0, none⟩ = some (.int .i64 nx)) (kc0 : w.cell? ⟨bc, 0, none⟩ = some (.slice A0 rs.length c0)) (kc1 : w.cell? ⟨bc, 1, none⟩ = some (.slice A1 ds.length c1)) (ki : w.cell? ⟨bi, 0, none⟩ = some (.int .i64 i)) :
    Calls Try.prog 33 #[.int .i64 j, .pointer (some ⟨bn, 0, none⟩), .pointer (some ⟨bc, 0, none⟩), .pointer (some ⟨bi, 0, none⟩)] w fun e w' => e = .returned (.bool (betterP rs ds i j nx)) ∧ ∃ m, w' = w.drewN m := by
  have hld : rs.length = ds.length := hV.1
  obtain ⟨a0, rfl, h0⟩ := c_cells hr (by omega)
  obtain ⟨a1, rfl, h1⟩ := c_cells hd (by omega)
  have ri := h0 i hi
  have rj := h0 j hj
  have rn := h0 nx hn
  have di := h1 i (by omega)
  have dj := h1 j (by omega)
  have dn := h1 nx (by omega)
  have bi1 := hV.rate hi
  have bj1 := hV.rate hj
  have bn1 := hV.rate hn
  have bi2 := hV.dist hi
  have bj2 := hV.dist hj
  have bn2 := hV.dist hn
  have e : betterP rs ds i j nx = (decide (stP (el ds i - el ds j) (el rs j - el rs i) (el ds i - el ds nx) (el rs nx - el rs i) > 0) ||
    (stP (el ds i - el ds j) (el rs j - el rs i) (el ds i - el ds nx) (el rs nx - el rs i) == 0 && decide (el ds j < el ds nx))) := by
    unfold betterP; rw [if_neg (by omega)]; rfl
  rw [e]
  have hld' : (rs.length : Int) = (ds.length : Int) := by omega
  have li : (i : Int) < (rs.length : Int) := by omega
  have lj : (j : Int) < (rs.length : Int) := by omega
  have ln : (nx : Int) < (rs.length : Int) := by omega
  have li' : (i : Int) < (ds.length : Int) := by omega
  have lj' : (j : Int) < (ds.length : Int) := by omega
  have ln' : (nx : Int) < (ds.length : Int) := by omega
  have HL := Lib.hid hld
  clear hV hr hd h0 h1 e hld hld'
  generalize el rs i = x0 at *
  generalize el rs j = x1 at *
  generalize el rs nx = x2 at *
  generalize el ds i = y0 at *
  generalize el ds j = y1 at *
  generalize el ds nx = y2 at *
  have hq : ∀ W : World, Calls Try.prog 30 #[.int .i64 (y0 - y1), .int .i64 (x1 - x0), .int .i64 (y0 - y2), .int .i64 (x2 - x0)] W fun e w' => e = .returned (.int .i64 (stP (y0 - y1) (x1 - x0) (y0 - y2) (x2 - x0))) ∧ w' = W := fun W => steeper_quiet _ _ _ _ W
  generalize stP (y0 - y1) (x1 - x0) (y0 - y2) (x2 - x0) = s at *
  have HQ := Lib.hid hq
  clear hq
  rcases (show 0 < s ∨ s = 0 ∨ s < 0 by omega) with hs | rfl | hs
  · go_enter Try.func33, Try.ntmps33
    go_wp2
    go_quiet ((go_at_call 30; exact Calls.quiet_of_same (HQ.out _)))
    go_wp2
    go_quiet (fail)
    go_wp2
    go_ret
    exact ⟨ret_bool (by simp [hs]), _, World.drewN_drewN ..⟩
  · go_enter Try.func33, Try.ntmps33
    go_wp2
    go_quiet ((go_at_call 30; exact Calls.quiet_of_same (HQ.out _)))
    go_wp2
    go_quiet (fail)
    go_wp2
    go_ret
    exact ⟨ret_bool (by simp), _, World.drewN_drewN ..⟩
  · have hs0 : (s == 0) = false := by simp; omega
    have hs1 : decide (0 < s) = false := by simp; omega
    go_enter Try.func33, Try.ntmps33
    go_wp2
    go_quiet ((go_at_call 30; exact Calls.quiet_of_same (HQ.out _)))
    go_wp2
    go_quiet (fail)
    go_wp2
    go_ret
    exact ⟨ret_bool (by simp [hs0]; omega), _, World.drewN_drewN ..⟩
theorem better_none (i j : Nat) (bn bc bi : Nat) (nx : Int) (rs ds : List Int) (w : World) (hn : nx < 0) (kn : w.cell? ⟨bn, 0, none⟩ = some (.int .i64 nx)) :
    Calls Try.prog 33 #[.int .i64 j, .pointer (some ⟨bn, 0, none⟩), .pointer (some ⟨bc, 0, none⟩), .pointer (some ⟨bi, 0, none⟩)] w fun e w' => e = .returned (.bool (betterP rs ds i j nx)) ∧ ∃ m, w' = w.drewN m := by
  have e : betterP rs ds i j nx = true := by unfold betterP; rw [if_pos hn]
  rw [e]
  clear e
  go_enter Try.func33, Try.ntmps33
  go_wp2
  go_ret
  exact ⟨rfl, 0, rfl⟩

theorem scan_bound (rs ds : List Int) (i : Nat) : ∀ (m j : Nat) (nx : Int), -1 ≤ nx → nx < (j : Int) → -1 ≤ scanP rs ds i m j nx ∧ scanP rs ds i m j nx < ((j + m : Nat) : Int)
  | 0, j, nx, h0, h1 => ⟨h0, by simpa [scanP] using h1⟩
  | m + 1, j, nx, h0, h1 => by
    simp only [scanP]
    have := scan_bound rs ds i m (j + 1) (if (decide (el ds j < el ds i) && betterP rs ds i j nx) = true then (j : Int) else nx) (by split <;> omega) (by split <;> omega)
    omega
theorem next_bound (rs ds : List Int) (i : Nat) (hi : i < rs.length) : nextP rs ds i < 0 ∨ ((i : Int) < nextP rs ds i ∧ nextP rs ds i < rs.length) := by
  have key : ∀ (m j : Nat) (nx : Int), (nx = -1 ∨ (i : Int) < nx) → i < j → (scanP rs ds i m j nx = -1 ∨ (i : Int) < scanP rs ds i m j nx) := by
    intro m
    induction m with
    | zero => intro j nx h _; exact h
    | succ m ih =>
      intro j nx h hj
      simp only [scanP]
      refine ih (j + 1) _ ?_ (by omega)
      split
      · exact .inr (by omega)
      · exact h
  have h1 := key (rs.length - (i + 1)) (i + 1) (-1) (.inl rfl) (by omega)
  have h2 := scan_bound rs ds i (rs.length - (i + 1)) (i + 1) (-1) (by omega) (by omega)
  unfold nextP
  omega

end Go.Proofs.Ytgmadhlebpbcpaa.P
