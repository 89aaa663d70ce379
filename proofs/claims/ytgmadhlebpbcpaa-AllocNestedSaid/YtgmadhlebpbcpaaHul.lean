/- (Written by wip/gen/hull2alloc.py from wip/hull/Hul.lean.) -/
/- The lower hull in plain numbers: what the search for the next point finds, that slopes fall strictly along the hull, and which points cost least at a price. No program is in sight. -/
import Derived.Test.YtgmadhlebpbcpaaPtb
import Derived.Test.YtgmadhlebpbcpaaOrdP
set_option linter.unusedVariables false
set_option linter.unusedSimpArgs false
namespace Go.Proofs.Ytgmadhlebpbcpaa.P
open Go.RowKit Go.Proofs.YtgmadhlebpbcpaaW.PrintWords Go.Proofs.YtgmadhlebpbcpaaW.PrintLast Go.Proofs.YtgmadhlebpbcpaaW.PrintMore

/-! ### products -/
theorem mul_pull (a b c : Int) : a * (b * c) = b * (a * c) := by rw [← Int.mul_assoc, Int.mul_comm a b, Int.mul_assoc]
theorem cr_le {da ra db rb dc rc : Int} (hb : 1 ≤ db) (ha : 1 ≤ da) (hc : 1 ≤ dc) (x : db * ra ≤ da * rb) (y : dc * rb ≤ db * rc) : dc * ra ≤ da * rc := by
  have x' := Int.mul_le_mul_of_nonneg_left x (show (0 : Int) ≤ dc by omega)
  have y' := Int.mul_le_mul_of_nonneg_left y (show (0 : Int) ≤ da by omega)
  refine Int.le_of_mul_le_mul_left (a := db) ?_ (by omega)
  rw [mul_pull db dc ra, mul_pull db da rc]
  refine Int.le_trans x' ?_
  rw [mul_pull dc da rb]
  exact y'
theorem cr_lt1 {da ra db rb dc rc : Int} (hb : 1 ≤ db) (ha : 1 ≤ da) (hc : 1 ≤ dc) (x : db * ra < da * rb) (y : dc * rb ≤ db * rc) : dc * ra < da * rc := by
  have x' := Int.mul_lt_mul_of_pos_left x (show (0 : Int) < dc by omega)
  have y' := Int.mul_le_mul_of_nonneg_left y (show (0 : Int) ≤ da by omega)
  refine Int.lt_of_mul_lt_mul_left (a := db) ?_ (by omega)
  rw [mul_pull db dc ra, mul_pull db da rc]
  refine Int.lt_of_lt_of_le x' ?_
  rw [mul_pull dc da rb]
  exact y'
theorem cr_lt2 {da ra db rb dc rc : Int} (hb : 1 ≤ db) (ha : 1 ≤ da) (hc : 1 ≤ dc) (x : db * ra ≤ da * rb) (y : dc * rb < db * rc) : dc * ra < da * rc := by
  have x' := Int.mul_le_mul_of_nonneg_left x (show (0 : Int) ≤ dc by omega)
  have y' := Int.mul_lt_mul_of_pos_left y (show (0 : Int) < da by omega)
  refine Int.lt_of_mul_lt_mul_left (a := db) ?_ (by omega)
  rw [mul_pull db dc ra, mul_pull db da rc]
  refine Int.lt_of_le_of_lt x' ?_
  rw [mul_pull dc da rb]
  exact y'
/-- Of two falls, Steeper compares the cross products. -/
theorem st_cmp {d1 r1 d2 r2 : Int} (h1 : ranged d1 r1) (h2 : ranged d2 r2) (p1 : 1 ≤ d1) (p2 : 1 ≤ d2) : stP d1 r1 d2 r2 = cmpP (d1 * r2) (d2 * r1) := by
  obtain ⟨_, _, a1, _⟩ := h1
  obtain ⟨_, _, a2, _⟩ := h2
  rw [st_inf ⟨by omega, by omega, by omega, by omega⟩ ⟨by omega, by omega, by omega, by omega⟩]
  by_cases i1 : r1 = 0 <;> by_cases i2 : r2 = 0
  · subst i1; subst i2
    rw [if_pos ⟨⟨rfl, by omega⟩, ⟨rfl, by omega⟩⟩]
    simp [cmpP]
  · subst i1
    rw [if_neg (by omega), if_pos ⟨rfl, by omega⟩]
    have : 0 < d1 * r2 := Int.mul_pos (by omega) (by omega)
    unfold cmpP
    rw [Int.mul_zero, if_neg (by omega), if_pos (by omega)]
  · subst i2
    rw [if_neg (by omega), if_neg (by omega), if_pos ⟨rfl, by omega⟩]
    have : 0 < d2 * r1 := Int.mul_pos (by omega) (by omega)
    unfold cmpP
    rw [Int.mul_zero, if_pos (by omega)]
  · rw [if_neg (by omega), if_neg (by omega), if_neg (by omega)]
    rw [show mx r2 1 = r2 by unfold mx; split <;> omega, show mx r1 1 = r1 by unfold mx; split <;> omega]

/-- From point i: the fall to a point, and the rise of the rate. -/
def fl (ds : List Int) (i j : Nat) : Int := el ds i - el ds j
def rse (rs : List Int) (i j : Nat) : Int := el rs j - el rs i
/-- a is strictly better than b as the point behind i, and at least as good. -/
def Bet (rs ds : List Int) (i a b : Nat) : Prop := fl ds i b * rse rs i a < fl ds i a * rse rs i b ∨ (fl ds i b * rse rs i a = fl ds i a * rse rs i b ∧ el ds a < el ds b)
def Beq (rs ds : List Int) (i a b : Nat) : Prop := fl ds i b * rse rs i a < fl ds i a * rse rs i b ∨ (fl ds i b * rse rs i a = fl ds i a * rse rs i b ∧ el ds a ≤ el ds b)
theorem Bet.weak {rs ds : List Int} {i a b : Nat} (h : Bet rs ds i a b) : Beq rs ds i a b := by
  rcases h with h | ⟨h, g⟩
  · exact .inl h
  · exact .inr ⟨h, by omega⟩
theorem bet_trans {rs ds : List Int} {i a b c : Nat} (ha : el ds a < el ds i) (hb : el ds b < el ds i) (hc : el ds c < el ds i) (x : Bet rs ds i a b) (y : Beq rs ds i b c) : Bet rs ds i a c := by
  have pa : 1 ≤ fl ds i a := by unfold fl; omega
  have pb : 1 ≤ fl ds i b := by unfold fl; omega
  have pc : 1 ≤ fl ds i c := by unfold fl; omega
  rcases x with x | ⟨x, x2⟩ <;> rcases y with y | ⟨y, y2⟩
  · exact .inl (cr_lt1 pb pa pc x (by omega))
  · exact .inl (cr_lt1 pb pa pc x (by omega))
  · exact .inl (cr_lt2 pb pa pc (by omega) y)
  · refine .inr ⟨?_, by omega⟩
    have h1 := cr_le pb pa pc (Int.le_of_eq x) (Int.le_of_eq y)
    have h2 := cr_le (da := fl ds i c) (ra := rse rs i c) (rc := rse rs i a) (rb := rse rs i b) pb pc pa (Int.le_of_eq y.symm) (Int.le_of_eq x.symm)
    omega
theorem better_bet {rs ds : List Int} (hV : Vld rs ds) {i j n : Nat} (hij : i < j) (hin : i < n) (hj : j < rs.length) (hn : n < rs.length) (dj : el ds j < el ds i) (dn : el ds n < el ds i) :
    (betterP rs ds i j (n : Int) = true → Bet rs ds i j n) ∧ (betterP rs ds i j (n : Int) = false → Beq rs ds i n j) := by
  have di := hV.dist (show i < rs.length by omega)
  have d1 := hV.dist hj
  have d2 := hV.dist hn
  have r1 := hV.rate hj
  have r2 := hV.rate hn
  have r0 := hV.rate (show i < rs.length by omega)
  have m1 := hV.mono (Nat.le_of_lt hij) hj
  have m2 := hV.mono (Nat.le_of_lt hin) hn
  have e := st_cmp (d1 := el ds i - el ds j) (r1 := el rs j - el rs i) (d2 := el ds i - el ds n) (r2 := el rs n - el rs i) ⟨by omega, by omega, by omega, by omega⟩ ⟨by omega, by omega, by omega, by omega⟩ (by omega) (by omega)
  unfold betterP
  rw [if_neg (by omega), Int.toNat_natCast, e]
  unfold Bet Beq fl rse
  rcases cmp_cases ((el ds i - el ds j) * (el rs n - el rs i)) ((el ds i - el ds n) * (el rs j - el rs i)) with ⟨h, g⟩ | ⟨h, g⟩ | ⟨h, g⟩
  · rw [h]
    refine ⟨fun h => by simp at h, fun _ => .inl g⟩
  · rw [h]
    refine ⟨fun h => .inr ⟨g.symm, by simpa using h⟩, fun h => .inr ⟨g, ?_⟩⟩
    simp at h
    omega
  · rw [h]
    refine ⟨fun _ => .inl g, fun h => by simp at h⟩

/-- What the scan has found below j: nothing, or the best one. -/
def Fnd (rs ds : List Int) (i j : Nat) (nx : Int) : Prop :=
  (nx = -1 ∧ ∀ q, i < q → q < j → el ds i ≤ el ds q) ∨
  ∃ n : Nat, nx = (n : Int) ∧ i < n ∧ n < j ∧ el ds n < el ds i ∧ (∀ q, i < q → q < j → el ds q < el ds i → Beq rs ds i n q) ∧ (∀ q, i < q → q < n → el ds q < el ds i → Bet rs ds i n q)
theorem beq_self (rs ds : List Int) (i a : Nat) : Beq rs ds i a a := .inr ⟨rfl, Int.le_refl _⟩
theorem scan_fnd {rs ds : List Int} (hV : Vld rs ds) {i : Nat} : ∀ (m j : Nat) (nx : Int), i < j → j + m = rs.length → Fnd rs ds i j nx → Fnd rs ds i rs.length (scanP rs ds i m j nx)
  | 0, j, nx, _, hj, h => by
    obtain rfl : j = rs.length := by omega
    exact h
  | m + 1, j, nx, hij, hj, h => by
    simp only [scanP]
    refine scan_fnd hV m (j + 1) _ (by omega) (by omega) ?_
    by_cases hd : el ds j < el ds i
    · rcases h with ⟨rfl, h⟩ | ⟨n, rfl, h1, h2, h3, h4, h5⟩
      · rw [if_pos (by simp [hd, betterP])]
        refine .inr ⟨j, rfl, hij, by omega, hd, fun q h1 h2 h3 => ?_, fun q h1 h2 h3 => absurd (h q h1 (by omega)) (by omega)⟩
        by_cases e : q = j
        · subst e; exact beq_self _ _ _ _
        · exact absurd (h q h1 (by omega)) (by omega)
      · have hb := better_bet hV hij h1 (show j < rs.length by omega) (show n < rs.length by omega) hd h3
        cases hx : betterP rs ds i j (n : Int) with
        | true =>
          rw [if_pos (by simp [hd])]
          have b := hb.1 hx
          refine .inr ⟨j, rfl, hij, by omega, hd, fun q q1 q2 q3 => ?_, fun q q1 q2 q3 => bet_trans hd h3 q3 b (h4 q q1 q2 q3)⟩
          by_cases e : q = j
          · subst e; exact beq_self _ _ _ _
          · exact (bet_trans hd h3 q3 b (h4 q q1 (by omega) q3)).weak
        | false =>
          rw [if_neg (by simp)]
          refine .inr ⟨n, rfl, h1, by omega, h3, fun q q1 q2 q3 => ?_, h5⟩
          by_cases e : q = j
          · subst e; exact hb.2 hx
          · exact h4 q q1 (by omega) q3
    · rw [if_neg (by simp [hd])]
      rcases h with ⟨rfl, h⟩ | ⟨n, rfl, h1, h2, h3, h4, h5⟩
      · refine .inl ⟨rfl, fun q q1 q2 => ?_⟩
        by_cases e : q = j
        · subst e; omega
        · exact h q q1 (by omega)
      · refine .inr ⟨n, rfl, h1, by omega, h3, fun q q1 q2 q3 => ?_, h5⟩
        by_cases e : q = j
        · subst e; exact absurd q3 hd
        · exact h4 q q1 (by omega) q3
theorem next_fnd {rs ds : List Int} (hV : Vld rs ds) {i : Nat} (hi : i < rs.length) : Fnd rs ds i rs.length (nextP rs ds i) :=
  scan_fnd hV _ _ _ (by omega) (by omega) (.inl ⟨rfl, fun q h1 h2 => by omega⟩)
/-- The next point m behind i. -/
structure Nxt (rs ds : List Int) (i m : Nat) : Prop where
  lt : i < m
  len : m < rs.length
  fall : el ds m < el ds i
  weak : ∀ q, i < q → q < rs.length → el ds q < el ds i → Beq rs ds i m q
  strict : ∀ q, i < q → q < m → el ds q < el ds i → Bet rs ds i m q
def Lst (rs ds : List Int) (i : Nat) : Prop := ∀ q, i < q → q < rs.length → el ds i ≤ el ds q
theorem next_two {rs ds : List Int} (hV : Vld rs ds) {i : Nat} (hi : i < rs.length) : (nextP rs ds i = -1 ∧ Lst rs ds i) ∨ ∃ m : Nat, nextP rs ds i = (m : Int) ∧ Nxt rs ds i m := by
  rcases next_fnd hV hi with h | ⟨n, h0, h1, h2, h3, h4, h5⟩
  · exact .inl h
  · exact .inr ⟨n, h0, h1, h2, h3, h4, h5⟩
theorem Nxt.slopes {rs ds : List Int} {i m t : Nat} (h : Nxt rs ds i m) (g : Nxt rs ds m t) : fl ds m t * rse rs i m < fl ds i m * rse rs m t := by
  have k := h.weak t (by have := h.lt; have := g.lt; omega) g.len (by have := h.fall; have := g.fall; omega)
  have e1 : fl ds i t = fl ds i m + fl ds m t := by unfold fl; omega
  have e2 : rse rs i t = rse rs i m + rse rs m t := by unfold rse; omega
  have gf := g.fall
  unfold Beq at k
  rw [e1, e2, Int.add_mul, Int.mul_add] at k
  omega

/-! ### prices: R for a unit of distortion, D for a unit of rate -/
def cst (rs ds : List Int) (D R : Int) (k : Nat) : Int := R * el ds k + D * el rs k
theorem fwd_num {R D dq rq dm rm : Int} (hR : 1 ≤ R) (hd : 1 ≤ dm) (hrq : 0 ≤ rq) (hrm : 0 ≤ rm) (hP : dq * rm ≤ dm * rq) (hs : R * dm ≤ D * rm) : R * dq ≤ D * rq := by
  by_cases h0 : rm = 0
  · subst h0
    have : 0 < R * dm := Int.mul_pos (by omega) (by omega)
    rw [Int.mul_zero] at hs
    omega
  · refine Int.le_of_mul_le_mul_left (a := rm) ?_ (by omega)
    have a := Int.mul_le_mul_of_nonneg_left hP (show (0 : Int) ≤ R by omega)
    have b := Int.mul_le_mul_of_nonneg_right hs hrq
    have e1 : rm * (R * dq) = R * (dq * rm) := by rw [mul_pull, Int.mul_comm rm]
    have e2 : rm * (D * rq) = D * rm * rq := by rw [← Int.mul_assoc, Int.mul_comm rm]
    have e3 : R * (dm * rq) = R * dm * rq := by rw [Int.mul_assoc]
    omega
theorem bwd_num {R D dq rq dm rm : Int} (hR : 1 ≤ R) (hrq : 0 ≤ rq) (hqm : rq ≤ rm) (hP : dq * rm ≤ dm * rq) (hne : rq = rm → dq < dm) (hs : D * rm ≤ R * dm) :
    D * (rm - rq) ≤ R * (dm - dq) ∧ (D * rm < R * dm → D * (rm - rq) < R * (dm - dq)) := by
  by_cases h0 : rq = rm
  · have h1 := hne h0
    have : 0 < R * (dm - dq) := Int.mul_pos (by omega) (by omega)
    rw [h0, Int.sub_self, Int.mul_zero]
    omega
  · have hrm : 1 ≤ rm := by omega
    have a : rm * (R * (dm - dq)) = R * (dm * rm) - R * (dq * rm) := by rw [mul_pull, Int.mul_sub, Int.mul_sub, Int.mul_comm rm dm, Int.mul_comm rm dq]
    have b := Int.mul_le_mul_of_nonneg_left hP (show (0 : Int) ≤ R by omega)
    have c : R * dm * (rm - rq) = R * (dm * rm) - R * (dm * rq) := by rw [Int.mul_sub, Int.mul_assoc, Int.mul_assoc]
    have d : rm * (D * (rm - rq)) = D * rm * (rm - rq) := by rw [← Int.mul_assoc, Int.mul_comm rm]
    have e := Int.mul_le_mul_of_nonneg_right hs (show (0 : Int) ≤ rm - rq by omega)
    refine ⟨Int.le_of_mul_le_mul_left (a := rm) (by omega) (by omega), fun h => ?_⟩
    have e' := Int.mul_lt_mul_of_pos_right h (show (0 : Int) < rm - rq by omega)
    exact Int.lt_of_mul_lt_mul_left (a := rm) (by omega) (by omega)
theorem cst_sub (rs ds : List Int) (D R : Int) (i j : Nat) : cst rs ds D R i - cst rs ds D R j = R * fl ds i j - D * rse rs i j := by
  unfold cst fl rse
  rw [Int.mul_sub, Int.mul_sub]
  omega
/-- Behind a point with a next one that the price does not pay for (or with none), no point costs less. -/
theorem fwd_cost {rs ds : List Int} (hV : Vld rs ds) {D R : Int} (hR : 1 ≤ R) (hD : 0 ≤ D) {i : Nat} (h : Lst rs ds i ∨ ∃ m, Nxt rs ds i m ∧ R * fl ds i m ≤ D * rse rs i m) : ∀ q, i < q → q < rs.length → cst rs ds D R i ≤ cst rs ds D R q := by
  intro q h1 h2
  have hm := hV.mono (Nat.le_of_lt h1) h2
  have e := cst_sub rs ds D R i q
  have p2 : 0 ≤ D * rse rs i q := Int.mul_nonneg hD (by unfold rse; omega)
  by_cases hq : el ds q < el ds i
  · rcases h with h | ⟨m, h, hs⟩
    · have := h q h1 h2; omega
    · have k := h.weak q h1 h2 hq
      have := hV.mono (Nat.le_of_lt h.lt) h.len
      have f := h.fall
      have := fwd_num (dq := fl ds i q) (rq := rse rs i q) hR (show 1 ≤ fl ds i m by unfold fl; omega) (by unfold rse; omega) (show 0 ≤ rse rs i m by unfold rse; omega) (by rcases k with k | ⟨k, _⟩ <;> omega) hs
      omega
  · have : R * fl ds i q ≤ 0 := by
      have := Int.mul_nonneg (show 0 ≤ R by omega) (show 0 ≤ el ds q - el ds i by omega)
      have e : fl ds i q = - (el ds q - el ds i) := by unfold fl; omega
      rw [e, Int.mul_neg]
      omega
    omega
/-- Up to the next one, if the price pays for the step, no point costs less than that one; and each costs more, if it pays strictly. -/
theorem bwd_cost {rs ds : List Int} (hV : Vld rs ds) {D R : Int} (hR : 1 ≤ R) (hD : 0 ≤ D) {i m : Nat} (h : Nxt rs ds i m) (hs : D * rse rs i m ≤ R * fl ds i m) : ∀ q, i ≤ q → q < m → cst rs ds D R m ≤ cst rs ds D R q ∧ (D * rse rs i m < R * fl ds i m → cst rs ds D R m < cst rs ds D R q) := by
  intro q h1 h2
  have e0 := cst_sub rs ds D R i m
  have hml := h.len
  have hm := hV.mono h1 (show q < rs.length by omega)
  have hm2 := hV.mono (Nat.le_of_lt h2) hml
  by_cases hq : el ds q < el ds i
  · have hlt : i < q := by
      rcases Nat.lt_or_ge i q with h | h
      · exact h
      · obtain rfl : i = q := by omega
        omega
    have k := h.strict q hlt h2 hq
    have e := cst_sub rs ds D R q m
    have b := bwd_num (R := R) (D := D) (dq := fl ds i q) (rq := rse rs i q) (dm := fl ds i m) (rm := rse rs i m) hR (by unfold rse; omega) (by unfold rse; omega) (by rcases k with k | ⟨k, _⟩ <;> omega) ?_ hs
    · have e1 : fl ds q m = fl ds i m - fl ds i q := by unfold fl; omega
      have e2 : rse rs q m = rse rs i m - rse rs i q := by unfold rse; omega
      rw [e1, e2] at e
      refine ⟨by omega, fun h => ?_⟩
      have := b.2 h
      omega
    · intro hr
      rcases k with k | ⟨k, k2⟩
      · rw [hr] at k
        rcases Int.lt_or_le (fl ds i q) (fl ds i m) with g | g
        · exact g
        · have := Int.mul_le_mul_of_nonneg_right g (show 0 ≤ rse rs i m by unfold rse; omega)
          omega
      · unfold fl; omega
  · have e := cst_sub rs ds D R q i
    have p1 := Int.mul_nonneg (show 0 ≤ R by omega) (show 0 ≤ fl ds q i by unfold fl; omega)
    have p2 : 0 ≤ D * (el rs q - el rs i) := Int.mul_nonneg hD (by omega)
    have e2 : D * rse rs q i = - (D * (el rs q - el rs i)) := by rw [← Int.mul_neg]; congr 1; unfold rse; omega
    rw [e2] at e
    refine ⟨by omega, fun h => by omega⟩
/-- The price is at most the slope of the step behind i; without such a step, it is 0. -/
def Below' (rs ds : List Int) (D R : Int) (i : Nat) : Prop := (Lst rs ds i ∧ D = 0) ∨ ∃ m, Nxt rs ds i m ∧ D * rse rs i m ≤ R * fl ds i m
/-- At a price that is at most the slope of the step behind i, all points before i cost more. -/
def Ahead (rs ds : List Int) (i : Nat) : Prop := ∀ D R : Int, 1 ≤ R → 0 ≤ D → Below' rs ds D R i → ∀ q, q < i → cst rs ds D R i < cst rs ds D R q
theorem ahead_zero (rs ds : List Int) : Ahead rs ds 0 := fun D R _ _ _ q h => by omega
theorem step_num {R D dm rm dt rt : Int} (hR : 1 ≤ R) (hrt : 0 ≤ rt) (hrm : 0 ≤ rm) (hdt : 0 ≤ dt) (h : dt * rm < dm * rt) (hs : D * rt ≤ R * dt) : D * rm < R * dm := by
  have h0 : 1 ≤ rt := by
    rcases Int.lt_or_le 0 rt with h | h
    · omega
    · obtain rfl : rt = 0 := by omega
      have := Int.mul_nonneg hdt hrm
      omega
  refine Int.lt_of_mul_lt_mul_left (a := rt) ?_ (by omega)
  have a := Int.mul_le_mul_of_nonneg_right hs hrm
  have b := Int.mul_lt_mul_of_pos_left h (show (0 : Int) < R by omega)
  have e1 : rt * (D * rm) = D * rt * rm := by rw [← Int.mul_assoc, Int.mul_comm rt]
  have e2 : rt * (R * dm) = R * (dm * rt) := by rw [mul_pull, Int.mul_comm rt]
  have e3 : R * (dt * rm) = R * dt * rm := by rw [Int.mul_assoc]
  omega
theorem ahead_next {rs ds : List Int} (hV : Vld rs ds) {i m : Nat} (h : Nxt rs ds i m) (ha : Ahead rs ds i) : Ahead rs ds m := by
  intro D R hR hD hb q hq
  have hf := h.fall
  have hr := hV.mono (Nat.le_of_lt h.lt) h.len
  have hs : D * rse rs i m < R * fl ds i m := by
    rcases hb with ⟨_, rfl⟩ | ⟨t, g, hs⟩
    · rw [Int.zero_mul]
      exact Int.mul_pos (by omega) (by unfold fl; omega)
    · have := hV.mono (Nat.le_of_lt g.lt) g.len
      have := g.fall
      exact step_num hR (show 0 ≤ rse rs m t by unfold rse; omega) (by unfold rse; omega) (by unfold fl; omega) (h.slopes g) hs
  rcases Nat.lt_or_ge q i with hqi | hqi
  · have h1 := ha D R hR hD (.inr ⟨m, h, by omega⟩) q hqi
    have h2 := (bwd_cost hV hR hD h (by omega) i (Nat.le_refl _) h.lt).2 hs
    omega
  · exact (bwd_cost hV hR hD h (by omega) q hqi hq).2 hs

/-! ### the chain of the hull's points -/
/-- A list that begins with i, and goes on from next point to next point up to the last one. -/
inductive Chn (rs ds : List Int) : Nat → List Int → Prop
  | last (i : Nat) (h : Lst rs ds i) : Chn rs ds i [(i : Int)]
  | cons (i m : Nat) (l : List Int) (h : Nxt rs ds i m) (t : Chn rs ds m l) : Chn rs ds i ((i : Int) :: l)
theorem chn_of {rs ds : List Int} (hV : Vld rs ds) : ∀ (f i : Nat), i < rs.length → rs.length ≤ f + i → Chn rs ds i (chainP rs ds f i)
  | 0, i, hi, hf => by omega
  | f + 1, i, hi, hf => by
    simp only [chainP]
    rcases next_two hV hi with ⟨e, h⟩ | ⟨m, e, h⟩
    · rw [if_pos (by omega)]
      exact .last i h
    · rw [e, if_neg (by omega), Int.toNat_natCast]
      exact .cons i m _ h (chn_of hV f m h.len (by have := h.lt; omega))
theorem points_chn {rs ds : List Int} (hV : Vld rs ds) : Chn rs ds 0 (pointsP rs ds) := by
  unfold pointsP
  rw [if_pos (show validB rs ds = true from decide_eq_true hV)]
  exact chn_of hV _ _ (by have := hV.2.1; omega) (by omega)
theorem Chn.head {rs ds : List Int} {i : Nat} {l : List Int} (h : Chn rs ds i l) : 0 < l.length ∧ el l 0 = (i : Int) := by
  cases h <;> simp [el]
/-- At place k of the chain: its point, what precedes it, and its next one. -/
theorem Chn.at {rs ds : List Int} (hV : Vld rs ds) {i : Nat} {l : List Int} (h : Chn rs ds i l) (ha : Ahead rs ds i) (hi : i < rs.length) : ∀ k, k < l.length → ∃ p : Nat, el l k = (p : Int) ∧ i ≤ p ∧ p < rs.length ∧ Ahead rs ds p ∧
    ((k + 1 = l.length ∧ Lst rs ds p) ∨ (k + 1 < l.length ∧ ∃ m : Nat, el l (k + 1) = (m : Int) ∧ Nxt rs ds p m)) := by
  induction h with
  | last i h =>
    intro k hk
    obtain rfl : k = 0 := by simp at hk; omega
    exact ⟨i, by simp [el], Nat.le_refl _, hi, ha, .inl ⟨rfl, h⟩⟩
  | cons i m l h t ih =>
    intro k hk
    cases k with
    | zero =>
      refine ⟨i, by simp [el], Nat.le_refl _, hi, ha, .inr ⟨by have := t.head.1; simp; omega, m, ?_, h⟩⟩
      have := t.head.2
      simpa [el] using this
    | succ k =>
      obtain ⟨p, h1, h2, h3, h4, h5⟩ := ih (ahead_next hV h ha) h.len k (by simp at hk; omega)
      refine ⟨p, by simpa [el] using h1, by have := h.lt; omega, h3, h4, ?_⟩
      rcases h5 with ⟨h5, h6⟩ | ⟨h5, m', h6, h7⟩
      · exact .inl ⟨by simp; omega, h6⟩
      · exact .inr ⟨by simp; omega, m', by simpa [el] using h6, h7⟩
theorem points_at {rs ds : List Int} (hV : Vld rs ds) : ∀ k, k < (pointsP rs ds).length → ∃ p : Nat, el (pointsP rs ds) k = (p : Int) ∧ p < rs.length ∧ Ahead rs ds p ∧
    ((k + 1 = (pointsP rs ds).length ∧ Lst rs ds p) ∨ (k + 1 < (pointsP rs ds).length ∧ ∃ m : Nat, el (pointsP rs ds) (k + 1) = (m : Int) ∧ Nxt rs ds p m)) := by
  intro k hk
  obtain ⟨p, h1, _, h3, h4, h5⟩ := (points_chn hV).at hV (ahead_zero _ _) (by have := hV.2.1; omega) k hk
  exact ⟨p, h1, h3, h4, h5⟩
/-- The first point of least cost at a price. -/
def Fst (rs ds : List Int) (D R : Int) (b : Nat) : Prop := b < rs.length ∧ (∀ q, q < rs.length → cst rs ds D R b ≤ cst rs ds D R q) ∧ ∀ q, q < b → cst rs ds D R b < cst rs ds D R q
theorem Fst.uniq {rs ds : List Int} {D R : Int} {a b : Nat} (ha : Fst rs ds D R a) (hb : Fst rs ds D R b) : a = b := by
  rcases Nat.lt_trichotomy a b with h | h | h
  · have := hb.2.2 a h; have := ha.2.1 b hb.1; omega
  · exact h
  · have := ha.2.2 b h; have := hb.2.1 a ha.1; omega
theorem fst_mem {rs ds : List Int} (hV : Vld rs ds) {D R : Int} (hR : 1 ≤ R) (hD : 0 ≤ D) {b : Nat} (hb : Fst rs ds D R b) {i : Nat} {l : List Int} (h : Chn rs ds i l) (hib : i ≤ b) : (b : Int) ∈ l := by
  induction h with
  | last i h =>
    rcases Nat.lt_or_ge i b with g | g
    · have := fwd_cost hV hR hD (.inl h) b g hb.1
      have := hb.2.2 i g
      omega
    · obtain rfl : i = b := by omega
      simp
  | cons i m l h t ih =>
    rcases Int.lt_or_le (D * rse rs i m) (R * fl ds i m) with hs | hs
    · rcases Nat.lt_or_ge b m with g | g
      · have := (bwd_cost hV hR hD h (by omega) b hib g).2 hs
        have := hb.2.1 m h.len
        omega
      · exact List.mem_cons_of_mem _ (ih g)
    · rcases Nat.lt_or_ge i b with g | g
      · have := fwd_cost hV hR hD (.inr ⟨m, h, hs⟩) b g hb.1
        have := hb.2.2 i g
        omega
      · obtain rfl : i = b := by omega
        simp
theorem fst_points {rs ds : List Int} (hV : Vld rs ds) {D R : Int} (hR : 1 ≤ R) (hD : 0 ≤ D) {b : Nat} (hb : Fst rs ds D R b) : (b : Int) ∈ pointsP rs ds :=
  fst_mem hV hR hD hb (points_chn hV) (Nat.zero_le _)
/-- A point of the hull costs least, and is the first that does, at the slope of the step behind it. -/
theorem fst_step {rs ds : List Int} (hV : Vld rs ds) {p m : Nat} (ha : Ahead rs ds p) (h : Nxt rs ds p m) (hr : 1 ≤ rse rs p m) : Fst rs ds (fl ds p m) (rse rs p m) p := by
  have hf := h.fall
  have e : rse rs p m * fl ds p m = fl ds p m * rse rs p m := Int.mul_comm _ _
  have h0 : 0 ≤ fl ds p m := by unfold fl; omega
  have hA := ha (fl ds p m) (rse rs p m) hr h0 (.inr ⟨m, h, by omega⟩)
  have hF := fwd_cost hV hr h0 (.inr ⟨m, h, by omega⟩)
  refine ⟨by have := h.len; have := h.lt; omega, fun q hq => ?_, hA⟩
  rcases Nat.lt_trichotomy q p with g | g | g
  · have := hA q g; omega
  · subst g; omega
  · exact hF q g hq
theorem fst_last {rs ds : List Int} (hV : Vld rs ds) {p : Nat} (hp : p < rs.length) (ha : Ahead rs ds p) (h : Lst rs ds p) : Fst rs ds 0 1 p := by
  have hA := ha 0 1 (by omega) (by omega) (.inl ⟨h, rfl⟩)
  have hF := fwd_cost hV (D := 0) (R := 1) (by omega) (by omega) (.inl h)
  refine ⟨hp, fun q hq => ?_, hA⟩
  rcases Nat.lt_trichotomy q p with g | g | g
  · have := hA q g; omega
  · subst g; omega
  · exact hF q g hq
theorem lst_least {rs ds : List Int} (hV : Vld rs ds) {p : Nat} (hp : p < rs.length) (ha : Ahead rs ds p) (h : Lst rs ds p) {q : Nat} (hq : q < rs.length) : el ds p ≤ el ds q := by
  have := (fst_last hV hp ha h).2.1 q hq
  unfold cst at this
  omega
theorem nxt_ranged {rs ds : List Int} (hV : Vld rs ds) {p m : Nat} (h : Nxt rs ds p m) : ranged (fl ds p m) (rse rs p m) ∧ 1 ≤ fl ds p m := by
  have l1 := h.lt
  have l2 := h.len
  have f := h.fall
  have d0 := hV.dist (show p < rs.length by omega)
  have d1 := hV.dist l2
  have r0 := hV.rate (show p < rs.length by omega)
  have r1 := hV.rate l2
  have m := hV.mono (Nat.le_of_lt l1) l2
  unfold ranged fl rse
  omega
/-- Slopes fall strictly. -/
theorem slopes_fall {rs ds : List Int} (hV : Vld rs ds) {p m t : Nat} (h : Nxt rs ds p m) (g : Nxt rs ds m t) : stP (fl ds p m) (rse rs p m) (fl ds m t) (rse rs m t) = 1 := by
  have a := nxt_ranged hV h
  have b := nxt_ranged hV g
  rw [st_cmp a.1 b.1 a.2 b.2]
  have := h.slopes g
  unfold cmpP
  rw [if_neg (by omega), if_pos (by omega)]
/-- No point lies below the hull. -/
theorem none_below {rs ds : List Int} (hV : Vld rs ds) {p m : Nat} (ha : Ahead rs ds p) (h : Nxt rs ds p m) {k : Nat} (hk : k < rs.length) (h1 : el rs p ≤ el rs k) (h3 : el ds k < el ds p) : stP (fl ds p k) (rse rs p k) (fl ds p m) (rse rs p m) ≤ 0 := by
  have f := h.fall
  have hml := h.len
  have hlt := h.lt
  have hmr := hV.mono (Nat.le_of_lt hlt) hml
  rcases Nat.lt_or_ge p k with g | g
  · have w := h.weak k g hk h3
    have d0 := hV.dist (show p < rs.length by omega)
    have d1 := hV.dist hk
    have r0 := hV.rate (show p < rs.length by omega)
    have r1 := hV.rate hk
    have a := nxt_ranged hV h
    rw [st_cmp (d1 := fl ds p k) (r1 := rse rs p k) (by unfold ranged fl rse; omega) a.1 (by unfold fl; omega) a.2]
    rcases cmp_cases (fl ds p k * rse rs p m) (fl ds p m * rse rs p k) with ⟨e, _⟩ | ⟨e, _⟩ | ⟨e, e2⟩
    · omega
    · omega
    · rcases w with w | ⟨w, _⟩ <;> omega
  · have hkp : k < p := by
      rcases Nat.lt_or_ge k p with h | h
      · exact h
      · obtain rfl : k = p := by omega
        omega
    have hb := ha 0 1 (by omega) (by omega) (.inr ⟨m, h, by rw [Int.zero_mul]; unfold fl; omega⟩) k hkp
    unfold cst at hb
    omega
end Go.Proofs.Ytgmadhlebpbcpaa.P
