/- The printed law AllocOptimal: no choice that costs no more rate has less distortion. No program is in sight. -/
import Derived.Test.YtgmadhlebpbcpaaAlq
import Derived.Test.YtgmadhlebpbcpaaPx14
import Derived.Test.YtgmadhlebpbcpaaPx17
set_option linter.unusedVariables false
set_option linter.unusedSimpArgs false
namespace Go.Proofs.Ytgmadhlebpbcpaa.P
open Go.RowKit Go.Proofs.YtgmadhlebpbcpaaW.PrintWords Go.Proofs.YtgmadhlebpbcpaaW.PrintLast Go.Proofs.YtgmadhlebpbcpaaW.PrintMore

def sumR : List S37 → List Int → Int
  | c :: l, x :: q => el c.f0 x.toNat + sumR l q
  | _, _ => 0
def sumD : List S37 → List Int → Int
  | c :: l, x :: q => el c.f1 x.toNat + sumD l q
  | _, _ => 0
/-- One point of each curve. -/
def Pts : List S37 → List Int → Prop
  | [], [] => True
  | c :: l, x :: q => 0 ≤ x ∧ x < (c.f0.length : Int) ∧ Pts l q
  | _, _ => False
theorem pts_of : ∀ (l : List S37) (q : List Int), q.length = l.length → (∀ i (h : i < l.length), 0 ≤ el q i ∧ el q i < (l[i].f0.length : Int)) → Pts l q
  | [], [], _, _ => trivial
  | [], _ :: _, h, _ => by simp at h
  | _ :: _, [], h, _ => by simp at h
  | c :: l, x :: q, hl, h => by
    have h0 := h 0 (by simp)
    refine ⟨by simpa [el] using h0.1, by simpa [el] using h0.2, pts_of l q (by simpa using hl) (fun i hi => ?_)⟩
    have := h (i + 1) (by simpa using hi)
    simpa [el] using this
/-- Point by point no dearer, together no dearer. -/
theorem sum_le (D R : Int) : ∀ (l : List S37) (ch q : List Int), ch.length = l.length → Pts l q → (∀ i (h : i < l.length) (y : Int), 0 ≤ y → y < (l[i].f0.length : Int) → cst l[i].f0 l[i].f1 D R (el ch i).toNat ≤ cst l[i].f0 l[i].f1 D R y.toNat) →
    R * sumD l ch + D * sumR l ch ≤ R * sumD l q + D * sumR l q
  | [], ch, q, _, _, _ => by simp [sumD, sumR]
  | c :: l, [], q, h, _, _ => by simp at h
  | c :: l, x :: ch, [], _, h, _ => by cases h
  | c :: l, x :: ch, y :: q, hl, hq, h => by
    obtain ⟨y0, y1, hq⟩ := hq
    have h0 := h 0 (by simp) y y0 y1
    have ih := sum_le D R l ch q (by simpa using hl) hq (fun i hi y h1 h2 => by
      have := h (i + 1) (by simpa using hi) y h1 h2
      simpa [el] using this)
    simp only [sumD, sumR, Int.mul_add]
    simp [el, cst] at h0
    have e1 : el c.f1 x.toNat = c.f1[x.toNat]?.getD 0 := by simp [el]
    have e2 : el c.f0 x.toNat = c.f0[x.toNat]?.getD 0 := by simp [el]
    have e3 : el c.f1 y.toNat = c.f1[y.toNat]?.getD 0 := by simp [el]
    have e4 : el c.f0 y.toNat = c.f0[y.toNat]?.getD 0 := by simp [el]
    rw [e1, e2, e3, e4]
    omega
theorem sumR_set : ∀ (l : List S37) (ch : List Int) (i : Nat) (x : Int) (h : i < l.length), ch.length = l.length → sumR l (ch.set i x) = sumR l ch + el l[i].f0 x.toNat - el l[i].f0 (el ch i).toNat
  | c :: l, [], i, x, h, hl => by simp at hl
  | c :: l, y :: ch, 0, x, h, hl => by
    simp only [List.set_cons_zero, sumR, List.getElem_cons_zero]
    have : el (y :: ch) 0 = y := rfl
    rw [this]
    omega
  | c :: l, y :: ch, i + 1, x, h, hl => by
    have ih := sumR_set l ch i x (by simpa using h) (by simpa using hl)
    simp only [List.set_cons_succ, sumR, List.getElem_cons_succ]
    have : el (y :: ch) (i + 1) = el ch i := by simp [el]
    rw [this, ih]
    omega
theorem sumR_zero : ∀ (l : List S37), (∀ c ∈ l, Vld c.f0 c.f1) → sumR l (List.replicate l.length 0) = 0
  | [], _ => rfl
  | c :: l, h => by
    have h0 := (h c List.mem_cons_self).2.2.2.1
    rw [List.length_cons, List.replicate_succ]
    simp only [sumR]
    rw [sumR_zero l (fun d hd => h d (List.mem_cons_of_mem _ hd))]
    have : el c.f0 (0 : Int).toNat = 0 := h0
    omega
theorem chosen_el' {l : List S37} (hV : allV l) {t : Nat} (ht : t ≤ (allS l).length) {i : Nat} (hi : i < l.length) : el (setAll ((allS l).take t) (List.replicate l.length 0)) i = el (pointsP l[i].f0 l[i].f1) (cnt l t i) := by
  have := chosen hV t ht i hi
  unfold el
  rw [List.getD_eq_getElem?_getD, this]
  rfl
/-- The rate of what is taken is the sum of the steps' rises. -/
theorem rate_taken {l : List S37} (hV : allV l) : ∀ t, t ≤ (allS l).length → sumR l (setAll ((allS l).take t) (List.replicate l.length 0)) = sumB ((allS l).take t)
  | 0, _ => by simp [setAll, sumB, sumR_zero l hV.2]
  | t + 1, ht => by
    have hlt : t < (allS l).length := by omega
    have ih := rate_taken hV t (by omega)
    have hf := isort_fit hV (allS l)[t] (List.getElem_mem hlt)
    obtain ⟨i, hi0⟩ : ∃ i : Nat, (allS l)[t].f0 = (i : Int) := ⟨(allS l)[t].f0.toNat, by have := hf.1; omega⟩
    have hi : i < l.length := by have := hf.2.1; omega
    have hc : cls i (allS l)[t] = true := cls_iff.2 hi0
    have hv := hV.2 l[i] (List.getElem_mem hi)
    have hs := step_at hV hi hlt hc
    have hj : cnt l t i < (stC i l[i]).length := (List.getElem?_eq_some_iff.1 hs).1
    rw [stC_at hv i hj] at hs
    have hs := Option.some.inj hs
    have e1 : (allS l)[t].f1 = el (pointsP l[i].f0 l[i].f1) (cnt l t i + 1) := by rw [← hs]; rfl
    have e3 : (allS l)[t].f3 = el l[i].f0 (el (pointsP l[i].f0 l[i].f1) (cnt l t i + 1)).toNat - el l[i].f0 (el (pointsP l[i].f0 l[i].f1) (cnt l t i)).toNat := by rw [← hs]; rfl
    rw [List.take_succ_eq_append_getElem hlt, setAll_snoc, hi0, Int.toNat_natCast, sumR_set l _ i _ hi (by rw [setAll_len, List.length_replicate]), ih, chosen_el' hV (by omega) hi, e1]
    simp only [sumB, List.map_append, List.sum_append, List.map_cons, List.map_nil, List.sum_cons, List.sum_nil]
    omega

/-! ### the price at which the budget stops -/
theorem less_num {x y : S54} (hx : Rg x) (hy : Rg y) (px : 1 ≤ x.f2) (py : 1 ≤ y.f2) (h : lessP x y = false) : x.f2 * y.f3 ≤ y.f2 * x.f3 := by
  have := of_decide_eq_false h
  rw [st_cmp hx hy px py] at this
  rcases cmp_cases (x.f2 * y.f3) (y.f2 * x.f3) with ⟨_, h⟩ | ⟨_, h⟩ | ⟨h, _⟩ <;> omega
theorem allS_rg {l : List S37} (hV : allV l) : ∀ s ∈ allS l, Rg s := fun s hs => rg_steps l 0 hV.2 s (isort_mem hs)
theorem stepsC_fall {c : S37} (hV : Vld c.f0 c.f1) (n : Nat) {j : Nat} (hj : j < (stC n c).length) : ∃ p m : Nat, el (pointsP c.f0 c.f1) j = (p : Int) ∧ el (pointsP c.f0 c.f1) (j + 1) = (m : Int) ∧ Ahead c.f0 c.f1 p ∧ Nxt c.f0 c.f1 p m ∧ (stC n c)[j]? = some (stepP n c (p : Int) (m : Int)) := by
  have hl := stC_len hV n
  obtain ⟨p, e1, _, hA, hcs⟩ := points_at hV j (by omega)
  rcases hcs with ⟨h1, _⟩ | ⟨_, m, e2, hN⟩
  · omega
  · exact ⟨p, m, e1, e2, hA, hN, by rw [stC_at hV n hj, e1, e2]⟩
theorem allS_fall {l : List S37} (hV : allV l) : ∀ s ∈ allS l, 1 ≤ s.f2 := by
  intro s hs
  have hf := isort_fit hV s hs
  obtain ⟨i, hi0⟩ : ∃ i : Nat, s.f0 = (i : Int) := ⟨s.f0.toNat, by have := hf.1; omega⟩
  have hi : i < l.length := by have := hf.2.1; omega
  have hm : s ∈ (allS l).filter (cls i) := List.mem_filter.2 ⟨hs, cls_iff.2 hi0⟩
  rw [allS_filter hV hi] at hm
  have hv := hV.2 l[i] (List.getElem_mem hi)
  obtain ⟨j, hj, rfl⟩ := List.mem_iff_getElem.1 hm
  obtain ⟨p, m, _, _, _, hN, h⟩ := stepsC_fall hv i hj
  rw [List.getElem?_eq_getElem hj] at h
  rw [Option.some.inj h]
  have := hN.fall
  show 1 ≤ el l[i].f1 ((p : Int).toNat) - el l[i].f1 ((m : Int).toNat)
  rw [Int.toNat_natCast, Int.toNat_natCast]
  omega
/-- At a price between the slopes of what is taken and of what is not, each curve's point costs least. -/
theorem least_at {l : List S37} (hV : allV l) {t : Nat} (ht : t ≤ (allS l).length) {D R : Int} (hR : 1 ≤ R) (hD : 0 ≤ D) (h1 : ∀ s ∈ (allS l).take t, D * s.f3 ≤ R * s.f2) (h2 : ∀ s ∈ (allS l).drop t, R * s.f2 ≤ D * s.f3)
    {i : Nat} (hi : i < l.length) {q : Nat} (hq : q < l[i].f0.length) : cst l[i].f0 l[i].f1 D R (el (pointsP l[i].f0 l[i].f1) (cnt l t i)).toNat ≤ cst l[i].f0 l[i].f1 D R q := by
  have hv := hV.2 l[i] (List.getElem_mem hi)
  obtain ⟨k1, k2, k3⟩ := cnt_pre hV t hi
  have hlen := stC_len hv i
  obtain ⟨p, e1, hpn, hA, hcs⟩ := points_at hv (cnt l t i) (by omega)
  rw [e1, Int.toNat_natCast]
  -- what lies behind p
  have hnext : Lst l[i].f0 l[i].f1 p ∨ ∃ m, Nxt l[i].f0 l[i].f1 p m ∧ R * fl l[i].f1 p m ≤ D * rse l[i].f0 p m := by
    rcases hcs with ⟨_, h⟩ | ⟨hk, m, e2, hN⟩
    · exact .inl h
    · refine .inr ⟨m, hN, ?_⟩
      have hj : cnt l t i < (stC i l[i]).length := by omega
      obtain ⟨p', m', f1, f2, _, _, hs⟩ := stepsC_fall hv i hj
      have hm : (stC i l[i])[cnt l t i] ∈ (allS l).drop t := by
        have : (stC i l[i])[cnt l t i] ∈ (stC i l[i]).drop (cnt l t i) := by rw [List.drop_eq_getElem_cons hj]; exact List.mem_cons_self
        rw [← k3] at this
        exact (List.mem_filter.1 this).1
      have := h2 _ hm
      rw [List.getElem?_eq_getElem hj] at hs
      rw [Option.some.inj hs] at this
      obtain rfl : p = p' := by omega
      obtain rfl : m = m' := by omega
      have : R * (el l[i].f1 ((p : Int).toNat) - el l[i].f1 ((m : Int).toNat)) ≤ D * (el l[i].f0 ((m : Int).toNat) - el l[i].f0 ((p : Int).toNat)) := this
      rw [Int.toNat_natCast, Int.toNat_natCast] at this
      exact this
  rcases Nat.lt_trichotomy q p with g | g | g
  · -- what lies before p
    obtain ⟨j, hj⟩ : ∃ j, cnt l t i = j + 1 := by
      cases hc : cnt l t i with
      | zero =>
        rw [hc] at e1
        have : el (pointsP l[i].f0 l[i].f1) 0 = ((0 : Nat) : Int) := (points_chn hv).head.2
        omega
      | succ j => exact ⟨j, rfl⟩
    have hjl : j < (stC i l[i]).length := by omega
    obtain ⟨p', m', f1, f2, hA', hN, hs⟩ := stepsC_fall hv i hjl
    rw [hj] at e1
    obtain rfl : p = m' := by omega
    have hm : (stC i l[i])[j] ∈ (allS l).take t := by
      have : (stC i l[i])[j] ∈ (stC i l[i]).take (cnt l t i) := by rw [hj, List.take_succ_eq_append_getElem hjl]; exact List.mem_append_right _ List.mem_cons_self
      rw [← k2] at this
      exact (List.mem_filter.1 this).1
    have hle := h1 _ hm
    rw [List.getElem?_eq_getElem hjl] at hs
    rw [Option.some.inj hs] at hle
    have hle : D * (el l[i].f0 ((p : Int).toNat) - el l[i].f0 ((p' : Int).toNat)) ≤ R * (el l[i].f1 ((p' : Int).toNat) - el l[i].f1 ((p : Int).toNat)) := hle
    rw [Int.toNat_natCast, Int.toNat_natCast] at hle
    rcases Nat.lt_or_ge q p' with g2 | g2
    · have a1 := hA' D R hR hD (.inr ⟨p, hN, hle⟩) q g2
      have a2 := (bwd_cost hv hR hD hN hle p' (Nat.le_refl _) hN.lt).1
      omega
    · exact (bwd_cost hv hR hD hN hle q g2 g).1
  · subst g; exact Int.le_refl _
  · exact fwd_cost hv hR hD hnext q g hq
theorem optimal {l : List S37} (hV : allV l) {b : Int} (hb : 0 ≤ b) : sumR l (takeP l b) ≤ b ∧ Pts l (takeP l b) ∧ ∀ q, Pts l q → sumR l q ≤ sumR l (takeP l b) → sumD l (takeP l b) ≤ sumD l q := by
  obtain ⟨t, t1, t2, t3, t4⟩ := takeL_split (allS l) b (List.replicate l.length 0) (fun s hs => (isort_fit hV s hs).2.2.1)
  have e : takeP l b = setAll ((allS l).take t) (List.replicate l.length 0) := t2
  have hlen : (takeP l b).length = l.length := by rw [e, setAll_len, List.length_replicate]
  have hel : ∀ i (hi : i < l.length), el (takeP l b) i = el (pointsP l[i].f0 l[i].f1) (cnt l t i) := fun i hi => by rw [e, chosen_el' hV t1 hi]
  refine ⟨by rw [e, rate_taken hV t t1]; exact t3 hb, pts_of _ _ hlen (fun i hi => ?_), fun q hq hr => ?_⟩
  · have hv := hV.2 l[i] (List.getElem_mem hi)
    have := stC_len hv i
    have := (cnt_pre hV t hi).1
    obtain ⟨p, p1, p2, _⟩ := points_at hv (cnt l t i) (by omega)
    rw [hel i hi, p1]
    omega
  · have price : ∃ D R : Int, 1 ≤ R ∧ 0 ≤ D ∧ (∀ s ∈ (allS l).take t, D * s.f3 ≤ R * s.f2) ∧ (∀ s ∈ (allS l).drop t, R * s.f2 ≤ D * s.f3) := by
      rcases Nat.lt_or_ge t (allS l).length with h | h
      · have hm := List.getElem_mem h
        have hp : Prs (allS l) := prs_isort (rg_steps l 0 hV.2)
        have h4 := t4 h
        have h3 := t3 hb
        have e2 : allS l = (allS l).take t ++ (allS l)[t] :: (allS l).drop (t + 1) := by rw [← List.drop_eq_getElem_cons h, List.take_append_drop]
        have hp2 := hp
        unfold Prs at hp2
        rw [e2] at hp2
        obtain ⟨_, hp3, hp4⟩ := List.pairwise_append.1 hp2
        obtain ⟨hp5, _⟩ := List.pairwise_cons.1 hp3
        refine ⟨(allS l)[t].f2, (allS l)[t].f3, by omega, by have := allS_fall hV _ hm; omega, fun s hs => ?_, fun s hs => ?_⟩
        · have hsm := List.mem_of_mem_take hs
          have := less_num (allS_rg hV _ hm) (allS_rg hV s hsm) (allS_fall hV _ hm) (allS_fall hV s hsm) (hp4 s hs _ List.mem_cons_self)
          rw [Int.mul_comm (allS l)[t].f3]
          exact this
        · have hsm := List.mem_of_mem_drop hs
          rw [List.drop_eq_getElem_cons h] at hs
          rcases List.mem_cons.1 hs with rfl | hs
          · rw [Int.mul_comm]; exact Int.le_refl _
          · have := less_num (allS_rg hV s hsm) (allS_rg hV _ hm) (allS_fall hV s hsm) (allS_fall hV _ hm) (hp5 s hs)
            rw [Int.mul_comm (allS l)[t].f3]
            exact this
      · refine ⟨0, 1, by omega, by omega, fun s hs => ?_, fun s hs => ?_⟩
        · have := allS_fall hV s (List.mem_of_mem_take hs)
          omega
        · rw [List.drop_eq_nil_of_le h] at hs
          cases hs
    obtain ⟨D, R, hR, hD, h1, h2⟩ := price
    have hs := sum_le D R l (takeP l b) q hlen hq (fun i hi y y0 y1 => by
      rw [hel i hi]
      exact least_at hV t1 hR hD h1 h2 hi (by omega))
    have hm := Int.mul_le_mul_of_nonneg_left hr hD
    exact Int.le_of_mul_le_mul_left (a := R) (by omega) (by omega)

/-! ### the law -/
theorem rcost_loop {l : List S37} (hV : allV l) (hl : l.length ≤ 4) (ch : List Int) (hc : ch.length = l.length) : ∀ (m i : Nat) (a b : Int), i + m = l.length → 0 ≤ a → a ≤ 65535 * i → 0 ≤ b → b ≤ 70368744177664 * i → Pts (l.drop i) (ch.drop i) →
    Ev (fun k => waveletref21_Cost.l0 k ch a b l (l.length : Int) (i : Int)) (a + sumR (l.drop i) (ch.drop i), b + sumD (l.drop i) (ch.drop i), 0)
  | 0, i, a, b, hi, _, _, _, _, _ => by
    rw [List.drop_eq_nil_of_le (by omega)]
    exact Ev.step (fun k => by simp only [waveletref21_Cost.l0]; rw [if_neg (by omega)]; simp [sumR, sumD]) (Ev.now _)
  | m + 1, i, a, b, hi, a0, a1, b0, b1, hp => by
    have hlt : i < l.length := by omega
    have hltc : i < ch.length := by omega
    have hv := hV.2 l[i] (List.getElem_mem hlt)
    have hld := hv.1
    have hw : wrap64 ((i : Int) + 1) = ((i + 1 : Nat) : Int) := by rw [wrap_id (by omega) (by omega)]; omega
    rw [List.drop_eq_getElem_cons hlt, List.drop_eq_getElem_cons hltc] at hp ⊢
    obtain ⟨x0, x1, hp⟩ := hp
    obtain ⟨x, hx⟩ : ∃ x : Nat, ch[i] = (x : Int) := ⟨ch[i].toNat, by omega⟩
    have er : rd ch (i : Int) = (x : Int) := by rw [rd_el, ← hx]; simp [el, List.getD_eq_getElem?_getD, hltc]
    simp only [sumR, sumD]
    rw [hx] at x0 x1 ⊢
    rw [Int.toNat_natCast]
    have d1 := hv.rate (show x < l[i].f0.length by omega)
    have d2 := hv.dist (show x < l[i].f0.length by omega)
    have ih := rcost_loop hV hl ch hc m (i + 1) (a + el l[i].f0 x) (b + el l[i].f1 x) (by omega) (by omega) (by omega) (by omega) (by omega) hp
    rw [show a + (el l[i].f0 x + sumR (l.drop (i + 1)) (ch.drop (i + 1))) = a + el l[i].f0 x + sumR (l.drop (i + 1)) (ch.drop (i + 1)) by omega, show b + (el l[i].f1 x + sumD (l.drop (i + 1)) (ch.drop (i + 1))) = b + el l[i].f1 x + sumD (l.drop (i + 1)) (ch.drop (i + 1)) by omega]
    refine Ev.step (f := fun k => waveletref21_Cost.j1 k ch a b (i : Int) l (l.length : Int) (i : Int) false l[i].f0 l[i].f1) (fun k => ?_) (Ev.step (fun k => ?_) ih)
    · simp only [waveletref21_Cost.l0]
      rw [if_pos (by omega), if_pos (by omega), if_pos (by omega), if_pos (by omega), rd37_nat l i hlt, er, if_neg (by omega), decide_eq_false (by omega)]
    · simp only [waveletref21_Cost.j1]
      rw [if_neg (by simp), if_pos (by omega), if_pos (by omega), er, if_pos (by omega), if_pos (by omega), if_pos (by omega), rd_el, rd_el, hw, wrap_id (by omega) (by omega), wrap_id (by omega) (by omega)]
theorem rcost_ev {l : List S37} (hV : allV l) (hl : l.length ≤ 4) (ch : List Int) (hc : ch.length = l.length) (hp : Pts l ch) : Ev (fun k => waveletref21_Cost.f k l ch) (sumR l ch, sumD l ch, 0) := by
  have h := rcost_loop hV hl ch hc l.length 0 0 0 (by omega) (by omega) (by omega) (by omega) (by omega) (by simpa using hp)
  rw [List.drop_zero, List.drop_zero, Int.zero_add, Int.zero_add] at h
  have hz := chk_of hV
  exact Ev.congr (fun k => by simp only [waveletref21_Cost.f]; rfl) (Ev.bind (rcheck_ev l) (Ev.congr (fun k => by rw [if_pos hz, if_pos (by omega)]; rfl) h))
theorem opt_inner {l : List S37} (hV : allV l) (hl : l.length ≤ 4) (n rt dt kk : Int) : ∀ (m i : Nat) (r d z : Int), i + m = l.length → 0 ≤ r → r ≤ 65535 * i → 0 ≤ d → d ≤ 70368744177664 * i → 0 ≤ z → z ≤ 1000000 →
    ∃ q, Pts (l.drop i) q ∧ ∀ res, Ev (fun k => if r + sumR (l.drop i) q ≤ rt then waveletlaw21_AllocOptimal.j6 k l n rt dt kk (decide (d + sumD (l.drop i) q < dt)) else waveletlaw21_AllocOptimal.j6 k l n rt dt kk false) res → Ev (fun k => waveletlaw21_AllocOptimal.l2 k l n rt dt kk r d z l (l.length : Int) (i : Int)) res
  | 0, i, r, d, z, hi, _, _, _, _, _, _ => by
    rw [List.drop_eq_nil_of_le (by omega)]
    refine ⟨[], trivial, fun res h => Ev.step (fun k => ?_) h⟩
    simp only [waveletlaw21_AllocOptimal.l2]
    rw [if_neg (by omega)]
    simp [sumR, sumD]
  | m + 1, i, r, d, z, hi, r0, r1, d0, d1, z0, z1 => by
    have hlt : i < l.length := by omega
    have hv := hV.2 l[i] (List.getElem_mem hlt)
    have hld := hv.1
    have hn1 := hv.2.1
    have hn2 := hv.2.2.1
    have hw : wrap64 ((i : Int) + 1) = ((i + 1 : Nat) : Int) := by rw [wrap_id (by omega) (by omega)]; omega
    have m0 : 0 ≤ z % (l[i].f0.length : Int) := Int.emod_nonneg _ (by omega)
    have m1 : z % (l[i].f0.length : Int) < (l[i].f0.length : Int) := Int.emod_lt_of_pos _ (by omega)
    have q0 : 0 ≤ z / (l[i].f0.length : Int) := Int.ediv_nonneg z0 (by omega)
    have q1 : z / (l[i].f0.length : Int) ≤ z := Int.ediv_le_self _ z0
    have et : Int.tmod z (l[i].f0.length : Int) = z % (l[i].f0.length : Int) := Int.tmod_eq_emod_of_nonneg z0
    have ed : Int.tdiv z (l[i].f0.length : Int) = z / (l[i].f0.length : Int) := Int.tdiv_eq_ediv_of_nonneg z0
    obtain ⟨x, hx⟩ : ∃ x : Nat, z % (l[i].f0.length : Int) = (x : Int) := ⟨(z % (l[i].f0.length : Int)).toNat, by omega⟩
    rw [hx] at m0 m1 et
    have a1 := hv.rate (show x < l[i].f0.length by omega)
    have a2 := hv.dist (show x < l[i].f0.length by omega)
    obtain ⟨q, hq, hres⟩ := opt_inner hV hl n rt dt kk m (i + 1) (r + el l[i].f0 x) (d + el l[i].f1 x) (z / (l[i].f0.length : Int)) (by omega) (by omega) (by omega) (by omega) (by omega) q0 (by omega)
    rw [List.drop_eq_getElem_cons hlt]
    refine ⟨(x : Int) :: q, ⟨m0, m1, hq⟩, fun res h => Ev.step (fun k => ?_) (hres res ?_)⟩
    · simp only [waveletlaw21_AllocOptimal.l2]
      rw [if_pos (by omega), if_pos (by omega), if_pos (by omega), rd37_nat l i hlt, if_neg (by omega), et, ed, if_pos (by omega), if_pos (by omega), if_pos (by omega), rd_el, rd_el, hw, wrap_id (x := r + el l[i].f0 x) (by omega) (by omega), wrap_id (x := d + el l[i].f1 x) (by omega) (by omega), wrap_id (x := z / (l[i].f0.length : Int)) (by omega) (by omega)]
    · have e1 : r + sumR (l[i] :: l.drop (i + 1)) ((x : Int) :: q) = r + el l[i].f0 x + sumR (l.drop (i + 1)) q := by simp only [sumR, Int.toNat_natCast]; omega
      have e2 : d + sumD (l[i] :: l.drop (i + 1)) ((x : Int) :: q) = d + el l[i].f1 x + sumD (l.drop (i + 1)) q := by simp only [sumD, Int.toNat_natCast]; omega
      simp only [e1, e2] at h
      exact h
theorem opt_outer {l : List S37} (hV : allV l) (hl : l.length ≤ 4) (rt dt : Int) (H : ∀ q, Pts l q → sumR l q ≤ rt → dt ≤ sumD l q) (n : Nat) (hn : n ≤ 100000) : ∀ (m i : Nat), i + m = n → Ev (fun k => waveletlaw21_AllocOptimal.l1 k l (n : Int) rt dt (i : Int)) true
  | 0, i, hi => Ev.step (fun k => by simp only [waveletlaw21_AllocOptimal.l1]; rw [if_neg (by omega)]) example_bind
  | m + 1, i, hi => by
    have hw : wrap64 ((i : Int) + 1) = ((i + 1 : Nat) : Int) := by rw [wrap_id (by omega) (by omega)]; omega
    have ih := opt_outer hV hl rt dt H n hn m (i + 1) (by omega)
    obtain ⟨q, hq, hres⟩ := opt_inner hV hl (n : Int) rt dt (i : Int) l.length 0 0 0 (i : Int) (by omega) (by omega) (by omega) (by omega) (by omega) (by omega) (by omega)
    rw [List.drop_zero] at hq hres
    refine Ev.step (fun k => by simp only [waveletlaw21_AllocOptimal.l1]; rw [if_pos (by omega)]; rfl) (hres true ?_)
    have no : Ev (fun k => waveletlaw21_AllocOptimal.j6 k l (n : Int) rt dt (i : Int) false) true := Ev.step (fun k => by simp only [waveletlaw21_AllocOptimal.j6]; rw [if_neg (by simp), hw]) ih
    rw [Int.zero_add, Int.zero_add]
    by_cases h : sumR l q ≤ rt
    · have := H q hq h
      exact Ev.congr (fun k => by rw [if_pos h, decide_eq_false (by omega)]) no
    · exact Ev.congr (fun k => by rw [if_neg h]) no
theorem pow_bd : ∀ i : Nat, i ≤ 4 → (6 : Int) ^ i ≤ 1296 := by decide
theorem opt_count (l : List S37) (hl : l.length ≤ 4) (b : Int) (hb : 0 ≤ b) (hb1 : b ≤ 9223372036854775807) : ∀ (m i n : Nat), i + m = l.length → (n : Int) ≤ 6 ^ i → (∀ j (h : j < l.length), j < i → Vld l[j].f0 l[j].f1) → Ev (fun k => waveletlaw21_AllocOptimal.l0 k l b (n : Int) l (l.length : Int) (i : Int)) true
  | 0, i, n, hi, hn, hv => by
    have hV : allV l := ⟨by omega, fun c hc => by obtain ⟨j, hj, rfl⟩ := List.mem_iff_getElem.1 hc; exact hv j hj (by omega)⟩
    have hc := chk_of hV
    have ce := choose_ev l b (by omega) hb1
    rw [show chooseP l b = (takeP l b, 0) by unfold chooseP; rw [if_pos hc, if_neg (by omega), if_neg (by omega)]] at ce
    obtain ⟨o1, o2, o3⟩ := optimal hV hb
    have hlen : (takeP l b).length = l.length := by unfold takeP; rw [takeL_len, List.length_replicate]
    have re := rcost_ev hV hl (takeP l b) hlen o2
    have hp := pow_bd i (by omega)
    refine Ev.step (fun k => by simp only [waveletlaw21_AllocOptimal.l0]; rw [if_neg (by omega)]) (Ev.bind ce (Ev.bind re ?_))
    refine Ev.congr (fun k => by rw [if_pos rfl, if_pos rfl, decide_eq_false (show ¬ sumR l (takeP l b) > b by omega)]) (Ev.step (fun k => by simp only [waveletlaw21_AllocOptimal.j3]; rw [if_neg (by simp)]; rfl) (opt_outer hV hl _ _ (fun q hq hr => o3 q hq hr) n (by omega) n 0 (by omega)))
  | m + 1, i, n, hi, hn, hv => by
    have hlt : i < l.length := by omega
    have hw : wrap64 ((i : Int) + 1) = ((i + 1 : Nat) : Int) := by rw [wrap_id (by omega) (by omega)]; omega
    have no : Ev (fun k => waveletlaw21_AllocOptimal.j2 k l b (n : Int) l (l.length : Int) (i : Int) true l[i].f0 l[i].f1) true := Ev.step (fun k => by simp only [waveletlaw21_AllocOptimal.j2]; rw [if_pos trivial]) example_bind
    refine Ev.step (f := fun k => (waveletref20_Valid.f k l[i].f0 l[i].f1).bind fun t => (if t = true then (waveletlaw21_AllocOptimal.j2 k l b (n : Int) l (l.length : Int) (i : Int) (decide ((l[i].f0.length : Int) > 6)) l[i].f0 l[i].f1) else (waveletlaw21_AllocOptimal.j2 k l b (n : Int) l (l.length : Int) (i : Int) true l[i].f0 l[i].f1))) (fun k => by
      simp only [waveletlaw21_AllocOptimal.l0]
      rw [if_pos (by omega), if_pos (by omega), if_pos (by omega), rd37_nat l i hlt]) (Ev.bind (rvalid_ev _ _) ?_)
    by_cases hvi : Vld l[i].f0 l[i].f1
    · rw [show validB l[i].f0 l[i].f1 = true from decide_eq_true hvi]
      by_cases h6 : (l[i].f0.length : Int) > 6
      · exact Ev.congr (fun k => by rw [if_pos rfl, decide_eq_true h6]) no
      · have hp := pow_bd i (by omega)
        have hp1 : (n * l[i].f0.length : Nat) ≤ (6 : Int) ^ (i + 1) := by
          have h0 : (0 : Int) ≤ (l[i].f0.length : Int) := by omega
          have h6' : (l[i].f0.length : Int) ≤ 6 := by omega
          rw [Int.pow_succ, Int.natCast_mul]
          exact Int.mul_le_mul hn h6' h0 (by omega)
        have hp2 := pow_bd (i + 1) (by omega)
        have ih := opt_count l hl b hb hb1 m (i + 1) (n * l[i].f0.length) (by omega) hp1 (fun j hj hji => by
          by_cases e : j = i
          · subst e; exact hvi
          · exact hv j hj (by omega))
        refine Ev.congr (fun k => by rw [if_pos rfl, decide_eq_false h6]) (Ev.step (fun k => ?_) ih)
        simp only [waveletlaw21_AllocOptimal.j2]
        rw [if_neg (by simp), hw, ← Int.natCast_mul, wrap_id (by omega) (by omega)]
    · rw [show validB l[i].f0 l[i].f1 = false from decide_eq_false hvi]
      exact Ev.congr (fun k => by rw [if_neg (by simp)]) no
theorem law_optimal (l : List S37) (b : Int) (hb1 : b ≤ 9223372036854775807) : Ev (fun k => waveletlaw21_AllocOptimal.f k l b) true := by
  have yes : Ev (fun k => waveletlaw21_AllocOptimal.j0 k l b true) true := Ev.step (fun k => by simp only [waveletlaw21_AllocOptimal.j0]; rw [if_pos trivial]) example_bind
  by_cases hl : (l.length : Int) > 4
  · exact Ev.congr (fun k => by simp only [waveletlaw21_AllocOptimal.f]; rw [if_pos hl]) yes
  · by_cases hb : b < 0
    · exact Ev.congr (fun k => by simp only [waveletlaw21_AllocOptimal.f]; rw [if_neg hl, decide_eq_true hb]) yes
    · refine Ev.congr (fun k => by simp only [waveletlaw21_AllocOptimal.f]; rw [if_neg hl, decide_eq_false hb]) (Ev.step (fun k => by simp only [waveletlaw21_AllocOptimal.j0]; rw [if_neg (by simp)]) ?_)
      exact opt_count l (by omega) b (by omega) hb1 l.length 0 1 (by omega) (by decide) (fun j hj h => by omega)
end Go.Proofs.Ytgmadhlebpbcpaa.P
