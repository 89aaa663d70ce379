/- Plain lemmas on the reference's Choose of layer 21. No program is in sight. -/
import Derived.Test.YtgmadhlebpbcpaaAlo
import Derived.Test.YtgmadhlebpbcpaaRst
import Derived.Test.YtgmadhlebpbcpaaPx10
set_option linter.unusedVariables false
set_option linter.unusedSimpArgs false
namespace Go.Proofs.Ytgmadhlebpbcpaa.P
open Go.RowKit Go.Proofs.YtgmadhlebpbcpaaW.PrintWords Go.Proofs.YtgmadhlebpbcpaaW.PrintLast Go.Proofs.YtgmadhlebpbcpaaW.PrintMore

theorem rlast_loop (l : List S37) (hV : allV l) : ∀ (m i : Nat), i + m = l.length → Ev (fun k => waveletref21_Choose.l0 k ((lastP l).take i ++ (List.replicate l.length (0 : Int)).drop i) l (l.length : Int) (i : Int)) (lastP l, 0)
  | 0, i, hi => by
    have e : (lastP l).take i ++ (List.replicate l.length (0 : Int)).drop i = lastP l := by
      rw [List.take_of_length_le (by simp [lastP]; omega), List.drop_eq_nil_of_le (by simp; omega), List.append_nil]
    rw [e]
    exact Ev.step (fun k => by simp only [waveletref21_Choose.l0]; rw [if_neg (by omega)]) (Ev.now _)
  | m + 1, i, hi => by
    have hlt : i < l.length := by omega
    have h1 := hV.1
    have hv := hV.2 l[i] (List.getElem_mem hlt)
    have hn1 := hv.2.1
    have hn2 := hv.2.2.1
    have hw : wrap64 ((i : Int) + 1) = ((i + 1 : Nat) : Int) := by rw [wrap_id (by omega) (by omega)]; omega
    have hw2 : wrap64 ((l[i].f0.length : Int) - 1) = (l[i].f0.length : Int) - 1 := wrap_id (by omega) (by omega)
    have hs := set_take (lastP l) (List.replicate l.length (0 : Int)) ((l[i].f0.length : Int) - 1) i (by simp [lastP]) (by simp [lastP]; omega) (by simp [lastP, hlt])
    refine Ev.step (fun k => ?_) (rlast_loop l hV m (i + 1) (by omega))
    simp only [waveletref21_Choose.l0]
    rw [if_pos (by omega), if_pos (by omega), if_pos (by omega), if_pos (by simp [lastP]; omega), rd37_nat l i hlt, hw, hw2, Int.toNat_natCast, hs]

theorem rtake_loop (L : List S54) (n : Nat) (hL : ∀ s ∈ L, Fit n s) (hLn : L.length ≤ 100000000) (b : Int) (hb : -9223372036854775808 ≤ b) (hb1 : b ≤ 9223372036854775807) : ∀ (m i : Nat) (rate : Int) (ch : List Int), i + m = L.length → ch.length = n → 0 ≤ rate → rate ≤ 65535 * i →
    Ev (fun k => waveletref21_Choose.l1 k b ch rate (L.map toR) ((L.map toR).length : Int) (i : Int)) (takeL (L.drop i) (b - rate) ch, 0)
  | 0, i, rate, ch, hi, hc, h0, h1 => by
    rw [List.drop_eq_nil_of_le (by omega)]
    exact Ev.step (fun k => by simp only [waveletref21_Choose.l1]; rw [if_neg (by rw [List.length_map]; omega)]; rfl) (Ev.now _)
  | m + 1, i, rate, ch, hi, hc, h0, h1 => by
    have hlt : i < L.length := by omega
    obtain ⟨f1, f2, f3, f4⟩ := hL L[i] (List.getElem_mem hlt)
    have hw : wrap64 ((i : Int) + 1) = ((i + 1 : Nat) : Int) := by rw [wrap_id (by omega) (by omega)]; omega
    have hr : rd_T51 (L.map toR) (i : Int) = toR L[i] := by rw [rd51_map]; simp [List.getD_eq_getElem?_getD, hlt]
    have hw2 : wrap64 (rate + L[i].f3) = rate + L[i].f3 := wrap_id (by omega) (by omega)
    rw [List.drop_eq_getElem_cons hlt]
    simp only [takeL]
    have ex : ∀ k, waveletref21_Choose.l1 (k + 1) b ch rate (L.map toR) ((L.map toR).length : Int) (i : Int) = if rate + L[i].f3 > b then some (ch, 0) else waveletref21_Choose.l1 k b (ch.set L[i].f0.toNat L[i].f1) (rate + L[i].f3) (L.map toR) ((L.map toR).length : Int) ((i + 1 : Nat) : Int) := fun k => by
      simp only [waveletref21_Choose.l1]
      rw [if_pos (by rw [List.length_map]; omega), if_pos (by omega), if_pos (by rw [List.length_map]; omega), hr, hw]
      rw [show (toR L[i]).f1 = L[i].f3 from rfl, show (toR L[i]).f2 = L[i].f0 from rfl, show (toR L[i]).f3 = L[i].f1 from rfl, hw2, if_pos f1, if_pos (show L[i].f0 < (ch.length : Int) by omega)]
    by_cases h : L[i].f3 > b - rate
    · rw [if_pos h]
      exact Ev.step (fun k => by rw [ex, if_pos (by omega)]) (Ev.now _)
    · rw [if_neg h]
      have ih := rtake_loop L n hL hLn b hb hb1 m (i + 1) (rate + L[i].f3) (ch.set L[i].f0.toNat L[i].f1) (by omega) (by simpa using hc) (by omega) (by omega)
      rw [show b - rate - L[i].f3 = b - (rate + L[i].f3) by omega]
      exact Ev.step (fun k => by rw [ex, if_neg (by omega)]) ih

theorem rsteps_ev {l : List S37} (hV : allV l) : waveletref21_steps.f l = some ((isortP (stepsP 0 l)).map toR) := by
  unfold waveletref21_steps.f
  rw [if_pos hV]

theorem rchoose_ev (l : List S37) (b : Int) (h0 : -9223372036854775808 ≤ b) (h1 : b ≤ 9223372036854775807) : Ev (fun k => waveletref21_Choose.f k l b) (chooseP l b) := by
  refine Ev.congr (fun k => by simp only [waveletref21_Choose.f]; rfl) ?_
  refine Ev.bind (rcheck_ev l) ?_
  unfold chooseP
  by_cases hc : chkP l = 0
  · have hV := chk_zero hc
    have hl := hV.1
    rw [if_pos hc]
    by_cases hb : b < -1
    · rw [if_pos hb]
      exact Ev.congr (fun k => by rw [if_pos hc, if_pos hb]) (Ev.now _)
    · have hx : ∀ k, (if chkP l = 0 then (if b < (-1) then (some (([] : List Int), 2)) else (if 0 ≤ (l.length : Int) then (if ((l.length : Int) : Int).toNat ≤ 35184372088832 then ((some (List.replicate ((l.length : Int) : Int).toNat 0 : List Int)).bind fun y247 => (if b = (-1) then (waveletref21_Choose.l0 k y247 l (l.length : Int) 0) else ((waveletref21_steps.f l).bind fun t253 => (waveletref21_Choose.l1 k b y247 0 t253 (t253.length : Int) 0)))) else (none)) else (none))) else (some (([] : List Int), chkP l))) = (if b = (-1) then (waveletref21_Choose.l0 k (List.replicate l.length 0) l (l.length : Int) 0) else (waveletref21_Choose.l1 k b (List.replicate l.length 0) 0 ((isortP (stepsP 0 l)).map toR) (((isortP (stepsP 0 l)).map toR).length : Int) 0)) := fun k => by
        rw [if_pos hc, if_neg hb, if_pos (by omega), if_pos (by simp; omega), Int.toNat_natCast, rsteps_ev hV]
        rfl
      refine Ev.congr hx ?_
      by_cases hb2 : b = -1
      · rw [if_neg hb, if_pos hb2]
        have := rlast_loop l hV l.length 0 (by omega)
        rw [List.take_zero, List.nil_append, List.drop_zero] at this
        exact Ev.congr (fun k => by rw [if_pos hb2]; rfl) this
      · rw [if_neg hb, if_neg hb2]
        have := rtake_loop _ l.length (isort_fit hV) (isort_small hV) b h0 h1 _ 0 0 (List.replicate l.length 0) (by rw [Nat.zero_add]) (by simp) (by omega) (by omega)
        rw [List.drop_zero, Int.sub_zero] at this
        exact Ev.congr (fun k => by rw [if_neg hb2]; rfl) this
  · rw [if_neg hc]
    exact Ev.congr (fun k => by rw [if_neg hc]) (Ev.now _)

end Go.Proofs.Ytgmadhlebpbcpaa.P
