/- The printed law AllocNested: for a greater budget every curve has the same point or a later one. No program is in sight. -/
import Derived.Test.YtgmadhlebpbcpaaAlq
import Derived.Test.YtgmadhlebpbcpaaPx18
set_option linter.unusedVariables false
set_option linter.unusedSimpArgs false
namespace Go.Proofs.Ytgmadhlebpbcpaa.P
open Go.RowKit Go.Proofs.YtgmadhlebpbcpaaW.PrintWords Go.Proofs.YtgmadhlebpbcpaaW.PrintLast Go.Proofs.YtgmadhlebpbcpaaW.PrintMore

theorem points_mono {rs ds : List Int} (hV : Vld rs ds) : ∀ (d j : Nat), j + d < (pointsP rs ds).length → el (pointsP rs ds) j ≤ el (pointsP rs ds) (j + d)
  | 0, j, _ => Int.le_refl _
  | d + 1, j, h => by
    have ih := points_mono hV d j (by omega)
    obtain ⟨p, e1, _, _, hcs⟩ := points_at hV (j + d) (by omega)
    rcases hcs with ⟨h1, _⟩ | ⟨_, m, e2, hN⟩
    · omega
    · have := hN.lt
      rw [show j + (d + 1) = j + d + 1 by omega, e2]
      omega
theorem nest_loop (l : List S37) (hl : l.length ≤ 65536) (A B C : List Int) (hA : A.length = l.length) (hB : B.length = l.length) (hC : C.length = l.length)
    (h : ∀ i (hi : i < l.length), 0 ≤ el A i ∧ el A i ≤ el B i ∧ el B i ≤ el C i ∧ el C i = (l[i].f0.length : Int) - 1) (hn : ∀ i (hi : i < l.length), l[i].f0.length ≤ 179) (E : Ev (fun k => (waveletlaw21_exampleHolds.f k).bind fun t => some t) true) :
    ∀ (m i : Nat), i + m = l.length → Ev (fun k => waveletlaw21_AllocNested.l0 k l A B C (l.length : Int) (i : Int)) true
  | 0, i, hi => Ev.step (fun k => by simp only [waveletlaw21_AllocNested.l0]; rw [if_neg (by omega)]) E
  | m + 1, i, hi => by
    have hlt : i < l.length := by omega
    have hw : wrap64 ((i : Int) + 1) = ((i + 1 : Nat) : Int) := by rw [wrap_id (by omega) (by omega)]; omega
    obtain ⟨h1, h2, h3, h4⟩ := h i hlt
    have h5 := hn i hlt
    have ih := nest_loop l hl A B C hA hB hC h hn E m (i + 1) (by omega)
    refine Ev.step (f := fun k => waveletlaw21_AllocNested.j3 k l A B C (l.length : Int) (i : Int) false) (fun k => ?_) (Ev.step (fun k => ?_) ih)
    · simp only [waveletlaw21_AllocNested.l0, rd_el]
      rw [if_pos (by omega), if_pos (by omega), if_pos (by omega), if_neg (by omega), if_pos (by omega), if_neg (by omega), if_pos (by omega), if_neg (by omega), if_pos (by omega), rd37_nat l i hlt, wrap_id (by omega) (by omega), h4]
      simp
    · simp only [waveletlaw21_AllocNested.j3]
      rw [if_neg (by simp), hw]
theorem chosen_el {l : List S37} (hV : allV l) {t : Nat} (ht : t ≤ (allS l).length) {i : Nat} (hi : i < l.length) : el (setAll ((allS l).take t) (List.replicate l.length 0)) i = el (pointsP l[i].f0 l[i].f1) (cnt l t i) := by
  have := chosen hV t ht i hi
  unfold el
  rw [List.getD_eq_getElem?_getD, this]
  rfl
theorem allS_f3 {l : List S37} (hV : allV l) : ∀ s ∈ allS l, 0 ≤ s.f3 := fun s hs => (isort_fit hV s hs).2.2.1
theorem law_nested (l : List S37) (a b : Int) (hb : b ≤ 9223372036854775807) : Ev (fun k => waveletlaw21_AllocNested.f k l a b) true := by
  obtain ⟨f, hf, _⟩ := few_any l
  refine Ev.congr (fun k => by simp only [waveletlaw21_AllocNested.f]; rfl) (Ev.bind hf ?_)
  have yes : Ev (fun k => waveletlaw21_AllocNested.j0 k l a b true) true := Ev.step (fun k => by simp only [waveletlaw21_AllocNested.j0]; rw [if_pos trivial]) example_bind
  cases f with
  | false => exact Ev.congr (fun k => by rw [if_neg (by simp)]) yes
  | true =>
    by_cases ha : a < 0
    · exact Ev.congr (fun k => by rw [if_pos rfl, if_pos ha]) yes
    by_cases hab : b < a
    · exact Ev.congr (fun k => by rw [if_pos rfl, if_neg ha, decide_eq_true hab]) yes
    refine Ev.congr (fun k => by rw [if_pos rfl, if_neg ha, decide_eq_false hab]) (Ev.step (fun k => by simp only [waveletlaw21_AllocNested.j0]; rw [if_neg (by simp)]) (Ev.bind (rcheck_ev l) ?_))
    by_cases hc : chkP l = 0
    · have hV := chk_zero hc
      have hl := hV.1
      have c1 := choose_ev l a (by omega) (by omega)
      have c2 := choose_ev l b (by omega) hb
      have c3 := choose_ev l (-1) (by omega) (by omega)
      rw [show chooseP l a = (takeP l a, 0) by unfold chooseP; rw [if_pos hc, if_neg (by omega), if_neg (by omega)]] at c1
      rw [show chooseP l b = (takeP l b, 0) by unfold chooseP; rw [if_pos hc, if_neg (by omega), if_neg (by omega)]] at c2
      rw [show chooseP l (-1) = (lastP l, 0) by unfold chooseP; rw [if_pos hc, if_neg (by omega), if_pos rfl]] at c3
      refine Ev.congr (fun k => by rw [if_pos hc]) (Ev.bind c1 (Ev.bind c2 (Ev.bind c3 ?_)))
      have n1 : (takeP l a).length = l.length := by unfold takeP; rw [takeL_len, List.length_replicate]
      have n2 : (takeP l b).length = l.length := by unfold takeP; rw [takeL_len, List.length_replicate]
      have n3 : (lastP l).length = l.length := by simp [lastP]
      refine Ev.congr (f := fun k => waveletlaw21_AllocNested.j1 k l (takeP l a) (takeP l b) (lastP l) false) (fun k => ?_) ?_
      · rw [if_pos rfl, if_pos rfl, if_pos rfl, if_pos (by rw [n1]), if_pos (by rw [n2]), n3]
        simp
      · refine Ev.step (fun k => by simp only [waveletlaw21_AllocNested.j1]; rw [if_neg (by simp)]; rfl) (nest_loop l hl _ _ _ n1 n2 n3 (fun i hi => ?_) (fun i hi => (hV.2 _ (List.getElem_mem hi)).2.2.1) example_bind l.length 0 (by omega))
        have hv := hV.2 l[i] (List.getElem_mem hi)
        obtain ⟨t, t1, t2, t3, t4⟩ := takeL_split (allS l) a (List.replicate l.length 0) (allS_f3 hV)
        obtain ⟨u, u1, u2, u3, u4⟩ := takeL_split (allS l) b (List.replicate l.length 0) (allS_f3 hV)
        have htu : t ≤ u := by
          rcases Nat.lt_or_ge u t with h | h
          · have h1 := u4 (by omega)
            have h2 := take_le (allS_f3 hV) (show u + 1 ≤ t by omega)
            have h3 := t3 (by omega)
            rw [List.take_succ_eq_append_getElem (by omega)] at h2
            simp only [sumB, List.map_append, List.sum_append, List.map_cons, List.map_nil, List.sum_cons, List.sum_nil] at h1 h2 h3
            omega
          · exact h
        have e1 : takeP l a = setAll ((allS l).take t) (List.replicate l.length 0) := t2
        have e2 : takeP l b = setAll ((allS l).take u) (List.replicate l.length 0) := u2
        rw [e1, e2, chosen_el hV t1 hi, chosen_el hV u1 hi]
        have k1 := (cnt_pre hV t hi).1
        have k2 := (cnt_pre hV u hi).1
        have k3 := cnt_mono (l := l) htu i
        have k4 := stC_len hv i
        have e3 : el (lastP l) i = (l[i].f0.length : Int) - 1 := by simp [el, lastP, List.getD_eq_getElem?_getD, hi]
        obtain ⟨p, p1, p2, _⟩ := points_at hv (cnt l t i) (by omega)
        obtain ⟨q, q1, q2, _⟩ := points_at hv (cnt l u i) (by omega)
        have hm := points_mono hv (cnt l u i - cnt l t i) (cnt l t i) (by omega)
        rw [show cnt l t i + (cnt l u i - cnt l t i) = cnt l u i by omega] at hm
        rw [e3]
        omega
    · exact Ev.congr (fun k => by rw [if_neg hc]) example_bind
end Go.Proofs.Ytgmadhlebpbcpaa.P
