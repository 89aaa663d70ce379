/- The printed law AllocLayers. No program is in sight. -/
import Derived.Test.YtgmadhlebpbcpaaAlR
import Derived.Test.YtgmadhlebpbcpaaPx5
import Derived.Test.YtgmadhlebpbcpaaPx11
import Derived.Test.YtgmadhlebpbcpaaPx12
set_option linter.unusedVariables false
set_option linter.unusedSimpArgs false
namespace Go.Proofs.Ytgmadhlebpbcpaa.P
open Go.RowKit Go.Proofs.YtgmadhlebpbcpaaW.PrintWords Go.Proofs.YtgmadhlebpbcpaaW.PrintLast Go.Proofs.YtgmadhlebpbcpaaW.PrintMore

/-! ### Layers -/
/-- Budget i is in order. -/
def okB (bs : List Int) (i : Nat) : Bool := !(decide (el bs i < -1) || (el bs i == -1 && !(i + 1 == bs.length)) || (!(el bs i == -1) && decide (0 < i) && decide (el bs i < el bs (i - 1))))
def layL (l : List S37) (bs : List Int) : List (List Int) := bs.map fun b => (chooseP l b).1
theorem lay_loop1 (l : List S37) (hV : allV l) (bs : List Int) (hb : bs.length ≤ 16) (hw : ∀ b ∈ bs, -9223372036854775808 ≤ b ∧ b ≤ 9223372036854775807) (hok : ∀ b ∈ bs, ¬ b < -1) : ∀ (m i : Nat), i + m = bs.length → Ev (fun k => alloc_Layers.l1 k l (isortP (stepsP 0 l)) (layL l (bs.take i)) bs (bs.length : Int) (i : Int)) (layL l bs, 0)
  | 0, i, hi => by
    rw [List.take_of_length_le (by omega)]
    exact Ev.step (fun k => by simp only [alloc_Layers.l1]; rw [if_neg (by omega)]) (Ev.now _)
  | m + 1, i, hi => by
    have hlt : i < bs.length := by omega
    have hwi : wrap64 ((i : Int) + 1) = ((i + 1 : Nat) : Int) := by rw [wrap_id (by omega) (by omega)]; omega
    have ih := lay_loop1 l hV bs hb hw hok m (i + 1) (by omega)
    have e : el bs i = bs[i] := by simp [el, List.getD_eq_getElem?_getD, hlt]
    have hl : (layL l (bs.take i)).length < 5864062014805 := by simp [layL]; omega
    have ht : layL l (bs.take (i + 1)) = layL l (bs.take i) ++ [(chooseP l bs[i]).1] := by
      unfold layL
      rw [List.take_succ_eq_append_getElem hlt, List.map_append]
      rfl
    rw [ht] at ih
    have hwb := hw bs[i] (List.getElem_mem hlt)
    have hkb := hok bs[i] (List.getElem_mem hlt)
    by_cases hb1 : bs[i] = -1
    · have hc : (chooseP l bs[i]).1 = lastP l := by unfold chooseP; rw [if_pos (chk_of hV), if_neg hkb, if_pos hb1]
      rw [hc] at ih
      refine Ev.step (f := fun k => (alloc_last.f k l).bind fun t => (alloc_Layers.l1 k l (isortP (stepsP 0 l)) (layL l (bs.take i) ++ [t]) bs (bs.length : Int) ((i + 1 : Nat) : Int))) (fun k => ?_) (Ev.bind (last_ev l hV) ih)
      simp only [alloc_Layers.l1, rd_el, e]
      rw [if_pos (by omega), if_pos (by omega), if_pos (by omega), if_pos hb1, hwi]
      simp only [if_pos hl]
    · have hc : (chooseP l bs[i]).1 = takeP l bs[i] := by unfold chooseP; rw [if_pos (chk_of hV), if_neg hkb, if_neg hb1]
      rw [hc] at ih
      refine Ev.step (f := fun k => (alloc_take.f k l (isortP (stepsP 0 l)) bs[i]).bind fun t => (alloc_Layers.l1 k l (isortP (stepsP 0 l)) (layL l (bs.take i) ++ [t]) bs (bs.length : Int) ((i + 1 : Nat) : Int))) (fun k => ?_) (Ev.bind (take_ev hV bs[i] hwb.1 hwb.2) ih)
      simp only [alloc_Layers.l1, rd_el, e]
      rw [if_pos (by omega), if_pos (by omega), if_pos (by omega), if_neg hb1, hwi]
      simp only [if_pos hl]
theorem rlay_loop1 (l : List S37) (bs : List Int) (hb : bs.length ≤ 16) (hw : ∀ b ∈ bs, -9223372036854775808 ≤ b ∧ b ≤ 9223372036854775807) : ∀ (m i : Nat), i + m = bs.length → Ev (fun k => waveletref21_Layers.l1 k l (layL l (bs.take i)) bs (bs.length : Int) (i : Int)) (layL l bs, 0)
  | 0, i, hi => by
    rw [List.take_of_length_le (by omega)]
    exact Ev.step (fun k => by simp only [waveletref21_Layers.l1]; rw [if_neg (by omega)]) (Ev.now _)
  | m + 1, i, hi => by
    have hlt : i < bs.length := by omega
    have hwi : wrap64 ((i : Int) + 1) = ((i + 1 : Nat) : Int) := by rw [wrap_id (by omega) (by omega)]; omega
    have ih := rlay_loop1 l bs hb hw m (i + 1) (by omega)
    have e : el bs i = bs[i] := by simp [el, List.getD_eq_getElem?_getD, hlt]
    have hl : (layL l (bs.take i)).length < 5864062014805 := by simp [layL]; omega
    have ht : layL l (bs.take (i + 1)) = layL l (bs.take i) ++ [(chooseP l bs[i]).1] := by
      unfold layL
      rw [List.take_succ_eq_append_getElem hlt, List.map_append]
      rfl
    rw [ht] at ih
    have hwb := hw bs[i] (List.getElem_mem hlt)
    refine Ev.step (f := fun k => (waveletref21_Choose.f k l bs[i]).bind fun t => (waveletref21_Layers.l1 k l (layL l (bs.take i) ++ [t.1]) bs (bs.length : Int) ((i + 1 : Nat) : Int))) (fun k => ?_) (Ev.bind (rchoose_ev l bs[i] hwb.1 hwb.2) ih)
    simp only [waveletref21_Layers.l1, rd_el, e]
    rw [if_pos (by omega), if_pos (by omega), if_pos (by omega), hwi]
    simp only [if_pos hl]
theorem lay_both (l : List S37) (hV : allV l) (bs : List Int) (hb : bs.length ≤ 16) (hw : ∀ b ∈ bs, -9223372036854775808 ≤ b ∧ b ≤ 9223372036854775807) : ∀ (m i : Nat), i + m = bs.length → (∀ j (h : j < bs.length), j < i → ¬ bs[j] < -1) →
    ∃ r, r.1.length ≤ 16 ∧ (∀ c ∈ r.1, c.length ≤ 65536) ∧ Ev (fun k => alloc_Layers.l0 k l bs bs (bs.length : Int) (i : Int)) r ∧ Ev (fun k => waveletref21_Layers.l0 k l bs bs (bs.length : Int) (i : Int)) r
  | 0, i, hi, hok => by
    have h1 := lay_loop1 l hV bs hb hw (fun b hb => by obtain ⟨j, hj, rfl⟩ := List.mem_iff_getElem.1 hb; exact hok j hj (by omega)) bs.length 0 (by omega)
    have h2 := rlay_loop1 l bs hb hw bs.length 0 (by omega)
    refine ⟨(layL l bs, 0), by simp [layL]; exact hb, fun c hc => ?_, Ev.step (fun k => by simp only [alloc_Layers.l0]; rw [if_neg (by omega), steps_ev hV]; rfl) h1, Ev.step (fun k => by simp only [waveletref21_Layers.l0]; rw [if_neg (by omega)]; rfl) h2⟩
    obtain ⟨b, _, rfl⟩ := List.mem_map.1 hc
    exact choose_len l b
  | m + 1, i, hi, hok => by
    have hlt : i < bs.length := by omega
    have hwi : wrap64 ((i : Int) + 1) = ((i + 1 : Nat) : Int) := by rw [wrap_id (by omega) (by omega)]; omega
    have hwn : wrap64 ((bs.length : Int) - 1) = (bs.length : Int) - 1 := wrap_id (by omega) (by omega)
    have hwm : wrap64 ((i : Int) - 1) = (i : Int) - 1 := wrap_id (by omega) (by omega)
    have e : el bs i = bs[i] := by simp [el, List.getD_eq_getElem?_getD, hlt]
    obtain ⟨y, hy⟩ : ∃ y, y = rd bs ((i : Int) - 1) := ⟨_, rfl⟩
    -- is budget i out of order?
    obtain ⟨c, hc⟩ : ∃ c : Bool, c = decide (bs[i] < -1 ∨ (bs[i] = -1 ∧ i + 1 < bs.length) ∨ (0 ≤ bs[i] ∧ 0 < i ∧ bs[i] < y)) := ⟨_, rfl⟩
    have e1 : ∀ k, alloc_Layers.l0 (k + 1) l bs bs (bs.length : Int) (i : Int) = alloc_Layers.j2 k l bs bs (bs.length : Int) (i : Int) c := fun k => by
      simp only [alloc_Layers.l0, rd_el, e]
      rw [if_pos (by omega), if_pos (by omega), if_pos (by omega), hwn, hwm, ← hy]
      by_cases h1 : bs[i] < -1
      · rw [if_pos h1, hc, decide_eq_true (Or.inl h1)]
      · rw [if_neg h1]
        by_cases h2 : bs[i] = -1
        · rw [if_pos h2]
          by_cases h3 : (i : Int) = (bs.length : Int) - 1
          · rw [if_pos h3, hc, decide_eq_false (by omega)]
          · rw [if_neg h3, hc, decide_eq_true (by omega)]
        · rw [if_neg h2]
          by_cases h3 : (i : Int) > 0
          · rw [if_pos h3, if_pos (by omega), if_pos (by omega), hc]
            congr 1
            rw [decide_eq_decide]
            omega
          · rw [if_neg h3, hc, decide_eq_false (by omega)]
    have e2 : ∀ k, waveletref21_Layers.l0 (k + 1) l bs bs (bs.length : Int) (i : Int) = waveletref21_Layers.j1 k l bs bs (bs.length : Int) (i : Int) c := fun k => by
      simp only [waveletref21_Layers.l0, rd_el, e]
      rw [if_pos (by omega), if_pos (by omega), if_pos (by omega), hwn, hwm, ← hy]
      by_cases h1 : bs[i] < -1
      · rw [if_pos h1, hc, decide_eq_true (Or.inl h1)]
      · rw [if_neg h1]
        by_cases h2 : bs[i] = -1
        · rw [if_pos h2]
          by_cases h3 : (i : Int) < (bs.length : Int) - 1
          · rw [if_pos h3, hc, decide_eq_true (by omega)]
          · rw [if_neg h3, if_neg (by omega), hc, decide_eq_false (by omega)]
        · rw [if_neg h2, if_pos (by omega)]
          by_cases h3 : (i : Int) > 0
          · rw [if_pos h3, if_pos (by omega), if_pos (by omega), hc]
            congr 1
            rw [decide_eq_decide]
            omega
          · rw [if_neg h3, hc, decide_eq_false (by omega)]
    cases c with
    | true =>
      refine ⟨([], 2), by simp, by simp, Ev.step (fun k => e1 k) (Ev.step (fun k => ?_) (Ev.now _)), Ev.step (fun k => e2 k) (Ev.step (fun k => ?_) (Ev.now _))⟩
      · simp only [alloc_Layers.j2]; rw [if_pos trivial]
      · simp only [waveletref21_Layers.j1]; rw [if_pos trivial]
    | false =>
      have hn := of_decide_eq_false hc.symm
      obtain ⟨r, h0, h00, h1, h2⟩ := lay_both l hV bs hb hw m (i + 1) (by omega) (fun j hj hji => by
        by_cases ej : j = i
        · subst ej; omega
        · exact hok j hj (by omega))
      refine ⟨r, h0, h00, Ev.step (fun k => e1 k) (Ev.step (fun k => ?_) h1), Ev.step (fun k => e2 k) (Ev.step (fun k => ?_) h2)⟩
      · simp only [alloc_Layers.j2]; rw [if_neg (by simp), hwi]
      · simp only [waveletref21_Layers.j1]; rw [if_neg (by simp), hwi]
theorem layers_both (l : List S37) (bs : List Int) (hw : ∀ b ∈ bs, -9223372036854775808 ≤ b ∧ b ≤ 9223372036854775807) : ∃ r, r.1.length ≤ 16 ∧ (∀ c ∈ r.1, c.length ≤ 65536) ∧ Ev (fun k => alloc_Layers.f k l bs) r ∧ Ev (fun k => waveletref21_Layers.f k l bs) r := by
  by_cases hb : bs.length ≤ 16
  · have r1 : ∀ r, Ev (fun k => if chkP l = 0 then waveletref21_Layers.l0 k l bs bs (bs.length : Int) 0 else some ([], chkP l)) r → Ev (fun k => waveletref21_Layers.f k l bs) r := fun r h =>
      Ev.congr (fun k => by simp only [waveletref21_Layers.f]; rw [if_neg (by omega)]) (Ev.bind (rcheck_ev l) h)
    by_cases hl : l.length > 65536
    · have hc : chkP l = 5 := by unfold chkP; rw [if_pos hl]
      refine ⟨([], 5), by simp, by simp, Ev.congr (fun k => by simp only [alloc_Layers.f]; rw [if_pos (by omega)]) (Ev.step (fun k => by simp only [alloc_Layers.j0]; rw [if_pos trivial]) (Ev.now _)), r1 _ (Ev.congr (fun k => by rw [if_neg (by omega), hc]) (Ev.now _))⟩
    · have a1 : ∀ r, Ev (fun k => if chkP l = 0 then alloc_Layers.l0 k l bs bs (bs.length : Int) 0 else some ([], chkP l)) r → Ev (fun k => alloc_Layers.f k l bs) r := fun r h =>
        Ev.congr (fun k => by simp only [alloc_Layers.f]; rw [if_neg (by omega), decide_eq_false (by omega)]) (Ev.step (fun k => by simp only [alloc_Layers.j0]; rw [if_neg (by simp)]) (Ev.bind (check_ev l) h))
      by_cases hc : chkP l = 0
      · obtain ⟨r, h0, h00, h1, h2⟩ := lay_both l (chk_zero hc) bs hb hw bs.length 0 (by omega) (fun j hj h => by omega)
        exact ⟨r, h0, h00, a1 _ (Ev.congr (fun k => by rw [if_pos hc]; rfl) h1), r1 _ (Ev.congr (fun k => by rw [if_pos hc]; rfl) h2)⟩
      · exact ⟨([], chkP l), by simp, by simp, a1 _ (Ev.congr (fun k => by rw [if_neg hc]) (Ev.now _)), r1 _ (Ev.congr (fun k => by rw [if_neg hc]) (Ev.now _))⟩
  · refine ⟨([], 5), by simp, by simp, ?_, Ev.congr (fun k => by simp only [waveletref21_Layers.f]; rw [if_pos (by omega)]) (Ev.now _)⟩
    have j : Ev (fun k => alloc_Layers.j0 k l bs true) (([] : List (List Int)), (5 : Int)) := Ev.step (fun k => by simp only [alloc_Layers.j0]; rw [if_pos trivial]) (Ev.now _)
    by_cases hl : (l.length : Int) > 65536
    · exact Ev.congr (fun k => by simp only [alloc_Layers.f]; rw [if_pos hl]) j
    · exact Ev.congr (fun k => by simp only [alloc_Layers.f]; rw [if_neg hl, decide_eq_true (by omega)]) j
theorem rdL_nat (l : List (List Int)) (i : Nat) (h : i < l.length) : rd_L1 l (i : Int) = l[i] := by
  simp [rd_L1, List.getD_eq_getElem?_getD, h]
theorem sameC_in (l : List (List Int)) (hl : l.length ≤ 16) (i : Nat) (hi : i < l.length) (hc : l[i].length ≤ 65536) (R : Ev (fun k => waveletref21_SameChoices.l0 k l l (l.length : Int) ((i + 1 : Nat) : Int)) true) : ∀ (m j : Nat), j + m = l[i].length →
    Ev (fun k => waveletref21_SameChoices.l1 k l l (i : Int) (l.length : Int) (i : Int) (l[i].length : Int) (j : Int)) true
  | 0, j, hj => by
    have hw : wrap64 ((i : Int) + 1) = ((i + 1 : Nat) : Int) := by rw [wrap_id (by omega) (by omega)]; omega
    exact Ev.step (fun k => by simp only [waveletref21_SameChoices.l1]; rw [if_neg (by omega), hw]) R
  | m + 1, j, hj => by
    have hw : wrap64 ((j : Int) + 1) = ((j + 1 : Nat) : Int) := by rw [wrap_id (by omega) (by omega)]; omega
    refine Ev.step (fun k => ?_) (sameC_in l hl i hi hc R m (j + 1) (by omega))
    simp only [waveletref21_SameChoices.l1]
    rw [if_pos (by omega), if_pos (by omega), if_pos (by omega), if_pos (by omega), rdL_nat l i hi, if_pos (by omega), if_pos (by omega), if_pos (by omega), if_pos trivial, hw]
theorem sameC_loop (l : List (List Int)) (hl : l.length ≤ 16) (hc : ∀ c ∈ l, c.length ≤ 65536) : ∀ (m i : Nat), i + m = l.length → Ev (fun k => waveletref21_SameChoices.l0 k l l (l.length : Int) (i : Int)) true
  | 0, i, hi => Ev.step (fun k => by simp only [waveletref21_SameChoices.l0]; rw [if_neg (by omega)]) (Ev.now _)
  | m + 1, i, hi => by
    have hlt : i < l.length := by omega
    have h := sameC_in l hl i hlt (hc _ (List.getElem_mem hlt)) (sameC_loop l hl hc m (i + 1) (by omega)) l[i].length 0 (by omega)
    refine Ev.step (fun k => ?_) h
    simp only [waveletref21_SameChoices.l0]
    rw [if_pos (by omega), if_pos (by omega), if_pos (by omega), if_pos (by omega), if_pos trivial, rdL_nat l i hlt]
    rfl
theorem law_layers (l : List S37) (bs : List Int) (hw : ∀ b ∈ bs, -9223372036854775808 ≤ b ∧ b ≤ 9223372036854775807) : Ev (fun k => waveletlaw21_AllocLayers.f k l bs) true := by
  obtain ⟨f, hf, _⟩ := few_any l
  refine Ev.congr (fun k => by simp only [waveletlaw21_AllocLayers.f]; rfl) (Ev.bind hf ?_)
  have j : ∀ x, Ev (fun k => waveletlaw21_AllocLayers.j0 k l bs x) true := fun x => by
    cases x with
    | true => exact Ev.step (fun k => by simp only [waveletlaw21_AllocLayers.j0]; rw [if_pos trivial]) example_bind
    | false =>
      obtain ⟨r, h0, h00, h1, h2⟩ := layers_both l bs hw
      have hs : Ev (fun k => waveletref21_SameChoices.f k r.1 r.1) true := Ev.congr (fun k => by simp only [waveletref21_SameChoices.f]; rw [if_pos trivial]; rfl) (sameC_loop r.1 h0 h00 r.1.length 0 (by omega))
      refine Ev.step (fun k => by simp only [waveletlaw21_AllocLayers.j0]; rw [if_neg (by simp)]) (Ev.bind h1 (Ev.bind h2 (Ev.bind hs ?_)))
      exact Ev.congr (fun k => by rw [if_pos rfl, if_pos rfl]) example_bind
  cases f with
  | true => exact Ev.congr (fun k => by rw [if_pos rfl]) (j _)
  | false => exact Ev.congr (fun k => by rw [if_neg (by simp)]) (j _)

end Go.Proofs.Ytgmadhlebpbcpaa.P
