/- Which steps a budget takes: along each curve a part of its hull from the beginning, in the hull's order; what a choice costs, and that none that costs no more rate has less distortion. No program is in sight. -/
import Derived.Test.YtgmadhlebpbcpaaAlo
import Derived.Test.YtgmadhlebpbcpaaHul
set_option linter.unusedVariables false
set_option linter.unusedSimpArgs false
namespace Go.Proofs.Ytgmadhlebpbcpaa.P
open Go.RowKit Go.Proofs.YtgmadhlebpbcpaaW.PrintWords Go.Proofs.YtgmadhlebpbcpaaW.PrintLast Go.Proofs.YtgmadhlebpbcpaaW.PrintMore

/-- Is s a step of curve i? -/
def cls (i : Nat) (s : S54) : Bool := s.f0 == (i : Int)
theorem cls_iff {i : Nat} {s : S54} : cls i s = true ↔ s.f0 = (i : Int) := by simp [cls]

/-! ### the sort keeps the order within a curve -/
theorem ins_filter_no {p : S54 → Bool} {y : S54} (hp : p y = false) : ∀ l : List S54, (insP l y).filter p = l.filter p
  | [] => by simp [insP, hp]
  | x :: l => by
    unfold insP
    split
    · simp [List.filter_cons, hp]
    · simp only [List.filter_cons, ins_filter_no hp l]
theorem ins_filter_yes {p : S54 → Bool} {y : S54} (hy : Rg y) (hp : p y = true) : ∀ l : List S54, (∀ x ∈ l, Rg x) → Prs l → (∀ x ∈ l, p x = true → lessP y x = false) → (insP l y).filter p = l.filter p ++ [y]
  | [], _, _, _ => by simp [insP, hp]
  | x :: l, hr, hs, hl => by
    have hx := hr x List.mem_cons_self
    have hr' : ∀ z ∈ l, Rg z := fun z hz => hr z (List.mem_cons_of_mem _ hz)
    obtain ⟨h1, h2⟩ := List.pairwise_cons.1 hs
    unfold insP
    by_cases h : lessP y x = true
    · rw [if_pos h]
      have hn : (x :: l).filter p = [] := by
        rw [List.filter_eq_nil_iff]
        intro z hz hpz
        have hzl := hl z hz hpz
        rcases List.mem_cons.1 hz with rfl | hz
        · rw [h] at hzl; cases hzl
        · have := less_neg hy (hr' z hz) hx hzl (h1 z hz)
          rw [h] at this
          cases this
      rw [List.filter_cons, if_pos hp, hn]
      rfl
    · rw [if_neg h, List.filter_cons, ins_filter_yes hy hp l hr' h2 (fun z hz => hl z (List.mem_cons_of_mem _ hz)), List.filter_cons]
      split <;> simp
theorem isort_filter {p : S54 → Bool} : ∀ (n : Nat) (l : List S54), l.length = n → (∀ x ∈ l, Rg x) → (l.filter p).Pairwise (fun a b => lessP b a = false) → (isortP l).filter p = l.filter p
  | 0, l, hn, _, _ => by
    obtain rfl := List.eq_nil_of_length_eq_zero hn
    rfl
  | n + 1, l, hn, hr, hp => by
    obtain ⟨l, y, rfl⟩ : ∃ l' y, l = l' ++ [y] := ⟨l.dropLast, l.getLast (by intro h; simp [h] at hn), (List.dropLast_concat_getLast _).symm⟩
    have hr' : ∀ x ∈ l, Rg x := fun x hx => hr x (by simp [hx])
    have hy := hr y (by simp)
    rw [List.filter_append] at hp ⊢
    have ih := isort_filter n l (by simpa using hn) hr' (List.pairwise_append.1 hp).1
    rw [isort_snoc]
    cases h : p y with
    | false => rw [ins_filter_no h, ih]; simp [h]
    | true =>
      rw [ins_filter_yes hy h _ (fun x hx => hr' x (isort_mem hx)) (prs_isort hr') (fun x hx hpx => ?_), ih]
      · simp [h]
      · have hm : x ∈ l.filter p := List.mem_filter.2 ⟨isort_mem hx, hpx⟩
        exact (List.pairwise_append.1 hp).2.2 x hm y (by simp [h])
theorem stepsC_cls (n : Nat) (c : S37) : ∀ (ps : List Int) (fr : Int), ∀ s ∈ stepsC n c fr ps, s.f0 = (n : Int)
  | [], _, s, hs => by cases hs
  | t :: ps, fr, s, hs => by
    simp only [stepsC] at hs
    rcases List.mem_append.1 hs with hs | hs
    · split at hs
      · cases hs
      · obtain rfl := List.mem_singleton.1 hs
        rfl
    · exact stepsC_cls n c ps t s hs
theorem stepsP_cls : ∀ (cs : List S37) (n : Nat), ∀ s ∈ stepsP n cs, (n : Int) ≤ s.f0
  | [], _, s, hs => by cases hs
  | c :: cs, n, s, hs => by
    simp only [stepsP] at hs
    rcases List.mem_append.1 hs with hs | hs
    · have := stepsC_cls n c _ _ s hs; omega
    · have := stepsP_cls cs (n + 1) s hs; omega
theorem stepsP_filter : ∀ (cs : List S37) (n i : Nat) (h : i < cs.length), (stepsP n cs).filter (cls (n + i)) = stepsC (n + i) cs[i] 0 (pointsP cs[i].f0 cs[i].f1)
  | c :: cs, n, 0, h => by
    simp only [stepsP, List.filter_append]
    have e1 : (stepsC n c 0 (pointsP c.f0 c.f1)).filter (cls (n + 0)) = stepsC n c 0 (pointsP c.f0 c.f1) := List.filter_eq_self.2 fun s hs => cls_iff.2 (by have := stepsC_cls n c _ _ s hs; omega)
    have e2 : (stepsP (n + 1) cs).filter (cls (n + 0)) = [] := List.filter_eq_nil_iff.2 fun s hs hc => by
      have := stepsP_cls cs (n + 1) s hs
      have := cls_iff.1 hc
      omega
    rw [e1, e2, List.append_nil]
    rfl
  | c :: cs, n, i + 1, h => by
    simp only [stepsP, List.filter_append]
    have e1 : (stepsC n c 0 (pointsP c.f0 c.f1)).filter (cls (n + (i + 1))) = [] := List.filter_eq_nil_iff.2 fun s hs hc => by
      have := stepsC_cls n c _ _ s hs
      have := cls_iff.1 hc
      omega
    have ih := stepsP_filter cs (n + 1) i (by simpa using h)
    rw [show n + 1 + i = n + (i + 1) by omega] at ih
    rw [e1, List.nil_append, ih]
    rfl

/-! ### the steps along a hull -/
theorem chn_cons {rs ds : List Int} {i : Nat} {l : List Int} (h : Chn rs ds i l) : l = (i : Int) :: l.tail := by cases h <;> rfl
theorem chn_steps {c : S37} (n : Nat) {i : Nat} {pts : List Int} (h : Chn c.f0 c.f1 i pts) : (stepsC n c (i : Int) pts.tail).length + 1 = pts.length ∧ ∀ j, j + 1 < pts.length → (stepsC n c (i : Int) pts.tail)[j]? = some (stepP n c (el pts j) (el pts (j + 1))) := by
  induction h with
  | last i h => exact ⟨rfl, fun j hj => by simp at hj⟩
  | cons i m l h t ih =>
    have e := chn_cons t
    have hne : ¬ (m : Int) = (i : Int) := by have := h.lt; omega
    have es : stepsC n c (i : Int) ((i : Int) :: l).tail = stepP n c (i : Int) (m : Int) :: stepsC n c (m : Int) l.tail := by
      rw [List.tail_cons]
      conv => lhs; rw [e]
      simp only [stepsC]
      rw [if_neg hne]
      rfl
    rw [es]
    have hl : 0 < l.length := t.head.1
    refine ⟨by simp only [List.length_cons]; omega, fun j hj => ?_⟩
    cases j with
    | zero =>
      have := t.head.2
      simp only [el, List.getD_cons_zero, List.getD_cons_succ, List.getElem?_cons_zero] at this ⊢
      rw [this]
    | succ j =>
      have := ih.2 j (by simpa using hj)
      simpa [el] using this
theorem step_rg {c : S37} (hV : Vld c.f0 c.f1) (n : Nat) {i m : Nat} (h : Nxt c.f0 c.f1 i m) : Rg (stepP n c (i : Int) (m : Int)) := by
  have := (nxt_ranged hV h).1
  unfold Rg stepP
  simpa [fl, rse] using this
theorem chn_rg {c : S37} (hV : Vld c.f0 c.f1) (n : Nat) {i : Nat} {pts : List Int} (h : Chn c.f0 c.f1 i pts) : (∀ s ∈ stepsC n c (i : Int) pts.tail, Rg s) ∧ (stepsC n c (i : Int) pts.tail).Pairwise (fun a b => lessP a b = true) := by
  induction h with
  | last i h => exact ⟨(fun s hs => by cases hs), List.Pairwise.nil⟩
  | cons i m l h t ih =>
    have e := chn_cons t
    have hne : ¬ (m : Int) = (i : Int) := by have := h.lt; omega
    have es : stepsC n c (i : Int) ((i : Int) :: l).tail = stepP n c (i : Int) (m : Int) :: stepsC n c (m : Int) l.tail := by
      rw [List.tail_cons]
      conv => lhs; rw [e]
      simp only [stepsC]
      rw [if_neg hne]
      rfl
    have hr := step_rg hV n h
    rw [es]
    refine ⟨fun s hs => ?_, List.pairwise_cons.2 ⟨fun b hb => ?_, ih.2⟩⟩
    · rcases List.mem_cons.1 hs with rfl | hs
      · exact hr
      · exact ih.1 s hs
    · -- against the first of the rest, then on
      cases t with
      | last m h' => cases hb
      | cons m t' l' h' t2 =>
        have e2 := chn_cons t2
        have hne2 : ¬ (t' : Int) = (m : Int) := by have := h'.lt; omega
        have es2 : stepsC n c (m : Int) ((m : Int) :: l').tail = stepP n c (m : Int) (t' : Int) :: stepsC n c (t' : Int) l'.tail := by
          rw [List.tail_cons]
          conv => lhs; rw [e2]
          simp only [stepsC]
          rw [if_neg hne2]
          rfl
        have hr2 := step_rg hV n h'
        have hfall : lessP (stepP n c (i : Int) (m : Int)) (stepP n c (m : Int) (t' : Int)) = true := by
          have := slopes_fall hV h h'
          refine decide_eq_true ?_
          show 0 < stP (el c.f1 ((i : Int).toNat) - el c.f1 ((m : Int).toNat)) (el c.f0 ((m : Int).toNat) - el c.f0 ((i : Int).toNat)) (el c.f1 ((m : Int).toNat) - el c.f1 ((t' : Int).toNat)) (el c.f0 ((t' : Int).toNat) - el c.f0 ((m : Int).toNat))
          simp only [Int.toNat_natCast]
          simp only [fl, rse] at this
          omega
        rw [es2] at hb ih
        rcases List.mem_cons.1 hb with rfl | hb
        · exact hfall
        · exact less_trans hr hr2 (ih.1 b (List.mem_cons_of_mem _ hb)) hfall ((List.pairwise_cons.1 ih.2).1 b hb)

/-- The steps of a valid curve. -/
def stC (n : Nat) (c : S37) : List S54 := stepsC n c 0 (pointsP c.f0 c.f1)
theorem stC_tail {c : S37} (hV : Vld c.f0 c.f1) (n : Nat) : stC n c = stepsC n c ((0 : Nat) : Int) (pointsP c.f0 c.f1).tail := by
  have e := chn_cons (points_chn hV)
  unfold stC
  conv => lhs; rw [e]
  simp [stepsC]
theorem stC_len {c : S37} (hV : Vld c.f0 c.f1) (n : Nat) : (stC n c).length + 1 = (pointsP c.f0 c.f1).length := by
  rw [stC_tail hV]; exact (chn_steps n (points_chn hV)).1
theorem stC_at {c : S37} (hV : Vld c.f0 c.f1) (n : Nat) {j : Nat} (hj : j < (stC n c).length) : (stC n c)[j]? = some (stepP n c (el (pointsP c.f0 c.f1) j) (el (pointsP c.f0 c.f1) (j + 1))) := by
  have := stC_len hV n
  rw [stC_tail hV]; exact (chn_steps n (points_chn hV)).2 j (by omega)
theorem less_no {x y : S54} (hx : Rg x) (hy : Rg y) (h : lessP x y = true) : lessP y x = false := less_asym hy hx h
/-- All steps, in their order. -/
def allS (l : List S37) : List S54 := isortP (stepsP 0 l)
theorem allS_filter {l : List S37} (hV : allV l) {i : Nat} (hi : i < l.length) : (allS l).filter (cls i) = stC i l[i] := by
  have hv := hV.2 l[i] (List.getElem_mem hi)
  have e := stepsP_filter l 0 i hi
  rw [Nat.zero_add] at e
  have hc := chn_rg hv i (points_chn hv)
  rw [← stC_tail hv] at hc
  have hp : ((stepsP 0 l).filter (cls i)).Pairwise (fun a b => lessP b a = false) := by
    rw [e]
    exact hc.2.imp_of_mem fun ha hb h => less_no (hc.1 _ ha) (hc.1 _ hb) h
  unfold allS
  rw [isort_filter _ _ rfl (rg_steps l 0 hV.2) hp, e]
  rfl

/-! ### taking the first t steps -/
def setAll (L : List S54) (ch : List Int) : List Int := L.foldl (fun ch s => ch.set s.f0.toNat s.f1) ch
theorem setAll_snoc (L : List S54) (s : S54) (ch : List Int) : setAll (L ++ [s]) ch = (setAll L ch).set s.f0.toNat s.f1 := by
  unfold setAll; rw [List.foldl_append]; rfl
theorem setAll_len (L : List S54) (ch : List Int) : (setAll L ch).length = ch.length := by
  induction L generalizing ch with
  | nil => rfl
  | cons s L ih =>
    show (setAll L (ch.set s.f0.toNat s.f1)).length = _
    rw [ih]; simp
def sumB (L : List S54) : Int := (L.map (·.f3)).sum
/-- What a budget takes. -/
theorem takeL_split : ∀ (L : List S54) (b : Int) (ch : List Int), (∀ s ∈ L, 0 ≤ s.f3) → ∃ t, t ≤ L.length ∧ takeL L b ch = setAll (L.take t) ch ∧ (0 ≤ b → sumB (L.take t) ≤ b) ∧ ∀ h : t < L.length, b < sumB (L.take t) + L[t].f3
  | [], b, ch, _ => ⟨0, Nat.le_refl _, rfl, fun h => by simpa [sumB] using h, fun h => by simp at h⟩
  | s :: L, b, ch, hs => by
    simp only [takeL]
    by_cases h : s.f3 > b
    · rw [if_pos h]
      refine ⟨0, Nat.zero_le _, rfl, fun h => by simpa [sumB] using h, fun _ => ?_⟩
      simp [sumB]
      omega
    · rw [if_neg h]
      obtain ⟨t, h1, h2, h3, h4⟩ := takeL_split L (b - s.f3) (ch.set s.f0.toNat s.f1) (fun x hx => hs x (List.mem_cons_of_mem _ hx))
      refine ⟨t + 1, by simpa using h1, by rw [h2]; rfl, fun hb => ?_, fun ht => ?_⟩
      · have := h3 (by omega)
        simp only [sumB, List.take_succ_cons, List.map_cons, List.sum_cons] at this ⊢
        omega
      · have := h4 (by simpa using ht)
        simp only [sumB, List.take_succ_cons, List.map_cons, List.sum_cons, List.getElem_cons_succ] at this ⊢
        omega
theorem take_le {L : List S54} (hL : ∀ s ∈ L, 0 ≤ s.f3) {t u : Nat} (htu : t ≤ u) : sumB (L.take t) ≤ sumB (L.take u) := by
  have e : L.take u = L.take t ++ (L.take u).drop t := by
    have := (List.take_append_drop t (L.take u)).symm
    rwa [List.take_take, Nat.min_eq_left htu] at this
  have : 0 ≤ sumB ((L.take u).drop t) := by
    have hm : ∀ s ∈ (L.take u).drop t, 0 ≤ s.f3 := fun s hs => hL s (List.mem_of_mem_take (List.mem_of_mem_drop hs))
    generalize (L.take u).drop t = M at hm
    unfold sumB
    induction M with
    | nil => simp
    | cons x M ih =>
      have := hm x List.mem_cons_self
      have := ih fun s hs => hm s (List.mem_cons_of_mem _ hs)
      simp only [List.map_cons, List.sum_cons]
      omega
  rw [e]
  unfold sumB at this ⊢
  rw [List.map_append, List.sum_append]
  omega
/-- Along curve i, the first t steps lead to the hull's point of the number of its steps among them. -/
def cnt (l : List S37) (t i : Nat) : Nat := (((allS l).take t).filter (cls i)).length
theorem cnt_pre {l : List S37} (hV : allV l) (t : Nat) {i : Nat} (hi : i < l.length) : cnt l t i ≤ (stC i l[i]).length ∧ ((allS l).take t).filter (cls i) = (stC i l[i]).take (cnt l t i) ∧ ((allS l).drop t).filter (cls i) = (stC i l[i]).drop (cnt l t i) := by
  have e : ((allS l).take t).filter (cls i) ++ ((allS l).drop t).filter (cls i) = stC i l[i] := by rw [← List.filter_append, List.take_append_drop, allS_filter hV hi]
  refine ⟨by rw [← e]; unfold cnt; simp, ?_, ?_⟩
  · rw [← e]; unfold cnt; simp
  · rw [← e]; unfold cnt; simp
theorem cnt_mono {l : List S37} {t u : Nat} (h : t ≤ u) (i : Nat) : cnt l t i ≤ cnt l u i := by
  unfold cnt
  have e : (allS l).take u = (allS l).take t ++ ((allS l).take u).drop t := by
    have := (List.take_append_drop t ((allS l).take u)).symm
    rwa [List.take_take, Nat.min_eq_left h] at this
  rw [e, List.filter_append, List.length_append]
  omega
theorem cnt_succ (l : List S37) (t i : Nat) (h : t < (allS l).length) : cnt l (t + 1) i = cnt l t i + if cls i (allS l)[t] = true then 1 else 0 := by
  unfold cnt
  rw [List.take_succ_eq_append_getElem h, List.filter_append, List.length_append]
  by_cases hc : cls i (allS l)[t] = true
  · simp [hc]
  · simp [hc]
/-- The step at place t, if it is of curve i, is the next one of that curve. -/
theorem step_at {l : List S37} (hV : allV l) {t i : Nat} (hi : i < l.length) (ht : t < (allS l).length) (hc : cls i (allS l)[t] = true) : (stC i l[i])[cnt l t i]? = some (allS l)[t] := by
  have h := (cnt_pre hV t hi).2.2
  rw [List.drop_eq_getElem_cons ht, List.filter_cons, if_pos hc] at h
  have := congrArg (fun L => L[0]?) h
  simp at this
  exact this.symm
theorem chosen {l : List S37} (hV : allV l) : ∀ (t : Nat), t ≤ (allS l).length → ∀ i (hi : i < l.length), (setAll ((allS l).take t) (List.replicate l.length 0))[i]? = some (el (pointsP l[i].f0 l[i].f1) (cnt l t i))
  | 0, _, i, hi => by
    have hv := hV.2 l[i] (List.getElem_mem hi)
    have : el (pointsP l[i].f0 l[i].f1) 0 = ((0 : Nat) : Int) := (points_chn hv).head.2
    simp [setAll, cnt, hi, this]
  | t + 1, ht, i, hi => by
    have hlt : t < (allS l).length := by omega
    have ih := chosen hV t (by omega) i hi
    rw [List.take_succ_eq_append_getElem hlt, setAll_snoc, cnt_succ l t i hlt]
    have hf := isort_fit hV (allS l)[t] (List.getElem_mem hlt)
    by_cases hc : cls i (allS l)[t] = true
    · have h0 := cls_iff.1 hc
      have hs := step_at hV hi hlt hc
      have hv := hV.2 l[i] (List.getElem_mem hi)
      have hj : cnt l t i < (stC i l[i]).length := (List.getElem?_eq_some_iff.1 hs).1
      rw [stC_at hv i hj] at hs
      have e : (allS l)[t].f1 = el (pointsP l[i].f0 l[i].f1) (cnt l t i + 1) := by rw [← Option.some.inj hs]; rfl
      rw [if_pos hc, h0, Int.toNat_natCast, e]
      have hl : i < (setAll ((allS l).take t) (List.replicate l.length 0)).length := by rw [setAll_len]; simpa using hi
      rw [List.getElem?_set_self hl]
    · have h0 : (allS l)[t].f0 ≠ (i : Int) := fun h => hc (cls_iff.2 h)
      have h1 := hf.1
      rw [if_neg hc, List.getElem?_set_ne (by omega)]
      exact ih
end Go.Proofs.Ytgmadhlebpbcpaa.P
