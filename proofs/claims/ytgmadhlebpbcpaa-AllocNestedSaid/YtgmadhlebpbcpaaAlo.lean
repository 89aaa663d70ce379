/- Plain lemmas on the printed functions of layer 21: the checks, the program's choices, the examples, in plain numbers. No program is in sight. -/
import Derived.Test.YtgmadhlebpbcpaaRow
import Derived.Test.YtgmadhlebpbcpaaPuV
import Derived.Test.YtgmadhlebpbcpaaPx1
import Derived.Test.YtgmadhlebpbcpaaPx3
import Derived.Test.YtgmadhlebpbcpaaPx4
import Derived.Test.YtgmadhlebpbcpaaPx7
set_option linter.unusedVariables false
set_option linter.unusedSimpArgs false
namespace Go.Proofs.Ytgmadhlebpbcpaa.P
open Go.RowKit Go.Proofs.YtgmadhlebpbcpaaW.PrintWords Go.Proofs.YtgmadhlebpbcpaaW.PrintLast Go.Proofs.YtgmadhlebpbcpaaW.PrintMore


theorem rd37_nat (l : List S37) (i : Nat) (h : i < l.length) : rd_T37 l (i : Int) = l[i] := by
  simp [rd_T37, List.getD_eq_getElem?_getD, h]
theorem rd54_nat (l : List S54) (i : Nat) (h : i < l.length) : rd_T54 l (i : Int) = l[i] := by
  simp [rd_T54, List.getD_eq_getElem?_getD, h]

/-! ### check -/
def chkL : List S37 → Int
  | [] => 0
  | c :: l => if validB c.f0 c.f1 = true then chkL l else 1
theorem chkL_zero : ∀ {l : List S37}, chkL l = 0 → ∀ c ∈ l, Vld c.f0 c.f1
  | [], _, c, hc => by cases hc
  | d :: l, h, c, hc => by
    unfold chkL at h
    split at h
    · rename_i hv
      rcases List.mem_cons.1 hc with rfl | hc
      · exact of_decide_eq_true hv
      · exact chkL_zero h c hc
    · cases h
theorem chkL_of : ∀ {l : List S37}, (∀ c ∈ l, Vld c.f0 c.f1) → chkL l = 0
  | [], _ => rfl
  | d :: l, h => by
    unfold chkL
    rw [if_pos (show validB d.f0 d.f1 = true from decide_eq_true (h d List.mem_cons_self))]
    exact chkL_of fun c hc => h c (List.mem_cons_of_mem _ hc)
def chkP (l : List S37) : Int := if l.length > 65536 then 5 else chkL l
theorem check_loop (l : List S37) (hl : l.length ≤ 65536) : ∀ (m i : Nat), i + m = l.length → Ev (fun k => alloc_check.l0 k l (l.length : Int) (i : Int)) (chkL (l.drop i))
  | 0, i, hi => by
    rw [List.drop_eq_nil_of_le (by omega)]
    exact Ev.step (fun k => by simp only [alloc_check.l0]; rw [if_neg (by omega)]; rfl) (Ev.now _)
  | m + 1, i, hi => by
    have hlt : i < l.length := by omega
    have ih := check_loop l hl m (i + 1) (by omega)
    have hw : wrap64 ((i : Int) + 1) = ((i + 1 : Nat) : Int) := by rw [wrap_id (by omega) (by omega)]; omega
    refine Ev.step (f := fun k => (hull_Valid.f k l[i].f0 l[i].f1).bind fun t => (if t = true then (alloc_check.l0 k l (l.length : Int) ((i + 1 : Nat) : Int)) else (some 1))) (fun k => by simp only [alloc_check.l0]; rw [if_pos (by omega), if_pos (by omega), if_pos (by omega), rd37_nat l i hlt, hw]) ?_
    refine Ev.bind (valid_ev _ _) ?_
    rw [List.drop_eq_getElem_cons hlt]
    simp only [chkL]
    by_cases hv : validB l[i].f0 l[i].f1 = true
    · rw [hv, if_pos rfl]
      exact Ev.congr (fun k => by rw [if_pos rfl]) ih
    · rw [if_neg hv, Bool.eq_false_iff.2 hv]
      exact Ev.congr (fun k => by rw [if_neg (by simp)]) (Ev.now _)
theorem check_ev (l : List S37) : Ev (fun k => alloc_check.f k l) (chkP l) := by
  unfold chkP
  by_cases h : l.length > 65536
  · rw [if_pos h]
    exact Ev.congr (fun k => by simp only [alloc_check.f]; rw [if_pos (by omega)]) (Ev.now _)
  · rw [if_neg h]
    have := check_loop l (by omega) l.length 0 (by omega)
    rw [List.drop_zero] at this
    exact Ev.congr (fun k => by simp only [alloc_check.f]; rw [if_neg (by omega)]; rfl) this
theorem rcheck_loop (l : List S37) (hl : l.length ≤ 65536) : ∀ (m i : Nat), i + m = l.length → Ev (fun k => waveletref21_ValidCurves.l0 k l (l.length : Int) (i : Int)) (chkL (l.drop i))
  | 0, i, hi => by
    rw [List.drop_eq_nil_of_le (by omega)]
    exact Ev.step (fun k => by simp only [waveletref21_ValidCurves.l0]; rw [if_neg (by omega)]; rfl) (Ev.now _)
  | m + 1, i, hi => by
    have hlt : i < l.length := by omega
    have ih := rcheck_loop l hl m (i + 1) (by omega)
    have hw : wrap64 ((i : Int) + 1) = ((i + 1 : Nat) : Int) := by rw [wrap_id (by omega) (by omega)]; omega
    refine Ev.step (f := fun k => (waveletref20_Valid.f k l[i].f0 l[i].f1).bind fun t => (if t = true then (waveletref21_ValidCurves.l0 k l (l.length : Int) ((i + 1 : Nat) : Int)) else (some 1))) (fun k => by simp only [waveletref21_ValidCurves.l0]; rw [if_pos (by omega), if_pos (by omega), if_pos (by omega), rd37_nat l i hlt, hw]) ?_
    refine Ev.bind (rvalid_ev _ _) ?_
    rw [List.drop_eq_getElem_cons hlt]
    simp only [chkL]
    by_cases hv : validB l[i].f0 l[i].f1 = true
    · rw [hv, if_pos rfl]
      exact Ev.congr (fun k => by rw [if_pos rfl]) ih
    · rw [if_neg hv, Bool.eq_false_iff.2 hv]
      exact Ev.congr (fun k => by rw [if_neg (by simp)]) (Ev.now _)
theorem rcheck_ev (l : List S37) : Ev (fun k => waveletref21_ValidCurves.f k l) (chkP l) := by
  unfold chkP
  by_cases h : l.length > 65536
  · rw [if_pos h]
    exact Ev.congr (fun k => by simp only [waveletref21_ValidCurves.f]; rw [if_pos (by omega)]) (Ev.now _)
  · rw [if_neg h]
    have := rcheck_loop l (by omega) l.length 0 (by omega)
    rw [List.drop_zero] at this
    exact Ev.congr (fun k => by simp only [waveletref21_ValidCurves.f]; rw [if_neg (by omega)]; rfl) this
theorem chk_zero {l : List S37} (h : chkP l = 0) : allV l := by
  unfold chkP at h
  split at h
  · cases h
  · exact ⟨by omega, chkL_zero h⟩
theorem chk_of {l : List S37} (h : allV l) : chkP l = 0 := by
  unfold chkP
  rw [if_neg (by have := h.1; omega)]
  exact chkL_of h.2

/-! ### the last points -/
def lastP (l : List S37) : List Int := l.map fun c => (c.f0.length : Int) - 1
/-- A row of which the first i places are those of one list, the others those of another. -/
theorem set_take {α : Type} (a b : List α) (x : α) (i : Nat) (hab : a.length = b.length) (h : i < a.length) (hx : a[i]? = some x) : (a.take i ++ b.drop i).set i x = a.take (i + 1) ++ b.drop (i + 1) := by
  have h1 : (a.take i).length = i := by rw [List.length_take]; omega
  rw [List.set_append_right _ _ (by omega), h1, Nat.sub_self, List.drop_eq_getElem_cons (by omega), List.set_cons_zero, List.take_add_one, hx]
  simp
theorem last_loop (l : List S37) (hV : allV l) : ∀ (m i : Nat), i + m = l.length → Ev (fun k => alloc_last.l0 k ((lastP l).take i ++ (List.replicate l.length (0 : Int)).drop i) l (l.length : Int) (i : Int)) (lastP l)
  | 0, i, hi => by
    have e : (lastP l).take i ++ (List.replicate l.length (0 : Int)).drop i = lastP l := by
      rw [List.take_of_length_le (by simp [lastP]; omega), List.drop_eq_nil_of_le (by simp; omega), List.append_nil]
    rw [e]
    exact Ev.step (fun k => by simp only [alloc_last.l0]; rw [if_neg (by omega)]) (Ev.now _)
  | m + 1, i, hi => by
    have hlt : i < l.length := by omega
    have h1 := hV.1
    have hv := hV.2 l[i] (List.getElem_mem hlt)
    have hn1 := hv.2.1
    have hn2 := hv.2.2.1
    have hw : wrap64 ((i : Int) + 1) = ((i + 1 : Nat) : Int) := by rw [wrap_id (by omega) (by omega)]; omega
    have hw2 : wrap64 ((l[i].f0.length : Int) - 1) = (l[i].f0.length : Int) - 1 := wrap_id (by omega) (by omega)
    have hs := set_take (lastP l) (List.replicate l.length (0 : Int)) ((l[i].f0.length : Int) - 1) i (by simp [lastP]) (by simp [lastP]; omega) (by simp [lastP, hlt])
    refine Ev.step (fun k => ?_) (last_loop l hV m (i + 1) (by omega))
    simp only [alloc_last.l0]
    rw [if_pos (by omega), if_pos (by omega), if_pos (by omega), if_pos (by simp [lastP]; omega), rd37_nat l i hlt, hw, hw2, Int.toNat_natCast, hs]
theorem last_ev (l : List S37) (hV : allV l) : Ev (fun k => alloc_last.f k l) (lastP l) := by
  have h1 := hV.1
  have := last_loop l hV l.length 0 (by omega)
  rw [List.take_zero, List.nil_append, List.drop_zero] at this
  exact Ev.congr (fun k => by simp only [alloc_last.f]; rw [if_pos (by omega), if_pos (by simp; omega), Int.toNat_natCast]; rfl) this
/-! ### taking steps -/
def takeL : List S54 → Int → List Int → List Int
  | [], _, ch => ch
  | s :: L, b, ch => if s.f3 > b then ch else takeL L (b - s.f3) (ch.set s.f0.toNat s.f1)
/-- What holds of a step of so many curves. -/
def Fit (n : Nat) (s : S54) : Prop := 0 ≤ s.f0 ∧ s.f0 < (n : Int) ∧ 0 ≤ s.f3 ∧ s.f3 ≤ 65535
theorem take_loop (L : List S54) (n : Nat) (hL : ∀ s ∈ L, Fit n s) (hLn : L.length ≤ 100000000) : ∀ (m i : Nat) (b : Int) (ch : List Int), i + m = L.length → ch.length = n → -9223372036854775808 ≤ b → b ≤ 9223372036854775807 →
    Ev (fun k => alloc_take.l0 k b ch L (L.length : Int) (i : Int)) (takeL (L.drop i) b ch)
  | 0, i, b, ch, hi, hc, hb0, hb1 => by
    rw [List.drop_eq_nil_of_le (by omega)]
    exact Ev.step (fun k => by simp only [alloc_take.l0]; rw [if_neg (by omega)]; rfl) (Ev.now _)
  | m + 1, i, b, ch, hi, hc, hb0, hb1 => by
    have hlt : i < L.length := by omega
    obtain ⟨f1, f2, f3, f4⟩ := hL L[i] (List.getElem_mem hlt)
    have hw : wrap64 ((i : Int) + 1) = ((i + 1 : Nat) : Int) := by rw [wrap_id (by omega) (by omega)]; omega
    rw [List.drop_eq_getElem_cons hlt]
    simp only [takeL]
    by_cases h : L[i].f3 > b
    · rw [if_pos h]
      exact Ev.step (fun k => by simp only [alloc_take.l0]; rw [if_pos (by omega), if_pos (by omega), if_pos (by omega), rd54_nat L i hlt, if_pos h]) (Ev.now _)
    · rw [if_neg h]
      have ih := take_loop L n hL hLn m (i + 1) (b - L[i].f3) (ch.set L[i].f0.toNat L[i].f1) (by omega) (by simpa using hc) (by omega) (by omega)
      exact Ev.step (fun k => by simp only [alloc_take.l0]; rw [if_pos (by omega), if_pos (by omega), if_pos (by omega), rd54_nat L i hlt, if_neg h, if_pos f1, if_pos (by omega), hw, wrap_id (by omega) (by omega)]) ih
/-! ### the steps of valid curves fit -/
theorem stepsC_fit {c : S37} (hV : Vld c.f0 c.f1) (i n : Nat) (hi : i < n) : ∀ (ps : List Int) (fr : Int), 0 ≤ fr ∧ fr < c.f0.length → (∀ p ∈ ps, 0 ≤ p ∧ p < c.f0.length) → ∀ s ∈ stepsC i c fr ps, 0 ≤ s.f0 ∧ s.f0 < (n : Int) ∧ s.f0 = i ∧ 0 ≤ s.f1 ∧ s.f1 < c.f0.length
  | [], fr, _, _, s, hs => by cases hs
  | t :: ps, fr, hf, hp, s, hs => by
    simp only [stepsC] at hs
    rcases List.mem_append.1 hs with hs | hs
    · split at hs
      · cases hs
      · obtain rfl := List.mem_singleton.1 hs
        have := hp t List.mem_cons_self
        exact ⟨show (0 : Int) ≤ (i : Int) by omega, show (i : Int) < (n : Int) by omega, rfl, this⟩
    · exact stepsC_fit hV i n hi ps t (hp t List.mem_cons_self) (fun p h => hp p (List.mem_cons_of_mem _ h)) s hs
theorem steps_fit : ∀ (cs : List S37) (i n : Nat), i + cs.length ≤ n → (∀ c ∈ cs, Vld c.f0 c.f1) → ∀ s ∈ stepsP i cs, 0 ≤ s.f0 ∧ s.f0 < (n : Int)
  | [], i, n, _, _, s, hs => by cases hs
  | c :: cs, i, n, hn, hV, s, hs => by
    have hc := hV c List.mem_cons_self
    have h0 := hc.2.1
    simp only [List.length_cons] at hn
    simp only [stepsP] at hs
    rcases List.mem_append.1 hs with hs | hs
    · have := stepsC_fit hc i n (by omega) _ 0 ⟨by omega, by omega⟩ (points_in hc).2 s hs
      exact ⟨this.1, this.2.1⟩
    · exact steps_fit cs (i + 1) n (by omega) (fun d hd => hV d (List.mem_cons_of_mem _ hd)) s hs
theorem isort_fit {l : List S37} (hV : allV l) : ∀ s ∈ isortP (stepsP 0 l), Fit l.length s := by
  intro s hs
  have hm := isort_mem hs
  have h1 := steps_fit l 0 l.length (by omega) hV.2 s hm
  have h2 := rg_steps l 0 hV.2 s hm
  exact ⟨h1.1, h1.2, h2.2.2.1, h2.2.2.2⟩
theorem isort_small {l : List S37} (hV : allV l) : (isortP (stepsP 0 l)).length ≤ 100000000 := by
  rw [isort_len]
  have := stepsP_len l 0 hV.2
  have := hV.1
  omega
theorem steps_ev {l : List S37} (hV : allV l) : alloc_steps.f l = some (isortP (stepsP 0 l)) := by
  unfold alloc_steps.f
  rw [if_pos hV, sort_isort _ _ (Nat.le_refl _) (rg_steps l 0 hV.2)]
/-! ### Choose -/
def takeP (l : List S37) (b : Int) : List Int := takeL (isortP (stepsP 0 l)) b (List.replicate l.length 0)
def chooseP (l : List S37) (b : Int) : List Int × Int := if chkP l = 0 then (if b < -1 then ([], 2) else if b = -1 then (lastP l, 0) else (takeP l b, 0)) else ([], chkP l)
theorem take_ev {l : List S37} (hV : allV l) (b : Int) (h0 : -9223372036854775808 ≤ b) (h1 : b ≤ 9223372036854775807) : Ev (fun k => alloc_take.f k l (isortP (stepsP 0 l)) b) (takeP l b) := by
  have hl := hV.1
  have := take_loop _ l.length (isort_fit hV) (isort_small hV) _ 0 b (List.replicate l.length 0) (by rw [Nat.zero_add]) (by simp) h0 h1
  rw [List.drop_zero] at this
  exact Ev.congr (fun k => by simp only [alloc_take.f]; rw [if_pos (by omega), if_pos (by simp; omega), Int.toNat_natCast]; rfl) this
theorem choose_ev (l : List S37) (b : Int) (h0 : -9223372036854775808 ≤ b) (h1 : b ≤ 9223372036854775807) : Ev (fun k => alloc_Choose.f k l b) (chooseP l b) := by
  refine Ev.congr (fun k => by simp only [alloc_Choose.f]; rfl) ?_
  refine Ev.bind (check_ev l) ?_
  unfold chooseP
  by_cases hc : chkP l = 0
  · have hV := chk_zero hc
    rw [if_pos hc]
    by_cases hb : b < -1
    · rw [if_pos hb]
      exact Ev.congr (fun k => by rw [if_pos hc, if_pos hb]) (Ev.now _)
    · by_cases hb2 : b = -1
      · rw [if_neg hb, if_pos hb2]
        exact Ev.congr (fun k => by rw [if_pos hc, if_neg hb, if_pos hb2]) (Ev.bind (last_ev l hV) (Ev.now _))
      · rw [if_neg hb, if_neg hb2]
        refine Ev.congr (f := fun k => (alloc_take.f k l (isortP (stepsP 0 l)) b).bind fun t => some (t, 0)) (fun k => by rw [if_pos hc, if_neg hb, if_neg hb2, steps_ev hV]; rfl) (Ev.bind (take_ev hV b h0 h1) (Ev.now _))
  · rw [if_neg hc]
    exact Ev.congr (fun k => by rw [if_neg hc]) (Ev.now _)
/-! ### the examples, the guard, the comparisons -/
theorem sameInts_loop (l : List Int) (hl : l.length ≤ 1000000) : ∀ (m i : Nat), i + m = l.length → Ev (fun k => waveletref03_SameInts.l0 k l l (l.length : Int) (i : Int)) true
  | 0, i, hi => Ev.step (fun k => by simp only [waveletref03_SameInts.l0]; rw [if_neg (by omega)]) (Ev.now _)
  | m + 1, i, hi => Ev.step (fun k => by
      simp only [waveletref03_SameInts.l0]
      rw [if_pos (by omega), if_pos (by omega), if_pos (by omega), if_pos (by omega), if_pos trivial, wrap_id (by omega) (by omega)]; rfl) (sameInts_loop l hl m (i + 1) (by omega))
theorem sameInts_refl (l : List Int) (hl : l.length ≤ 1000000) : Ev (fun k => waveletref03_SameInts.f k l l) true :=
  Ev.congr (fun k => by simp only [waveletref03_SameInts.f]; rw [if_pos trivial]; rfl) (sameInts_loop l hl l.length 0 (by omega))
theorem takeL_len : ∀ (L : List S54) (b : Int) (ch : List Int), (takeL L b ch).length = ch.length
  | [], _, _ => rfl
  | s :: L, b, ch => by
    simp only [takeL]
    split
    · rfl
    · rw [takeL_len L]; simp
theorem choose_len (l : List S37) (b : Int) : (chooseP l b).1.length ≤ 65536 := by
  unfold chooseP
  by_cases h : chkP l = 0
  · have := (chk_zero h).1
    rw [if_pos h]
    split
    · simp
    · split
      · simp [lastP]; omega
      · simp only [takeP, takeL_len, List.length_replicate]; omega
  · rw [if_neg h]; simp
theorem few_loop (l : List S37) (hl : l.length ≤ 40) : ∀ (m i : Nat) (n : Int), i + m = l.length → ∃ b, Ev (fun k => waveletlaw21_few.l0 k n l (l.length : Int) (i : Int)) b
  | 0, i, n, hi => ⟨_, Ev.step (fun k => by simp only [waveletlaw21_few.l0]; rw [if_neg (by omega)]) (Ev.now _)⟩
  | m + 1, i, n, hi => by
    have hw : wrap64 ((i : Int) + 1) = ((i + 1 : Nat) : Int) := by rw [wrap_id (by omega) (by omega)]; omega
    obtain ⟨b, hb⟩ := few_loop l hl m (i + 1) (wrap64 (n + (wrap64 ((((rd_T37 l i).f0).length : Int) + (((rd_T37 l i).f1).length : Int))))) (by omega)
    exact ⟨b, Ev.step (fun k => by simp only [waveletlaw21_few.l0]; rw [if_pos (by omega), if_pos (by omega), if_pos (by omega), hw]) hb⟩
theorem few_any (l : List S37) : ∃ b, Ev (fun k => waveletlaw21_few.f k l) b ∧ (b = true → l.length ≤ 40) := by
  by_cases h : (l.length : Int) > 40
  · exact ⟨false, Ev.congr (fun k => by simp only [waveletlaw21_few.f]; rw [if_pos h]) (Ev.now _), fun h => by cases h⟩
  · obtain ⟨b, hb⟩ := few_loop l (by omega) l.length 0 0 (by omega)
    exact ⟨b, Ev.congr (fun k => by simp only [waveletlaw21_few.f]; rw [if_neg h]; rfl) hb, fun _ => by omega⟩

theorem example_ok : Ev (fun k => waveletlaw21_exampleHolds.f k) true := by
  have S : ∀ (a b : List Int) (h : a = b), a.length ≤ 1000000 → Ev (fun k => waveletref03_SameInts.f k a b) true := fun a b h hl => by subst h; exact sameInts_refl a hl
  obtain ⟨l, hl⟩ : ∃ l, l = ([(⟨(([0, 10, 20, 30] : List Int)), (([100, 60, 50, 10] : List Int))⟩ : S37), (⟨(([0, 5] : List Int)), (([30, 15] : List Int))⟩ : S37)] : List (S37)) := ⟨_, rfl⟩
  have c1 : chooseP l 14 = ([1, 0], 0) := by rw [hl]; decide +kernel
  have c2 : chooseP l 35 = ([3, 1], 0) := by rw [hl]; decide +kernel
  have c3 : chooseP l 9 = ([0, 0], 0) := by rw [hl]; decide +kernel
  have c4 : chooseP l (-2) = ([], 2) := by rw [hl]; decide +kernel
  have e1 := choose_ev l 14 (by omega) (by omega)
  have e2 := choose_ev l 35 (by omega) (by omega)
  have e3 := choose_ev l 9 (by omega) (by omega)
  have e4 := choose_ev l (-2) (by omega) (by omega)
  rw [c1] at e1
  rw [c2] at e2
  rw [c3] at e3
  rw [c4] at e4
  have e5 : Ev (fun k => alloc_Cost.f k l [1, 1]) (15, 75, 0) := Ev.of (alloc_Cost.mono _ _) (k := 40) (by rw [hl]; decide +kernel)
  refine Ev.congr (fun k => by simp only [waveletlaw21_exampleHolds.f, Option.bind_some]; rw [← hl]) ?_
  refine Ev.bind e1 (Ev.bind e2 (Ev.bind e3 (Ev.bind e5 (Ev.bind e4 (Ev.bind (S _ _ rfl (by decide)) ?_)))))
  refine Ev.congr (fun k => by rw [if_pos rfl, if_pos rfl]) (Ev.bind (S _ _ rfl (by decide)) ?_)
  refine Ev.congr (fun k => by rw [if_pos rfl, if_pos rfl]) (Ev.bind (S _ _ rfl (by decide)) ?_)
  refine Ev.congr (fun k => by rw [if_pos rfl]) (Ev.step (fun k => by simp only [waveletlaw21_exampleHolds.j0]; rfl) (Ev.now _))
theorem example_bind : Ev (fun k => (waveletlaw21_exampleHolds.f k).bind fun t => some t) true := Ev.bind example_ok (Ev.now _)

theorem wf_bd {z : Int} (h : (Lit.int .i64 z).wf = true) : -9223372036854775808 ≤ z ∧ z ≤ 9223372036854775807 := by
  simp only [Lit.wf, Bool.and_eq_true, decide_eq_true_eq] at h
  exact h
end Go.Proofs.Ytgmadhlebpbcpaa.P
