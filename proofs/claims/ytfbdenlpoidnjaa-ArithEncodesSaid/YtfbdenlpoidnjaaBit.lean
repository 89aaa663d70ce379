/- bits and few: which inputs the laws let in. -/
import Derived.Test.YtfbdenlpoidnjaaEpl
import Derived.Test.YtfbdenlpoidnjaaPx2
set_option linter.unusedVariables false
set_option linter.unusedSimpArgs false
namespace Go.Proofs.Ytfbdenlpoidnjaa.P
open Go.RowKit Go.Proofs.YtfbdenlpoidnjaaW.PrintWords

def GoodB (l : List S69) (n : Int) : Prop := SymOk n.toNat l ∧ l.length ≤ 2000 ∧ 1 ≤ n ∧ n ≤ 64
theorem bits_loop (l : List S69) (n : Int) : ∀ m i : Nat, i + m = l.length → i ≤ 2000 → (∀ j, j < i → 0 ≤ (rd_T69 l (j : Int)).f0 ∧ (rd_T69 l (j : Int)).f0 < n ∧ ((rd_T69 l (j : Int)).f1 = 0 ∨ (rd_T69 l (j : Int)).f1 = 1)) → ∃ r, Ev (fun k => waveletlaw11_bits.l0 k l n (i : Int)) r ∧ (r = true → GoodB l n) := by
  intro m
  induction m with
  | zero =>
    intro i h h2 hv
    have hf : ∃ r, Ev (fun k => waveletlaw11_bits.j1 k l n (i : Int) false) r ∧ (r = true → GoodB l n) := by
      by_cases c1 : (l.length : Int) ≤ 2000
      · by_cases c2 : n ≥ 1
        · refine ⟨decide (n ≤ 64), Ev.step (f := fun _ => some (decide (n ≤ 64))) (fun k => ?_) (Ev.now _), fun hr => ⟨fun z hz => ?_, by omega, c2, of_decide_eq_true hr⟩⟩
          · rw [waveletlaw11_bits.j1, if_neg (by decide), if_pos c1, if_pos c2]
          · obtain ⟨j, hj, rfl⟩ := List.getElem_of_mem hz
            have h3 := hv j (by omega)
            have h4 : rd_T69 l (j : Int) = l[j] := by unfold rd_T69; rw [Int.toNat_natCast, List.getD_eq_getElem?_getD, List.getElem?_eq_getElem hj]; rfl
            rw [h4] at h3
            exact ⟨h3.1, by omega, h3.2.2⟩
        · exact ⟨false, Ev.step (f := fun _ => some false) (fun k => by rw [waveletlaw11_bits.j1, if_neg (by decide), if_pos c1, if_neg c2]) (Ev.now _), fun h => by cases h⟩
      · exact ⟨false, Ev.step (f := fun _ => some false) (fun k => by rw [waveletlaw11_bits.j1, if_neg (by decide), if_neg c1]) (Ev.now _), fun h => by cases h⟩
    obtain ⟨r, h3, h4⟩ := hf
    exact ⟨r, Ev.step (fun k => by rw [waveletlaw11_bits.l0, if_neg (by omega)]) h3, h4⟩
  | succ m ih =>
    intro i h h2 hv
    have hil : (i : Int) < (l.length : Int) := by omega
    by_cases h20 : i < 2000
    · have hf : ∃ r, Ev (fun k => waveletlaw11_bits.j1 k l n (i : Int) true) r ∧ (r = true → GoodB l n) := by
        by_cases c1 : (rd_T69 l (i : Int)).f0 < 0
        · exact ⟨false, Ev.step (f := fun _ => some false) (fun k => by rw [waveletlaw11_bits.j1, if_pos rfl, if_pos (by omega), if_pos hil, if_pos c1]) (Ev.now _), fun h => by cases h⟩
        · by_cases c2 : (rd_T69 l (i : Int)).f0 ≥ n
          · exact ⟨false, Ev.step (f := fun _ => some false) (fun k => by rw [waveletlaw11_bits.j1, if_pos rfl, if_pos (by omega), if_pos hil, if_neg c1, if_pos c2]) (Ev.now _), fun h => by cases h⟩
          · by_cases c3 : (rd_T69 l (i : Int)).f1 < 0
            · exact ⟨false, Ev.step (f := fun _ => some false) (fun k => by rw [waveletlaw11_bits.j1, if_pos rfl, if_pos (by omega), if_pos hil, if_neg c1, if_neg c2, if_pos c3]) (Ev.now _), fun h => by cases h⟩
            · by_cases c4 : (rd_T69 l (i : Int)).f1 > 1
              · exact ⟨false, Ev.step (f := fun _ => some false) (fun k => by rw [waveletlaw11_bits.j1, if_pos rfl, if_pos (by omega), if_pos hil, if_neg c1, if_neg c2, if_neg c3, if_pos c4]) (Ev.now _), fun h => by cases h⟩
              · obtain ⟨r, h3, h4⟩ := ih (i + 1) (by omega) (by omega) (fun j hj => by
                  by_cases hji : j = i
                  · subst hji
                    exact ⟨by omega, by omega, by omega⟩
                  · exact hv j (by omega))
                refine ⟨r, Ev.step (fun k => ?_) h3, h4⟩
                rw [waveletlaw11_bits.j1, if_pos rfl, if_pos (by omega), if_pos hil, if_neg c1, if_neg c2, if_neg c3, if_neg c4, wrap64_id (by omega) (by omega)]
                rfl
      obtain ⟨r, h3, h4⟩ := hf
      refine ⟨r, Ev.step (fun k => ?_) h3, h4⟩
      rw [waveletlaw11_bits.l0, if_pos hil, decide_eq_true (show (i : Int) < 2000 by omega)]
    · have hf : Ev (fun k => waveletlaw11_bits.j1 k l n (i : Int) false) false :=
        Ev.step (f := fun _ => some false) (fun k => by rw [waveletlaw11_bits.j1, if_neg (by decide), if_neg (by omega)]) (Ev.now _)
      refine ⟨false, Ev.step (fun k => ?_) hf, fun h => by cases h⟩
      rw [waveletlaw11_bits.l0, if_pos hil, decide_eq_false (show ¬ (i : Int) < 2000 by omega)]
/-- bits answers, and true for valid symbols alone. -/
theorem bits.calls (A : Option Addr) (c : Nat) (l : List S69) (n : Int) : ∃ r, (r = true → GoodB l n) ∧ ∀ w : World, Kd.C k69 w A l.length l → l.length ≤ c → Calls Try.prog 14 #[.slice A l.length c, .int .i64 n] w fun e w' => e = .returned (.bool r) ∧ Drawn0 w w' := by
  obtain ⟨r, h1, h2⟩ := bits_loop l n l.length 0 (by omega) (by omega) (fun j hj => by omega)
  obtain ⟨k, hk⟩ := h1.rounds
  exact ⟨r, h2, fun w hr hc => waveletlaw11_bits.calls k A c l n r w hr hc hk⟩
def FewOk (l : List S48) : Prop := l.length ≤ 300 ∧ ∀ x ∈ l, x.f3.length ≤ 300
theorem few_loop (l : List S48) : ∀ m i : Nat, i + m = l.length → i ≤ 300 → (∀ j, j < i → (rd_T48 l (j : Int)).f3.length ≤ 300) → ∃ r, Ev (fun k => waveletlaw11_few.l0 k l (i : Int)) r ∧ (r = true → FewOk l) := by
  intro m
  induction m with
  | zero =>
    intro i h h2 hv
    refine ⟨decide ((l.length : Int) ≤ 300), Ev.step (f := fun k => waveletlaw11_few.j1 k l (i : Int) false) (fun k => by rw [waveletlaw11_few.l0, if_neg (by omega)]) (Ev.step (f := fun _ => some (decide ((l.length : Int) ≤ 300))) (fun k => by rw [waveletlaw11_few.j1, if_neg (by decide)]) (Ev.now _)), fun hr => ⟨by have := of_decide_eq_true hr; omega, fun z hz => ?_⟩⟩
    obtain ⟨j, hj, rfl⟩ := List.getElem_of_mem hz
    have h3 := hv j (by omega)
    have h4 : rd_T48 l (j : Int) = l[j] := by unfold rd_T48; rw [Int.toNat_natCast, List.getD_eq_getElem?_getD, List.getElem?_eq_getElem hj]; rfl
    rwa [h4] at h3
  | succ m ih =>
    intro i h h2 hv
    have hil : (i : Int) < (l.length : Int) := by omega
    by_cases h20 : i < 300
    · have hf : ∃ r, Ev (fun k => waveletlaw11_few.j1 k l (i : Int) true) r ∧ (r = true → FewOk l) := by
        by_cases c1 : (((rd_T48 l (i : Int)).f3).length : Int) > 300
        · exact ⟨false, Ev.step (f := fun _ => some false) (fun k => by rw [waveletlaw11_few.j1, if_pos rfl, if_pos (by omega), if_pos hil, if_pos c1]) (Ev.now _), fun h => by cases h⟩
        · obtain ⟨r, h3, h4⟩ := ih (i + 1) (by omega) (by omega) (fun j hj => by
            by_cases hji : j = i
            · subst hji; omega
            · exact hv j (by omega))
          refine ⟨r, Ev.step (fun k => ?_) h3, h4⟩
          rw [waveletlaw11_few.j1, if_pos rfl, if_pos (by omega), if_pos hil, if_neg c1, wrap64_id (by omega) (by omega)]
          rfl
      obtain ⟨r, h3, h4⟩ := hf
      refine ⟨r, Ev.step (fun k => ?_) h3, h4⟩
      rw [waveletlaw11_few.l0, if_pos hil, decide_eq_true (show (i : Int) < 300 by omega)]
    · have hf : Ev (fun k => waveletlaw11_few.j1 k l (i : Int) false) (decide ((l.length : Int) ≤ 300)) :=
        Ev.step (f := fun _ => some (decide ((l.length : Int) ≤ 300))) (fun k => by rw [waveletlaw11_few.j1, if_neg (by decide)]) (Ev.now _)
      refine ⟨_, Ev.step (fun k => ?_) hf, fun h => absurd (of_decide_eq_true h) (by omega)⟩
      rw [waveletlaw11_few.l0, if_pos hil, decide_eq_false (show ¬ (i : Int) < 300 by omega)]
theorem few.calls (A : Option Addr) (c : Nat) (l : List S48) : ∃ r, (r = true → FewOk l) ∧ ∀ w : World, Kd.C k48 w A l.length l → l.length ≤ c → Calls Try.prog 19 #[.slice A l.length c] w fun e w' => e = .returned (.bool r) ∧ Drawn0 w w' := by
  obtain ⟨r, h1, h2⟩ := few_loop l l.length 0 (by omega) (by omega) (fun j hj => by omega)
  obtain ⟨k, hk⟩ := h1.rounds
  exact ⟨r, h2, fun w hr hc => waveletlaw11_few.calls k A c l r w hr hc hk⟩
end Go.Proofs.Ytfbdenlpoidnjaa.P
