/- Plain lemmas on the printed functions of layer 47: the guard 'few', the examples, the two readings of keys and values, and the two Checks. No program is in sight. -/
import Derived.Test.YtnckglnnojcdmaaPx6
import Derived.Test.YtnckglnnojcdmaaChk
set_option linter.unusedVariables false
set_option linter.unusedSimpArgs false
namespace Go.Proofs.Ytnckglnnojcdmaa.P
open Go.RowKit Go.Proofs.YtnckglnnojcdmaaW.PrintWords Go.Proofs.YtnckglnnojcdmaaW.PrintLast

/-! ### few -/
theorem few_loop (l : List S42) (hl : l.length ≤ 70) : ∀ (d i : Nat), i + d = l.length → ∃ b, Ev (fun k => waveletlaw47_few.l0 k l (l.length : Int) (i : Int)) b ∧ (b = true → ∀ j (h : j < l.length), i ≤ j → l[j].f0.size ≤ 70 ∧ l[j].f1.size ≤ 5000)
  | 0, i, hi => ⟨true, Ev.step (fun k => by simp only [waveletlaw47_few.l0]; rw [if_neg (by omega)]) (Ev.now _), fun _ j h hj => by omega⟩
  | d + 1, i, hi => by
    have hlt : i < l.length := by omega
    have hr := rd_nat l i hlt
    by_cases h0 : ((l[i].f0.size : Nat) : Int) > 70
    · exact ⟨false, Ev.step (fun k => by simp only [waveletlaw47_few.l0]; rw [if_pos (by omega), if_pos (by omega), if_pos (by omega), hr, if_pos h0]) (Ev.now _), fun h => by cases h⟩
    · by_cases h1 : ((l[i].f1.size : Nat) : Int) > 5000
      · exact ⟨false, Ev.step (fun k => by simp only [waveletlaw47_few.l0]; rw [if_pos (by omega), if_pos (by omega), if_pos (by omega), hr, if_neg h0, if_pos h1]) (Ev.now _), fun h => by cases h⟩
      · obtain ⟨b, hb, hg⟩ := few_loop l hl d (i + 1) (by omega)
        refine ⟨b, Ev.step (fun k => by simp only [waveletlaw47_few.l0]; rw [if_pos (by omega), if_pos (by omega), if_pos (by omega), hr, if_neg h0, if_neg h1, wrap_id (by omega) (by omega), show (i : Int) + 1 = ((i + 1 : Nat) : Int) by omega]) hb, fun h j hj hij => ?_⟩
        by_cases e : i = j
        · subst e; exact ⟨by omega, by omega⟩
        · exact hg h j hj (by omega)

/-- What 'few' lets in. -/
def Few (l : List S42) : Prop := l.length ≤ 70 ∧ ∀ x ∈ l, x.f0.size ≤ 70 ∧ x.f1.size ≤ 5000
theorem few_any (l : List S42) : ∃ b, Ev (fun k => waveletlaw47_few.f k l) b ∧ (b = true → Few l) := by
  by_cases h : (l.length : Int) > 70
  · exact ⟨false, Ev.congr (fun k => by simp only [waveletlaw47_few.f]; rw [if_pos h]) (Ev.now _), fun h => by cases h⟩
  · obtain ⟨b, hb, hg⟩ := few_loop l (by omega) l.length 0 (by omega)
    refine ⟨b, Ev.congr (fun k => by simp only [waveletlaw47_few.f]; rw [if_neg h]; rfl) hb, fun hb => ⟨by omega, fun x hx => ?_⟩⟩
    obtain ⟨j, hj, rfl⟩ := List.mem_iff_getElem.1 hx
    exact hg hb j hj (by omega)

/-! ### keys -/
theorem refKey_loop (s : ByteArray) (hs : s.size ≤ 64) : ∀ (b pos : Nat), s.size ≤ pos + b → 1 ≤ pos → Ev (fun k => waveletref47_ValidKey.l0 k s (pos : Int)) (keyFrom s b pos)
  | 0, pos, hb, h1 => by
    rw [keyFrom_end s 0 pos (by omega)]
    exact Ev.step (fun k => by simp only [waveletref47_ValidKey.l0]; rw [if_neg (by omega)]) (Ev.now _)
  | b + 1, pos, hb, h1 => by
    by_cases hp : pos < s.size
    · have hbt := bt_nat s pos hp
      have hw : wrap64 ((pos : Int) + 1) = ((pos + 1 : Nat) : Int) := by rw [wrap_id (by omega) (by omega)]; omega
      by_cases ha : (s[pos]'hp).toNat < 128
      · have hd := decode_ascii s pos hp ha
        have ih := refKey_loop s hs b (pos + 1) (by omega) (by omega)
        have hk : keyFrom s (b + 1) pos = (okKeyByte pos (s[pos]'hp).toNat && keyFrom s b (pos + 1)) := by simp [keyFrom, hp, hd]
        rw [hk]
        by_cases hok : okKeyByte pos (s[pos]'hp).toNat = true
        · rw [hok, Bool.true_and]
          have hok' := (okKeyByte_iff _ _).1 hok
          refine Ev.step (fun k => ?_) ih
          simp only [waveletref47_ValidKey.l0]
          rw [if_pos (by omega), if_pos (by omega), hbt, hw]
          repeat' split
          all_goals first | rfl | (exfalso; omega)
        · rw [Bool.eq_false_iff.2 hok, Bool.false_and]
          have hok' : ¬ ((97 ≤ (s[pos]'hp).toNat ∧ (s[pos]'hp).toNat ≤ 122) ∨ (pos ≠ 0 ∧ ((48 ≤ (s[pos]'hp).toNat ∧ (s[pos]'hp).toNat ≤ 57) ∨ (s[pos]'hp).toNat = 45 ∨ (s[pos]'hp).toNat = 46))) := fun h => hok ((okKeyByte_iff _ _).2 h)
          refine Ev.step (fun k => ?_) (Ev.now _)
          simp only [waveletref47_ValidKey.l0]
          rw [if_pos (by omega), if_pos (by omega), hbt]
          repeat' split
          all_goals first | rfl | (exfalso; omega)
      · have hd := (decode_high s pos hp (by omega)).1
        have hk : keyFrom s (b + 1) pos = false := by
          have : okKeyByte pos (Utf8.decode s pos).1 = false := by
            rw [Bool.eq_false_iff]
            intro h
            have := (okKeyByte_iff _ _).1 h
            omega
          simp [keyFrom, hp, this]
        rw [hk]
        refine Ev.step (fun k => ?_) (Ev.now _)
        simp only [waveletref47_ValidKey.l0]
        rw [if_pos (by omega), if_pos (by omega), hbt]
        repeat' split
        all_goals first | rfl | (exfalso; omega)
    · rw [keyFrom_end s _ pos hp]
      exact Ev.step (fun k => by simp only [waveletref47_ValidKey.l0]; rw [if_neg (by omega)]) (Ev.now _)

theorem refKey_no (s : ByteArray) : Ev (fun k => waveletref47_ValidKey.j0 k s true) false := Ev.step (fun k => by simp only [waveletref47_ValidKey.j0]; rw [if_pos trivial]) (Ev.now _)
theorem refKey (s : ByteArray) : Ev (fun k => waveletref47_ValidKey.f k s) (keyOk s) := by
  by_cases h1 : 1 ≤ s.size
  · by_cases h2 : s.size ≤ 64
    · have hbt := bt_nat s 0 (by omega)
      have hbt : bt s 0 = ((s[0]'(by omega)).toNat : Int) := hbt
      have hko : keyOk s = keyFrom s s.size 0 := by simp [keyOk, h1, h2]
      rw [hko]
      by_cases hl : 97 ≤ (s[0]'(by omega)).toNat ∧ (s[0]'(by omega)).toNat ≤ 122
      · obtain ⟨b, hb⟩ : ∃ b, s.size = b + 1 := ⟨s.size - 1, by omega⟩
        have hd := decode_ascii s 0 (by omega) (by omega)
        have hk : keyFrom s s.size 0 = keyFrom s b 1 := by
          rw [hb]
          have : okKeyByte 0 (s[0]'(by omega)).toNat = true := (okKeyByte_iff _ _).2 (.inl hl)
          simp [keyFrom, hd, this, hb]
        rw [hk]
        have ih := refKey_loop s h2 b 1 (by omega) (by omega)
        refine Ev.congr (f := fun k => waveletref47_ValidKey.j0 k s false) (fun k => ?_) ?_
        · simp only [waveletref47_ValidKey.f]
          rw [if_neg (by omega), if_neg (by omega), if_pos (by omega), if_neg (by omega), decide_eq_false (by omega)]
        · refine Ev.step (f := fun k => waveletref47_ValidKey.l0 k s 0) (fun k => by simp only [waveletref47_ValidKey.j0]; rw [if_neg (by simp)]) ?_
          refine Ev.step (fun k => ?_) ih
          simp only [waveletref47_ValidKey.l0]
          rw [if_pos (by omega), if_pos (by omega), hbt, show wrap64 ((0 : Int) + 1) = ((1 : Nat) : Int) by rw [wrap_id (by omega) (by omega)]; rfl]
          repeat' split
          all_goals first | rfl | (exfalso; omega)
      · have hk : keyFrom s s.size 0 = false := by
          obtain ⟨b, hb⟩ : ∃ b, s.size = b + 1 := ⟨s.size - 1, by omega⟩
          have : okKeyByte 0 (Utf8.decode s 0).1 = false := by
            rw [Bool.eq_false_iff]
            intro h
            have h := (okKeyByte_iff _ _).1 h
            by_cases ha : (s[0]'(by omega)).toNat < 128
            · rw [decode_ascii s 0 (by omega) ha] at h
              simp at h
              exact hl h
            · have := (decode_high s 0 (by omega) (by omega)).1
              omega
          rw [hb]
          simp [keyFrom, this, hb]
        rw [hk]
        refine Ev.congr (f := fun k => waveletref47_ValidKey.j0 k s true) (fun k => ?_) (refKey_no s)
        simp only [waveletref47_ValidKey.f]
        rw [if_neg (by omega), if_neg (by omega), if_pos (by omega)]
        split
        · rfl
        · rw [decide_eq_true (by omega)]
    · have hko : keyOk s = false := by simp [keyOk, h2]
      rw [hko]
      refine Ev.congr (f := fun k => waveletref47_ValidKey.j0 k s true) (fun k => ?_) (refKey_no s)
      simp only [waveletref47_ValidKey.f]
      rw [if_neg (by omega), if_pos (by omega)]
  · have hko : keyOk s = false := by simp [keyOk, h1]
    rw [hko]
    refine Ev.congr (f := fun k => waveletref47_ValidKey.j0 k s true) (fun k => ?_) (refKey_no s)
    simp only [waveletref47_ValidKey.f]
    rw [if_pos (by omega)]
end Go.Proofs.Ytnckglnnojcdmaa.P
