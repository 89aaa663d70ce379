/- Plain lemmas on the printed functions of layer 47: values, and the two Checks answer alike. No program is in sight. -/
import Derived.Test.YtnckglnnojcdmaaPuB
set_option linter.unusedVariables false
set_option linter.unusedSimpArgs false
namespace Go.Proofs.Ytnckglnnojcdmaa.P
open Go.RowKit Go.Proofs.YtnckglnnojcdmaaW.PrintWords Go.Proofs.YtnckglnnojcdmaaW.PrintLast

theorem ext_data (s : ByteArray) (a b : Nat) : (s.extract a b).data.toList = (s.data.toList.drop a).take (b - a) := by
  rw [ByteArray.data_extract, Array.toList_extract, List.extract_eq_take_drop]
theorem ext_ext (s : ByteArray) (p w : Nat) : (s.extract p s.size).extract w (s.extract p s.size).size = s.extract (p + w) s.size := by
  apply ByteArray.ext
  apply Array.toList_inj.1
  rw [ext_data, ext_data, ext_data]
  have hs : s.data.toList.length = s.size := by simp
  have hz : (s.extract p s.size).size = s.size - p := by rw [ByteArray.size_extract]; omega
  rw [hz, List.take_of_length_le (l := s.data.toList.drop p) (by rw [List.length_drop]; omega), List.drop_drop, List.take_of_length_le (by rw [List.length_drop]; omega), List.take_of_length_le (by rw [List.length_drop]; omega)]
theorem gb_tail (s : ByteArray) (p j : Nat) : gb (s.extract p s.size) j = gb s (p + j) := by
  unfold gb
  rw [Lib.tail_get!]
theorem three (s : ByteArray) (p : Nat) (h : p + 3 ≤ s.size) : (s.extract p (p + 3)).toList = [s[p], s[p + 1], s[p + 2]] := by
  rw [tl, ext_data]
  have h0 : p < s.data.toList.length := by simp; omega
  have h1 : p + 1 < s.data.toList.length := by simp; omega
  have h2 : p + 2 < s.data.toList.length := by simp; omega
  rw [List.drop_eq_getElem_cons h0, List.drop_eq_getElem_cons h1, List.drop_eq_getElem_cons h2, show p + 3 - p = 3 by omega]
  simp only [List.take_succ_cons, List.take_zero]
  rfl
theorem u8_eq (a : UInt8) (n : Nat) (hn : n < 256) : (a = UInt8.ofNat n) ↔ a.toNat = n := by
  constructor
  · rintro rfl; simp [UInt8.toNat_ofNat]; omega
  · intro h
    apply UInt8.toNat_inj.1
    rw [h]; simp [UInt8.toNat_ofNat]; omega
theorem fd_iff (s : ByteArray) (p : Nat) (h : p + 3 ≤ s.size) : ((s.extract p (p + 3)).toList == [239, 191, 189]) = decide (gb s p = 239 ∧ gb s (p + 1) = 191 ∧ gb s (p + 2) = 189) := by
  rw [three s p h, gb_at s p (by omega), gb_at s (p + 1) (by omega), gb_at s (p + 2) (by omega)]
  have a := u8_eq (s[p]'(by omega)) 239 (by omega)
  have b := u8_eq (s[p + 1]'(by omega)) 191 (by omega)
  have c := u8_eq (s[p + 2]'(by omega)) 189 (by omega)
  have a' : (s[p]'(by omega) = 239) ↔ (s[p]'(by omega)).toNat = 239 := a
  have b' : (s[p + 1]'(by omega) = 191) ↔ (s[p + 1]'(by omega)).toNat = 191 := b
  have c' : (s[p + 2]'(by omega) = 189) ↔ (s[p + 2]'(by omega)).toNat = 189 := c
  rw [Bool.eq_iff_iff]
  simp [a', b', c']

theorem refValue_loop (s : ByteArray) (hs : s.size ≤ 4096) : ∀ (b pos : Nat), s.size ≤ pos + b → pos ≤ s.size → Ev (fun k => waveletref47_ValidValue.l0 k (s.extract pos s.size)) (valFrom s b pos)
  | 0, pos, hb, h1 => by
    rw [valFrom_end s 0 pos (by omega)]
    exact Ev.step (fun k => by simp only [waveletref47_ValidValue.l0]; rw [if_neg (by rw [ByteArray.size_extract]; omega)]) (Ev.now _)
  | b + 1, pos, hb, h1 => by
    by_cases hp : pos < s.size
    · have hz : (s.extract pos s.size).size = s.size - pos := by rw [ByteArray.size_extract]; omega
      have hS := refSize (s.extract pos s.size) (by omega)
      have hd : Utf8.decode s pos = Lib.decodeN (s.extract pos s.size).size (gb (s.extract pos s.size) 0) (gb (s.extract pos s.size) 1) (gb (s.extract pos s.size) 2) (gb (s.extract pos s.size) 3) := by
        have := Lib.tail_decode s pos 0
        rw [Lib.decode_at] at this
        exact this.symm
      have hw1 := width_pos s pos hp
      have hw2 : (Utf8.decode s pos).2 ≤ (s.extract pos s.size).size := by
        have := Lib.width_le (s.extract pos s.size) (by omega)
        rw [Lib.tail_decode] at this
        exact this
      unfold szN at hS
      rw [← hd] at hS
      simp only [gb_tail] at hS
      have hv : valFrom s (b + 1) pos = (valOk s pos (Utf8.decode s pos).1 && valFrom s b (pos + (Utf8.decode s pos).2)) := by simp [valFrom, hp]
      rw [hv]
      refine Ev.step (f := fun k => (waveletref47_size.f k (s.extract pos s.size)).bind fun bt153 => (if bt153.1 = 0 then (some false) else (if bt153.2 < 32 then (some false) else (if bt153.2 = 127 then (some false) else (if 0 ≤ bt153.1 then (if bt153.1 ≤ ((s.extract pos s.size).size : Int) then (waveletref47_ValidValue.l0 k ((s.extract pos s.size).extract (bt153.1 : Int).toNat (s.extract pos s.size).size)) else (none)) else (none)))))) (fun k => by simp only [waveletref47_ValidValue.l0]; rw [if_pos (by omega)]) ?_
      refine Ev.bind hS ?_
      have hfd : (decide (s.size < pos + 3) || !((s.extract pos (pos + 3)).toList == [239, 191, 189])) = decide (¬ (3 ≤ (s.extract pos s.size).size ∧ gb s (pos + 0) = 239 ∧ gb s (pos + 1) = 191 ∧ gb s (pos + 2) = 189)) := by
        by_cases h3 : pos + 3 ≤ s.size
        · rw [fd_iff s pos h3, Bool.eq_iff_iff]
          simp
          omega
        · rw [decide_eq_true (show s.size < pos + 3 by omega), Bool.true_or, eq_comm, decide_eq_true_iff]
          omega
      by_cases hbad : (Utf8.decode s pos).1 = 65533 ∧ ¬ (3 ≤ (s.extract pos s.size).size ∧ gb s (pos + 0) = 239 ∧ gb s (pos + 1) = 191 ∧ gb s (pos + 2) = 189)
      · rw [if_pos hbad]
        have hk : valOk s pos (Utf8.decode s pos).1 = false := by
          unfold valOk
          rw [hfd, hbad.1, decide_eq_true hbad.2]
          rfl
        rw [hk, Bool.false_and]
        exact Ev.congr (fun k => by simp) (Ev.now _)
      · rw [if_neg hbad]
        generalize hr : (Utf8.decode s pos).1 = r at *
        generalize hw : (Utf8.decode s pos).2 = wd at *
        by_cases h32 : r < 32
        · have hk : valOk s pos r = false := by simp [valOk, h32]
          rw [hk, Bool.false_and]
          refine Ev.congr (fun k => ?_) (Ev.now _)
          simp only []
          rw [if_neg (by omega), if_pos (by omega)]
        · by_cases h127 : r = 127
          · have hk : valOk s pos r = false := by simp [valOk, h127]
            rw [hk, Bool.false_and]
            refine Ev.congr (fun k => ?_) (Ev.now _)
            simp only []
            rw [if_neg (by omega), if_neg (by omega), if_pos (by omega)]
          · have hk : valOk s pos r = true := by
              unfold valOk
              rw [hfd, decide_eq_false h32]
              by_cases hf : r = 65533
              · have : ¬ ¬ (3 ≤ (s.extract pos s.size).size ∧ gb s (pos + 0) = 239 ∧ gb s (pos + 1) = 191 ∧ gb s (pos + 2) = 189) := fun h => hbad ⟨hf, h⟩
                rw [decide_eq_false this]
                simp [h127]
              · simp [h127, hf]
            rw [hk, Bool.true_and]
            have ih := refValue_loop s hs b (pos + wd) (by omega) (by omega)
            refine Ev.congr (fun k => ?_) ih
            simp only []
            rw [if_neg (by omega), if_neg (by omega), if_neg (by omega), if_pos (by omega), if_pos (by omega), Int.toNat_natCast, ext_ext]
    · obtain rfl : pos = s.size := by omega
      rw [valFrom_end s _ _ hp]
      exact Ev.step (fun k => by simp only [waveletref47_ValidValue.l0]; rw [if_neg (by rw [ByteArray.size_extract]; omega)]) (Ev.now _)

theorem refValue (s : ByteArray) : Ev (fun k => waveletref47_ValidValue.f k s) (valueOk s) := by
  by_cases h : s.size ≤ 4096
  · have e : valueOk s = valFrom s s.size 0 := by simp [valueOk, h]
    rw [e]
    have := refValue_loop s h s.size 0 (by omega) (by omega)
    have hx : s.extract 0 s.size = s := by
      apply ByteArray.ext
      simp [ByteArray.data_extract]
    rw [hx] at this
    exact Ev.congr (fun k => by simp only [waveletref47_ValidValue.f]; rw [if_neg (by omega)]) this
  · have e : valueOk s = false := by simp [valueOk, h]
    rw [e]
    exact Ev.congr (fun k => by simp only [waveletref47_ValidValue.f]; rw [if_pos (by omega)]) (Ev.now _)

/-! ### Check -/
theorem rchk_loop (l : List S42) (hl : l.length ≤ 64) : ∀ (d i : Nat), i + d = l.length → Ev (fun k => waveletref47_Check.l0 k l l (l.length : Int) (i : Int)) (checkL (prevK l i) (l.drop i))
  | 0, i, hi => by
    rw [List.drop_of_length_le (by omega)]
    exact Ev.step (fun k => by simp only [waveletref47_Check.l0]; rw [if_neg (by omega)]; rfl) (Ev.now _)
  | d + 1, i, hi => by
    have hlt : i < l.length := by omega
    have hr := rd_nat l i hlt
    rw [List.drop_eq_getElem_cons hlt]
    simp only [checkL]
    have ih := rchk_loop l hl d (i + 1) (by omega)
    have hpk : prevK l (i + 1) = some l[i].f0 := by simp [prevK, hlt]
    rw [hpk] at ih
    have key : Ev (fun k => waveletref47_Check.j1 k l (i : Int) l (l.length : Int) (i : Int) (!(keyOk l[i].f0 && valueOk l[i].f1)) l[i].f0 l[i].f1) (if (keyOk l[i].f0 && valueOk l[i].f1) = true then (match prevK l i with
        | none => checkL (some l[i].f0) (l.drop (i + 1))
        | some q => if (l[i].f0.toList == q.toList) = true then 19 else if lessS l[i].f0 q = true then 22 else checkL (some l[i].f0) (l.drop (i + 1))) else 22) := by
      by_cases hk : (keyOk l[i].f0 && valueOk l[i].f1) = true
      · rw [if_pos hk, hk, Bool.not_true]
        by_cases h0 : i = 0
        · subst h0
          have hp0 : prevK l 0 = none := by simp [prevK]
          rw [hp0]
          simp only []
          refine Ev.step (f := fun k => waveletref47_Check.j2 k l 0 l (l.length : Int) 0 false (l[0]'hlt).f0 (l[0]'hlt).f1) (fun k => by simp only [waveletref47_Check.j1]; rw [if_neg (by simp), if_neg (by simp)]; rfl) ?_
          exact Ev.step (fun k => by simp only [waveletref47_Check.j2]; rw [if_neg (by simp), if_neg (by simp), wrap_id (by omega) (by omega)]; rfl) ih
        · have hw : wrap64 ((i : Int) - 1) = ((i - 1 : Nat) : Int) := by rw [wrap_id (by omega) (by omega)]; omega
          have hlt' : i - 1 < l.length := by omega
          have hr' := rd_nat l (i - 1) hlt'
          have hp0 : prevK l i = some l[i - 1].f0 := by simp only [prevK]; rw [dif_pos ⟨by omega, hlt'⟩]
          rw [hp0]
          simp only []
          have hsym : (l[i - 1].f0.toList == l[i].f0.toList) = (l[i].f0.toList == l[i - 1].f0.toList) := Bool.beq_comm
          refine Ev.step (f := fun k => waveletref47_Check.j2 k l (i : Int) l (l.length : Int) (i : Int) (l[i].f0.toList == l[i - 1].f0.toList) l[i].f0 l[i].f1) (fun k => by simp only [waveletref47_Check.j1]; rw [if_neg (by simp), if_pos (by omega), hw, if_pos (by omega), if_pos (by omega), hr', hsym]) ?_
          by_cases hE : (l[i].f0.toList == l[i - 1].f0.toList) = true
          · rw [if_pos hE, hE]
            exact Ev.step (fun k => by simp only [waveletref47_Check.j2]; rw [if_pos trivial]) (Ev.now _)
          · rw [if_neg hE, Bool.eq_false_iff.2 hE]
            by_cases hL : lessS l[i].f0 l[i - 1].f0 = true
            · rw [if_pos hL]
              exact Ev.step (fun k => by simp only [waveletref47_Check.j2]; rw [if_neg (by simp), if_pos (by omega), hw, if_pos (by omega), if_pos (by omega), hr']; exact if_pos hL) (Ev.now _)
            · rw [if_neg hL]
              exact Ev.step (fun k => by simp only [waveletref47_Check.j2]; rw [if_neg (by simp), if_pos (by omega), hw, if_pos (by omega), if_pos (by omega), hr', if_neg (by exact hL), wrap_id (by omega) (by omega)]; rfl) ih
      · rw [if_neg hk, Bool.eq_false_iff.2 hk, Bool.not_false]
        exact Ev.step (fun k => by simp only [waveletref47_Check.j1]; rw [if_pos trivial]) (Ev.now _)
    refine Ev.step (f := fun k => (waveletref47_ValidKey.f k l[i].f0).bind fun t157 => (if t157 = true then ((waveletref47_ValidValue.f k l[i].f1).bind fun t158 => (waveletref47_Check.j1 k l i l (l.length : Int) i (!t158) l[i].f0 l[i].f1)) else (waveletref47_Check.j1 k l i l (l.length : Int) i true l[i].f0 l[i].f1))) (fun k => by
        simp only [waveletref47_Check.l0]; rw [if_pos (by omega), if_pos (by omega), if_pos (by omega), hr]) ?_
    refine Ev.bind (refKey l[i].f0) ?_
    by_cases h1 : keyOk l[i].f0 = true
    · rw [h1, Bool.true_and] at key
      rw [h1, Bool.true_and]
      simp only [if_true]
      exact Ev.bind (refValue l[i].f1) key
    · rw [Bool.eq_false_iff.2 h1, Bool.false_and] at key
      rw [Bool.eq_false_iff.2 h1, Bool.false_and]
      exact Ev.congr (fun k => by rw [if_neg (by simp)]; rfl) key

theorem rchk (l : List S42) : Ev (fun k => waveletref47_Check.f k l) (checkP l) := by
  unfold checkP
  by_cases h : l.length > 64
  · rw [if_pos h]
    exact Ev.congr (fun k => by simp only [waveletref47_Check.f]; rw [if_pos (by omega)]) (Ev.now _)
  · rw [if_neg h]
    have := rchk_loop l (by omega) l.length 0 (by omega)
    exact Ev.congr (fun k => by simp only [waveletref47_Check.f]; rw [if_neg (by omega)]; rfl) this
end Go.Proofs.Ytnckglnnojcdmaa.P
