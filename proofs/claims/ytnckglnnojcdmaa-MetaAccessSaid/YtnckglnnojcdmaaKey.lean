/- What meta.validKey and meta.validValue answer: for every string the two functions return a plain test of its bytes. -/
import Derived.Test.YtnckglnnojcdmaaPx0
import Derived.Laws.RangeString
import Derived.Laws.RangeAny
import Derived.Laws.Runes
import Derived.LoopTactic
import Derived.WalkSpells
import Derived.Outline
import Derived.Lib.Hide
set_option linter.unusedVariables false
set_option linter.unusedSimpArgs false
namespace Go.Proofs.Ytnckglnnojcdmaa.P
open Go.RowKit Go.Proofs.YtnckglnnojcdmaaW.PrintWords Go.Proofs.YtnckglnnojcdmaaW.PrintLast Go.Proofs.YtnckglnnojcdmaaW.PrintMore

/-- The byte c may stand at place i of a key. -/
def okKeyByte (i c : Nat) : Bool := (decide (97 ≤ c) && decide (c ≤ 122)) || (!(i == 0) && (decide (48 ≤ c) && decide (c ≤ 57) || c == 45 || c == 46))
/-- From place pos on, a key's bytes (b: at most so many). -/
def keyFrom (s : ByteArray) : Nat → Nat → Bool
  | 0, _ => true
  | b + 1, pos => if pos < s.size then okKeyByte pos (Utf8.decode s pos).1 && keyFrom s b (pos + (Utf8.decode s pos).2) else true
def keyOk (s : ByteArray) : Bool := decide (1 ≤ s.size) && decide (s.size ≤ 64) && keyFrom s s.size 0
def meta_validKey.f (a0 : ByteArray) : Option Bool := some (keyOk a0)

theorem width_pos (s : ByteArray) (pos : Nat) (h : pos < s.size) : 1 ≤ (Utf8.decode s pos).2 := by
  by_cases ha : (s[pos]'h).toNat < 128
  · rw [decode_ascii s pos h ha]
    exact Nat.le_refl _
  · exact (decode_high s pos h (by omega)).2

theorem keyFrom_end (s : ByteArray) (b pos : Nat) (h : ¬ pos < s.size) : keyFrom s b pos = true := by
  cases b with
  | zero => rfl
  | succ b => simp [keyFrom, h]

theorem iter_below (w : World) (s : ByteArray) (pos : Nat) : Below w.heap.size w (w.iter s pos) := by
  exact (Below.refl _ _).alloc (Nat.le_refl _) _

theorem okKeyByte_iff (i c : Nat) : okKeyByte i c = true ↔ (97 ≤ c ∧ c ≤ 122) ∨ (i ≠ 0 ∧ ((48 ≤ c ∧ c ≤ 57) ∨ c = 45 ∨ c = 46)) := by
  simp [okKeyByte, or_assoc]

set_option maxRecDepth 1000000 in
set_option maxHeartbeats 1000000 in
theorem key_walk (s : ByteArray) (w : World) (hs : s.size ≤ 64) (hs1 : 1 ≤ s.size) :
    Calls Try.prog 30 #[.string s] w fun e w' => e = .returned (.bool (keyFrom s s.size 0)) ∧ Below w.heap.size w w' := by
  go_enter Try.func30, Try.ntmps30
  go_wp2
  go_loopw [] (fun w' => ∃ (pos b : Nat), w' = w.iter s pos ∧ keyFrom s b pos = keyFrom s s.size 0 ∧ s.size ≤ pos + b) (fun w' => s.size - w'.iterPos w.heap.size)
  case atStart => exact ⟨0, s.size, rfl, rfl, by omega⟩
  case round =>
    obtain ⟨pos, b, rfl, hc, hb⟩ := hrel
    by_cases hp : pos < s.size
    · have hnx : ∀ ty, (Instr.next (.pointer (some ⟨w.heap.size, 0, none⟩)) true ty).run Try.prog (w.iter s pos) = _ := fun ty => run_next_any w s pos ty hp
      have hwd := width_pos s pos hp
      obtain ⟨b, rfl⟩ : ∃ m, b = m + 1 := ⟨b - 1, by omega⟩
      simp only [keyFrom, hp, if_true] at hc
      have HC := Lib.hid hc
      clear hc
      generalize (Utf8.decode s pos).1 = r at *
      generalize (Utf8.decode s pos).2 = wd at *
      by_cases h0 : pos = 0
      · subst h0
        have HC0 : (okKeyByte 0 r && keyFrom s b wd) = keyFrom s s.size 0 := by rw [← HC.out, Nat.zero_add]
        clear HC
        have HC := Lib.hid HC0
        clear HC0
        by_cases hk : okKeyByte 0 r = true
        · have hk' := (okKeyByte_iff 0 r).1 hk
          have h1 : 97 ≤ (r : Int) := by omega
          have h2 : (r : Int) ≤ 122 := by omega
          clear hk'
          have HK := Lib.hid hk
          clear hk
          go_wp2
          all_goals
            go_roundw
            case rel => exact ⟨_, b, rfl, by rw [← HC.out, HK.out, Bool.true_and], by omega⟩
            case measure => simp; omega
        · have HK := Lib.hid (Bool.eq_false_iff.2 hk)
          have hk' : ¬ ((97 ≤ r ∧ r ≤ 122) ∨ (0 ≠ 0 ∧ ((48 ≤ r ∧ r ≤ 57) ∨ r = 45 ∨ r = 46))) := fun h => hk ((okKeyByte_iff 0 r).2 h)
          clear hk
          rcases (show ((r : Int) < 97 ∧ decide ((r : Int) ≤ 122) = true) ∨ (122 < (r : Int) ∧ decide ((r : Int) ≤ 122) = false) by simp; omega) with ⟨h1, h2⟩ | ⟨h1, h2⟩
          all_goals
            clear hk'
            go_wp2
          all_goals
            go_ret
            exact ⟨by rw [← HC.out, HK.out, Bool.false_and]; rfl, iter_below _ _ _⟩
      · have hz : ((pos : Int) == 0) = false := by simp; omega
        have hz2 : 1 ≤ (pos : Int) := by omega
        by_cases hk : okKeyByte pos r = true
        · have HK := Lib.hid hk
          have hk' := (okKeyByte_iff pos r).1 hk
          clear hk
          rcases (show (97 ≤ (r : Int) ∧ (r : Int) ≤ 122) ∨ (48 ≤ (r : Int) ∧ (r : Int) ≤ 57) ∨ r = 45 ∨ r = 46 by omega) with ⟨h1, h2⟩ | ⟨h1, h2⟩ | rfl | rfl
          all_goals
            clear hk'
            go_wp2
          all_goals
            go_roundw
            case rel => exact ⟨_, b, rfl, by rw [← HC.out, HK.out, Bool.true_and], by omega⟩
            case measure => simp; omega
        · have HK := Lib.hid (Bool.eq_false_iff.2 hk)
          have hk' : ¬ ((97 ≤ r ∧ r ≤ 122) ∨ (pos ≠ 0 ∧ ((48 ≤ r ∧ r ≤ 57) ∨ r = 45 ∨ r = 46))) := fun h => hk ((okKeyByte_iff pos r).2 h)
          clear hk
          have h45 : ((r : Int) == 45) = false := by simp; omega
          have h46 : ((r : Int) == 46) = false := by simp; omega
          have h57 : ((decide (48 ≤ (r : Int))) && (decide ((r : Int) ≤ 57))) = false := by simp; omega
          rcases (show ((r : Int) < 48 ∧ decide ((r : Int) ≤ 57) = true) ∨ (57 < (r : Int) ∧ (r : Int) < 97 ∧ decide ((r : Int) ≤ 57) = false) ∨ (122 < (r : Int) ∧ decide ((r : Int) ≤ 122) = false ∧ decide ((r : Int) ≤ 57) = false) by simp; omega) with ⟨h1, h2⟩ | ⟨h1, h2, h3⟩ | ⟨h1, h2, h3⟩
          all_goals
            clear hk'
            go_wp2
          all_goals
            go_ret
            exact ⟨by rw [← HC.out, HK.out, Bool.false_and]; rfl, iter_below _ _ _⟩
    · have hnx : ∀ ty, (Instr.next (.pointer (some ⟨w.heap.size, 0, none⟩)) true ty).run Try.prog (w.iter s pos) = _ := fun ty => run_next_end w s pos ty hp
      have HC := Lib.hid ((keyFrom_end s b pos hp).symm.trans hc)
      clear hc
      go_wp2
      go_ret
      exact ⟨by rw [← HC.out]; rfl, iter_below _ _ _⟩
set_option maxHeartbeats 1000000 in
theorem meta_validKey.calls (a0 : ByteArray) (r : Bool) (w : World) (h : meta_validKey.f a0 = some r) :
    Calls Try.prog 30 #[.string a0] w fun e w' => e = .returned (.bool r) ∧ Below w.heap.size w w' := by
  simp only [meta_validKey.f, Option.some.injEq] at h
  by_cases h1 : 1 ≤ a0.size
  · by_cases h2 : a0.size ≤ 64
    · have hr : keyFrom a0 a0.size 0 = r := by rw [← h]; simp [keyOk, h1, h2]
      rw [← hr]
      exact key_walk a0 w h2 h1
    · have hr : r = false := by rw [← h]; simp [keyOk, h2]
      subst hr
      clear h
      have h3 : 64 < (a0.size : Int) := by omega
      have h4 : (decide ((a0.size : Int) < 1)) = false := by simp; omega
      clear h1 h2
      go_enter Try.func30, Try.ntmps30
      go_wp2
      go_ret
      exact ⟨rfl, Below.refl _ _⟩
  · have hr : r = false := by rw [← h]; simp [keyOk, h1]
    subst hr
    clear h
    have h3 : (a0.size : Int) < 1 := by omega
    clear h1
    go_enter Try.func30, Try.ntmps30
    go_wp2
    all_goals
      go_ret
      exact ⟨rfl, Below.refl _ _⟩

/-! ### values -/
/-- The code point r that begins at place pos of a value may stand there. -/
def valOk (s : ByteArray) (pos r : Nat) : Bool := !(decide (r < 32) || r == 127 || (r == 65533 && (decide (s.size < pos + 3) || !((s.extract pos (pos + 3)).toList == [239, 191, 189]))))
def valFrom (s : ByteArray) : Nat → Nat → Bool
  | 0, _ => true
  | b + 1, pos => if pos < s.size then valOk s pos (Utf8.decode s pos).1 && valFrom s b (pos + (Utf8.decode s pos).2) else true
def valueOk (s : ByteArray) : Bool := decide (s.size ≤ 4096) && valFrom s s.size 0
def meta_validValue.f (a0 : ByteArray) : Option Bool := some (valueOk a0)

theorem valFrom_end (s : ByteArray) (b pos : Nat) (h : ¬ pos < s.size) : valFrom s b pos = true := by
  cases b with
  | zero => rfl
  | succ b => simp [valFrom, h]

set_option maxRecDepth 1000000 in
set_option maxHeartbeats 1000000 in
theorem value_walk (s : ByteArray) (w : World) (hs : s.size ≤ 4096) :
    Calls Try.prog 31 #[.string s] w fun e w' => e = .returned (.bool (valFrom s s.size 0)) ∧ Below w.heap.size w w' := by
  go_enter Try.func31, Try.ntmps31
  go_wp2
  go_loopw [] (fun w' => ∃ (pos b : Nat), w' = w.iter s pos ∧ valFrom s b pos = valFrom s s.size 0 ∧ s.size ≤ pos + b) (fun w' => s.size - w'.iterPos w.heap.size)
  case atStart => exact ⟨0, s.size, rfl, rfl, by omega⟩
  case round =>
    obtain ⟨pos, b, rfl, hc, hb⟩ := hrel
    by_cases hp : pos < s.size
    · have hnx : ∀ ty, (Instr.next (.pointer (some ⟨w.heap.size, 0, none⟩)) true ty).run Try.prog (w.iter s pos) = _ := fun ty => run_next_any w s pos ty hp
      have hwd := width_pos s pos hp
      obtain ⟨b, rfl⟩ : ∃ m, b = m + 1 := ⟨b - 1, by omega⟩
      simp only [valFrom, hp, if_true] at hc
      have HC := Lib.hid hc
      clear hc
      generalize (Utf8.decode s pos).1 = r at *
      generalize (Utf8.decode s pos).2 = wd at *
      by_cases h32 : r < 32
      · have HK : Hid (valOk s pos r = false) := Lib.hid (by simp [valOk, h32])
        have h1 : (r : Int) < 32 := by omega
        clear h32
        go_wp2
        all_goals
          go_ret
          exact ⟨by rw [← HC.out, HK.out, Bool.false_and]; rfl, iter_below _ _ _⟩
      have h1 : ¬ (r : Int) < 32 := by omega
      by_cases h127 : r = 127
      · subst h127
        have HK : Hid (valOk s pos 127 = false) := Lib.hid (by simp [valOk])
        clear h32
        go_wp2
        all_goals
          go_ret
          exact ⟨by rw [← HC.out, HK.out, Bool.false_and]; rfl, iter_below _ _ _⟩
      have h2 : ((r : Int) == 127) = false := by simp; omega
      by_cases hfd : r = 65533
      · subst hfd
        by_cases hsz : s.size < pos + 3
        · have HK : Hid (valOk s pos 65533 = false) := Lib.hid (by simp [valOk, hsz])
          have h3 : (s.size : Int) < (pos : Int) + 3 := by omega
          clear h32 hsz h127
          go_wp2
          all_goals
            go_ret
            exact ⟨by rw [← HC.out, HK.out, Bool.false_and]; rfl, iter_below _ _ _⟩
        · have h3 : ¬ (s.size : Int) < (pos : Int) + 3 := by omega
          have h4 : pos + 3 ≤ s.size := by omega
          cases hx : ((s.extract pos (pos + 3)).toList == [239, 191, 189]) with
          | true =>
            have HK : Hid (valOk s pos 65533 = true) := Lib.hid (by simp only [valOk, hx]; simp; omega)
            clear h32 hsz h127
            go_wp2
            go_roundw
            case rel => exact ⟨_, b, rfl, by rw [← HC.out, HK.out, Bool.true_and], by omega⟩
            case measure => simp; omega
          | false =>
            have HK : Hid (valOk s pos 65533 = false) := Lib.hid (by simp only [valOk, hx]; simp)
            clear h32 hsz h127
            go_wp2
            go_ret
            exact ⟨by rw [← HC.out, HK.out, Bool.false_and]; rfl, iter_below _ _ _⟩
      · have HK : Hid (valOk s pos r = true) := Lib.hid (by simp [valOk, h32, h127, hfd])
        have h3 : ((r : Int) == 65533) = false := by simp; omega
        clear h32 h127 hfd
        go_wp2
        all_goals
          go_roundw
          case rel => exact ⟨_, b, rfl, by rw [← HC.out, HK.out, Bool.true_and], by omega⟩
          case measure => simp; omega
    · have hnx : ∀ ty, (Instr.next (.pointer (some ⟨w.heap.size, 0, none⟩)) true ty).run Try.prog (w.iter s pos) = _ := fun ty => run_next_end w s pos ty hp
      have HC := Lib.hid ((valFrom_end s b pos hp).symm.trans hc)
      clear hc
      go_wp2
      go_ret
      exact ⟨by rw [← HC.out]; rfl, iter_below _ _ _⟩

set_option maxHeartbeats 1000000 in
theorem meta_validValue.calls (a0 : ByteArray) (r : Bool) (w : World) (h : meta_validValue.f a0 = some r) :
    Calls Try.prog 31 #[.string a0] w fun e w' => e = .returned (.bool r) ∧ Below w.heap.size w w' := by
  simp only [meta_validValue.f, Option.some.injEq] at h
  by_cases h1 : a0.size ≤ 4096
  · have hr : valFrom a0 a0.size 0 = r := by rw [← h]; simp [valueOk, h1]
    rw [← hr]
    exact value_walk a0 w h1
  · have hr : r = false := by rw [← h]; simp [valueOk, h1]
    subst hr
    clear h
    have h3 : 4096 < (a0.size : Int) := by omega
    clear h1
    go_enter Try.func31, Try.ntmps31
    go_wp2
    go_ret
    exact ⟨rfl, Below.refl _ _⟩
end Go.Proofs.Ytnckglnnojcdmaa.P
