/- choose: the highest power of 256 that divides a number of the interval. -/
import Derived.Test.YtfbdenlpoidnjaaEpu
import Derived.Test.YtfbdenlpoidnjaaMod
set_option linter.unusedVariables false
set_option linter.unusedSimpArgs false
namespace Go.Proofs.Ytfbdenlpoidnjaa.P
open Go.RowKit Go.Proofs.YtfbdenlpoidnjaaW.PrintWords Go.Proofs.YtfbdenlpoidnjaaW.PrintLast Go.Proofs.YtfbdenlpoidnjaaW.PrintMore

/-- The next multiple from a number on. -/
def ceilP (low m : Int) : Int := (low + m - 1) / m * m
def chooseP (low size : Int) : Int × Bool :=
  if low = 0 then (0, false) else if 4294967296 < low + size then (0, true)
  else if ceilP low 16777216 < low + size then (ceilP low 16777216, false)
  else if ceilP low 65536 < low + size then (ceilP low 65536, false)
  else if ceilP low 256 < low + size then (ceilP low 256, false) else (low, false)
set_option maxHeartbeats 4000000 in
theorem choose.calls (w : World) (low size : Int) (l0 : 0 ≤ low) (l1 : low ≤ 4294967295) (s0 : 0 < size) (s1 : size ≤ 4294967295) : Calls Try.prog 43 #[.int .i64 low, .int .i64 size] w fun e w' => e = .returned (.tuple #[.int .i64 (chooseP low size).1, .bool (chooseP low size).2]) ∧ w' = w := by
  by_cases h0 : low = 0
  · have e : Hid (chooseP low size = (0, false)) := Lib.hid (by unfold chooseP; rw [if_pos h0])
    subst h0
    go_enter Try.func43, Try.ntmps43
    go_wp2
    go_ret2
    exact ⟨by rw [e.out]; rfl, rfl⟩
  · have n0 : (low == 0) = false := by simpa using h0
    by_cases h1 : 4294967296 < low + size
    · have e : Hid (chooseP low size = (0, true)) := Lib.hid (by unfold chooseP; rw [if_neg h0, if_pos h1])
      clear h0
      go_enter Try.func43, Try.ntmps43
      go_wp2
      go_ret2
      exact ⟨by rw [e.out]; rfl, rfl⟩
    · have h0' := Lib.hid h0
      have h1' := Lib.hid h1
      clear h0
      go_enter Try.func43, Try.ntmps43
      go_wp2
      go_loopg [6] 4 (fun kq v6 w' => ∃ sh : Int, v6 = .int .u64 sh ∧ w' = w ∧ Aside0 ((sh = 24 ∧ kq = 4) ∨ (sh = 16 ∧ kq = 3 ∧ ¬ ceilP low 16777216 < low + size) ∨ (sh = 8 ∧ kq = 2 ∧ ¬ ceilP low 16777216 < low + size ∧ ¬ ceilP low 65536 < low + size) ∨ (sh = 0 ∧ kq = 1 ∧ ¬ ceilP low 16777216 < low + size ∧ ¬ ceilP low 65536 < low + size ∧ ¬ ceilP low 256 < low + size)))
      case atStart => exact ⟨24, rfl, rfl, ⟨.inl ⟨rfl, rfl⟩⟩⟩
      case round =>
        obtain ⟨sh, rfl, rfl, HS⟩ := hrel
        rcases HS.out with ⟨rfl, hk⟩ | ⟨rfl, hk, q1⟩ | ⟨rfl, hk, q1, q2⟩ | ⟨rfl, hk, q1, q2, q3⟩
        · clear HS
          by_cases hc : (low + 16777216 - 1) / 16777216 * 16777216 < low + size
          · have e : Hid (chooseP low size = ((low + 16777216 - 1) / 16777216 * 16777216, false)) := Lib.hid (by unfold chooseP; rw [if_neg h0'.out, if_neg (Int.not_lt.2 h1'.out), if_pos (show ceilP low 16777216 < low + size from hc)]; rfl)
            go_wp2
            go_ret2
            exact ⟨by rw [e.out]; rfl, rfl⟩
          · have HC : Aside0 (¬ ceilP low 16777216 < low + size) := ⟨hc⟩
            go_wp2
            go_roundg (gk - 1)
            case measure => omega
            case rel => exact ⟨16, by first | rfl | simp, rfl, ⟨.inr (.inl ⟨rfl, by omega, HC.out⟩)⟩⟩
        · clear HS
          have Q1 := Aside0.mk q1
          clear q1
          by_cases hc : (low + 65536 - 1) / 65536 * 65536 < low + size
          · have e : Hid (chooseP low size = ((low + 65536 - 1) / 65536 * 65536, false)) := Lib.hid (by unfold chooseP; rw [if_neg h0'.out, if_neg (Int.not_lt.2 h1'.out), if_neg Q1.out, if_pos (show ceilP low 65536 < low + size from hc)]; rfl)
            go_wp2
            go_ret2
            exact ⟨by rw [e.out]; rfl, rfl⟩
          · have HC : Aside0 (¬ ceilP low 65536 < low + size) := ⟨hc⟩
            go_wp2
            go_roundg (gk - 1)
            case measure => omega
            case rel => exact ⟨8, by first | rfl | simp, rfl, ⟨.inr (.inr (.inl ⟨rfl, by omega, Q1.out, HC.out⟩))⟩⟩
        · clear HS
          have Q1 := Aside0.mk q1
          have Q2 := Aside0.mk q2
          clear q1 q2
          by_cases hc : (low + 256 - 1) / 256 * 256 < low + size
          · have e : Hid (chooseP low size = ((low + 256 - 1) / 256 * 256, false)) := Lib.hid (by unfold chooseP; rw [if_neg h0'.out, if_neg (Int.not_lt.2 h1'.out), if_neg Q1.out, if_neg Q2.out, if_pos (show ceilP low 256 < low + size from hc)]; rfl)
            go_wp2
            go_ret2
            exact ⟨by rw [e.out]; rfl, rfl⟩
          · have HC : Aside0 (¬ ceilP low 256 < low + size) := ⟨hc⟩
            go_wp2
            go_roundg (gk - 1)
            case measure => omega
            case rel => exact ⟨0, by first | rfl | simp, rfl, ⟨.inr (.inr (.inr ⟨rfl, by omega, Q1.out, Q2.out, HC.out⟩))⟩⟩
        · clear HS
          have e : Hid (chooseP low size = (low, false)) := Lib.hid (by unfold chooseP; rw [if_neg h0'.out, if_neg (Int.not_lt.2 h1'.out), if_neg q1, if_neg q2, if_neg q3])
          clear q1 q2 q3
          go_wp2
          go_ret2
          exact ⟨by rw [e.out]; rfl, rfl⟩
end Go.Proofs.Ytfbdenlpoidnjaa.P
