/- The law ArithNone, walked. -/
import Derived.Test.YtfbdenlpoidnjaaAwk
set_option linter.unusedVariables false
set_option linter.unusedSimpArgs false
namespace Go.Proofs.Ytfbdenlpoidnjaa.P
open Go.RowKit Go.Proofs.YtfbdenlpoidnjaaW.PrintWords Go.Proofs.YtfbdenlpoidnjaaW.PrintLast Go.Proofs.YtfbdenlpoidnjaaW.PrintMore

def waveletlaw11_ArithNone.f (a0 a1 : Int) (l2 : List Int) : Option Bool := some true
set_option maxHeartbeats 8000000 in
set_option maxRecDepth 100000 in
theorem waveletlaw11_ArithNone.calls (a0 a1 : Int) (A2 : Option Addr) (c2 : Nat) (l2 : List Int) (r : Bool) (w : World) (hr2 : Kd.C (Kd.int .u8) w A2 l2.length l2) (hc2 : l2.length ≤ c2) (h : waveletlaw11_ArithNone.f a0 a1 l2 = some r) : Calls Try.prog 10 #[.int .i64 a0, .int .i64 a1, .slice A2 l2.length c2] w fun e w' => e = .returned (.bool r) ∧ Below w.heap.size w w' := by
  obtain rfl : true = r := Option.some.inj h
  clear h hr2 hc2
  generalize l2.length = L
  go_enter Try.func10, Try.ntmps10
  go_wp2
  go_loopg [7, 8, 11] 3 (fun kq v7 v8 v11 w' => ∃ i : Nat, v11 = .int .i64 i ∧ Aside0 (i ≤ 2 ∧ kq + i = 3) ∧ Aside0 (BadE v7 w') ∧ Aside0 (BadD v8 w') ∧ Aside0 (Below w.heap.size w w'))
  case atStart => exact ⟨0, by first | rfl | simp, ⟨by omega, by omega⟩, ⟨valid.nil _⟩, ⟨Dvalid.nil _⟩, ⟨Below.refl _ _⟩⟩
  case round =>
    obtain ⟨i, rfl, HI, HE, HD, HB⟩ := hrel
    rename_i v7 v8 _
    by_cases hi : i < 2
    · have gi : (i : Int) < 2 := by omega
      go_wp2_with (first
        | (go_at_call 24; (with_reducible refine (Reset.bad _ _ HE.out).mono ?_); rintro e w1 ⟨rfl, hw⟩; replace hw := hw.symm; subst hw)
        | (go_at_call 35; (with_reducible refine (DReset.bad _ _ HD.out).mono ?_); rintro e w1 ⟨rfl, hw⟩; replace hw := hw.symm; subst hw)
        | (go_at_call 26; (with_reducible refine (Encode.bad _ _ _ _ HE.out).mono ?_); rintro e w1 ⟨rfl, hw⟩; replace hw := hw.symm; subst hw)
        | (go_at_call 28; (with_reducible refine (Size.bad _ _ HE.out).mono ?_); rintro e w1 ⟨rfl, hw⟩; replace hw := hw.symm; subst hw)
        | (go_at_call 22; (with_reducible refine (Terminate.bad _ _ HE.out).mono ?_); rintro e w1 ⟨rfl, hw⟩; replace hw := hw.symm; subst hw)
        | (go_at_call 30; (with_reducible refine (Probability.bad _ _ _ HE.out).mono ?_); rintro e w1 ⟨rfl, hw⟩; replace hw := hw.symm; subst hw)
        | (go_at_call 33; (with_reducible refine (Start.bad _ _ _ HD.out).mono ?_); rintro e w1 ⟨rfl, hw⟩; replace hw := hw.symm; subst hw)
        | (go_at_call 37; (with_reducible refine (Decode.bad _ _ _ HD.out).mono ?_); rintro e w1 ⟨rfl, hw⟩; replace hw := hw.symm; subst hw))
      go_roundg (gk - 1)
      case measure => have := HI.out; omega
      case rel =>
        refine ⟨i + 1, by first | rfl | simp, ⟨by omega, by have := HI.out; omega⟩, ⟨?_⟩, ⟨?_⟩, ⟨below_alloc (below_alloc HB.out _) _⟩⟩
        · exact valid.zero _ _ 0 none ((blk_cell (blk_alloc (heap_alloc_new wr _) _) 0).trans rfl)
        · have h2 := heap_alloc_new (wr.alloc (.cells #[.slice none 0 0, .slice none 0 0, .int .i64 0, .int .i64 0, .bool false] 64)) (.cells #[.slice none 0 0, .slice none 0 0, .int .i64 0, .int .i64 0, .int .i64 0, .bool false] 66)
          rw [show (wr.alloc (.cells #[.slice none 0 0, .slice none 0 0, .int .i64 0, .int .i64 0, .bool false] 64)).heap.size = wr.heap.size + 1 by simp] at h2
          exact Dvalid.zero _ _ 0 none ((blk_cell h2 0).trans rfl)
    · have gi : ¬ (i : Int) < 2 := by omega
      go_wp2_with (go_at_call 13; (with_reducible refine (awake.calls _).mono ?_); rintro e w2 ⟨rfl, hb⟩; have HB2 := Aside0.mk hb; clear hb)
      go_ret
      exact ⟨rfl, below_then HB.out HB.out.size HB2.out⟩
end Go.Proofs.Ytfbdenlpoidnjaa.P
