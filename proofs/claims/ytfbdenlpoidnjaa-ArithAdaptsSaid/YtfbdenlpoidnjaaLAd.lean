/- The law ArithAdapts, walked. -/
import Derived.Test.YtfbdenlpoidnjaaAwk
set_option linter.unusedVariables false
set_option linter.unusedSimpArgs false
namespace Go.Proofs.Ytfbdenlpoidnjaa.P
open Go.RowKit Go.Proofs.YtfbdenlpoidnjaaW.PrintWords Go.Proofs.YtfbdenlpoidnjaaW.PrintLast Go.Proofs.YtfbdenlpoidnjaaW.PrintMore

theorem adapts_eq (p b : Int) : ∃ r, arith_Adapt.f 1 p b = some r ∧ waveletref11_Adapt.f 1 p b = some r := by
  have e : waveletref11_Adapt.f 1 p b = arith_Adapt.f 1 p b := rfl
  rw [e]
  have h : ∃ r, arith_Adapt.f 1 p b = some r := by
    unfold arith_Adapt.f
    simp only [arith_Adapt.j0]
    repeat' split
    all_goals exact ⟨_, rfl⟩
  obtain ⟨r, hr⟩ := h
  exact ⟨r, hr, hr⟩
def waveletlaw11_ArithAdapts.f (a0 a1 : Int) : Option Bool := some true
set_option maxHeartbeats 4000000 in
theorem waveletlaw11_ArithAdapts.calls (a0 a1 : Int) (r : Bool) (w : World) (h : waveletlaw11_ArithAdapts.f a0 a1 = some r) : Calls Try.prog 3 #[.int .i64 a0, .int .i64 a1] w fun e w' => e = .returned (.bool r) ∧ Below w.heap.size w w' := by
  obtain rfl : true = r := Option.some.inj h
  clear h
  obtain ⟨x, h1, h2⟩ := adapts_eq a0 a1
  have H1 := Aside0.mk h1
  have H2 := Aside0.mk h2
  clear h1 h2
  go_enter Try.func3, Try.ntmps3
  go_wp2_with (first
    | (go_at_call 11; (with_reducible refine (arith_Adapt.calls 1 _ _ _ _ H1.out).mono ?_); rintro e w1 ⟨rfl, ⟨n1, rfl⟩⟩)
    | (go_at_call 12; (with_reducible refine (waveletref11_Adapt.calls 1 _ _ _ _ H2.out).mono ?_); rintro e w1 ⟨rfl, ⟨n2, rfl⟩⟩)
    | (go_at_call 13; (with_reducible refine (awake.calls _).mono ?_); rintro e w2 ⟨rfl, hb⟩; have HB := Aside0.mk hb; clear hb))
  go_ret
  exact ⟨rfl, below_then (pw_below_drewN (Below.refl w.heap.size w) (n1 + n2)) (Nat.le_refl _) HB.out⟩
end Go.Proofs.Ytfbdenlpoidnjaa.P
