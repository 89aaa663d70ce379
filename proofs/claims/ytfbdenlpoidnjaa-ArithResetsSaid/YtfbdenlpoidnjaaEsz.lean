/- Size, Probability and Reset of an encoder, and what an encoder answers that is nil or that no function returned. -/
import Derived.Test.YtfbdenlpoidnjaaEsm
set_option linter.unusedVariables false
set_option linter.unusedSimpArgs false
namespace Go.Proofs.Ytfbdenlpoidnjaa.P
open Go.RowKit Go.Proofs.YtfbdenlpoidnjaaW.PrintWords Go.Proofs.YtfbdenlpoidnjaaW.PrintLast Go.Proofs.YtfbdenlpoidnjaaW.PrintMore

/-- A pointer to no encoder. -/
abbrev BadE (v : Value) (w : World) : Prop := Calls Try.prog 42 #[v] w fun e w' => e = .returned (.bool false) ∧ w' = w
theorem Size.bad (v : Value) (w : World) (h : BadE v w) : Calls Try.prog 28 #[v] w fun e w' => e = .returned (.int .i64 0) ∧ w' = w := by
  have H := Aside0.mk h
  clear h
  go_enter Try.func28, Try.ntmps28
  go_wp2_with (go_at_call 42; (with_reducible refine H.out.mono ?_); rintro e w1 ⟨rfl, rfl⟩)
  go_ret
  exact ⟨rfl, rfl⟩
theorem Probability.bad (v : Value) (i : Int) (w : World) (h : BadE v w) : Calls Try.prog 30 #[v, .int .i64 i] w fun e w' => e = .returned (.int .i64 0) ∧ w' = w := by
  have H := Aside0.mk h
  clear h
  go_enter Try.func30, Try.ntmps30
  go_wp2_with (go_at_call 42; (with_reducible refine H.out.mono ?_); rintro e w1 ⟨rfl, rfl⟩)
  go_ret
  exact ⟨rfl, rfl⟩
theorem Encode.bad (v : Value) (i b : Int) (w : World) (h : BadE v w) : Calls Try.prog 26 #[v, .int .i64 i, .int .i64 b] w fun e w' => e = .returned (.int .i64 6) ∧ w' = w := by
  have H := Aside0.mk h
  clear h
  go_enter Try.func26, Try.ntmps26
  go_wp2_with (go_at_call 42; (with_reducible refine H.out.mono ?_); rintro e w1 ⟨rfl, rfl⟩)
  go_ret
  exact ⟨rfl, rfl⟩
theorem Terminate.bad (v : Value) (w : World) (h : BadE v w) : Calls Try.prog 22 #[v] w fun e w' => e = .returned (.slice none 0 0) ∧ w' = w := by
  have H := Aside0.mk h
  clear h
  go_enter Try.func22, Try.ntmps22
  go_wp2_with (go_at_call 42; (with_reducible refine H.out.mono ?_); rintro e w1 ⟨rfl, rfl⟩)
  go_ret
  exact ⟨rfl, rfl⟩
theorem Reset.bad (v : Value) (w : World) (h : BadE v w) : Calls Try.prog 24 #[v] w fun e w' => e = .returned (.tuple #[]) ∧ w' = w := by
  have H := Aside0.mk h
  clear h
  go_enter Try.func24, Try.ntmps24
  go_wp2_with (go_at_call 42; (with_reducible refine H.out.mono ?_); rintro e w1 ⟨rfl, rfl⟩)
  first | go_end0 | ((try simp only [Exit.inBlock, Exit.then]); refine bodyPost_ret (results_none rfl _ _ _) rfl ?_)
  exact ⟨rfl, rfl⟩
/-- What Size answers. -/
def sizeE (s : EncS) : Int := if s.begun then (s.out.length : Int) + 4 else 0
theorem Size.good (b : Nat) (w : World) (S : Nat → Prop) (g : Nat) (s : EncS) (h : EncAt b w S g s) (hp : 0 < s.p.length) (ho : s.out.length ≤ 1000000000) : Calls Try.prog 28 #[.pointer (some ⟨g, 0, none⟩)] w fun e w' => e = .returned (.int .i64 (sizeE s)) ∧ w' = w := by
  obtain ⟨vp, vo, h1, h2, h3, h4, h5⟩ := h
  obtain ⟨A, c, rfl⟩ := Kd.R_slice h4
  obtain ⟨A2, c2, rfl⟩ := Kd.R_slice h5
  have x0 : w.cell? ⟨g, 0, none⟩ = some (.slice A s.p.length c) := (blk_cell h1 0).trans rfl
  have x1 : w.cell? ⟨g, 1, none⟩ = some (.slice A2 s.out.length c2) := (blk_cell h1 1).trans rfl
  have x4 : w.cell? ⟨g, 4, none⟩ = some (.bool s.begun) := (blk_cell h1 4).trans rfl
  have HV := Aside0.mk (valid.at w g s.p.length c A x0 hp)
  have HS : Hid (sizeE s = if s.begun then (s.out.length : Int) + 4 else 0) := Lib.hid rfl
  generalize s.begun = bg at *
  generalize s.out.length = L at *
  have hw : wrap64 ((L : Int) + 4) = (L : Int) + 4 := by unfold wrap64; omega
  clear h1 h2 h3 h4 h5
  cases bg
  all_goals
    go_enter Try.func28, Try.ntmps28
    go_wp2_with (go_at_call 42; (with_reducible refine HV.out.mono ?_); rintro e w1 ⟨rfl, rfl⟩)
    go_ret
    exact ⟨by rw [HS.out]; first | rfl | (simp [hw]; done), rfl⟩
/-- What Probability answers. -/
def probE (p : List Int) (i : Int) : Int := if 0 ≤ i ∧ i < p.length then rd p i else 0
theorem Probability.good (b : Nat) (w : World) (S : Nat → Prop) (g : Nat) (s : EncS) (i : Int) (h : EncAt b w S g s) (hp : 0 < s.p.length) : Calls Try.prog 30 #[.pointer (some ⟨g, 0, none⟩), .int .i64 i] w fun e w' => e = .returned (.int .i64 (probE s.p i)) ∧ w' = w := by
  obtain ⟨vp, vo, h1, h2, h3, h4, h5⟩ := h
  obtain ⟨bb, c, rfl, hb0, hb1, _⟩ := Kd.R_form h4 hp
  have x0 : w.cell? ⟨g, 0, none⟩ = some (.slice (some ⟨bb, 0, none⟩) s.p.length c) := (blk_cell h1 0).trans rfl
  have HV := Aside0.mk (valid.at w g s.p.length c _ x0 hp)
  have HS : Hid (probE s.p i = if 0 ≤ i ∧ i < s.p.length then rd s.p i else 0) := Lib.hid rfl
  by_cases hi : 0 ≤ i ∧ i < s.p.length
  · have HH := Aside0.mk (has.yes w g s.p.length c _ x0 i hi.1 hi.2)
    obtain ⟨y0, y1⟩ := Kd.R_cell (0 : Int) h4 i hi.1 hi.2
    have e1 : rdOf (0 : Int) s.p i = rd s.p i := rfl
    rw [e1] at y0
    rw [if_pos hi] at HS
    obtain ⟨i0, i1⟩ := hi
    generalize rd s.p i = x at *
    generalize s.p.length = L at *
    clear h1 h2 h3 h4 h5 hb0 hb1 y1
    go_enter Try.func30, Try.ntmps30
    go_wp2_with (first | (go_at_call 42; (with_reducible refine HV.out.mono ?_); rintro e w1 ⟨rfl, rfl⟩) | (go_at_call 47; (with_reducible refine HH.out.mono ?_); rintro e w2 ⟨rfl, rfl⟩))
    go_ret
    exact ⟨by rw [HS.out]; first | rfl | simp, rfl⟩
  · have HH := Aside0.mk (has.no w g s.p.length c _ x0 i hi)
    rw [if_neg hi] at HS
    generalize s.p.length = L at *
    clear h1 h2 h3 h4 h5 hb0 hb1 hi
    go_enter Try.func30, Try.ntmps30
    go_wp2_with (first | (go_at_call 42; (with_reducible refine HV.out.mono ?_); rintro e w1 ⟨rfl, rfl⟩) | (go_at_call 47; (with_reducible refine HH.out.mono ?_); rintro e w2 ⟨rfl, rfl⟩))
    go_ret
    exact ⟨by rw [HS.out]; first | rfl | simp, rfl⟩
end Go.Proofs.Ytfbdenlpoidnjaa.P
