-- Written by a program of this session (wip/gen/pr.py, over the kit's print): Lean checks it.
import Derived.Test.YtgmadhlebpbcpaaPx0
import Derived.Test.YtgmadhlebpbcpaaPx1
import Derived.Test.YtgmadhlebpbcpaaPx4
import Derived.Test.YtgmadhlebpbcpaaPx7
namespace Go.Proofs.Ytgmadhlebpbcpaa.P
open Go.RowKit Go.Proofs.YtgmadhlebpbcpaaW.PrintWords Go.Proofs.YtgmadhlebpbcpaaW.PrintLast Go.Proofs.YtgmadhlebpbcpaaW.PrintMore
attribute [local go_sem] max2_int min2_int max_two min_two max_three min_three max_four min_four   -- for this text's walks alone
set_option linter.unusedVariables false
set_option linter.unusedSimpArgs false

/-! ### waveletlaw21_AllocNested: function 8 -/
mutual
def waveletlaw21_AllocNested.j0 : Nat → List (S37) → Int → Int → Bool → Option (Bool)
 | 0, _, _, _, _ => none
 | k + 1, x0, x1, x2, x25 => if x25 = true then ((waveletlaw21_exampleHolds.f k).bind fun t361 => (some t361)) else ((waveletref21_ValidCurves.f k x0).bind fun t362 => (if t362 = 0 then ((alloc_Choose.f k x0 x1).bind fun bt364 => ((alloc_Choose.f k x0 x2).bind fun bt368 => ((alloc_Choose.f k x0 (-1)).bind fun bt372 => (if bt364.2 = 0 then (if bt368.2 = 0 then (if bt372.2 = 0 then (if (bt364.1.length : Int) = (x0.length : Int) then (if (bt368.1.length : Int) = (x0.length : Int) then (waveletlaw21_AllocNested.j1 k x0 bt364.1 bt368.1 bt372.1 ((bt372.1.length : Int) != (x0.length : Int))) else (waveletlaw21_AllocNested.j1 k x0 bt364.1 bt368.1 bt372.1 true)) else (waveletlaw21_AllocNested.j1 k x0 bt364.1 bt368.1 bt372.1 true)) else (waveletlaw21_AllocNested.j1 k x0 bt364.1 bt368.1 bt372.1 true)) else (waveletlaw21_AllocNested.j1 k x0 bt364.1 bt368.1 bt372.1 true)) else (waveletlaw21_AllocNested.j1 k x0 bt364.1 bt368.1 bt372.1 true))))) else ((waveletlaw21_exampleHolds.f k).bind fun t363 => (some t363))))
def waveletlaw21_AllocNested.j1 : Nat → List (S37) → List Int → List Int → List Int → Bool → Option (Bool)
 | 0, _, _, _, _, _ => none
 | k + 1, x0, x7, x9, x11, x78 => if x78 = true then (some false) else (waveletlaw21_AllocNested.l0 k x0 x7 x9 x11 (x0.length : Int) 0)
def waveletlaw21_AllocNested.l0 : Nat → List (S37) → List Int → List Int → List Int → Int → Int → Option (Bool)
 | 0, _, _, _, _, _, _ => none
 | k + 1, x0, x7, x9, x11, x80, x81 => if x81 < x80 then (if 0 ≤ x81 then (if x81 < (x7.length : Int) then (if (rd x7 x81) < 0 then (waveletlaw21_AllocNested.j3 k x0 x7 x9 x11 x80 x81 true) else (if x81 < (x9.length : Int) then (if (rd x7 x81) > (rd x9 x81) then (waveletlaw21_AllocNested.j3 k x0 x7 x9 x11 x80 x81 true) else (if x81 < (x11.length : Int) then (if (rd x9 x81) > (rd x11 x81) then (waveletlaw21_AllocNested.j3 k x0 x7 x9 x11 x80 x81 true) else (if x81 < (x0.length : Int) then (waveletlaw21_AllocNested.j3 k x0 x7 x9 x11 x80 x81 ((rd x11 x81) != (wrap64 ((((rd_T37 x0 x81).f0).length : Int) - 1)))) else (none))) else (none))) else (none))) else (none)) else (none)) else ((waveletlaw21_exampleHolds.f k).bind fun t376 => (some t376))
def waveletlaw21_AllocNested.j3 : Nat → List (S37) → List Int → List Int → List Int → Int → Int → Bool → Option (Bool)
 | 0, _, _, _, _, _, _, _ => none
 | k + 1, x0, x7, x9, x11, x80, x81, x124 => if x124 = true then (some false) else (waveletlaw21_AllocNested.l0 k x0 x7 x9 x11 x80 (wrap64 (x81 + 1)))
end
def waveletlaw21_AllocNested.f (k : Nat) (l0 : List (S37)) (a1 : Int) (a2 : Int) : Option (Bool) := (waveletlaw21_few.f k l0).bind fun t360 => (if t360 = true then (if a1 < 0 then (waveletlaw21_AllocNested.j0 k l0 a1 a2 true) else (waveletlaw21_AllocNested.j0 k l0 a1 a2 (decide (a2 < a1)))) else (waveletlaw21_AllocNested.j0 k l0 a1 a2 true))
theorem waveletlaw21_AllocNested.mono_l : ∀ k, (∀ y0 y1 y2 y3, LeO (waveletlaw21_AllocNested.j0 k y0 y1 y2 y3) (waveletlaw21_AllocNested.j0 (k + 1) y0 y1 y2 y3)) ∧ (∀ y0 y1 y2 y3 y4, LeO (waveletlaw21_AllocNested.j1 k y0 y1 y2 y3 y4) (waveletlaw21_AllocNested.j1 (k + 1) y0 y1 y2 y3 y4)) ∧ (∀ y0 y1 y2 y3 y4 y5, LeO (waveletlaw21_AllocNested.l0 k y0 y1 y2 y3 y4 y5) (waveletlaw21_AllocNested.l0 (k + 1) y0 y1 y2 y3 y4 y5)) ∧ (∀ y0 y1 y2 y3 y4 y5 y6, LeO (waveletlaw21_AllocNested.j3 k y0 y1 y2 y3 y4 y5 y6) (waveletlaw21_AllocNested.j3 (k + 1) y0 y1 y2 y3 y4 y5 y6))
 | 0 => ⟨fun _ _ _ _ r h => by simp [waveletlaw21_AllocNested.j0] at h, fun _ _ _ _ _ r h => by simp [waveletlaw21_AllocNested.j1] at h, fun _ _ _ _ _ _ r h => by simp [waveletlaw21_AllocNested.l0] at h, fun _ _ _ _ _ _ _ r h => by simp [waveletlaw21_AllocNested.j3] at h⟩
 | k + 1 => by
  obtain ⟨ih0, ih1, ih2, ih3⟩ := waveletlaw21_AllocNested.mono_l k
  refine ⟨?_, ?_, ?_, ?_⟩
  ·
   intro y0 y1 y2 y3
   unfold waveletlaw21_AllocNested.j0
   repeat' first
   | (with_reducible exact ih0 _ _ _ _)
   | (with_reducible exact ih1 _ _ _ _ _)
   | (with_reducible exact ih2 _ _ _ _ _ _)
   | (with_reducible exact ih3 _ _ _ _ _ _ _)
   | (with_reducible exact alloc_Choose.mono _ _ _)
   | (with_reducible exact waveletlaw21_exampleHolds.mono _)
   | (with_reducible exact waveletlaw21_few.mono _ _)
   | (with_reducible exact waveletref21_ValidCurves.mono _ _)
   | (with_reducible exact LeO.refl _)
   | (with_reducible exact LeO.none _)
   | (with_reducible refine LeO.ite ?_ ?_)
   | (with_reducible refine LeO.bind ?_ (fun _ => ?_))
   | exact ih0 _ _ _ _
   | exact ih1 _ _ _ _ _
   | exact ih2 _ _ _ _ _ _
   | exact ih3 _ _ _ _ _ _ _
   | exact alloc_Choose.mono _ _ _
   | exact waveletlaw21_exampleHolds.mono _
   | exact waveletlaw21_few.mono _ _
   | exact waveletref21_ValidCurves.mono _ _
   | exact LeO.none _
   | refine LeO.ite ?_ ?_
   | refine LeO.bind ?_ (fun _ => ?_)
  ·
   intro y0 y1 y2 y3 y4
   unfold waveletlaw21_AllocNested.j1
   repeat' first
   | (with_reducible exact ih0 _ _ _ _)
   | (with_reducible exact ih1 _ _ _ _ _)
   | (with_reducible exact ih2 _ _ _ _ _ _)
   | (with_reducible exact ih3 _ _ _ _ _ _ _)
   | (with_reducible exact alloc_Choose.mono _ _ _)
   | (with_reducible exact waveletlaw21_exampleHolds.mono _)
   | (with_reducible exact waveletlaw21_few.mono _ _)
   | (with_reducible exact waveletref21_ValidCurves.mono _ _)
   | (with_reducible exact LeO.refl _)
   | (with_reducible exact LeO.none _)
   | (with_reducible refine LeO.ite ?_ ?_)
   | (with_reducible refine LeO.bind ?_ (fun _ => ?_))
   | exact ih0 _ _ _ _
   | exact ih1 _ _ _ _ _
   | exact ih2 _ _ _ _ _ _
   | exact ih3 _ _ _ _ _ _ _
   | exact alloc_Choose.mono _ _ _
   | exact waveletlaw21_exampleHolds.mono _
   | exact waveletlaw21_few.mono _ _
   | exact waveletref21_ValidCurves.mono _ _
   | exact LeO.none _
   | refine LeO.ite ?_ ?_
   | refine LeO.bind ?_ (fun _ => ?_)
  ·
   intro y0 y1 y2 y3 y4 y5
   unfold waveletlaw21_AllocNested.l0
   repeat' first
   | (with_reducible exact ih0 _ _ _ _)
   | (with_reducible exact ih1 _ _ _ _ _)
   | (with_reducible exact ih2 _ _ _ _ _ _)
   | (with_reducible exact ih3 _ _ _ _ _ _ _)
   | (with_reducible exact alloc_Choose.mono _ _ _)
   | (with_reducible exact waveletlaw21_exampleHolds.mono _)
   | (with_reducible exact waveletlaw21_few.mono _ _)
   | (with_reducible exact waveletref21_ValidCurves.mono _ _)
   | (with_reducible exact LeO.refl _)
   | (with_reducible exact LeO.none _)
   | (with_reducible refine LeO.ite ?_ ?_)
   | (with_reducible refine LeO.bind ?_ (fun _ => ?_))
   | exact ih0 _ _ _ _
   | exact ih1 _ _ _ _ _
   | exact ih2 _ _ _ _ _ _
   | exact ih3 _ _ _ _ _ _ _
   | exact alloc_Choose.mono _ _ _
   | exact waveletlaw21_exampleHolds.mono _
   | exact waveletlaw21_few.mono _ _
   | exact waveletref21_ValidCurves.mono _ _
   | exact LeO.none _
   | refine LeO.ite ?_ ?_
   | refine LeO.bind ?_ (fun _ => ?_)
  ·
   intro y0 y1 y2 y3 y4 y5 y6
   unfold waveletlaw21_AllocNested.j3
   repeat' first
   | (with_reducible exact ih0 _ _ _ _)
   | (with_reducible exact ih1 _ _ _ _ _)
   | (with_reducible exact ih2 _ _ _ _ _ _)
   | (with_reducible exact ih3 _ _ _ _ _ _ _)
   | (with_reducible exact alloc_Choose.mono _ _ _)
   | (with_reducible exact waveletlaw21_exampleHolds.mono _)
   | (with_reducible exact waveletlaw21_few.mono _ _)
   | (with_reducible exact waveletref21_ValidCurves.mono _ _)
   | (with_reducible exact LeO.refl _)
   | (with_reducible exact LeO.none _)
   | (with_reducible refine LeO.ite ?_ ?_)
   | (with_reducible refine LeO.bind ?_ (fun _ => ?_))
   | exact ih0 _ _ _ _
   | exact ih1 _ _ _ _ _
   | exact ih2 _ _ _ _ _ _
   | exact ih3 _ _ _ _ _ _ _
   | exact alloc_Choose.mono _ _ _
   | exact waveletlaw21_exampleHolds.mono _
   | exact waveletlaw21_few.mono _ _
   | exact waveletref21_ValidCurves.mono _ _
   | exact LeO.none _
   | refine LeO.ite ?_ ?_
   | refine LeO.bind ?_ (fun _ => ?_)
theorem waveletlaw21_AllocNested.mono : ∀ a0 a1 a2 k, LeO (waveletlaw21_AllocNested.f k a0 a1 a2) (waveletlaw21_AllocNested.f (k + 1) a0 a1 a2) := by
 intro a0 a1 a2 k
 obtain ⟨ih0, ih1, ih2, ih3⟩ := waveletlaw21_AllocNested.mono_l k
 unfold waveletlaw21_AllocNested.f
 repeat' first
   | (with_reducible exact ih0 _ _ _ _)
   | (with_reducible exact ih1 _ _ _ _ _)
   | (with_reducible exact ih2 _ _ _ _ _ _)
   | (with_reducible exact ih3 _ _ _ _ _ _ _)
   | (with_reducible exact alloc_Choose.mono _ _ _)
   | (with_reducible exact waveletlaw21_exampleHolds.mono _)
   | (with_reducible exact waveletlaw21_few.mono _ _)
   | (with_reducible exact waveletref21_ValidCurves.mono _ _)
   | (with_reducible exact LeO.refl _)
   | (with_reducible exact LeO.none _)
   | (with_reducible refine LeO.ite ?_ ?_)
   | (with_reducible refine LeO.bind ?_ (fun _ => ?_))
   | exact ih0 _ _ _ _
   | exact ih1 _ _ _ _ _
   | exact ih2 _ _ _ _ _ _
   | exact ih3 _ _ _ _ _ _ _
   | exact alloc_Choose.mono _ _ _
   | exact waveletlaw21_exampleHolds.mono _
   | exact waveletlaw21_few.mono _ _
   | exact waveletref21_ValidCurves.mono _ _
   | exact LeO.none _
   | refine LeO.ite ?_ ?_
   | refine LeO.bind ?_ (fun _ => ?_)
set_option maxHeartbeats 8000000 in
set_option maxRecDepth 100000 in
theorem waveletlaw21_AllocNested.calls (k : Nat) (A0 : Option Addr) (c0 : Nat) (l0 : List (S37)) (a1 : Int) (a2 : Int) (r : Bool) (w : World) (hr0 : Kd.C k37 w A0 l0.length l0) (hc0 : l0.length ≤ c0) (h : waveletlaw21_AllocNested.f k l0 a1 a2 = some r) :
  Calls Try.prog 8 #[.slice A0 l0.length c0, .int .i64 a1, .int .i64 a2] w fun e w' => e = .returned (.bool r) ∧ Below w.heap.size w w' := by
 have HR0 := As hr0
 have HC0 := As hc0
 clear hr0 hc0
 have HB := As (Below.refl w.heap.size w)
 have H : ((waveletlaw21_few.f k l0).bind fun t360 => (if t360 = true then (if a1 < 0 then (waveletlaw21_AllocNested.j0 k l0 a1 a2 true) else (waveletlaw21_AllocNested.j0 k l0 a1 a2 (decide (a2 < a1)))) else (waveletlaw21_AllocNested.j0 k l0 a1 a2 true))) = some r := h
 clear h
 have HC4 := As H
 clear H
 go_enter Try.func8, Try.ntmps8
 go_upto_region 1 with (fail)
 repeat (go_quiet (fail); go_upto_region 1 with (fail))
 go_cut [25] (fun v25 wc => ∃ (kq : Nat) (x25_3 : Bool), v25 = .bool x25_3 ∧ Aside0 (waveletlaw21_AllocNested.j0 kq l0 a1 a2 x25_3 = some r) ∧ Aside0 (kq ≤ k) ∧ Aside0 (Below w.heap.size w wc))
 case first =>
  have H := HC4.out
  clear HC4
  replace H := Option.bind_eq_some_iff.mp H
  obtain ⟨t360, A50, H⟩ := H
  replace H : (if t360 = true then (if a1 < 0 then (waveletlaw21_AllocNested.j0 k l0 a1 a2 true) else (waveletlaw21_AllocNested.j0 k l0 a1 a2 (decide (a2 < a1)))) else (waveletlaw21_AllocNested.j0 k l0 a1 a2 true)) = some r := H
  have A5 := As A50
  clear A50
  by_cases c6 : t360 = true
  ·
   subst c6
   have H1 : (if a1 < 0 then (waveletlaw21_AllocNested.j0 k l0 a1 a2 true) else (waveletlaw21_AllocNested.j0 k l0 a1 a2 (decide (a2 < a1)))) = some r := by rw [if_pos rfl] at H; exact H
   clear H
   have H := H1
   clear H1
   by_cases c7 : a1 < 0
   ·
    rw [if_pos c7] at H
    have c7b0 : decide (a1 < 0) = true := decide_eq_true c7
    clear c7
    (first | rw [c7b0] | (simp only [i64_w, i32_w]; rw [c7b0]) | skip)
    have H' := As H
    clear H
    go_wp2_with (first | (go_at_call 9; (with_reducible refine (waveletlaw21_few.calls k _ _ l0 true _ ?side1 ?side2 A5.out).mono ?_); (case side1 => repeat (first | exact (Kd.C_below HR0.out HB.out) | (with_reducible refine Kd.C_alloc ?_ _) | (with_reducible refine Kd.C_drewN ?_ _) | (with_reducible refine Kd.C_drew ?_))); (case side2 => exact HC0.out); rintro e w8 ⟨rfl, hb⟩; have n0_ := As (below_step (by repeat (first | (with_reducible first | exact HB.out | apply bla | apply bln | apply bld) | exact HB.out)) hb); clear HB; have HB := n0_; clear n0_; (try clear hb); (try clear hb2); (try clear hk); (try clear hi)))
    repeat (go_quiet (first | (go_at_call 9; (with_reducible refine (waveletlaw21_few.calls k _ _ l0 true _ ?side1 ?side2 A5.out).mono ?_); (case side1 => repeat (first | exact (Kd.C_below HR0.out HB.out) | (with_reducible refine Kd.C_alloc ?_ _) | (with_reducible refine Kd.C_drewN ?_ _) | (with_reducible refine Kd.C_drew ?_))); (case side2 => exact HC0.out); rintro e w8 ⟨rfl, hb⟩; have n0_ := As (below_step (by repeat (first | (with_reducible first | exact HB.out | apply bla | apply bln | apply bld) | exact HB.out)) hb); clear HB; have HB := n0_; clear n0_; (try clear hb); (try clear hb2); (try clear hk); (try clear hi))); try go_wp2_with (first | (go_at_call 9; (with_reducible refine (waveletlaw21_few.calls k _ _ l0 true _ ?side1 ?side2 A5.out).mono ?_); (case side1 => repeat (first | exact (Kd.C_below HR0.out HB.out) | (with_reducible refine Kd.C_alloc ?_ _) | (with_reducible refine Kd.C_drewN ?_ _) | (with_reducible refine Kd.C_drew ?_))); (case side2 => exact HC0.out); rintro e w8 ⟨rfl, hb⟩; have n0_ := As (below_step (by repeat (first | (with_reducible first | exact HB.out | apply bla | apply bln | apply bld) | exact HB.out)) hb); clear HB; have HB := n0_; clear n0_; (try clear hb); (try clear hb2); (try clear hk); (try clear hi))))
    go_meet
    case rel => exact ⟨_, (true), (by first | rfl | (simp; done) | (simp [*]; done)), H', ⟨by first | omega | exact Nat.le_refl _⟩, ⟨by repeat (first | (with_reducible first | exact HB.out | apply bla | apply bln | apply bld) | exact HB.out)⟩⟩
   ·
    rw [if_neg c7] at H
    have c7b0 : decide (a1 < 0) = false := decide_eq_false c7
    clear c7
    (first | rw [c7b0] | (simp only [i64_w, i32_w]; rw [c7b0]) | skip)
    have H' := As H
    clear H
    go_wp2_with (first | (go_at_call 9; (with_reducible refine (waveletlaw21_few.calls k _ _ l0 true _ ?side1 ?side2 A5.out).mono ?_); (case side1 => repeat (first | exact (Kd.C_below HR0.out HB.out) | (with_reducible refine Kd.C_alloc ?_ _) | (with_reducible refine Kd.C_drewN ?_ _) | (with_reducible refine Kd.C_drew ?_))); (case side2 => exact HC0.out); rintro e w9 ⟨rfl, hb⟩; have n0_ := As (below_step (by repeat (first | (with_reducible first | exact HB.out | apply bla | apply bln | apply bld) | exact HB.out)) hb); clear HB; have HB := n0_; clear n0_; (try clear hb); (try clear hb2); (try clear hk); (try clear hi)))
    repeat (go_quiet (first | (go_at_call 9; (with_reducible refine (waveletlaw21_few.calls k _ _ l0 true _ ?side1 ?side2 A5.out).mono ?_); (case side1 => repeat (first | exact (Kd.C_below HR0.out HB.out) | (with_reducible refine Kd.C_alloc ?_ _) | (with_reducible refine Kd.C_drewN ?_ _) | (with_reducible refine Kd.C_drew ?_))); (case side2 => exact HC0.out); rintro e w9 ⟨rfl, hb⟩; have n0_ := As (below_step (by repeat (first | (with_reducible first | exact HB.out | apply bla | apply bln | apply bld) | exact HB.out)) hb); clear HB; have HB := n0_; clear n0_; (try clear hb); (try clear hb2); (try clear hk); (try clear hi))); try go_wp2_with (first | (go_at_call 9; (with_reducible refine (waveletlaw21_few.calls k _ _ l0 true _ ?side1 ?side2 A5.out).mono ?_); (case side1 => repeat (first | exact (Kd.C_below HR0.out HB.out) | (with_reducible refine Kd.C_alloc ?_ _) | (with_reducible refine Kd.C_drewN ?_ _) | (with_reducible refine Kd.C_drew ?_))); (case side2 => exact HC0.out); rintro e w9 ⟨rfl, hb⟩; have n0_ := As (below_step (by repeat (first | (with_reducible first | exact HB.out | apply bla | apply bln | apply bld) | exact HB.out)) hb); clear HB; have HB := n0_; clear n0_; (try clear hb); (try clear hb2); (try clear hk); (try clear hi))))
    go_meet
    case rel => exact ⟨_, (decide (a2 < a1)), (by first | rfl | (simp; done) | (simp [*]; done)), H', ⟨by first | omega | exact Nat.le_refl _⟩, ⟨by repeat (first | (with_reducible first | exact HB.out | apply bla | apply bln | apply bld) | exact HB.out)⟩⟩
  ·
   replace c6 := Bool.eq_false_iff.mpr c6
   subst c6
   have H1 : (waveletlaw21_AllocNested.j0 k l0 a1 a2 true) = some r := by rw [if_neg (show ¬ (false = true) by decide)] at H; exact H
   clear H
   have H := H1
   clear H1
   have H' := As H
   clear H
   go_wp2_with (first | (go_at_call 9; (with_reducible refine (waveletlaw21_few.calls k _ _ l0 false _ ?side1 ?side2 A5.out).mono ?_); (case side1 => repeat (first | exact (Kd.C_below HR0.out HB.out) | (with_reducible refine Kd.C_alloc ?_ _) | (with_reducible refine Kd.C_drewN ?_ _) | (with_reducible refine Kd.C_drew ?_))); (case side2 => exact HC0.out); rintro e w10 ⟨rfl, hb⟩; have n0_ := As (below_step (by repeat (first | (with_reducible first | exact HB.out | apply bla | apply bln | apply bld) | exact HB.out)) hb); clear HB; have HB := n0_; clear n0_; (try clear hb); (try clear hb2); (try clear hk); (try clear hi)))
   repeat (go_quiet (first | (go_at_call 9; (with_reducible refine (waveletlaw21_few.calls k _ _ l0 false _ ?side1 ?side2 A5.out).mono ?_); (case side1 => repeat (first | exact (Kd.C_below HR0.out HB.out) | (with_reducible refine Kd.C_alloc ?_ _) | (with_reducible refine Kd.C_drewN ?_ _) | (with_reducible refine Kd.C_drew ?_))); (case side2 => exact HC0.out); rintro e w10 ⟨rfl, hb⟩; have n0_ := As (below_step (by repeat (first | (with_reducible first | exact HB.out | apply bla | apply bln | apply bld) | exact HB.out)) hb); clear HB; have HB := n0_; clear n0_; (try clear hb); (try clear hb2); (try clear hk); (try clear hi))); try go_wp2_with (first | (go_at_call 9; (with_reducible refine (waveletlaw21_few.calls k _ _ l0 false _ ?side1 ?side2 A5.out).mono ?_); (case side1 => repeat (first | exact (Kd.C_below HR0.out HB.out) | (with_reducible refine Kd.C_alloc ?_ _) | (with_reducible refine Kd.C_drewN ?_ _) | (with_reducible refine Kd.C_drew ?_))); (case side2 => exact HC0.out); rintro e w10 ⟨rfl, hb⟩; have n0_ := As (below_step (by repeat (first | (with_reducible first | exact HB.out | apply bla | apply bln | apply bld) | exact HB.out)) hb); clear HB; have HB := n0_; clear n0_; (try clear hb); (try clear hb2); (try clear hk); (try clear hi))))
   go_meet
   case rel => exact ⟨_, (true), (by first | rfl | (simp; done) | (simp [*]; done)), H', ⟨by first | omega | exact Nat.le_refl _⟩, ⟨by repeat (first | (with_reducible first | exact HB.out | apply bla | apply bln | apply bld) | exact HB.out)⟩⟩
 case rest =>
  clear HC4
  try clear p2
  try clear c6
  try clear c7
  try clear c7b0
  try clear c8
  obtain ⟨kq, x25_3, rfl, HA, HJ3, HB⟩ := hcut
  cases kq with
  | zero => exact absurd HA.out (by simp [waveletlaw21_AllocNested.j0])
  | succ kj3 =>
   have H := HA.out
   clear HA
   simp only [waveletlaw21_AllocNested.j0] at H
   by_cases c11 : x25_3 = true
   ·
    subst c11
    have H1 : ((waveletlaw21_exampleHolds.f kj3).bind fun t361 => (some t361)) = some r := by rw [if_pos rfl] at H; exact H
    clear H
    have H := H1
    clear H1
    replace H := Option.bind_eq_some_iff.mp H
    obtain ⟨t361, A120, H⟩ := H
    replace H : (some t361) = some r := H
    have A12 := As A120
    clear A120
    obtain rfl := Option.some.inj H
    go_wp2_with (first | (go_at_call 10; (with_reducible refine (waveletlaw21_exampleHolds.calls kj3  t361 _ A12.out).mono ?_); rintro e w13 ⟨rfl, hb⟩; have n0_ := As (below_step (by repeat (first | (with_reducible first | exact HB.out | apply bla | apply bln | apply bld) | exact HB.out)) hb); clear HB; have HB := n0_; clear n0_; (try clear hb); (try clear hb2); (try clear hk); (try clear hi)))
    repeat (go_quiet (first | (go_at_call 10; (with_reducible refine (waveletlaw21_exampleHolds.calls kj3  t361 _ A12.out).mono ?_); rintro e w13 ⟨rfl, hb⟩; have n0_ := As (below_step (by repeat (first | (with_reducible first | exact HB.out | apply bla | apply bln | apply bld) | exact HB.out)) hb); clear HB; have HB := n0_; clear n0_; (try clear hb); (try clear hb2); (try clear hk); (try clear hi))); try go_wp2_with (first | (go_at_call 10; (with_reducible refine (waveletlaw21_exampleHolds.calls kj3  t361 _ A12.out).mono ?_); rintro e w13 ⟨rfl, hb⟩; have n0_ := As (below_step (by repeat (first | (with_reducible first | exact HB.out | apply bla | apply bln | apply bld) | exact HB.out)) hb); clear HB; have HB := n0_; clear n0_; (try clear hb); (try clear hb2); (try clear hk); (try clear hi))))
    go_ret
    exact ⟨by first | rfl | (simp [errW_none, errW_some] <;> rfl) | (simp [*, errW_none, errW_some] <;> rfl), by repeat (first | (with_reducible first | exact HB.out | apply bla | apply bln | apply bld) | exact HB.out)⟩
   ·
    replace c11 := Bool.eq_false_iff.mpr c11
    subst c11
    have H1 : ((waveletref21_ValidCurves.f kj3 l0).bind fun t362 => (if t362 = 0 then ((alloc_Choose.f kj3 l0 a1).bind fun bt364 => ((alloc_Choose.f kj3 l0 a2).bind fun bt368 => ((alloc_Choose.f kj3 l0 (-1)).bind fun bt372 => (if bt364.2 = 0 then (if bt368.2 = 0 then (if bt372.2 = 0 then (if (bt364.1.length : Int) = (l0.length : Int) then (if (bt368.1.length : Int) = (l0.length : Int) then (waveletlaw21_AllocNested.j1 kj3 l0 bt364.1 bt368.1 bt372.1 ((bt372.1.length : Int) != (l0.length : Int))) else (waveletlaw21_AllocNested.j1 kj3 l0 bt364.1 bt368.1 bt372.1 true)) else (waveletlaw21_AllocNested.j1 kj3 l0 bt364.1 bt368.1 bt372.1 true)) else (waveletlaw21_AllocNested.j1 kj3 l0 bt364.1 bt368.1 bt372.1 true)) else (waveletlaw21_AllocNested.j1 kj3 l0 bt364.1 bt368.1 bt372.1 true)) else (waveletlaw21_AllocNested.j1 kj3 l0 bt364.1 bt368.1 bt372.1 true))))) else ((waveletlaw21_exampleHolds.f kj3).bind fun t363 => (some t363)))) = some r := by rw [if_neg (show ¬ (false = true) by decide)] at H; exact H
    clear H
    have H := H1
    clear H1
    replace H := Option.bind_eq_some_iff.mp H
    obtain ⟨t362, A140, H⟩ := H
    replace H : (if t362 = 0 then ((alloc_Choose.f kj3 l0 a1).bind fun bt364 => ((alloc_Choose.f kj3 l0 a2).bind fun bt368 => ((alloc_Choose.f kj3 l0 (-1)).bind fun bt372 => (if bt364.2 = 0 then (if bt368.2 = 0 then (if bt372.2 = 0 then (if (bt364.1.length : Int) = (l0.length : Int) then (if (bt368.1.length : Int) = (l0.length : Int) then (waveletlaw21_AllocNested.j1 kj3 l0 bt364.1 bt368.1 bt372.1 ((bt372.1.length : Int) != (l0.length : Int))) else (waveletlaw21_AllocNested.j1 kj3 l0 bt364.1 bt368.1 bt372.1 true)) else (waveletlaw21_AllocNested.j1 kj3 l0 bt364.1 bt368.1 bt372.1 true)) else (waveletlaw21_AllocNested.j1 kj3 l0 bt364.1 bt368.1 bt372.1 true)) else (waveletlaw21_AllocNested.j1 kj3 l0 bt364.1 bt368.1 bt372.1 true)) else (waveletlaw21_AllocNested.j1 kj3 l0 bt364.1 bt368.1 bt372.1 true))))) else ((waveletlaw21_exampleHolds.f kj3).bind fun t363 => (some t363))) = some r := H
    have A14 := As A140
    clear A140
    by_cases c15 : t362 = 0
    ·
     rw [if_pos c15] at H
     have c15b0 : (t362 == 0) = true := beq_iff_eq.mpr c15
     have c15b1 : (t362 != 0) = false := bne_eq_false_iff_eq.mpr c15
     clear c15
     replace H := Option.bind_eq_some_iff.mp H
     obtain ⟨⟨t364, t365⟩, A160, H⟩ := H
     replace H : ((alloc_Choose.f kj3 l0 a2).bind fun bt368 => ((alloc_Choose.f kj3 l0 (-1)).bind fun bt372 => (if t365 = 0 then (if bt368.2 = 0 then (if bt372.2 = 0 then (if (t364.length : Int) = (l0.length : Int) then (if (bt368.1.length : Int) = (l0.length : Int) then (waveletlaw21_AllocNested.j1 kj3 l0 t364 bt368.1 bt372.1 ((bt372.1.length : Int) != (l0.length : Int))) else (waveletlaw21_AllocNested.j1 kj3 l0 t364 bt368.1 bt372.1 true)) else (waveletlaw21_AllocNested.j1 kj3 l0 t364 bt368.1 bt372.1 true)) else (waveletlaw21_AllocNested.j1 kj3 l0 t364 bt368.1 bt372.1 true)) else (waveletlaw21_AllocNested.j1 kj3 l0 t364 bt368.1 bt372.1 true)) else (waveletlaw21_AllocNested.j1 kj3 l0 t364 bt368.1 bt372.1 true)))) = some r := H
     have A16 := As A160
     clear A160
     replace H := Option.bind_eq_some_iff.mp H
     obtain ⟨⟨t368, t369⟩, A170, H⟩ := H
     replace H : ((alloc_Choose.f kj3 l0 (-1)).bind fun bt372 => (if t365 = 0 then (if t369 = 0 then (if bt372.2 = 0 then (if (t364.length : Int) = (l0.length : Int) then (if (t368.length : Int) = (l0.length : Int) then (waveletlaw21_AllocNested.j1 kj3 l0 t364 t368 bt372.1 ((bt372.1.length : Int) != (l0.length : Int))) else (waveletlaw21_AllocNested.j1 kj3 l0 t364 t368 bt372.1 true)) else (waveletlaw21_AllocNested.j1 kj3 l0 t364 t368 bt372.1 true)) else (waveletlaw21_AllocNested.j1 kj3 l0 t364 t368 bt372.1 true)) else (waveletlaw21_AllocNested.j1 kj3 l0 t364 t368 bt372.1 true)) else (waveletlaw21_AllocNested.j1 kj3 l0 t364 t368 bt372.1 true))) = some r := H
     have A17 := As A170
     clear A170
     replace H := Option.bind_eq_some_iff.mp H
     obtain ⟨⟨t372, t373⟩, A180, H⟩ := H
     replace H : (if t365 = 0 then (if t369 = 0 then (if t373 = 0 then (if (t364.length : Int) = (l0.length : Int) then (if (t368.length : Int) = (l0.length : Int) then (waveletlaw21_AllocNested.j1 kj3 l0 t364 t368 t372 ((t372.length : Int) != (l0.length : Int))) else (waveletlaw21_AllocNested.j1 kj3 l0 t364 t368 t372 true)) else (waveletlaw21_AllocNested.j1 kj3 l0 t364 t368 t372 true)) else (waveletlaw21_AllocNested.j1 kj3 l0 t364 t368 t372 true)) else (waveletlaw21_AllocNested.j1 kj3 l0 t364 t368 t372 true)) else (waveletlaw21_AllocNested.j1 kj3 l0 t364 t368 t372 true)) = some r := H
     have A18 := As A180
     clear A180
     have HC19 := As H
     clear H
     go_upto_region 8 with (first | (go_at_call 20; (with_reducible refine (waveletref21_ValidCurves.calls kj3 _ _ l0 t362 _ ?side1 ?side2 A14.out).mono ?_); (case side1 => repeat (first | exact (Kd.C_below HR0.out HB.out) | (with_reducible refine Kd.C_alloc ?_ _) | (with_reducible refine Kd.C_drewN ?_ _) | (with_reducible refine Kd.C_drew ?_))); (case side2 => exact HC0.out); rintro e w20 ⟨rfl, hb⟩; have n0_ := As (below_step (by repeat (first | (with_reducible first | exact HB.out | apply bla | apply bln | apply bld) | exact HB.out)) hb); clear HB; have HB := n0_; clear n0_; (try clear hb); (try clear hb2); (try clear hk); (try clear hi)) | (go_at_call 15; (with_reducible refine (alloc_Choose.calls kj3 _ _ l0 a1 t364 t365 _ ?side1 ?side2 A16.out).mono ?_); (case side1 => repeat (first | exact (Kd.C_below HR0.out HB.out) | (with_reducible refine Kd.C_alloc ?_ _) | (with_reducible refine Kd.C_drewN ?_ _) | (with_reducible refine Kd.C_drew ?_))); (case side2 => exact HC0.out); rintro e w21 ⟨v366, rfl, ho0, hb⟩; have n0_ := As (Kd.R_lower ho0 (below_size (by repeat (first | (with_reducible first | exact HB.out | apply bla | apply bln | apply bld) | exact HB.out)))); have n1_ := As (below_step (by repeat (first | (with_reducible first | exact HB.out | apply bla | apply bln | apply bld) | exact HB.out)) hb); clear HB; have HO367 := n0_; have HB := n1_; clear n0_ n1_; (try clear hb); (try clear hb2); (try clear hk); (try clear hi); (try clear ho0)) | (go_at_call 15; (with_reducible refine (alloc_Choose.calls kj3 _ _ l0 a2 t368 t369 _ ?side1 ?side2 A17.out).mono ?_); (case side1 => repeat (first | exact (Kd.C_below HR0.out HB.out) | (with_reducible refine Kd.C_alloc ?_ _) | (with_reducible refine Kd.C_drewN ?_ _) | (with_reducible refine Kd.C_drew ?_))); (case side2 => exact HC0.out); rintro e w22 ⟨v370, rfl, ho0, hb⟩; have n0_ := As (Kd.Rb (by (with_reducible repeat (first | apply Kd.Ra | apply Kd.Rn | apply Kd.Rd)); exact HO367.out) hb); have n1_ := As (Kd.R_lower ho0 (below_size (by repeat (first | (with_reducible first | exact HB.out | apply bla | apply bln | apply bld) | exact HB.out)))); have n2_ := As (below_step (by repeat (first | (with_reducible first | exact HB.out | apply bla | apply bln | apply bld) | exact HB.out)) hb); clear HO367; clear HB; have HO367 := n0_; have HO371 := n1_; have HB := n2_; clear n0_ n1_ n2_; (try clear hb); (try clear hb2); (try clear hk); (try clear hi); (try clear ho0)) | (go_at_call 15; (with_reducible refine (alloc_Choose.calls kj3 _ _ l0 (-1) t372 t373 _ ?side1 ?side2 A18.out).mono ?_); (case side1 => repeat (first | exact (Kd.C_below HR0.out HB.out) | (with_reducible refine Kd.C_alloc ?_ _) | (with_reducible refine Kd.C_drewN ?_ _) | (with_reducible refine Kd.C_drew ?_))); (case side2 => exact HC0.out); rintro e w23 ⟨v374, rfl, ho0, hb⟩; have n0_ := As (Kd.Rb (by (with_reducible repeat (first | apply Kd.Ra | apply Kd.Rn | apply Kd.Rd)); exact HO367.out) hb); have n1_ := As (Kd.Rb (by (with_reducible repeat (first | apply Kd.Ra | apply Kd.Rn | apply Kd.Rd)); exact HO371.out) hb); have n2_ := As (Kd.R_lower ho0 (below_size (by repeat (first | (with_reducible first | exact HB.out | apply bla | apply bln | apply bld) | exact HB.out)))); have n3_ := As (below_step (by repeat (first | (with_reducible first | exact HB.out | apply bla | apply bln | apply bld) | exact HB.out)) hb); clear HO367; clear HO371; clear HB; have HO367 := n0_; have HO371 := n1_; have HO375 := n2_; have HB := n3_; clear n0_ n1_ n2_ n3_; (try clear hb); (try clear hb2); (try clear hk); (try clear hi); (try clear ho0)))
     repeat (go_quiet (first | (go_at_call 20; (with_reducible refine (waveletref21_ValidCurves.calls kj3 _ _ l0 t362 _ ?side1 ?side2 A14.out).mono ?_); (case side1 => repeat (first | exact (Kd.C_below HR0.out HB.out) | (with_reducible refine Kd.C_alloc ?_ _) | (with_reducible refine Kd.C_drewN ?_ _) | (with_reducible refine Kd.C_drew ?_))); (case side2 => exact HC0.out); rintro e w20 ⟨rfl, hb⟩; have n0_ := As (below_step (by repeat (first | (with_reducible first | exact HB.out | apply bla | apply bln | apply bld) | exact HB.out)) hb); clear HB; have HB := n0_; clear n0_; (try clear hb); (try clear hb2); (try clear hk); (try clear hi)) | (go_at_call 15; (with_reducible refine (alloc_Choose.calls kj3 _ _ l0 a1 t364 t365 _ ?side1 ?side2 A16.out).mono ?_); (case side1 => repeat (first | exact (Kd.C_below HR0.out HB.out) | (with_reducible refine Kd.C_alloc ?_ _) | (with_reducible refine Kd.C_drewN ?_ _) | (with_reducible refine Kd.C_drew ?_))); (case side2 => exact HC0.out); rintro e w21 ⟨v366, rfl, ho0, hb⟩; have n0_ := As (Kd.R_lower ho0 (below_size (by repeat (first | (with_reducible first | exact HB.out | apply bla | apply bln | apply bld) | exact HB.out)))); have n1_ := As (below_step (by repeat (first | (with_reducible first | exact HB.out | apply bla | apply bln | apply bld) | exact HB.out)) hb); clear HB; have HO367 := n0_; have HB := n1_; clear n0_ n1_; (try clear hb); (try clear hb2); (try clear hk); (try clear hi); (try clear ho0)) | (go_at_call 15; (with_reducible refine (alloc_Choose.calls kj3 _ _ l0 a2 t368 t369 _ ?side1 ?side2 A17.out).mono ?_); (case side1 => repeat (first | exact (Kd.C_below HR0.out HB.out) | (with_reducible refine Kd.C_alloc ?_ _) | (with_reducible refine Kd.C_drewN ?_ _) | (with_reducible refine Kd.C_drew ?_))); (case side2 => exact HC0.out); rintro e w22 ⟨v370, rfl, ho0, hb⟩; have n0_ := As (Kd.Rb (by (with_reducible repeat (first | apply Kd.Ra | apply Kd.Rn | apply Kd.Rd)); exact HO367.out) hb); have n1_ := As (Kd.R_lower ho0 (below_size (by repeat (first | (with_reducible first | exact HB.out | apply bla | apply bln | apply bld) | exact HB.out)))); have n2_ := As (below_step (by repeat (first | (with_reducible first | exact HB.out | apply bla | apply bln | apply bld) | exact HB.out)) hb); clear HO367; clear HB; have HO367 := n0_; have HO371 := n1_; have HB := n2_; clear n0_ n1_ n2_; (try clear hb); (try clear hb2); (try clear hk); (try clear hi); (try clear ho0)) | (go_at_call 15; (with_reducible refine (alloc_Choose.calls kj3 _ _ l0 (-1) t372 t373 _ ?side1 ?side2 A18.out).mono ?_); (case side1 => repeat (first | exact (Kd.C_below HR0.out HB.out) | (with_reducible refine Kd.C_alloc ?_ _) | (with_reducible refine Kd.C_drewN ?_ _) | (with_reducible refine Kd.C_drew ?_))); (case side2 => exact HC0.out); rintro e w23 ⟨v374, rfl, ho0, hb⟩; have n0_ := As (Kd.Rb (by (with_reducible repeat (first | apply Kd.Ra | apply Kd.Rn | apply Kd.Rd)); exact HO367.out) hb); have n1_ := As (Kd.Rb (by (with_reducible repeat (first | apply Kd.Ra | apply Kd.Rn | apply Kd.Rd)); exact HO371.out) hb); have n2_ := As (Kd.R_lower ho0 (below_size (by repeat (first | (with_reducible first | exact HB.out | apply bla | apply bln | apply bld) | exact HB.out)))); have n3_ := As (below_step (by repeat (first | (with_reducible first | exact HB.out | apply bla | apply bln | apply bld) | exact HB.out)) hb); clear HO367; clear HO371; clear HB; have HO367 := n0_; have HO371 := n1_; have HO375 := n2_; have HB := n3_; clear n0_ n1_ n2_ n3_; (try clear hb); (try clear hb2); (try clear hk); (try clear hi); (try clear ho0))); go_upto_region 8 with (first | (go_at_call 20; (with_reducible refine (waveletref21_ValidCurves.calls kj3 _ _ l0 t362 _ ?side1 ?side2 A14.out).mono ?_); (case side1 => repeat (first | exact (Kd.C_below HR0.out HB.out) | (with_reducible refine Kd.C_alloc ?_ _) | (with_reducible refine Kd.C_drewN ?_ _) | (with_reducible refine Kd.C_drew ?_))); (case side2 => exact HC0.out); rintro e w20 ⟨rfl, hb⟩; have n0_ := As (below_step (by repeat (first | (with_reducible first | exact HB.out | apply bla | apply bln | apply bld) | exact HB.out)) hb); clear HB; have HB := n0_; clear n0_; (try clear hb); (try clear hb2); (try clear hk); (try clear hi)) | (go_at_call 15; (with_reducible refine (alloc_Choose.calls kj3 _ _ l0 a1 t364 t365 _ ?side1 ?side2 A16.out).mono ?_); (case side1 => repeat (first | exact (Kd.C_below HR0.out HB.out) | (with_reducible refine Kd.C_alloc ?_ _) | (with_reducible refine Kd.C_drewN ?_ _) | (with_reducible refine Kd.C_drew ?_))); (case side2 => exact HC0.out); rintro e w21 ⟨v366, rfl, ho0, hb⟩; have n0_ := As (Kd.R_lower ho0 (below_size (by repeat (first | (with_reducible first | exact HB.out | apply bla | apply bln | apply bld) | exact HB.out)))); have n1_ := As (below_step (by repeat (first | (with_reducible first | exact HB.out | apply bla | apply bln | apply bld) | exact HB.out)) hb); clear HB; have HO367 := n0_; have HB := n1_; clear n0_ n1_; (try clear hb); (try clear hb2); (try clear hk); (try clear hi); (try clear ho0)) | (go_at_call 15; (with_reducible refine (alloc_Choose.calls kj3 _ _ l0 a2 t368 t369 _ ?side1 ?side2 A17.out).mono ?_); (case side1 => repeat (first | exact (Kd.C_below HR0.out HB.out) | (with_reducible refine Kd.C_alloc ?_ _) | (with_reducible refine Kd.C_drewN ?_ _) | (with_reducible refine Kd.C_drew ?_))); (case side2 => exact HC0.out); rintro e w22 ⟨v370, rfl, ho0, hb⟩; have n0_ := As (Kd.Rb (by (with_reducible repeat (first | apply Kd.Ra | apply Kd.Rn | apply Kd.Rd)); exact HO367.out) hb); have n1_ := As (Kd.R_lower ho0 (below_size (by repeat (first | (with_reducible first | exact HB.out | apply bla | apply bln | apply bld) | exact HB.out)))); have n2_ := As (below_step (by repeat (first | (with_reducible first | exact HB.out | apply bla | apply bln | apply bld) | exact HB.out)) hb); clear HO367; clear HB; have HO367 := n0_; have HO371 := n1_; have HB := n2_; clear n0_ n1_ n2_; (try clear hb); (try clear hb2); (try clear hk); (try clear hi); (try clear ho0)) | (go_at_call 15; (with_reducible refine (alloc_Choose.calls kj3 _ _ l0 (-1) t372 t373 _ ?side1 ?side2 A18.out).mono ?_); (case side1 => repeat (first | exact (Kd.C_below HR0.out HB.out) | (with_reducible refine Kd.C_alloc ?_ _) | (with_reducible refine Kd.C_drewN ?_ _) | (with_reducible refine Kd.C_drew ?_))); (case side2 => exact HC0.out); rintro e w23 ⟨v374, rfl, ho0, hb⟩; have n0_ := As (Kd.Rb (by (with_reducible repeat (first | apply Kd.Ra | apply Kd.Rn | apply Kd.Rd)); exact HO367.out) hb); have n1_ := As (Kd.Rb (by (with_reducible repeat (first | apply Kd.Ra | apply Kd.Rn | apply Kd.Rd)); exact HO371.out) hb); have n2_ := As (Kd.R_lower ho0 (below_size (by repeat (first | (with_reducible first | exact HB.out | apply bla | apply bln | apply bld) | exact HB.out)))); have n3_ := As (below_step (by repeat (first | (with_reducible first | exact HB.out | apply bla | apply bln | apply bld) | exact HB.out)) hb); clear HO367; clear HO371; clear HB; have HO367 := n0_; have HO371 := n1_; have HO375 := n2_; have HB := n3_; clear n0_ n1_ n2_ n3_; (try clear hb); (try clear hb2); (try clear hk); (try clear hi); (try clear ho0))))
     (try simp only [Act.put, List.setIfInBounds_toArray, List.set_cons_zero, List.set_cons_succ])
     go_cut [78] (fun v78 wc => ∃ (kq : Nat) (x78_18 : Bool), v78 = .bool x78_18 ∧ Aside0 (waveletlaw21_AllocNested.j1 kq l0 t364 t368 t372 x78_18 = some r) ∧ Aside0 (kq ≤ kj3) ∧ Aside0 (Kd.R (Kd.int .i64) 3 wc w.heap.size (fun _ => True) v366 t364) ∧ Aside0 (Kd.R (Kd.int .i64) 3 wc w.heap.size (fun _ => True) v370 t368) ∧ Aside0 (Kd.R (Kd.int .i64) 3 wc w.heap.size (fun _ => True) v374 t372) ∧ Aside0 (Below w.heap.size w wc))
     case first =>
      have H := HC19.out
      clear HC19
      by_cases c24 : t365 = 0
      ·
       rw [if_pos c24] at H
       have c24b0 : (t365 == 0) = true := beq_iff_eq.mpr c24
       have c24b1 : (t365 != 0) = false := bne_eq_false_iff_eq.mpr c24
       clear c24
       (first | rw [c24b0] | (simp only [i64_w, i32_w]; rw [c24b0]) | skip)
       by_cases c25 : t369 = 0
       ·
        rw [if_pos c25] at H
        have c25b0 : (t369 == 0) = true := beq_iff_eq.mpr c25
        have c25b1 : (t369 != 0) = false := bne_eq_false_iff_eq.mpr c25
        clear c25
        by_cases c26 : t373 = 0
        ·
         rw [if_pos c26] at H
         have c26b0 : (t373 == 0) = true := beq_iff_eq.mpr c26
         have c26b1 : (t373 != 0) = false := bne_eq_false_iff_eq.mpr c26
         clear c26
         by_cases c27 : (t364.length : Int) = (l0.length : Int)
         ·
          rw [if_pos c27] at H
          have c27b0 : ((t364.length : Int) == (l0.length : Int)) = true := beq_iff_eq.mpr c27
          have c27b1 : ((t364.length : Int) != (l0.length : Int)) = false := bne_eq_false_iff_eq.mpr c27
          have c27b2 : (t364.length == l0.length) = true := by first | simpa using c27 | (simp at c27 ⊢; omega)
          clear c27
          by_cases c28 : (t368.length : Int) = (l0.length : Int)
          ·
           rw [if_pos c28] at H
           have c28b0 : ((t368.length : Int) == (l0.length : Int)) = true := beq_iff_eq.mpr c28
           have c28b1 : ((t368.length : Int) != (l0.length : Int)) = false := bne_eq_false_iff_eq.mpr c28
           have c28b2 : (t368.length == l0.length) = true := by first | simpa using c28 | (simp at c28 ⊢; omega)
           clear c28
           have H' := As H
           clear H
           obtain ⟨Ao29, co29, eo29⟩ := Kd.R_slice HO367.out
           subst eo29
           obtain ⟨Ao30, co30, eo30⟩ := Kd.R_slice HO371.out
           subst eo30
           obtain ⟨Ao31, co31, eo31⟩ := Kd.R_slice HO375.out
           subst eo31
           go_wp2
           repeat (go_quiet (fail); try go_wp2)
           go_meet
           case rel => exact ⟨_, (((t372.length : Int) != (l0.length : Int))), (by first | rfl | (simp; done) | (simp [*]; done)), H', ⟨by have := HJ3.out; first | omega | exact Nat.le_refl _⟩, ⟨by (with_reducible repeat (first | apply Kd.Ra | apply Kd.Rn | apply Kd.Rd)); exact HO367.out⟩, ⟨by (with_reducible repeat (first | apply Kd.Ra | apply Kd.Rn | apply Kd.Rd)); exact HO371.out⟩, ⟨by (with_reducible repeat (first | apply Kd.Ra | apply Kd.Rn | apply Kd.Rd)); exact HO375.out⟩, ⟨by repeat (first | (with_reducible first | exact HB.out | apply bla | apply bln | apply bld) | exact HB.out)⟩⟩
          ·
           rw [if_neg c28] at H
           have c28b0 : ((t368.length : Int) == (l0.length : Int)) = false := beq_eq_false_iff_ne.mpr c28
           have c28b1 : ((t368.length : Int) != (l0.length : Int)) = true := bne_iff_ne.mpr c28
           have c28b2 : (t368.length == l0.length) = false := by first | simpa using c28 | (simp at c28 ⊢; omega)
           have H' := As H
           clear H
           obtain ⟨Ao32, co32, eo32⟩ := Kd.R_slice HO367.out
           subst eo32
           obtain ⟨Ao33, co33, eo33⟩ := Kd.R_slice HO371.out
           subst eo33
           go_wp2
           repeat (go_quiet (fail); try go_wp2)
           go_meet
           case rel => exact ⟨_, (true), (by first | rfl | (simp; done) | (simp [*]; done)), H', ⟨by have := HJ3.out; first | omega | exact Nat.le_refl _⟩, ⟨by (with_reducible repeat (first | apply Kd.Ra | apply Kd.Rn | apply Kd.Rd)); exact HO367.out⟩, ⟨by (with_reducible repeat (first | apply Kd.Ra | apply Kd.Rn | apply Kd.Rd)); exact HO371.out⟩, ⟨by (with_reducible repeat (first | apply Kd.Ra | apply Kd.Rn | apply Kd.Rd)); exact HO375.out⟩, ⟨by repeat (first | (with_reducible first | exact HB.out | apply bla | apply bln | apply bld) | exact HB.out)⟩⟩
         ·
          rw [if_neg c27] at H
          have c27b0 : ((t364.length : Int) == (l0.length : Int)) = false := beq_eq_false_iff_ne.mpr c27
          have c27b1 : ((t364.length : Int) != (l0.length : Int)) = true := bne_iff_ne.mpr c27
          have c27b2 : (t364.length == l0.length) = false := by first | simpa using c27 | (simp at c27 ⊢; omega)
          have H' := As H
          clear H
          obtain ⟨Ao34, co34, eo34⟩ := Kd.R_slice HO367.out
          subst eo34
          go_wp2
          repeat (go_quiet (fail); try go_wp2)
          go_meet
          case rel => exact ⟨_, (true), (by first | rfl | (simp; done) | (simp [*]; done)), H', ⟨by have := HJ3.out; first | omega | exact Nat.le_refl _⟩, ⟨by (with_reducible repeat (first | apply Kd.Ra | apply Kd.Rn | apply Kd.Rd)); exact HO367.out⟩, ⟨by (with_reducible repeat (first | apply Kd.Ra | apply Kd.Rn | apply Kd.Rd)); exact HO371.out⟩, ⟨by (with_reducible repeat (first | apply Kd.Ra | apply Kd.Rn | apply Kd.Rd)); exact HO375.out⟩, ⟨by repeat (first | (with_reducible first | exact HB.out | apply bla | apply bln | apply bld) | exact HB.out)⟩⟩
        ·
         rw [if_neg c26] at H
         have c26b0 : (t373 == 0) = false := beq_eq_false_iff_ne.mpr c26
         have c26b1 : (t373 != 0) = true := bne_iff_ne.mpr c26
         have H' := As H
         clear H
         go_wp2
         repeat (go_quiet (fail); try go_wp2)
         go_meet
         case rel => exact ⟨_, (true), (by first | rfl | (simp; done) | (simp [*]; done)), H', ⟨by have := HJ3.out; first | omega | exact Nat.le_refl _⟩, ⟨by (with_reducible repeat (first | apply Kd.Ra | apply Kd.Rn | apply Kd.Rd)); exact HO367.out⟩, ⟨by (with_reducible repeat (first | apply Kd.Ra | apply Kd.Rn | apply Kd.Rd)); exact HO371.out⟩, ⟨by (with_reducible repeat (first | apply Kd.Ra | apply Kd.Rn | apply Kd.Rd)); exact HO375.out⟩, ⟨by repeat (first | (with_reducible first | exact HB.out | apply bla | apply bln | apply bld) | exact HB.out)⟩⟩
       ·
        rw [if_neg c25] at H
        have c25b0 : (t369 == 0) = false := beq_eq_false_iff_ne.mpr c25
        have c25b1 : (t369 != 0) = true := bne_iff_ne.mpr c25
        have H' := As H
        clear H
        go_wp2
        repeat (go_quiet (fail); try go_wp2)
        go_meet
        case rel => exact ⟨_, (true), (by first | rfl | (simp; done) | (simp [*]; done)), H', ⟨by have := HJ3.out; first | omega | exact Nat.le_refl _⟩, ⟨by (with_reducible repeat (first | apply Kd.Ra | apply Kd.Rn | apply Kd.Rd)); exact HO367.out⟩, ⟨by (with_reducible repeat (first | apply Kd.Ra | apply Kd.Rn | apply Kd.Rd)); exact HO371.out⟩, ⟨by (with_reducible repeat (first | apply Kd.Ra | apply Kd.Rn | apply Kd.Rd)); exact HO375.out⟩, ⟨by repeat (first | (with_reducible first | exact HB.out | apply bla | apply bln | apply bld) | exact HB.out)⟩⟩
      ·
       rw [if_neg c24] at H
       have c24b0 : (t365 == 0) = false := beq_eq_false_iff_ne.mpr c24
       have c24b1 : (t365 != 0) = true := bne_iff_ne.mpr c24
       (first | rw [c24b0] | (simp only [i64_w, i32_w]; rw [c24b0]) | skip)
       have H' := As H
       clear H
       go_wp2
       repeat (go_quiet (fail); try go_wp2)
       go_meet
       case rel => exact ⟨_, (true), (by first | rfl | (simp; done) | (simp [*]; done)), H', ⟨by have := HJ3.out; first | omega | exact Nat.le_refl _⟩, ⟨by (with_reducible repeat (first | apply Kd.Ra | apply Kd.Rn | apply Kd.Rd)); exact HO367.out⟩, ⟨by (with_reducible repeat (first | apply Kd.Ra | apply Kd.Rn | apply Kd.Rd)); exact HO371.out⟩, ⟨by (with_reducible repeat (first | apply Kd.Ra | apply Kd.Rn | apply Kd.Rd)); exact HO375.out⟩, ⟨by repeat (first | (with_reducible first | exact HB.out | apply bla | apply bln | apply bld) | exact HB.out)⟩⟩
     case rest =>
      clear HC19
      try clear c1
      try clear c2
      try clear p2
      try clear c6
      try clear c7
      try clear c7b0
      try clear c8
      try clear c11
      try clear c15
      try clear c15b0
      try clear c15b1
      try clear c24
      try clear c24b0
      try clear c24b1
      try clear c25
      try clear c25b0
      try clear c25b1
      try clear c26
      try clear c26b0
      try clear c26b1
      try clear c27
      try clear c27b0
      try clear c27b1
      try clear c27b2
      try clear c28
      try clear c28b0
      try clear c28b1
      try clear c28b2
      try clear p2
      obtain ⟨kq, x78_18, rfl, HA, HJ18, HO_7, HO_9, HO_11, HB⟩ := hcut
      cases kq with
      | zero => exact absurd HA.out (by simp [waveletlaw21_AllocNested.j1])
      | succ kj18 =>
       have H := HA.out
       clear HA
       simp only [waveletlaw21_AllocNested.j1] at H
       by_cases c35 : x78_18 = true
       ·
        subst c35
        have H1 : (some false) = some r := by rw [if_pos rfl] at H; exact H
        clear H
        have H := H1
        clear H1
        obtain rfl := Option.some.inj H
        go_wp2
        repeat (go_quiet (fail); try go_wp2)
        go_ret
        exact ⟨by first | rfl | (simp [errW_none, errW_some] <;> rfl) | (simp [*, errW_none, errW_some] <;> rfl), by repeat (first | (with_reducible first | exact HB.out | apply bla | apply bln | apply bld) | exact HB.out)⟩
       ·
        replace c35 := Bool.eq_false_iff.mpr c35
        subst c35
        have H1 : (waveletlaw21_AllocNested.l0 kj18 l0 t364 t368 t372 (l0.length : Int) 0) = some r := by rw [if_neg (show ¬ (false = true) by decide)] at H; exact H
        clear H
        have H := H1
        clear H1
        have H' := As H
        clear H
        go_wp2
        repeat (go_quiet (fail); try go_wp2)
        go_loopg [81] kj18 (fun kq v81 w' => ∃ (x81_3 : Int), v81 = .int .i64 x81_3 ∧ Aside0 (waveletlaw21_AllocNested.l0 kq l0 t364 t368 t372 (l0.length : Int) x81_3 = some r) ∧ Aside0 (kq ≤ kj18) ∧ Aside0 (Kd.R (Kd.int .i64) 3 w' w.heap.size (fun _ => True) v366 t364) ∧ Aside0 (Kd.R (Kd.int .i64) 3 w' w.heap.size (fun _ => True) v370 t368) ∧ Aside0 (Kd.R (Kd.int .i64) 3 w' w.heap.size (fun _ => True) v374 t372) ∧ Aside0 (Below w.heap.size w w'))
        case atStart => exact ⟨(0), (by first | rfl | (simp; done) | (simp [*]; done)), H', ⟨Nat.le_refl _⟩, ⟨by (with_reducible repeat (first | apply Kd.Ra | apply Kd.Rn | apply Kd.Rd)); exact HO_7.out⟩, ⟨by (with_reducible repeat (first | apply Kd.Ra | apply Kd.Rn | apply Kd.Rd)); exact HO_9.out⟩, ⟨by (with_reducible repeat (first | apply Kd.Ra | apply Kd.Rn | apply Kd.Rd)); exact HO_11.out⟩, ⟨by repeat (first | (with_reducible first | exact HB.out | apply bla | apply bln | apply bld) | exact HB.out)⟩⟩
        case round =>
         clear H'
         try clear c1
         try clear c2
         try clear p2
         try clear c3
         try clear c6
         try clear c7
         try clear c7b0
         try clear c8
         try clear c11
         try clear c15
         try clear c15b0
         try clear c15b1
         try clear c24
         try clear c24b0
         try clear c24b1
         try clear c25
         try clear c25b0
         try clear c25b1
         try clear c26
         try clear c26b0
         try clear c26b1
         try clear c27
         try clear c27b0
         try clear c27b1
         try clear c27b2
         try clear c28
         try clear c28b0
         try clear c28b1
         try clear c28b2
         try clear c35
         try clear p2
         obtain ⟨x81_3, rfl, HA, HK3, HO_7, HO_9, HO_11, HB⟩ := hrel
         cases gk with
         | zero => exact absurd HA.out (by simp [waveletlaw21_AllocNested.l0])
         | succ k3 =>
          have H := HA.out
          clear HA
          simp only [waveletlaw21_AllocNested.l0] at H
          by_cases c36 : x81_3 < (l0.length : Int)
          ·
           rw [if_pos c36] at H
           have c36b0 : decide (x81_3 < (l0.length : Int)) = true := decide_eq_true c36
           clear c36
           have HC37 := As H
           clear H
           go_upto_region 13 with (fail)
           repeat (go_quiet (fail); go_upto_region 13 with (fail))
           go_cut [124] (fun v124 wc => ∃ (kq : Nat) (x124_36 : Bool), v124 = .bool x124_36 ∧ Aside0 (waveletlaw21_AllocNested.j3 kq l0 t364 t368 t372 (l0.length : Int) x81_3 x124_36 = some r) ∧ Aside0 (kq ≤ k3) ∧ Aside0 (Kd.R (Kd.int .i64) 3 wc w.heap.size (fun _ => True) v366 t364) ∧ Aside0 (Kd.R (Kd.int .i64) 3 wc w.heap.size (fun _ => True) v370 t368) ∧ Aside0 (Kd.R (Kd.int .i64) 3 wc w.heap.size (fun _ => True) v374 t372) ∧ Aside0 (Below w.heap.size w wc))
           case first =>
            have H := HC37.out
            clear HC37
            by_cases c38 : 0 ≤ x81_3
            ·
             rw [if_pos c38] at H
             have c38b0 : decide (0 ≤ x81_3) = true := decide_eq_true c38
             clear c38
             (first | rw [c38b0] | (simp only [i64_w, i32_w]; rw [c38b0]) | skip)
             by_cases c39 : x81_3 < (t364.length : Int)
             ·
              rw [if_pos c39] at H
              have c39b0 : decide (x81_3 < (t364.length : Int)) = true := decide_eq_true c39
              clear c39
              by_cases c40 : (rd t364 x81_3) < 0
              ·
               rw [if_pos c40] at H
               have c40b0 : decide ((rd t364 x81_3) < 0) = true := decide_eq_true c40
               clear c40
               have H' := As H
               clear H
               obtain ⟨Ao41, co41, eo41⟩ := Kd.R_slice HO_7.out
               subst eo41
               have p377 : 0 ≤ (x81_3 : Int) := of_decide_eq_true (by first | (with_reducible assumption) | assumption)
               have q377 : x81_3 < (t364.length : Int) := of_decide_eq_true (by first | (with_reducible assumption) | assumption)
               obtain ⟨ad377, e377, hx377_0⟩ := Kd.at_int (Kd.R_reads' HO_7.out).2.2 x81_3 p377 q377
               cases e377
               replace p377 := eq_true p377
               replace q377 := eq_true q377
               go_wp2
               repeat (go_quiet (fail); try go_wp2)
               go_meet
               case rel => exact ⟨_, (true), (by first | rfl | (simp; done) | (simp [*]; done)), H', ⟨by have := HJ3.out; have := HJ18.out; have := HK3.out; first | omega | exact Nat.le_refl _⟩, ⟨by (with_reducible repeat (first | apply Kd.Ra | apply Kd.Rn | apply Kd.Rd)); exact HO_7.out⟩, ⟨by (with_reducible repeat (first | apply Kd.Ra | apply Kd.Rn | apply Kd.Rd)); exact HO_9.out⟩, ⟨by (with_reducible repeat (first | apply Kd.Ra | apply Kd.Rn | apply Kd.Rd)); exact HO_11.out⟩, ⟨by repeat (first | (with_reducible first | exact HB.out | apply bla | apply bln | apply bld) | exact HB.out)⟩⟩
              ·
               rw [if_neg c40] at H
               have c40b0 : decide ((rd t364 x81_3) < 0) = false := decide_eq_false c40
               clear c40
               by_cases c42 : x81_3 < (t368.length : Int)
               ·
                rw [if_pos c42] at H
                have c42b0 : decide (x81_3 < (t368.length : Int)) = true := decide_eq_true c42
                clear c42
                by_cases c43 : (rd t364 x81_3) > (rd t368 x81_3)
                ·
                 rw [if_pos c43] at H
                 have c43b0 : decide ((rd t368 x81_3) < (rd t364 x81_3)) = true := decide_eq_true c43
                 clear c43
                 have H' := As H
                 clear H
                 obtain ⟨Ao44, co44, eo44⟩ := Kd.R_slice HO_7.out
                 subst eo44
                 have p377 : 0 ≤ (x81_3 : Int) := of_decide_eq_true (by first | (with_reducible assumption) | assumption)
                 have q377 : x81_3 < (t364.length : Int) := of_decide_eq_true (by first | (with_reducible assumption) | assumption)
                 obtain ⟨ad377, e377, hx377_0⟩ := Kd.at_int (Kd.R_reads' HO_7.out).2.2 x81_3 p377 q377
                 cases e377
                 replace p377 := eq_true p377
                 replace q377 := eq_true q377
                 have p378 : 0 ≤ (x81_3 : Int) := of_decide_eq_true (by first | (with_reducible assumption) | assumption)
                 have q378 : x81_3 < (t364.length : Int) := of_decide_eq_true (by first | (with_reducible assumption) | assumption)
                 obtain ⟨ad378, e378, hx378_0⟩ := Kd.at_int (Kd.R_reads' HO_7.out).2.2 x81_3 p378 q378
                 obtain rfl : ad377 = ad378 := (by injection e378)
                 replace p378 := eq_true p378
                 replace q378 := eq_true q378
                 obtain ⟨Ao45, co45, eo45⟩ := Kd.R_slice HO_9.out
                 subst eo45
                 have p379 : 0 ≤ (x81_3 : Int) := of_decide_eq_true (by first | (with_reducible assumption) | assumption)
                 have q379 : x81_3 < (t368.length : Int) := of_decide_eq_true (by first | (with_reducible assumption) | assumption)
                 obtain ⟨ad379, e379, hx379_0⟩ := Kd.at_int (Kd.R_reads' HO_9.out).2.2 x81_3 p379 q379
                 cases e379
                 replace p379 := eq_true p379
                 replace q379 := eq_true q379
                 go_wp2
                 repeat (go_quiet (fail); try go_wp2)
                 go_meet
                 case rel => exact ⟨_, (true), (by first | rfl | (simp; done) | (simp [*]; done)), H', ⟨by have := HJ3.out; have := HJ18.out; have := HK3.out; first | omega | exact Nat.le_refl _⟩, ⟨by (with_reducible repeat (first | apply Kd.Ra | apply Kd.Rn | apply Kd.Rd)); exact HO_7.out⟩, ⟨by (with_reducible repeat (first | apply Kd.Ra | apply Kd.Rn | apply Kd.Rd)); exact HO_9.out⟩, ⟨by (with_reducible repeat (first | apply Kd.Ra | apply Kd.Rn | apply Kd.Rd)); exact HO_11.out⟩, ⟨by repeat (first | (with_reducible first | exact HB.out | apply bla | apply bln | apply bld) | exact HB.out)⟩⟩
                ·
                 rw [if_neg c43] at H
                 have c43b0 : decide ((rd t368 x81_3) < (rd t364 x81_3)) = false := decide_eq_false c43
                 clear c43
                 by_cases c46 : x81_3 < (t372.length : Int)
                 ·
                  rw [if_pos c46] at H
                  have c46b0 : decide (x81_3 < (t372.length : Int)) = true := decide_eq_true c46
                  clear c46
                  by_cases c47 : (rd t368 x81_3) > (rd t372 x81_3)
                  ·
                   rw [if_pos c47] at H
                   have c47b0 : decide ((rd t372 x81_3) < (rd t368 x81_3)) = true := decide_eq_true c47
                   clear c47
                   have H' := As H
                   clear H
                   obtain ⟨Ao48, co48, eo48⟩ := Kd.R_slice HO_7.out
                   subst eo48
                   have p377 : 0 ≤ (x81_3 : Int) := of_decide_eq_true (by first | (with_reducible assumption) | assumption)
                   have q377 : x81_3 < (t364.length : Int) := of_decide_eq_true (by first | (with_reducible assumption) | assumption)
                   obtain ⟨ad377, e377, hx377_0⟩ := Kd.at_int (Kd.R_reads' HO_7.out).2.2 x81_3 p377 q377
                   cases e377
                   replace p377 := eq_true p377
                   replace q377 := eq_true q377
                   have p378 : 0 ≤ (x81_3 : Int) := of_decide_eq_true (by first | (with_reducible assumption) | assumption)
                   have q378 : x81_3 < (t364.length : Int) := of_decide_eq_true (by first | (with_reducible assumption) | assumption)
                   obtain ⟨ad378, e378, hx378_0⟩ := Kd.at_int (Kd.R_reads' HO_7.out).2.2 x81_3 p378 q378
                   obtain rfl : ad377 = ad378 := (by injection e378)
                   replace p378 := eq_true p378
                   replace q378 := eq_true q378
                   obtain ⟨Ao49, co49, eo49⟩ := Kd.R_slice HO_9.out
                   subst eo49
                   have p379 : 0 ≤ (x81_3 : Int) := of_decide_eq_true (by first | (with_reducible assumption) | assumption)
                   have q379 : x81_3 < (t368.length : Int) := of_decide_eq_true (by first | (with_reducible assumption) | assumption)
                   obtain ⟨ad379, e379, hx379_0⟩ := Kd.at_int (Kd.R_reads' HO_9.out).2.2 x81_3 p379 q379
                   cases e379
                   replace p379 := eq_true p379
                   replace q379 := eq_true q379
                   have p380 : 0 ≤ (x81_3 : Int) := of_decide_eq_true (by first | (with_reducible assumption) | assumption)
                   have q380 : x81_3 < (t368.length : Int) := of_decide_eq_true (by first | (with_reducible assumption) | assumption)
                   obtain ⟨ad380, e380, hx380_0⟩ := Kd.at_int (Kd.R_reads' HO_9.out).2.2 x81_3 p380 q380
                   obtain rfl : ad379 = ad380 := (by injection e380)
                   replace p380 := eq_true p380
                   replace q380 := eq_true q380
                   obtain ⟨Ao50, co50, eo50⟩ := Kd.R_slice HO_11.out
                   subst eo50
                   have p381 : 0 ≤ (x81_3 : Int) := of_decide_eq_true (by first | (with_reducible assumption) | assumption)
                   have q381 : x81_3 < (t372.length : Int) := of_decide_eq_true (by first | (with_reducible assumption) | assumption)
                   obtain ⟨ad381, e381, hx381_0⟩ := Kd.at_int (Kd.R_reads' HO_11.out).2.2 x81_3 p381 q381
                   cases e381
                   replace p381 := eq_true p381
                   replace q381 := eq_true q381
                   go_wp2
                   repeat (go_quiet (fail); try go_wp2)
                   go_meet
                   case rel => exact ⟨_, (true), (by first | rfl | (simp; done) | (simp [*]; done)), H', ⟨by have := HJ3.out; have := HJ18.out; have := HK3.out; first | omega | exact Nat.le_refl _⟩, ⟨by (with_reducible repeat (first | apply Kd.Ra | apply Kd.Rn | apply Kd.Rd)); exact HO_7.out⟩, ⟨by (with_reducible repeat (first | apply Kd.Ra | apply Kd.Rn | apply Kd.Rd)); exact HO_9.out⟩, ⟨by (with_reducible repeat (first | apply Kd.Ra | apply Kd.Rn | apply Kd.Rd)); exact HO_11.out⟩, ⟨by repeat (first | (with_reducible first | exact HB.out | apply bla | apply bln | apply bld) | exact HB.out)⟩⟩
                  ·
                   rw [if_neg c47] at H
                   have c47b0 : decide ((rd t372 x81_3) < (rd t368 x81_3)) = false := decide_eq_false c47
                   clear c47
                   by_cases c51 : x81_3 < (l0.length : Int)
                   ·
                    rw [if_pos c51] at H
                    have c51b0 : decide (x81_3 < (l0.length : Int)) = true := decide_eq_true c51
                    clear c51
                    have H' := As H
                    clear H
                    obtain ⟨Ao52, co52, eo52⟩ := Kd.R_slice HO_7.out
                    subst eo52
                    have p377 : 0 ≤ (x81_3 : Int) := of_decide_eq_true (by first | (with_reducible assumption) | assumption)
                    have q377 : x81_3 < (t364.length : Int) := of_decide_eq_true (by first | (with_reducible assumption) | assumption)
                    obtain ⟨ad377, e377, hx377_0⟩ := Kd.at_int (Kd.R_reads' HO_7.out).2.2 x81_3 p377 q377
                    cases e377
                    replace p377 := eq_true p377
                    replace q377 := eq_true q377
                    have p378 : 0 ≤ (x81_3 : Int) := of_decide_eq_true (by first | (with_reducible assumption) | assumption)
                    have q378 : x81_3 < (t364.length : Int) := of_decide_eq_true (by first | (with_reducible assumption) | assumption)
                    obtain ⟨ad378, e378, hx378_0⟩ := Kd.at_int (Kd.R_reads' HO_7.out).2.2 x81_3 p378 q378
                    obtain rfl : ad377 = ad378 := (by injection e378)
                    replace p378 := eq_true p378
                    replace q378 := eq_true q378
                    obtain ⟨Ao53, co53, eo53⟩ := Kd.R_slice HO_9.out
                    subst eo53
                    have p379 : 0 ≤ (x81_3 : Int) := of_decide_eq_true (by first | (with_reducible assumption) | assumption)
                    have q379 : x81_3 < (t368.length : Int) := of_decide_eq_true (by first | (with_reducible assumption) | assumption)
                    obtain ⟨ad379, e379, hx379_0⟩ := Kd.at_int (Kd.R_reads' HO_9.out).2.2 x81_3 p379 q379
                    cases e379
                    replace p379 := eq_true p379
                    replace q379 := eq_true q379
                    have p380 : 0 ≤ (x81_3 : Int) := of_decide_eq_true (by first | (with_reducible assumption) | assumption)
                    have q380 : x81_3 < (t368.length : Int) := of_decide_eq_true (by first | (with_reducible assumption) | assumption)
                    obtain ⟨ad380, e380, hx380_0⟩ := Kd.at_int (Kd.R_reads' HO_9.out).2.2 x81_3 p380 q380
                    obtain rfl : ad379 = ad380 := (by injection e380)
                    replace p380 := eq_true p380
                    replace q380 := eq_true q380
                    obtain ⟨Ao54, co54, eo54⟩ := Kd.R_slice HO_11.out
                    subst eo54
                    have p381 : 0 ≤ (x81_3 : Int) := of_decide_eq_true (by first | (with_reducible assumption) | assumption)
                    have q381 : x81_3 < (t372.length : Int) := of_decide_eq_true (by first | (with_reducible assumption) | assumption)
                    obtain ⟨ad381, e381, hx381_0⟩ := Kd.at_int (Kd.R_reads' HO_11.out).2.2 x81_3 p381 q381
                    cases e381
                    replace p381 := eq_true p381
                    replace q381 := eq_true q381
                    have p382 : 0 ≤ (x81_3 : Int) := of_decide_eq_true (by first | (with_reducible assumption) | assumption)
                    have q382 : x81_3 < (t372.length : Int) := of_decide_eq_true (by first | (with_reducible assumption) | assumption)
                    obtain ⟨ad382, e382, hx382_0⟩ := Kd.at_int (Kd.R_reads' HO_11.out).2.2 x81_3 p382 q382
                    obtain rfl : ad381 = ad382 := (by injection e382)
                    replace p382 := eq_true p382
                    replace q382 := eq_true q382
                    have p383 : 0 ≤ (x81_3 : Int) := of_decide_eq_true (by first | (with_reducible assumption) | assumption)
                    have q383 : x81_3 < (l0.length : Int) := of_decide_eq_true (by first | (with_reducible assumption) | assumption)
                    obtain ⟨ad383, A383_0, c383_0, A383_1, c383_1, e383, hx383_0, hx383_1, hl383_0, hi383_0, hl383_1, hi383_1⟩ := at_T37 HR0.out x81_3 p383 q383
                    cases e383
                    replace hx383_0 := (HB.out.cell (World.block_lt_of_cell? w _ hx383_0)).trans hx383_0
                    replace hx383_1 := (HB.out.cell (World.block_lt_of_cell? w _ hx383_1)).trans hx383_1
                    have HR383_0 := As hi383_0
                    have HC383_0 := As hl383_0
                    clear hi383_0 hl383_0
                    have HR383_1 := As hi383_1
                    have HC383_1 := As hl383_1
                    clear hi383_1 hl383_1
                    replace p383 := eq_true p383
                    replace q383 := eq_true q383
                    go_wp2
                    repeat (go_quiet (fail); try go_wp2)
                    go_meet
                    case rel => exact ⟨_, (((rd t372 x81_3) != (wrap64 ((((rd_T37 l0 x81_3).f0).length : Int) - 1)))), (by first | rfl | (simp; done) | (simp [*]; done)), H', ⟨by have := HJ3.out; have := HJ18.out; have := HK3.out; first | omega | exact Nat.le_refl _⟩, ⟨by (with_reducible repeat (first | apply Kd.Ra | apply Kd.Rn | apply Kd.Rd)); exact HO_7.out⟩, ⟨by (with_reducible repeat (first | apply Kd.Ra | apply Kd.Rn | apply Kd.Rd)); exact HO_9.out⟩, ⟨by (with_reducible repeat (first | apply Kd.Ra | apply Kd.Rn | apply Kd.Rd)); exact HO_11.out⟩, ⟨by repeat (first | (with_reducible first | exact HB.out | apply bla | apply bln | apply bld) | exact HB.out)⟩⟩
                   ·
                    rw [if_neg c51] at H
                    exact absurd H (by simp)
                 ·
                  rw [if_neg c46] at H
                  exact absurd H (by simp)
               ·
                rw [if_neg c42] at H
                exact absurd H (by simp)
             ·
              rw [if_neg c39] at H
              exact absurd H (by simp)
            ·
             rw [if_neg c38] at H
             exact absurd H (by simp)
           case rest =>
            clear HC37
            try clear c1
            try clear c2
            try clear p2
            try clear c3
            try clear p3
            try clear q3
            try clear hx3
            try clear c4
            try clear c5
            try clear c6
            try clear p6
            try clear c7
            try clear c7b0
            try clear c8
            try clear c11
            try clear c15
            try clear c15b0
            try clear c15b1
            try clear c24
            try clear c24b0
            try clear c24b1
            try clear c25
            try clear c25b0
            try clear c25b1
            try clear c26
            try clear c26b0
            try clear c26b1
            try clear c27
            try clear c27b0
            try clear c27b1
            try clear c27b2
            try clear c28
            try clear c28b0
            try clear c28b1
            try clear c28b2
            try clear c35
            try clear c36
            try clear c36b0
            try clear p37
            try clear q37
            try clear hx37
            try clear c38
            try clear c38b0
            try clear p38
            try clear q38
            try clear hx38
            try clear c39
            try clear c39b0
            try clear c40
            try clear c40b0
            try clear c42
            try clear c42b0
            try clear c43
            try clear c43b0
            try clear c46
            try clear c46b0
            try clear c47
            try clear c47b0
            try clear c51
            try clear c51b0
            try clear hx377_0
            try clear hx378_0
            try clear hx379_0
            try clear hx380_0
            try clear hx381_0
            try clear hx382_0
            try clear hx383_0
            try clear hx383_1
            try clear p2
            try clear p377
            try clear p378
            try clear p379
            try clear p380
            try clear p381
            try clear p382
            try clear p383
            try clear q377
            try clear q378
            try clear q379
            try clear q380
            try clear q381
            try clear q382
            try clear q383
            obtain ⟨kq, x124_36, rfl, HA, HJ36, HO_7, HO_9, HO_11, HB⟩ := hcut
            cases kq with
            | zero => exact absurd HA.out (by simp [waveletlaw21_AllocNested.j3])
            | succ kj36 =>
             have H := HA.out
             clear HA
             simp only [waveletlaw21_AllocNested.j3] at H
             by_cases c55 : x124_36 = true
             ·
              subst c55
              have H1 : (some false) = some r := by rw [if_pos rfl] at H; exact H
              clear H
              have H := H1
              clear H1
              obtain rfl := Option.some.inj H
              go_wp2
              repeat (go_quiet (fail); try go_wp2)
              go_ret
              exact ⟨by first | rfl | (simp [errW_none, errW_some] <;> rfl) | (simp [*, errW_none, errW_some] <;> rfl), by repeat (first | (with_reducible first | exact HB.out | apply bla | apply bln | apply bld) | exact HB.out)⟩
             ·
              replace c55 := Bool.eq_false_iff.mpr c55
              subst c55
              have H1 : (waveletlaw21_AllocNested.l0 kj36 l0 t364 t368 t372 (l0.length : Int) (wrap64 (x81_3 + 1))) = some r := by rw [if_neg (show ¬ (false = true) by decide)] at H; exact H
              clear H
              have H := H1
              clear H1
              have H' := As H
              clear H
              go_wp2
              repeat (go_quiet (fail); try go_wp2)
              go_roundg kj36
              case measure => have := HJ3.out; have := HJ18.out; have := HK3.out; have := HJ36.out; omega
              case rel => exact ⟨(wrap64 (x81_3 + 1)), (by first | rfl | (simp; done) | (simp [*]; done)), H', ⟨by have := HJ3.out; have := HJ18.out; have := HK3.out; have := HJ36.out; omega⟩, ⟨by (with_reducible repeat (first | apply Kd.Ra | apply Kd.Rn | apply Kd.Rd)); exact HO_7.out⟩, ⟨by (with_reducible repeat (first | apply Kd.Ra | apply Kd.Rn | apply Kd.Rd)); exact HO_9.out⟩, ⟨by (with_reducible repeat (first | apply Kd.Ra | apply Kd.Rn | apply Kd.Rd)); exact HO_11.out⟩, ⟨by repeat (first | (with_reducible first | exact HB.out | apply bla | apply bln | apply bld) | exact HB.out)⟩⟩
          ·
           rw [if_neg c36] at H
           have c36b0 : decide (x81_3 < (l0.length : Int)) = false := decide_eq_false c36
           clear c36
           replace H := Option.bind_eq_some_iff.mp H
           obtain ⟨t376, A560, H⟩ := H
           replace H : (some t376) = some r := H
           have A56 := As A560
           clear A560
           obtain rfl := Option.some.inj H
           go_wp2_with (first | (go_at_call 10; (with_reducible refine (waveletlaw21_exampleHolds.calls k3  t376 _ A56.out).mono ?_); rintro e w57 ⟨rfl, hb⟩; have n0_ := As (Kd.Rb (by (with_reducible repeat (first | apply Kd.Ra | apply Kd.Rn | apply Kd.Rd)); exact HO_7.out) hb); have n1_ := As (Kd.Rb (by (with_reducible repeat (first | apply Kd.Ra | apply Kd.Rn | apply Kd.Rd)); exact HO_9.out) hb); have n2_ := As (Kd.Rb (by (with_reducible repeat (first | apply Kd.Ra | apply Kd.Rn | apply Kd.Rd)); exact HO_11.out) hb); have n3_ := As (below_step (by repeat (first | (with_reducible first | exact HB.out | apply bla | apply bln | apply bld) | exact HB.out)) hb); clear HO_7; clear HO_9; clear HO_11; clear HB; have HO_7 := n0_; have HO_9 := n1_; have HO_11 := n2_; have HB := n3_; clear n0_ n1_ n2_ n3_; (try clear hb); (try clear hb2); (try clear hk); (try clear hi)))
           repeat (go_quiet (first | (go_at_call 10; (with_reducible refine (waveletlaw21_exampleHolds.calls k3  t376 _ A56.out).mono ?_); rintro e w57 ⟨rfl, hb⟩; have n0_ := As (Kd.Rb (by (with_reducible repeat (first | apply Kd.Ra | apply Kd.Rn | apply Kd.Rd)); exact HO_7.out) hb); have n1_ := As (Kd.Rb (by (with_reducible repeat (first | apply Kd.Ra | apply Kd.Rn | apply Kd.Rd)); exact HO_9.out) hb); have n2_ := As (Kd.Rb (by (with_reducible repeat (first | apply Kd.Ra | apply Kd.Rn | apply Kd.Rd)); exact HO_11.out) hb); have n3_ := As (below_step (by repeat (first | (with_reducible first | exact HB.out | apply bla | apply bln | apply bld) | exact HB.out)) hb); clear HO_7; clear HO_9; clear HO_11; clear HB; have HO_7 := n0_; have HO_9 := n1_; have HO_11 := n2_; have HB := n3_; clear n0_ n1_ n2_ n3_; (try clear hb); (try clear hb2); (try clear hk); (try clear hi))); try go_wp2_with (first | (go_at_call 10; (with_reducible refine (waveletlaw21_exampleHolds.calls k3  t376 _ A56.out).mono ?_); rintro e w57 ⟨rfl, hb⟩; have n0_ := As (Kd.Rb (by (with_reducible repeat (first | apply Kd.Ra | apply Kd.Rn | apply Kd.Rd)); exact HO_7.out) hb); have n1_ := As (Kd.Rb (by (with_reducible repeat (first | apply Kd.Ra | apply Kd.Rn | apply Kd.Rd)); exact HO_9.out) hb); have n2_ := As (Kd.Rb (by (with_reducible repeat (first | apply Kd.Ra | apply Kd.Rn | apply Kd.Rd)); exact HO_11.out) hb); have n3_ := As (below_step (by repeat (first | (with_reducible first | exact HB.out | apply bla | apply bln | apply bld) | exact HB.out)) hb); clear HO_7; clear HO_9; clear HO_11; clear HB; have HO_7 := n0_; have HO_9 := n1_; have HO_11 := n2_; have HB := n3_; clear n0_ n1_ n2_ n3_; (try clear hb); (try clear hb2); (try clear hk); (try clear hi))))
           go_ret
           exact ⟨by first | rfl | (simp [errW_none, errW_some] <;> rfl) | (simp [*, errW_none, errW_some] <;> rfl), by repeat (first | (with_reducible first | exact HB.out | apply bla | apply bln | apply bld) | exact HB.out)⟩
    ·
     rw [if_neg c15] at H
     have c15b0 : (t362 == 0) = false := beq_eq_false_iff_ne.mpr c15
     have c15b1 : (t362 != 0) = true := bne_iff_ne.mpr c15
     replace H := Option.bind_eq_some_iff.mp H
     obtain ⟨t363, A580, H⟩ := H
     replace H : (some t363) = some r := H
     have A58 := As A580
     clear A580
     obtain rfl := Option.some.inj H
     go_wp2_with (first | (go_at_call 20; (with_reducible refine (waveletref21_ValidCurves.calls kj3 _ _ l0 t362 _ ?side1 ?side2 A14.out).mono ?_); (case side1 => repeat (first | exact (Kd.C_below HR0.out HB.out) | (with_reducible refine Kd.C_alloc ?_ _) | (with_reducible refine Kd.C_drewN ?_ _) | (with_reducible refine Kd.C_drew ?_))); (case side2 => exact HC0.out); rintro e w59 ⟨rfl, hb⟩; have n0_ := As (below_step (by repeat (first | (with_reducible first | exact HB.out | apply bla | apply bln | apply bld) | exact HB.out)) hb); clear HB; have HB := n0_; clear n0_; (try clear hb); (try clear hb2); (try clear hk); (try clear hi)) | (go_at_call 10; (with_reducible refine (waveletlaw21_exampleHolds.calls kj3  t363 _ A58.out).mono ?_); rintro e w60 ⟨rfl, hb⟩; have n0_ := As (below_step (by repeat (first | (with_reducible first | exact HB.out | apply bla | apply bln | apply bld) | exact HB.out)) hb); clear HB; have HB := n0_; clear n0_; (try clear hb); (try clear hb2); (try clear hk); (try clear hi)))
     repeat (go_quiet (first | (go_at_call 20; (with_reducible refine (waveletref21_ValidCurves.calls kj3 _ _ l0 t362 _ ?side1 ?side2 A14.out).mono ?_); (case side1 => repeat (first | exact (Kd.C_below HR0.out HB.out) | (with_reducible refine Kd.C_alloc ?_ _) | (with_reducible refine Kd.C_drewN ?_ _) | (with_reducible refine Kd.C_drew ?_))); (case side2 => exact HC0.out); rintro e w59 ⟨rfl, hb⟩; have n0_ := As (below_step (by repeat (first | (with_reducible first | exact HB.out | apply bla | apply bln | apply bld) | exact HB.out)) hb); clear HB; have HB := n0_; clear n0_; (try clear hb); (try clear hb2); (try clear hk); (try clear hi)) | (go_at_call 10; (with_reducible refine (waveletlaw21_exampleHolds.calls kj3  t363 _ A58.out).mono ?_); rintro e w60 ⟨rfl, hb⟩; have n0_ := As (below_step (by repeat (first | (with_reducible first | exact HB.out | apply bla | apply bln | apply bld) | exact HB.out)) hb); clear HB; have HB := n0_; clear n0_; (try clear hb); (try clear hb2); (try clear hk); (try clear hi))); try go_wp2_with (first | (go_at_call 20; (with_reducible refine (waveletref21_ValidCurves.calls kj3 _ _ l0 t362 _ ?side1 ?side2 A14.out).mono ?_); (case side1 => repeat (first | exact (Kd.C_below HR0.out HB.out) | (with_reducible refine Kd.C_alloc ?_ _) | (with_reducible refine Kd.C_drewN ?_ _) | (with_reducible refine Kd.C_drew ?_))); (case side2 => exact HC0.out); rintro e w59 ⟨rfl, hb⟩; have n0_ := As (below_step (by repeat (first | (with_reducible first | exact HB.out | apply bla | apply bln | apply bld) | exact HB.out)) hb); clear HB; have HB := n0_; clear n0_; (try clear hb); (try clear hb2); (try clear hk); (try clear hi)) | (go_at_call 10; (with_reducible refine (waveletlaw21_exampleHolds.calls kj3  t363 _ A58.out).mono ?_); rintro e w60 ⟨rfl, hb⟩; have n0_ := As (below_step (by repeat (first | (with_reducible first | exact HB.out | apply bla | apply bln | apply bld) | exact HB.out)) hb); clear HB; have HB := n0_; clear n0_; (try clear hb); (try clear hb2); (try clear hk); (try clear hi))))
     go_ret
     exact ⟨by first | rfl | (simp [errW_none, errW_some] <;> rfl) | (simp [*, errW_none, errW_some] <;> rfl), by repeat (first | (with_reducible first | exact HB.out | apply bla | apply bln | apply bld) | exact HB.out)⟩

end Go.Proofs.Ytgmadhlebpbcpaa.P
