-- Written by a program of this session (wip/gen/pr.py, over the kit's print): Lean checks it.
import Derived.Test.YtgmadhlebpbcpaaPx0
import Derived.Test.YtgmadhlebpbcpaaPx4
import Derived.Test.YtgmadhlebpbcpaaPx6
import Derived.Test.YtgmadhlebpbcpaaPx14
namespace Go.Proofs.Ytgmadhlebpbcpaa.P
open Go.RowKit Go.Proofs.YtgmadhlebpbcpaaW.PrintWords Go.Proofs.YtgmadhlebpbcpaaW.PrintLast Go.Proofs.YtgmadhlebpbcpaaW.PrintMore
attribute [local go_sem] max2_int min2_int max_two min_two max_three min_three max_four min_four   -- for this text's walks alone
set_option linter.unusedVariables false
set_option linter.unusedSimpArgs false

/-! ### waveletlaw21_AllocOptimal: function 7 -/
mutual
def waveletlaw21_AllocOptimal.j0 : Nat → List (S37) → Int → Bool → Option (Bool)
 | 0, _, _, _ => none
 | k + 1, x0, x1, x25 => if x25 = true then ((waveletlaw21_exampleHolds.f k).bind fun t343 => (some t343)) else (waveletlaw21_AllocOptimal.l0 k x0 x1 1 x0 (x0.length : Int) 0)
def waveletlaw21_AllocOptimal.l0 : Nat → List (S37) → Int → Int → List (S37) → Int → Int → Option (Bool)
 | 0, _, _, _, _, _, _ => none
 | k + 1, x0, x1, x5, x27, x28, x29 => if x29 < x28 then (if 0 ≤ x29 then (if x29 < (x27.length : Int) then ((waveletref20_Valid.f k ((rd_T37 x27 x29).f0) ((rd_T37 x27 x29).f1)).bind fun t346 => (if t346 = true then (waveletlaw21_AllocOptimal.j2 k x0 x1 x5 x27 x28 x29 (decide ((((rd_T37 x27 x29).f0).length : Int) > 6)) ((rd_T37 x27 x29).f0) ((rd_T37 x27 x29).f1)) else (waveletlaw21_AllocOptimal.j2 k x0 x1 x5 x27 x28 x29 true ((rd_T37 x27 x29).f0) ((rd_T37 x27 x29).f1)))) else (none)) else (none)) else ((alloc_Choose.f k x0 x1).bind fun bt348 => ((waveletref21_Cost.f k x0 bt348.1).bind fun bt352 => (if bt348.2 = 0 then (if bt352.2.2 = 0 then (waveletlaw21_AllocOptimal.j3 k x0 x5 bt352.1 bt352.2.1 (decide (bt352.1 > x1))) else (waveletlaw21_AllocOptimal.j3 k x0 x5 bt352.1 bt352.2.1 true)) else (waveletlaw21_AllocOptimal.j3 k x0 x5 bt352.1 bt352.2.1 true))))
def waveletlaw21_AllocOptimal.j2 : Nat → List (S37) → Int → Int → List (S37) → Int → Int → Bool → List Int → List Int → Option (Bool)
 | 0, _, _, _, _, _, _, _, _, _ => none
 | k + 1, x0, x1, x5, x27, x28, x29, x41, x346000, x346001 => if x41 = true then ((waveletlaw21_exampleHolds.f k).bind fun t347 => (some t347)) else (waveletlaw21_AllocOptimal.l0 k x0 x1 (wrap64 (x5 * (x346000.length : Int))) x27 x28 (wrap64 (x29 + 1)))
def waveletlaw21_AllocOptimal.j3 : Nat → List (S37) → Int → Int → Int → Bool → Option (Bool)
 | 0, _, _, _, _, _ => none
 | k + 1, x0, x5, x10, x11, x72 => if x72 = true then (some false) else (waveletlaw21_AllocOptimal.l1 k x0 x5 x10 x11 0)
def waveletlaw21_AllocOptimal.l1 : Nat → List (S37) → Int → Int → Int → Int → Option (Bool)
 | 0, _, _, _, _, _ => none
 | k + 1, x0, x5, x10, x11, x13 => if x13 < x5 then (waveletlaw21_AllocOptimal.l2 k x0 x5 x10 x11 x13 0 0 x13 x0 (x0.length : Int) 0) else ((waveletlaw21_exampleHolds.f k).bind fun t355 => (some t355))
def waveletlaw21_AllocOptimal.l2 : Nat → List (S37) → Int → Int → Int → Int → Int → Int → Int → List (S37) → Int → Int → Option (Bool)
 | 0, _, _, _, _, _, _, _, _, _, _, _ => none
 | k + 1, x0, x5, x10, x11, x13, x14, x15, x16, x79, x80, x81 => if x81 < x80 then (if 0 ≤ x81 then (if x81 < (x79.length : Int) then (if (((rd_T37 x79 x81).f0).length : Int) = 0 then (none) else (if 0 ≤ (Int.tmod x16 (((rd_T37 x79 x81).f0).length : Int)) then (if (Int.tmod x16 (((rd_T37 x79 x81).f0).length : Int)) < (((rd_T37 x79 x81).f0).length : Int) then (if (Int.tmod x16 (((rd_T37 x79 x81).f0).length : Int)) < (((rd_T37 x79 x81).f1).length : Int) then (waveletlaw21_AllocOptimal.l2 k x0 x5 x10 x11 x13 (wrap64 (x14 + (rd ((rd_T37 x79 x81).f0) (Int.tmod x16 (((rd_T37 x79 x81).f0).length : Int))))) (wrap64 (x15 + (rd ((rd_T37 x79 x81).f1) (Int.tmod x16 (((rd_T37 x79 x81).f0).length : Int))))) (wrap64 (Int.tdiv x16 (((rd_T37 x79 x81).f0).length : Int))) x79 x80 (wrap64 (x81 + 1))) else (none)) else (none)) else (none))) else (none)) else (none)) else (if x14 ≤ x10 then (waveletlaw21_AllocOptimal.j6 k x0 x5 x10 x11 x13 (decide (x15 < x11))) else (waveletlaw21_AllocOptimal.j6 k x0 x5 x10 x11 x13 false))
def waveletlaw21_AllocOptimal.j6 : Nat → List (S37) → Int → Int → Int → Int → Bool → Option (Bool)
 | 0, _, _, _, _, _, _ => none
 | k + 1, x0, x5, x10, x11, x13, x120 => if x120 = true then (some false) else (waveletlaw21_AllocOptimal.l1 k x0 x5 x10 x11 (wrap64 (x13 + 1)))
end
def waveletlaw21_AllocOptimal.f (k : Nat) (l0 : List (S37)) (a1 : Int) : Option (Bool) := if (l0.length : Int) > 4 then (waveletlaw21_AllocOptimal.j0 k l0 a1 true) else (waveletlaw21_AllocOptimal.j0 k l0 a1 (decide (a1 < 0)))
theorem waveletlaw21_AllocOptimal.mono_l : ∀ k, (∀ y0 y1 y2, LeO (waveletlaw21_AllocOptimal.j0 k y0 y1 y2) (waveletlaw21_AllocOptimal.j0 (k + 1) y0 y1 y2)) ∧ (∀ y0 y1 y2 y3 y4 y5, LeO (waveletlaw21_AllocOptimal.l0 k y0 y1 y2 y3 y4 y5) (waveletlaw21_AllocOptimal.l0 (k + 1) y0 y1 y2 y3 y4 y5)) ∧ (∀ y0 y1 y2 y3 y4 y5 y6 y7 y8, LeO (waveletlaw21_AllocOptimal.j2 k y0 y1 y2 y3 y4 y5 y6 y7 y8) (waveletlaw21_AllocOptimal.j2 (k + 1) y0 y1 y2 y3 y4 y5 y6 y7 y8)) ∧ (∀ y0 y1 y2 y3 y4, LeO (waveletlaw21_AllocOptimal.j3 k y0 y1 y2 y3 y4) (waveletlaw21_AllocOptimal.j3 (k + 1) y0 y1 y2 y3 y4)) ∧ (∀ y0 y1 y2 y3 y4, LeO (waveletlaw21_AllocOptimal.l1 k y0 y1 y2 y3 y4) (waveletlaw21_AllocOptimal.l1 (k + 1) y0 y1 y2 y3 y4)) ∧ (∀ y0 y1 y2 y3 y4 y5 y6 y7 y8 y9 y10, LeO (waveletlaw21_AllocOptimal.l2 k y0 y1 y2 y3 y4 y5 y6 y7 y8 y9 y10) (waveletlaw21_AllocOptimal.l2 (k + 1) y0 y1 y2 y3 y4 y5 y6 y7 y8 y9 y10)) ∧ (∀ y0 y1 y2 y3 y4 y5, LeO (waveletlaw21_AllocOptimal.j6 k y0 y1 y2 y3 y4 y5) (waveletlaw21_AllocOptimal.j6 (k + 1) y0 y1 y2 y3 y4 y5))
 | 0 => ⟨fun _ _ _ r h => by simp [waveletlaw21_AllocOptimal.j0] at h, fun _ _ _ _ _ _ r h => by simp [waveletlaw21_AllocOptimal.l0] at h, fun _ _ _ _ _ _ _ _ _ r h => by simp [waveletlaw21_AllocOptimal.j2] at h, fun _ _ _ _ _ r h => by simp [waveletlaw21_AllocOptimal.j3] at h, fun _ _ _ _ _ r h => by simp [waveletlaw21_AllocOptimal.l1] at h, fun _ _ _ _ _ _ _ _ _ _ _ r h => by simp [waveletlaw21_AllocOptimal.l2] at h, fun _ _ _ _ _ _ r h => by simp [waveletlaw21_AllocOptimal.j6] at h⟩
 | k + 1 => by
  obtain ⟨ih0, ih1, ih2, ih3, ih4, ih5, ih6⟩ := waveletlaw21_AllocOptimal.mono_l k
  refine ⟨?_, ?_, ?_, ?_, ?_, ?_, ?_⟩
  ·
   intro y0 y1 y2
   unfold waveletlaw21_AllocOptimal.j0
   repeat' first
   | (with_reducible exact ih0 _ _ _)
   | (with_reducible exact ih1 _ _ _ _ _ _)
   | (with_reducible exact ih2 _ _ _ _ _ _ _ _ _)
   | (with_reducible exact ih3 _ _ _ _ _)
   | (with_reducible exact ih4 _ _ _ _ _)
   | (with_reducible exact ih5 _ _ _ _ _ _ _ _ _ _ _)
   | (with_reducible exact ih6 _ _ _ _ _ _)
   | (with_reducible exact alloc_Choose.mono _ _ _)
   | (with_reducible exact waveletlaw21_exampleHolds.mono _)
   | (with_reducible exact waveletref20_Valid.mono _ _ _)
   | (with_reducible exact waveletref21_Cost.mono _ _ _)
   | (with_reducible exact LeO.refl _)
   | (with_reducible exact LeO.none _)
   | (with_reducible refine LeO.ite ?_ ?_)
   | (with_reducible refine LeO.bind ?_ (fun _ => ?_))
   | exact ih0 _ _ _
   | exact ih1 _ _ _ _ _ _
   | exact ih2 _ _ _ _ _ _ _ _ _
   | exact ih3 _ _ _ _ _
   | exact ih4 _ _ _ _ _
   | exact ih5 _ _ _ _ _ _ _ _ _ _ _
   | exact ih6 _ _ _ _ _ _
   | exact alloc_Choose.mono _ _ _
   | exact waveletlaw21_exampleHolds.mono _
   | exact waveletref20_Valid.mono _ _ _
   | exact waveletref21_Cost.mono _ _ _
   | exact LeO.none _
   | refine LeO.ite ?_ ?_
   | refine LeO.bind ?_ (fun _ => ?_)
  ·
   intro y0 y1 y2 y3 y4 y5
   unfold waveletlaw21_AllocOptimal.l0
   repeat' first
   | (with_reducible exact ih0 _ _ _)
   | (with_reducible exact ih1 _ _ _ _ _ _)
   | (with_reducible exact ih2 _ _ _ _ _ _ _ _ _)
   | (with_reducible exact ih3 _ _ _ _ _)
   | (with_reducible exact ih4 _ _ _ _ _)
   | (with_reducible exact ih5 _ _ _ _ _ _ _ _ _ _ _)
   | (with_reducible exact ih6 _ _ _ _ _ _)
   | (with_reducible exact alloc_Choose.mono _ _ _)
   | (with_reducible exact waveletlaw21_exampleHolds.mono _)
   | (with_reducible exact waveletref20_Valid.mono _ _ _)
   | (with_reducible exact waveletref21_Cost.mono _ _ _)
   | (with_reducible exact LeO.refl _)
   | (with_reducible exact LeO.none _)
   | (with_reducible refine LeO.ite ?_ ?_)
   | (with_reducible refine LeO.bind ?_ (fun _ => ?_))
   | exact ih0 _ _ _
   | exact ih1 _ _ _ _ _ _
   | exact ih2 _ _ _ _ _ _ _ _ _
   | exact ih3 _ _ _ _ _
   | exact ih4 _ _ _ _ _
   | exact ih5 _ _ _ _ _ _ _ _ _ _ _
   | exact ih6 _ _ _ _ _ _
   | exact alloc_Choose.mono _ _ _
   | exact waveletlaw21_exampleHolds.mono _
   | exact waveletref20_Valid.mono _ _ _
   | exact waveletref21_Cost.mono _ _ _
   | exact LeO.none _
   | refine LeO.ite ?_ ?_
   | refine LeO.bind ?_ (fun _ => ?_)
  ·
   intro y0 y1 y2 y3 y4 y5 y6 y7 y8
   unfold waveletlaw21_AllocOptimal.j2
   repeat' first
   | (with_reducible exact ih0 _ _ _)
   | (with_reducible exact ih1 _ _ _ _ _ _)
   | (with_reducible exact ih2 _ _ _ _ _ _ _ _ _)
   | (with_reducible exact ih3 _ _ _ _ _)
   | (with_reducible exact ih4 _ _ _ _ _)
   | (with_reducible exact ih5 _ _ _ _ _ _ _ _ _ _ _)
   | (with_reducible exact ih6 _ _ _ _ _ _)
   | (with_reducible exact alloc_Choose.mono _ _ _)
   | (with_reducible exact waveletlaw21_exampleHolds.mono _)
   | (with_reducible exact waveletref20_Valid.mono _ _ _)
   | (with_reducible exact waveletref21_Cost.mono _ _ _)
   | (with_reducible exact LeO.refl _)
   | (with_reducible exact LeO.none _)
   | (with_reducible refine LeO.ite ?_ ?_)
   | (with_reducible refine LeO.bind ?_ (fun _ => ?_))
   | exact ih0 _ _ _
   | exact ih1 _ _ _ _ _ _
   | exact ih2 _ _ _ _ _ _ _ _ _
   | exact ih3 _ _ _ _ _
   | exact ih4 _ _ _ _ _
   | exact ih5 _ _ _ _ _ _ _ _ _ _ _
   | exact ih6 _ _ _ _ _ _
   | exact alloc_Choose.mono _ _ _
   | exact waveletlaw21_exampleHolds.mono _
   | exact waveletref20_Valid.mono _ _ _
   | exact waveletref21_Cost.mono _ _ _
   | exact LeO.none _
   | refine LeO.ite ?_ ?_
   | refine LeO.bind ?_ (fun _ => ?_)
  ·
   intro y0 y1 y2 y3 y4
   unfold waveletlaw21_AllocOptimal.j3
   repeat' first
   | (with_reducible exact ih0 _ _ _)
   | (with_reducible exact ih1 _ _ _ _ _ _)
   | (with_reducible exact ih2 _ _ _ _ _ _ _ _ _)
   | (with_reducible exact ih3 _ _ _ _ _)
   | (with_reducible exact ih4 _ _ _ _ _)
   | (with_reducible exact ih5 _ _ _ _ _ _ _ _ _ _ _)
   | (with_reducible exact ih6 _ _ _ _ _ _)
   | (with_reducible exact alloc_Choose.mono _ _ _)
   | (with_reducible exact waveletlaw21_exampleHolds.mono _)
   | (with_reducible exact waveletref20_Valid.mono _ _ _)
   | (with_reducible exact waveletref21_Cost.mono _ _ _)
   | (with_reducible exact LeO.refl _)
   | (with_reducible exact LeO.none _)
   | (with_reducible refine LeO.ite ?_ ?_)
   | (with_reducible refine LeO.bind ?_ (fun _ => ?_))
   | exact ih0 _ _ _
   | exact ih1 _ _ _ _ _ _
   | exact ih2 _ _ _ _ _ _ _ _ _
   | exact ih3 _ _ _ _ _
   | exact ih4 _ _ _ _ _
   | exact ih5 _ _ _ _ _ _ _ _ _ _ _
   | exact ih6 _ _ _ _ _ _
   | exact alloc_Choose.mono _ _ _
   | exact waveletlaw21_exampleHolds.mono _
   | exact waveletref20_Valid.mono _ _ _
   | exact waveletref21_Cost.mono _ _ _
   | exact LeO.none _
   | refine LeO.ite ?_ ?_
   | refine LeO.bind ?_ (fun _ => ?_)
  ·
   intro y0 y1 y2 y3 y4
   unfold waveletlaw21_AllocOptimal.l1
   repeat' first
   | (with_reducible exact ih0 _ _ _)
   | (with_reducible exact ih1 _ _ _ _ _ _)
   | (with_reducible exact ih2 _ _ _ _ _ _ _ _ _)
   | (with_reducible exact ih3 _ _ _ _ _)
   | (with_reducible exact ih4 _ _ _ _ _)
   | (with_reducible exact ih5 _ _ _ _ _ _ _ _ _ _ _)
   | (with_reducible exact ih6 _ _ _ _ _ _)
   | (with_reducible exact alloc_Choose.mono _ _ _)
   | (with_reducible exact waveletlaw21_exampleHolds.mono _)
   | (with_reducible exact waveletref20_Valid.mono _ _ _)
   | (with_reducible exact waveletref21_Cost.mono _ _ _)
   | (with_reducible exact LeO.refl _)
   | (with_reducible exact LeO.none _)
   | (with_reducible refine LeO.ite ?_ ?_)
   | (with_reducible refine LeO.bind ?_ (fun _ => ?_))
   | exact ih0 _ _ _
   | exact ih1 _ _ _ _ _ _
   | exact ih2 _ _ _ _ _ _ _ _ _
   | exact ih3 _ _ _ _ _
   | exact ih4 _ _ _ _ _
   | exact ih5 _ _ _ _ _ _ _ _ _ _ _
   | exact ih6 _ _ _ _ _ _
   | exact alloc_Choose.mono _ _ _
   | exact waveletlaw21_exampleHolds.mono _
   | exact waveletref20_Valid.mono _ _ _
   | exact waveletref21_Cost.mono _ _ _
   | exact LeO.none _
   | refine LeO.ite ?_ ?_
   | refine LeO.bind ?_ (fun _ => ?_)
  ·
   intro y0 y1 y2 y3 y4 y5 y6 y7 y8 y9 y10
   unfold waveletlaw21_AllocOptimal.l2
   repeat' first
   | (with_reducible exact ih0 _ _ _)
   | (with_reducible exact ih1 _ _ _ _ _ _)
   | (with_reducible exact ih2 _ _ _ _ _ _ _ _ _)
   | (with_reducible exact ih3 _ _ _ _ _)
   | (with_reducible exact ih4 _ _ _ _ _)
   | (with_reducible exact ih5 _ _ _ _ _ _ _ _ _ _ _)
   | (with_reducible exact ih6 _ _ _ _ _ _)
   | (with_reducible exact alloc_Choose.mono _ _ _)
   | (with_reducible exact waveletlaw21_exampleHolds.mono _)
   | (with_reducible exact waveletref20_Valid.mono _ _ _)
   | (with_reducible exact waveletref21_Cost.mono _ _ _)
   | (with_reducible exact LeO.refl _)
   | (with_reducible exact LeO.none _)
   | (with_reducible refine LeO.ite ?_ ?_)
   | (with_reducible refine LeO.bind ?_ (fun _ => ?_))
   | exact ih0 _ _ _
   | exact ih1 _ _ _ _ _ _
   | exact ih2 _ _ _ _ _ _ _ _ _
   | exact ih3 _ _ _ _ _
   | exact ih4 _ _ _ _ _
   | exact ih5 _ _ _ _ _ _ _ _ _ _ _
   | exact ih6 _ _ _ _ _ _
   | exact alloc_Choose.mono _ _ _
   | exact waveletlaw21_exampleHolds.mono _
   | exact waveletref20_Valid.mono _ _ _
   | exact waveletref21_Cost.mono _ _ _
   | exact LeO.none _
   | refine LeO.ite ?_ ?_
   | refine LeO.bind ?_ (fun _ => ?_)
  ·
   intro y0 y1 y2 y3 y4 y5
   unfold waveletlaw21_AllocOptimal.j6
   repeat' first
   | (with_reducible exact ih0 _ _ _)
   | (with_reducible exact ih1 _ _ _ _ _ _)
   | (with_reducible exact ih2 _ _ _ _ _ _ _ _ _)
   | (with_reducible exact ih3 _ _ _ _ _)
   | (with_reducible exact ih4 _ _ _ _ _)
   | (with_reducible exact ih5 _ _ _ _ _ _ _ _ _ _ _)
   | (with_reducible exact ih6 _ _ _ _ _ _)
   | (with_reducible exact alloc_Choose.mono _ _ _)
   | (with_reducible exact waveletlaw21_exampleHolds.mono _)
   | (with_reducible exact waveletref20_Valid.mono _ _ _)
   | (with_reducible exact waveletref21_Cost.mono _ _ _)
   | (with_reducible exact LeO.refl _)
   | (with_reducible exact LeO.none _)
   | (with_reducible refine LeO.ite ?_ ?_)
   | (with_reducible refine LeO.bind ?_ (fun _ => ?_))
   | exact ih0 _ _ _
   | exact ih1 _ _ _ _ _ _
   | exact ih2 _ _ _ _ _ _ _ _ _
   | exact ih3 _ _ _ _ _
   | exact ih4 _ _ _ _ _
   | exact ih5 _ _ _ _ _ _ _ _ _ _ _
   | exact ih6 _ _ _ _ _ _
   | exact alloc_Choose.mono _ _ _
   | exact waveletlaw21_exampleHolds.mono _
   | exact waveletref20_Valid.mono _ _ _
   | exact waveletref21_Cost.mono _ _ _
   | exact LeO.none _
   | refine LeO.ite ?_ ?_
   | refine LeO.bind ?_ (fun _ => ?_)
theorem waveletlaw21_AllocOptimal.mono : ∀ a0 a1 k, LeO (waveletlaw21_AllocOptimal.f k a0 a1) (waveletlaw21_AllocOptimal.f (k + 1) a0 a1) := by
 intro a0 a1 k
 obtain ⟨ih0, ih1, ih2, ih3, ih4, ih5, ih6⟩ := waveletlaw21_AllocOptimal.mono_l k
 unfold waveletlaw21_AllocOptimal.f
 repeat' first
   | (with_reducible exact ih0 _ _ _)
   | (with_reducible exact ih1 _ _ _ _ _ _)
   | (with_reducible exact ih2 _ _ _ _ _ _ _ _ _)
   | (with_reducible exact ih3 _ _ _ _ _)
   | (with_reducible exact ih4 _ _ _ _ _)
   | (with_reducible exact ih5 _ _ _ _ _ _ _ _ _ _ _)
   | (with_reducible exact ih6 _ _ _ _ _ _)
   | (with_reducible exact alloc_Choose.mono _ _ _)
   | (with_reducible exact waveletlaw21_exampleHolds.mono _)
   | (with_reducible exact waveletref20_Valid.mono _ _ _)
   | (with_reducible exact waveletref21_Cost.mono _ _ _)
   | (with_reducible exact LeO.refl _)
   | (with_reducible exact LeO.none _)
   | (with_reducible refine LeO.ite ?_ ?_)
   | (with_reducible refine LeO.bind ?_ (fun _ => ?_))
   | exact ih0 _ _ _
   | exact ih1 _ _ _ _ _ _
   | exact ih2 _ _ _ _ _ _ _ _ _
   | exact ih3 _ _ _ _ _
   | exact ih4 _ _ _ _ _
   | exact ih5 _ _ _ _ _ _ _ _ _ _ _
   | exact ih6 _ _ _ _ _ _
   | exact alloc_Choose.mono _ _ _
   | exact waveletlaw21_exampleHolds.mono _
   | exact waveletref20_Valid.mono _ _ _
   | exact waveletref21_Cost.mono _ _ _
   | exact LeO.none _
   | refine LeO.ite ?_ ?_
   | refine LeO.bind ?_ (fun _ => ?_)
set_option maxHeartbeats 8000000 in
set_option maxRecDepth 100000 in
theorem waveletlaw21_AllocOptimal.calls (k : Nat) (A0 : Option Addr) (c0 : Nat) (l0 : List (S37)) (a1 : Int) (r : Bool) (w : World) (hr0 : Kd.C k37 w A0 l0.length l0) (hc0 : l0.length ≤ c0) (h : waveletlaw21_AllocOptimal.f k l0 a1 = some r) :
  Calls Try.prog 7 #[.slice A0 l0.length c0, .int .i64 a1] w fun e w' => e = .returned (.bool r) ∧ Below w.heap.size w w' := by
 have hu37 := Try.underlying37
 have HR0 := As hr0
 have HC0 := As hc0
 clear hr0 hc0
 have HB := As (Below.refl w.heap.size w)
 have H : (if (l0.length : Int) > 4 then (waveletlaw21_AllocOptimal.j0 k l0 a1 true) else (waveletlaw21_AllocOptimal.j0 k l0 a1 (decide (a1 < 0)))) = some r := h
 clear h
 have HC3 := As H
 clear H
 go_enter Try.func7, Try.ntmps7
 go_upto_region 1 with (fail)
 repeat (go_quiet (fail); go_upto_region 1 with (fail))
 go_cut [25] (fun v25 wc => ∃ (kq : Nat) (x25_2 : Bool), v25 = .bool x25_2 ∧ Aside0 (waveletlaw21_AllocOptimal.j0 kq l0 a1 x25_2 = some r) ∧ Aside0 (kq ≤ k) ∧ Aside0 (Below w.heap.size w wc))
 case first =>
  have H := HC3.out
  clear HC3
  by_cases c4 : (l0.length : Int) > 4
  ·
   rw [if_pos c4] at H
   have c4b0 : decide (4 < (l0.length : Int)) = true := decide_eq_true c4
   have c4b1 : decide (4 < l0.length) = true := decide_eq_true (by omega)
   clear c4
   (first | rw [c4b0] | (simp only [i64_w, i32_w]; rw [c4b0]) | skip)
   have H' := As H
   clear H
   go_wp2
   repeat (go_quiet (fail); try go_wp2)
   go_meet
   case rel => exact ⟨_, (true), (by first | rfl | (simp; done) | (simp [*]; done)), H', ⟨by first | omega | exact Nat.le_refl _⟩, ⟨by repeat (first | (with_reducible first | exact HB.out | apply bla | apply bln | apply bld) | exact HB.out)⟩⟩
  ·
   rw [if_neg c4] at H
   have c4b0 : decide (4 < (l0.length : Int)) = false := decide_eq_false c4
   have c4b1 : decide (4 < l0.length) = false := decide_eq_false (by omega)
   clear c4
   (first | rw [c4b0] | (simp only [i64_w, i32_w]; rw [c4b0]) | skip)
   have H' := As H
   clear H
   go_wp2
   repeat (go_quiet (fail); try go_wp2)
   go_meet
   case rel => exact ⟨_, (decide (a1 < 0)), (by first | rfl | (simp; done) | (simp [*]; done)), H', ⟨by first | omega | exact Nat.le_refl _⟩, ⟨by repeat (first | (with_reducible first | exact HB.out | apply bla | apply bln | apply bld) | exact HB.out)⟩⟩
 case rest =>
  clear HC3
  try clear p2
  try clear c4
  try clear c4b0
  try clear c4b1
  obtain ⟨kq, x25_2, rfl, HA, HJ2, HB⟩ := hcut
  cases kq with
  | zero => exact absurd HA.out (by simp [waveletlaw21_AllocOptimal.j0])
  | succ kj2 =>
   have H := HA.out
   clear HA
   simp only [waveletlaw21_AllocOptimal.j0] at H
   by_cases c5 : x25_2 = true
   ·
    subst c5
    have H1 : ((waveletlaw21_exampleHolds.f kj2).bind fun t343 => (some t343)) = some r := by rw [if_pos rfl] at H; exact H
    clear H
    have H := H1
    clear H1
    replace H := Option.bind_eq_some_iff.mp H
    obtain ⟨t343, A60, H⟩ := H
    replace H : (some t343) = some r := H
    have A6 := As A60
    clear A60
    obtain rfl := Option.some.inj H
    go_wp2_with (first | (go_at_call 10; (with_reducible refine (waveletlaw21_exampleHolds.calls kj2  t343 _ A6.out).mono ?_); rintro e w7 ⟨rfl, hb⟩; have n0_ := As (below_step (by repeat (first | (with_reducible first | exact HB.out | apply bla | apply bln | apply bld) | exact HB.out)) hb); clear HB; have HB := n0_; clear n0_; (try clear hb); (try clear hb2); (try clear hk); (try clear hi)))
    repeat (go_quiet (first | (go_at_call 10; (with_reducible refine (waveletlaw21_exampleHolds.calls kj2  t343 _ A6.out).mono ?_); rintro e w7 ⟨rfl, hb⟩; have n0_ := As (below_step (by repeat (first | (with_reducible first | exact HB.out | apply bla | apply bln | apply bld) | exact HB.out)) hb); clear HB; have HB := n0_; clear n0_; (try clear hb); (try clear hb2); (try clear hk); (try clear hi))); try go_wp2_with (first | (go_at_call 10; (with_reducible refine (waveletlaw21_exampleHolds.calls kj2  t343 _ A6.out).mono ?_); rintro e w7 ⟨rfl, hb⟩; have n0_ := As (below_step (by repeat (first | (with_reducible first | exact HB.out | apply bla | apply bln | apply bld) | exact HB.out)) hb); clear HB; have HB := n0_; clear n0_; (try clear hb); (try clear hb2); (try clear hk); (try clear hi))))
    go_ret
    exact ⟨by first | rfl | (simp [errW_none, errW_some] <;> rfl) | (simp [*, errW_none, errW_some] <;> rfl), by repeat (first | (with_reducible first | exact HB.out | apply bla | apply bln | apply bld) | exact HB.out)⟩
   ·
    replace c5 := Bool.eq_false_iff.mpr c5
    subst c5
    have H1 : (waveletlaw21_AllocOptimal.l0 kj2 l0 a1 1 l0 (l0.length : Int) 0) = some r := by rw [if_neg (show ¬ (false = true) by decide)] at H; exact H
    clear H
    have H := H1
    clear H1
    have H' := As H
    clear H
    go_wp2
    repeat (go_quiet (fail); try go_wp2)
    go_loopg [5, 29] kj2 (fun kq v5 v29 w' => ∃ (x5_2 : Int) (x29_2 : Int), v5 = .int .i64 x5_2 ∧ v29 = .int .i64 x29_2 ∧ Aside0 (waveletlaw21_AllocOptimal.l0 kq l0 a1 x5_2 l0 (l0.length : Int) x29_2 = some r) ∧ Aside0 (kq ≤ kj2) ∧ Aside0 (Below w.heap.size w w'))
    case atStart => exact ⟨(1), (0), (by first | rfl | (simp; done) | (simp [*]; done)), (by first | rfl | (simp; done) | (simp [*]; done)), H', ⟨Nat.le_refl _⟩, ⟨by repeat (first | (with_reducible first | exact HB.out | apply bla | apply bln | apply bld) | exact HB.out)⟩⟩
    case round =>
     clear H'
     try clear p2
     try clear c4
     try clear c4b0
     try clear c4b1
     try clear c5
     try clear c7
     try clear p2
     obtain ⟨x5_2, x29_2, rfl, rfl, HA, HK2, HB⟩ := hrel
     cases gk with
     | zero => exact absurd HA.out (by simp [waveletlaw21_AllocOptimal.l0])
     | succ k2 =>
      have H := HA.out
      clear HA
      simp only [waveletlaw21_AllocOptimal.l0] at H
      by_cases c8 : x29_2 < (l0.length : Int)
      ·
       rw [if_pos c8] at H
       have c8b0 : decide (x29_2 < (l0.length : Int)) = true := decide_eq_true c8
       clear c8
       by_cases c9 : 0 ≤ x29_2
       ·
        rw [if_pos c9] at H
        have c9b0 : decide (0 ≤ x29_2) = true := decide_eq_true c9
        clear c9
        by_cases c10 : x29_2 < (l0.length : Int)
        ·
         rw [if_pos c10] at H
         have c10b0 : decide (x29_2 < (l0.length : Int)) = true := decide_eq_true c10
         clear c10
         have HC11 := As H
         clear H
         have p344 : 0 ≤ (x29_2 : Int) := of_decide_eq_true (by first | (with_reducible assumption) | assumption)
         have q344 : x29_2 < (l0.length : Int) := of_decide_eq_true (by first | (with_reducible assumption) | assumption)
         obtain ⟨ad344, A344_0, c344_0, A344_1, c344_1, e344, hx344_0, hx344_1, hl344_0, hi344_0, hl344_1, hi344_1⟩ := at_T37 HR0.out x29_2 p344 q344
         cases e344
         replace hx344_0 := (HB.out.cell (World.block_lt_of_cell? w _ hx344_0)).trans hx344_0
         replace hx344_1 := (HB.out.cell (World.block_lt_of_cell? w _ hx344_1)).trans hx344_1
         have HR344_0 := As hi344_0
         have HC344_0 := As hl344_0
         clear hi344_0 hl344_0
         have HR344_1 := As hi344_1
         have HC344_1 := As hl344_1
         clear hi344_1 hl344_1
         replace p344 := eq_true p344
         replace q344 := eq_true q344
         go_upto_region 7 with (first | ((with_reducible refine gate_dst (N := 7) rfl ?_); (try (refine gate_guard (by rfl) ?_; dsimp only)); refine box_event ?hg (N := 7) ?hd (cs := #[.slice none 0 0, .slice none 0 0]) (t := 37) ?hr ?_; (case hd => rfl); (case hg => rfl); (case hr => first | (go_simp; done) | (go_simp; rfl)); intro gb345 hg w12 hbox hb; have n0_ := As (below_step (by repeat (first | (with_reducible first | exact HB.out | apply bla | apply bln | apply bld) | exact HB.out)) hb); have n1_ := As (hbox); have n2_ := As ((by rw [hg]; exact (below_size (by repeat (first | (with_reducible first | exact HB.out | apply bla | apply bln | apply bld) | exact HB.out))) : w.heap.size ≤ gb345)); have n3_ := As ((by rw [hg]; exact (below_size (by repeat (first | (with_reducible first | exact HB.out | apply bla | apply bln | apply bld) | exact HB.out))) : w.heap.size ≤ gb345)); clear HB; have HB := n0_; have BK345 := n1_; have GW345 := n2_; have GE345 := n3_; clear n0_ n1_ n2_ n3_; clear hb hbox hg; have hcz13_0 : w12.cell? ⟨gb345, 0, none⟩ = some (.slice none 0 0) := (blk_cell BK345.out 0).trans rfl; have hcz13_1 : w12.cell? ⟨gb345, 1, none⟩ = some (.slice none 0 0) := (blk_cell BK345.out 1).trans rfl; have hfz13_0 := blk_frozen BK345.out 0; have hfz13_1 := blk_frozen BK345.out 1))
         repeat (go_quiet (first | ((with_reducible refine gate_dst (N := 7) rfl ?_); (try (refine gate_guard (by rfl) ?_; dsimp only)); refine box_event ?hg (N := 7) ?hd (cs := #[.slice none 0 0, .slice none 0 0]) (t := 37) ?hr ?_; (case hd => rfl); (case hg => rfl); (case hr => first | (go_simp; done) | (go_simp; rfl)); intro gb345 hg w12 hbox hb; have n0_ := As (below_step (by repeat (first | (with_reducible first | exact HB.out | apply bla | apply bln | apply bld) | exact HB.out)) hb); have n1_ := As (hbox); have n2_ := As ((by rw [hg]; exact (below_size (by repeat (first | (with_reducible first | exact HB.out | apply bla | apply bln | apply bld) | exact HB.out))) : w.heap.size ≤ gb345)); have n3_ := As ((by rw [hg]; exact (below_size (by repeat (first | (with_reducible first | exact HB.out | apply bla | apply bln | apply bld) | exact HB.out))) : w.heap.size ≤ gb345)); clear HB; have HB := n0_; have BK345 := n1_; have GW345 := n2_; have GE345 := n3_; clear n0_ n1_ n2_ n3_; clear hb hbox hg; have hcz13_0 : w12.cell? ⟨gb345, 0, none⟩ = some (.slice none 0 0) := (blk_cell BK345.out 0).trans rfl; have hcz13_1 : w12.cell? ⟨gb345, 1, none⟩ = some (.slice none 0 0) := (blk_cell BK345.out 1).trans rfl; have hfz13_0 := blk_frozen BK345.out 0; have hfz13_1 := blk_frozen BK345.out 1)); go_upto_region 7 with (first | ((with_reducible refine gate_dst (N := 7) rfl ?_); (try (refine gate_guard (by rfl) ?_; dsimp only)); refine box_event ?hg (N := 7) ?hd (cs := #[.slice none 0 0, .slice none 0 0]) (t := 37) ?hr ?_; (case hd => rfl); (case hg => rfl); (case hr => first | (go_simp; done) | (go_simp; rfl)); intro gb345 hg w12 hbox hb; have n0_ := As (below_step (by repeat (first | (with_reducible first | exact HB.out | apply bla | apply bln | apply bld) | exact HB.out)) hb); have n1_ := As (hbox); have n2_ := As ((by rw [hg]; exact (below_size (by repeat (first | (with_reducible first | exact HB.out | apply bla | apply bln | apply bld) | exact HB.out))) : w.heap.size ≤ gb345)); have n3_ := As ((by rw [hg]; exact (below_size (by repeat (first | (with_reducible first | exact HB.out | apply bla | apply bln | apply bld) | exact HB.out))) : w.heap.size ≤ gb345)); clear HB; have HB := n0_; have BK345 := n1_; have GW345 := n2_; have GE345 := n3_; clear n0_ n1_ n2_ n3_; clear hb hbox hg; have hcz13_0 : w12.cell? ⟨gb345, 0, none⟩ = some (.slice none 0 0) := (blk_cell BK345.out 0).trans rfl; have hcz13_1 : w12.cell? ⟨gb345, 1, none⟩ = some (.slice none 0 0) := (blk_cell BK345.out 1).trans rfl; have hfz13_0 := blk_frozen BK345.out 0; have hfz13_1 := blk_frozen BK345.out 1)))
         (try simp only [Act.put, List.setIfInBounds_toArray, List.set_cons_zero, List.set_cons_succ])
         go_cut [41] (fun v41 wc => ∃ (kq : Nat) (x41_10 : Bool), v41 = .bool x41_10 ∧ Aside0 (waveletlaw21_AllocOptimal.j2 kq l0 a1 x5_2 l0 (l0.length : Int) x29_2 x41_10 ((rd_T37 l0 x29_2).f0) ((rd_T37 l0 x29_2).f1) = some r) ∧ Aside0 (kq ≤ k2) ∧ Aside0 (wc.heap[gb345]? = some (.cells #[(.slice A344_0 ((rd_T37 l0 x29_2).f0).length c344_0), (.slice A344_1 ((rd_T37 l0 x29_2).f1).length c344_1)] 37 (0, 0))) ∧ Aside0 (Below w.heap.size w wc))
         case first =>
          have H := HC11.out
          clear HC11
          replace H := Option.bind_eq_some_iff.mp H
          obtain ⟨t346, A140, H⟩ := H
          replace H : (if t346 = true then (waveletlaw21_AllocOptimal.j2 k2 l0 a1 x5_2 l0 (l0.length : Int) x29_2 (decide ((((rd_T37 l0 x29_2).f0).length : Int) > 6)) ((rd_T37 l0 x29_2).f0) ((rd_T37 l0 x29_2).f1)) else (waveletlaw21_AllocOptimal.j2 k2 l0 a1 x5_2 l0 (l0.length : Int) x29_2 true ((rd_T37 l0 x29_2).f0) ((rd_T37 l0 x29_2).f1))) = some r := H
          have A14 := As A140
          clear A140
          by_cases c15 : t346 = true
          ·
           subst c15
           have H1 : (waveletlaw21_AllocOptimal.j2 k2 l0 a1 x5_2 l0 (l0.length : Int) x29_2 (decide ((((rd_T37 l0 x29_2).f0).length : Int) > 6)) ((rd_T37 l0 x29_2).f0) ((rd_T37 l0 x29_2).f1)) = some r := by rw [if_pos rfl] at H; exact H
           clear H
           have H := H1
           clear H1
           have H' := As H
           clear H
           have hcz16_0 : w12.cell? ⟨gb345, 0, none⟩ = some (.slice none 0 0) := (blk_cell BK345.out 0).trans rfl
           have hcz16_1 : w12.cell? ⟨gb345, 1, none⟩ = some (.slice none 0 0) := (blk_cell BK345.out 1).trans rfl
           have hfz16_0 := blk_frozen BK345.out 0
           have hfz16_1 := blk_frozen BK345.out 1
           go_wp2_with (first | (go_at_call 19; (with_reducible refine (waveletref20_Valid.calls k2 _ _ ((rd_T37 l0 x29_2).f0) _ _ ((rd_T37 l0 x29_2).f1) true _ ?side1 ?side2 ?side3 ?side4 A14.out).mono ?_); (case side1 => exact Kd.C_below HR344_0.out (by repeat (first | (with_reducible first | exact HB.out | apply bla | apply bln | apply bld | refine bls ?_ GE345.out) | exact HB.out))); (case side2 => exact HC344_0.out); (case side3 => exact Kd.C_below HR344_1.out (by repeat (first | (with_reducible first | exact HB.out | apply bla | apply bln | apply bld | refine bls ?_ GE345.out) | exact HB.out))); (case side4 => exact HC344_1.out); rintro e w17 ⟨rfl, hb⟩; have n0_ := As (bkb (g := gb345) (o := .cells #[.slice A344_0 ((rd_T37 l0 x29_2).f0).length c344_0, .slice A344_1 ((rd_T37 l0 x29_2).f1).length c344_1] 37 (0, 0)) (by (with_reducible repeat (first | refine bkn ?_ _ | refine bkd ?_ | refine bka ?_ _)); refine blk_put (cs := #[.slice A344_0 ((rd_T37 l0 x29_2).f0).length c344_0, .slice none 0 0]) ?_ 1 _ rfl; (with_reducible repeat (first | refine bkn ?_ _ | refine bkd ?_ | refine bka ?_ _)); refine blk_put (cs := #[.slice none 0 0, .slice none 0 0]) ?_ 0 _ rfl; (with_reducible repeat (first | refine bkn ?_ _ | refine bkd ?_ | refine bka ?_ _)); exact BK345.out) hb); have n1_ := As (below_step (by repeat (first | (with_reducible first | exact HB.out | apply bla | apply bln | apply bld | refine bls ?_ GE345.out) | exact HB.out)) hb); clear BK345; clear HB; have BK345 := n0_; have HB := n1_; clear n0_ n1_; (try clear hb); (try clear hb2); (try clear hk); (try clear hi); have hcz18_0 : w17.cell? ⟨gb345, 0, none⟩ = some (.slice A344_0 ((rd_T37 l0 x29_2).f0).length c344_0) := (blk_cell BK345.out 0).trans rfl; have hcz18_1 : w17.cell? ⟨gb345, 1, none⟩ = some (.slice A344_1 ((rd_T37 l0 x29_2).f1).length c344_1) := (blk_cell BK345.out 1).trans rfl; have hfz18_0 := blk_frozen BK345.out 0; have hfz18_1 := blk_frozen BK345.out 1))
           repeat (go_quiet (first | (go_at_call 19; (with_reducible refine (waveletref20_Valid.calls k2 _ _ ((rd_T37 l0 x29_2).f0) _ _ ((rd_T37 l0 x29_2).f1) true _ ?side1 ?side2 ?side3 ?side4 A14.out).mono ?_); (case side1 => exact Kd.C_below HR344_0.out (by repeat (first | (with_reducible first | exact HB.out | apply bla | apply bln | apply bld | refine bls ?_ GE345.out) | exact HB.out))); (case side2 => exact HC344_0.out); (case side3 => exact Kd.C_below HR344_1.out (by repeat (first | (with_reducible first | exact HB.out | apply bla | apply bln | apply bld | refine bls ?_ GE345.out) | exact HB.out))); (case side4 => exact HC344_1.out); rintro e w17 ⟨rfl, hb⟩; have n0_ := As (bkb (g := gb345) (o := .cells #[.slice A344_0 ((rd_T37 l0 x29_2).f0).length c344_0, .slice A344_1 ((rd_T37 l0 x29_2).f1).length c344_1] 37 (0, 0)) (by (with_reducible repeat (first | refine bkn ?_ _ | refine bkd ?_ | refine bka ?_ _)); refine blk_put (cs := #[.slice A344_0 ((rd_T37 l0 x29_2).f0).length c344_0, .slice none 0 0]) ?_ 1 _ rfl; (with_reducible repeat (first | refine bkn ?_ _ | refine bkd ?_ | refine bka ?_ _)); refine blk_put (cs := #[.slice none 0 0, .slice none 0 0]) ?_ 0 _ rfl; (with_reducible repeat (first | refine bkn ?_ _ | refine bkd ?_ | refine bka ?_ _)); exact BK345.out) hb); have n1_ := As (below_step (by repeat (first | (with_reducible first | exact HB.out | apply bla | apply bln | apply bld | refine bls ?_ GE345.out) | exact HB.out)) hb); clear BK345; clear HB; have BK345 := n0_; have HB := n1_; clear n0_ n1_; (try clear hb); (try clear hb2); (try clear hk); (try clear hi); have hcz18_0 : w17.cell? ⟨gb345, 0, none⟩ = some (.slice A344_0 ((rd_T37 l0 x29_2).f0).length c344_0) := (blk_cell BK345.out 0).trans rfl; have hcz18_1 : w17.cell? ⟨gb345, 1, none⟩ = some (.slice A344_1 ((rd_T37 l0 x29_2).f1).length c344_1) := (blk_cell BK345.out 1).trans rfl; have hfz18_0 := blk_frozen BK345.out 0; have hfz18_1 := blk_frozen BK345.out 1)); try go_wp2_with (first | (go_at_call 19; (with_reducible refine (waveletref20_Valid.calls k2 _ _ ((rd_T37 l0 x29_2).f0) _ _ ((rd_T37 l0 x29_2).f1) true _ ?side1 ?side2 ?side3 ?side4 A14.out).mono ?_); (case side1 => exact Kd.C_below HR344_0.out (by repeat (first | (with_reducible first | exact HB.out | apply bla | apply bln | apply bld | refine bls ?_ GE345.out) | exact HB.out))); (case side2 => exact HC344_0.out); (case side3 => exact Kd.C_below HR344_1.out (by repeat (first | (with_reducible first | exact HB.out | apply bla | apply bln | apply bld | refine bls ?_ GE345.out) | exact HB.out))); (case side4 => exact HC344_1.out); rintro e w17 ⟨rfl, hb⟩; have n0_ := As (bkb (g := gb345) (o := .cells #[.slice A344_0 ((rd_T37 l0 x29_2).f0).length c344_0, .slice A344_1 ((rd_T37 l0 x29_2).f1).length c344_1] 37 (0, 0)) (by (with_reducible repeat (first | refine bkn ?_ _ | refine bkd ?_ | refine bka ?_ _)); refine blk_put (cs := #[.slice A344_0 ((rd_T37 l0 x29_2).f0).length c344_0, .slice none 0 0]) ?_ 1 _ rfl; (with_reducible repeat (first | refine bkn ?_ _ | refine bkd ?_ | refine bka ?_ _)); refine blk_put (cs := #[.slice none 0 0, .slice none 0 0]) ?_ 0 _ rfl; (with_reducible repeat (first | refine bkn ?_ _ | refine bkd ?_ | refine bka ?_ _)); exact BK345.out) hb); have n1_ := As (below_step (by repeat (first | (with_reducible first | exact HB.out | apply bla | apply bln | apply bld | refine bls ?_ GE345.out) | exact HB.out)) hb); clear BK345; clear HB; have BK345 := n0_; have HB := n1_; clear n0_ n1_; (try clear hb); (try clear hb2); (try clear hk); (try clear hi); have hcz18_0 : w17.cell? ⟨gb345, 0, none⟩ = some (.slice A344_0 ((rd_T37 l0 x29_2).f0).length c344_0) := (blk_cell BK345.out 0).trans rfl; have hcz18_1 : w17.cell? ⟨gb345, 1, none⟩ = some (.slice A344_1 ((rd_T37 l0 x29_2).f1).length c344_1) := (blk_cell BK345.out 1).trans rfl; have hfz18_0 := blk_frozen BK345.out 0; have hfz18_1 := blk_frozen BK345.out 1)))
           go_meet
           case rel => exact ⟨_, (decide ((((rd_T37 l0 x29_2).f0).length : Int) > 6)), (by first | rfl | (simp; done) | (simp [*]; done)), H', ⟨by have := HJ2.out; have := HK2.out; first | omega | exact Nat.le_refl _⟩, ⟨by (with_reducible repeat (first | refine bkn ?_ _ | refine bkd ?_ | refine bka ?_ _)); exact BK345.out⟩, ⟨by repeat (first | (with_reducible first | exact HB.out | apply bla | apply bln | apply bld | refine bls ?_ GE345.out) | exact HB.out)⟩⟩
          ·
           replace c15 := Bool.eq_false_iff.mpr c15
           subst c15
           have H1 : (waveletlaw21_AllocOptimal.j2 k2 l0 a1 x5_2 l0 (l0.length : Int) x29_2 true ((rd_T37 l0 x29_2).f0) ((rd_T37 l0 x29_2).f1)) = some r := by rw [if_neg (show ¬ (false = true) by decide)] at H; exact H
           clear H
           have H := H1
           clear H1
           have H' := As H
           clear H
           have hcz19_0 : w12.cell? ⟨gb345, 0, none⟩ = some (.slice none 0 0) := (blk_cell BK345.out 0).trans rfl
           have hcz19_1 : w12.cell? ⟨gb345, 1, none⟩ = some (.slice none 0 0) := (blk_cell BK345.out 1).trans rfl
           have hfz19_0 := blk_frozen BK345.out 0
           have hfz19_1 := blk_frozen BK345.out 1
           go_wp2_with (first | (go_at_call 19; (with_reducible refine (waveletref20_Valid.calls k2 _ _ ((rd_T37 l0 x29_2).f0) _ _ ((rd_T37 l0 x29_2).f1) false _ ?side1 ?side2 ?side3 ?side4 A14.out).mono ?_); (case side1 => exact Kd.C_below HR344_0.out (by repeat (first | (with_reducible first | exact HB.out | apply bla | apply bln | apply bld | refine bls ?_ GE345.out) | exact HB.out))); (case side2 => exact HC344_0.out); (case side3 => exact Kd.C_below HR344_1.out (by repeat (first | (with_reducible first | exact HB.out | apply bla | apply bln | apply bld | refine bls ?_ GE345.out) | exact HB.out))); (case side4 => exact HC344_1.out); rintro e w20 ⟨rfl, hb⟩; have n0_ := As (bkb (g := gb345) (o := .cells #[.slice A344_0 ((rd_T37 l0 x29_2).f0).length c344_0, .slice A344_1 ((rd_T37 l0 x29_2).f1).length c344_1] 37 (0, 0)) (by (with_reducible repeat (first | refine bkn ?_ _ | refine bkd ?_ | refine bka ?_ _)); refine blk_put (cs := #[.slice A344_0 ((rd_T37 l0 x29_2).f0).length c344_0, .slice none 0 0]) ?_ 1 _ rfl; (with_reducible repeat (first | refine bkn ?_ _ | refine bkd ?_ | refine bka ?_ _)); refine blk_put (cs := #[.slice none 0 0, .slice none 0 0]) ?_ 0 _ rfl; (with_reducible repeat (first | refine bkn ?_ _ | refine bkd ?_ | refine bka ?_ _)); exact BK345.out) hb); have n1_ := As (below_step (by repeat (first | (with_reducible first | exact HB.out | apply bla | apply bln | apply bld | refine bls ?_ GE345.out) | exact HB.out)) hb); clear BK345; clear HB; have BK345 := n0_; have HB := n1_; clear n0_ n1_; (try clear hb); (try clear hb2); (try clear hk); (try clear hi)))
           repeat (go_quiet (first | (go_at_call 19; (with_reducible refine (waveletref20_Valid.calls k2 _ _ ((rd_T37 l0 x29_2).f0) _ _ ((rd_T37 l0 x29_2).f1) false _ ?side1 ?side2 ?side3 ?side4 A14.out).mono ?_); (case side1 => exact Kd.C_below HR344_0.out (by repeat (first | (with_reducible first | exact HB.out | apply bla | apply bln | apply bld | refine bls ?_ GE345.out) | exact HB.out))); (case side2 => exact HC344_0.out); (case side3 => exact Kd.C_below HR344_1.out (by repeat (first | (with_reducible first | exact HB.out | apply bla | apply bln | apply bld | refine bls ?_ GE345.out) | exact HB.out))); (case side4 => exact HC344_1.out); rintro e w20 ⟨rfl, hb⟩; have n0_ := As (bkb (g := gb345) (o := .cells #[.slice A344_0 ((rd_T37 l0 x29_2).f0).length c344_0, .slice A344_1 ((rd_T37 l0 x29_2).f1).length c344_1] 37 (0, 0)) (by (with_reducible repeat (first | refine bkn ?_ _ | refine bkd ?_ | refine bka ?_ _)); refine blk_put (cs := #[.slice A344_0 ((rd_T37 l0 x29_2).f0).length c344_0, .slice none 0 0]) ?_ 1 _ rfl; (with_reducible repeat (first | refine bkn ?_ _ | refine bkd ?_ | refine bka ?_ _)); refine blk_put (cs := #[.slice none 0 0, .slice none 0 0]) ?_ 0 _ rfl; (with_reducible repeat (first | refine bkn ?_ _ | refine bkd ?_ | refine bka ?_ _)); exact BK345.out) hb); have n1_ := As (below_step (by repeat (first | (with_reducible first | exact HB.out | apply bla | apply bln | apply bld | refine bls ?_ GE345.out) | exact HB.out)) hb); clear BK345; clear HB; have BK345 := n0_; have HB := n1_; clear n0_ n1_; (try clear hb); (try clear hb2); (try clear hk); (try clear hi))); try go_wp2_with (first | (go_at_call 19; (with_reducible refine (waveletref20_Valid.calls k2 _ _ ((rd_T37 l0 x29_2).f0) _ _ ((rd_T37 l0 x29_2).f1) false _ ?side1 ?side2 ?side3 ?side4 A14.out).mono ?_); (case side1 => exact Kd.C_below HR344_0.out (by repeat (first | (with_reducible first | exact HB.out | apply bla | apply bln | apply bld | refine bls ?_ GE345.out) | exact HB.out))); (case side2 => exact HC344_0.out); (case side3 => exact Kd.C_below HR344_1.out (by repeat (first | (with_reducible first | exact HB.out | apply bla | apply bln | apply bld | refine bls ?_ GE345.out) | exact HB.out))); (case side4 => exact HC344_1.out); rintro e w20 ⟨rfl, hb⟩; have n0_ := As (bkb (g := gb345) (o := .cells #[.slice A344_0 ((rd_T37 l0 x29_2).f0).length c344_0, .slice A344_1 ((rd_T37 l0 x29_2).f1).length c344_1] 37 (0, 0)) (by (with_reducible repeat (first | refine bkn ?_ _ | refine bkd ?_ | refine bka ?_ _)); refine blk_put (cs := #[.slice A344_0 ((rd_T37 l0 x29_2).f0).length c344_0, .slice none 0 0]) ?_ 1 _ rfl; (with_reducible repeat (first | refine bkn ?_ _ | refine bkd ?_ | refine bka ?_ _)); refine blk_put (cs := #[.slice none 0 0, .slice none 0 0]) ?_ 0 _ rfl; (with_reducible repeat (first | refine bkn ?_ _ | refine bkd ?_ | refine bka ?_ _)); exact BK345.out) hb); have n1_ := As (below_step (by repeat (first | (with_reducible first | exact HB.out | apply bla | apply bln | apply bld | refine bls ?_ GE345.out) | exact HB.out)) hb); clear BK345; clear HB; have BK345 := n0_; have HB := n1_; clear n0_ n1_; (try clear hb); (try clear hb2); (try clear hk); (try clear hi))))
           go_meet
           case rel => exact ⟨_, (true), (by first | rfl | (simp; done) | (simp [*]; done)), H', ⟨by have := HJ2.out; have := HK2.out; first | omega | exact Nat.le_refl _⟩, ⟨by (with_reducible repeat (first | refine bkn ?_ _ | refine bkd ?_ | refine bka ?_ _)); exact BK345.out⟩, ⟨by repeat (first | (with_reducible first | exact HB.out | apply bla | apply bln | apply bld | refine bls ?_ GE345.out) | exact HB.out)⟩⟩
         case rest =>
          clear HC11
          try clear c1
          try clear p2
          try clear c3
          try clear p3
          try clear q3
          try clear hx3
          try clear c4
          try clear c4b0
          try clear c4b1
          try clear c5
          try clear c7
          try clear c8
          try clear c8b0
          try clear c9
          try clear c9b0
          try clear c10
          try clear c10b0
          try clear c15
          try clear hcz13_0
          try clear hcz13_1
          try clear hcz16_0
          try clear hcz16_1
          try clear hcz18_0
          try clear hcz18_1
          try clear hcz19_0
          try clear hcz19_1
          try clear hfz13_0
          try clear hfz13_1
          try clear hfz16_0
          try clear hfz16_1
          try clear hfz18_0
          try clear hfz18_1
          try clear hfz19_0
          try clear hfz19_1
          try clear hx344_0
          try clear hx344_1
          try clear p2
          try clear p344
          try clear q344
          obtain ⟨kq, x41_10, rfl, HA, HJ10, BK345, HB⟩ := hcut
          cases kq with
          | zero => exact absurd HA.out (by simp [waveletlaw21_AllocOptimal.j2])
          | succ kj10 =>
           have H := HA.out
           clear HA
           simp only [waveletlaw21_AllocOptimal.j2] at H
           by_cases c21 : x41_10 = true
           ·
            subst c21
            have H1 : ((waveletlaw21_exampleHolds.f kj10).bind fun t347 => (some t347)) = some r := by rw [if_pos rfl] at H; exact H
            clear H
            have H := H1
            clear H1
            replace H := Option.bind_eq_some_iff.mp H
            obtain ⟨t347, A220, H⟩ := H
            replace H : (some t347) = some r := H
            have A22 := As A220
            clear A220
            obtain rfl := Option.some.inj H
            go_wp2_with (first | (go_at_call 10; (with_reducible refine (waveletlaw21_exampleHolds.calls kj10  t347 _ A22.out).mono ?_); rintro e w23 ⟨rfl, hb⟩; have n0_ := As (bkb (g := gb345) (o := .cells #[.slice A344_0 ((rd_T37 l0 x29_2).f0).length c344_0, .slice A344_1 ((rd_T37 l0 x29_2).f1).length c344_1] 37 (0, 0)) (by (with_reducible repeat (first | refine bkn ?_ _ | refine bkd ?_ | refine bka ?_ _)); exact BK345.out) hb); have n1_ := As (below_step (by repeat (first | (with_reducible first | exact HB.out | apply bla | apply bln | apply bld | refine bls ?_ GE345.out) | exact HB.out)) hb); clear BK345; clear HB; have BK345 := n0_; have HB := n1_; clear n0_ n1_; (try clear hb); (try clear hb2); (try clear hk); (try clear hi)))
            repeat (go_quiet (first | (go_at_call 10; (with_reducible refine (waveletlaw21_exampleHolds.calls kj10  t347 _ A22.out).mono ?_); rintro e w23 ⟨rfl, hb⟩; have n0_ := As (bkb (g := gb345) (o := .cells #[.slice A344_0 ((rd_T37 l0 x29_2).f0).length c344_0, .slice A344_1 ((rd_T37 l0 x29_2).f1).length c344_1] 37 (0, 0)) (by (with_reducible repeat (first | refine bkn ?_ _ | refine bkd ?_ | refine bka ?_ _)); exact BK345.out) hb); have n1_ := As (below_step (by repeat (first | (with_reducible first | exact HB.out | apply bla | apply bln | apply bld | refine bls ?_ GE345.out) | exact HB.out)) hb); clear BK345; clear HB; have BK345 := n0_; have HB := n1_; clear n0_ n1_; (try clear hb); (try clear hb2); (try clear hk); (try clear hi))); try go_wp2_with (first | (go_at_call 10; (with_reducible refine (waveletlaw21_exampleHolds.calls kj10  t347 _ A22.out).mono ?_); rintro e w23 ⟨rfl, hb⟩; have n0_ := As (bkb (g := gb345) (o := .cells #[.slice A344_0 ((rd_T37 l0 x29_2).f0).length c344_0, .slice A344_1 ((rd_T37 l0 x29_2).f1).length c344_1] 37 (0, 0)) (by (with_reducible repeat (first | refine bkn ?_ _ | refine bkd ?_ | refine bka ?_ _)); exact BK345.out) hb); have n1_ := As (below_step (by repeat (first | (with_reducible first | exact HB.out | apply bla | apply bln | apply bld | refine bls ?_ GE345.out) | exact HB.out)) hb); clear BK345; clear HB; have BK345 := n0_; have HB := n1_; clear n0_ n1_; (try clear hb); (try clear hb2); (try clear hk); (try clear hi))))
            go_ret
            exact ⟨by first | rfl | (simp [errW_none, errW_some] <;> rfl) | (simp [*, errW_none, errW_some] <;> rfl), by repeat (first | (with_reducible first | exact HB.out | apply bla | apply bln | apply bld | refine bls ?_ GE345.out) | exact HB.out)⟩
           ·
            replace c21 := Bool.eq_false_iff.mpr c21
            subst c21
            have H1 : (waveletlaw21_AllocOptimal.l0 kj10 l0 a1 (wrap64 (x5_2 * (((rd_T37 l0 x29_2).f0).length : Int))) l0 (l0.length : Int) (wrap64 (x29_2 + 1))) = some r := by rw [if_neg (show ¬ (false = true) by decide)] at H; exact H
            clear H
            have H := H1
            clear H1
            have H' := As H
            clear H
            have hcz24_0 : wc.cell? ⟨gb345, 0, none⟩ = some (.slice A344_0 ((rd_T37 l0 x29_2).f0).length c344_0) := (blk_cell BK345.out 0).trans rfl
            have hcz24_1 : wc.cell? ⟨gb345, 1, none⟩ = some (.slice A344_1 ((rd_T37 l0 x29_2).f1).length c344_1) := (blk_cell BK345.out 1).trans rfl
            have hfz24_0 := blk_frozen BK345.out 0
            have hfz24_1 := blk_frozen BK345.out 1
            go_wp2
            repeat (go_quiet (fail); try go_wp2)
            go_roundg kj10
            case measure => have := HJ2.out; have := HK2.out; have := HJ10.out; omega
            case rel => exact ⟨(wrap64 (x5_2 * (((rd_T37 l0 x29_2).f0).length : Int))), (wrap64 (x29_2 + 1)), (by first | rfl | (simp; done) | (simp [*]; done)), (by first | rfl | (simp; done) | (simp [*]; done)), H', ⟨by have := HJ2.out; have := HK2.out; have := HJ10.out; omega⟩, ⟨by repeat (first | (with_reducible first | exact HB.out | apply bla | apply bln | apply bld | refine bls ?_ GE345.out) | exact HB.out)⟩⟩
        ·
         rw [if_neg c10] at H
         exact absurd H (by simp)
       ·
        rw [if_neg c9] at H
        exact absurd H (by simp)
      ·
       rw [if_neg c8] at H
       have c8b0 : decide (x29_2 < (l0.length : Int)) = false := decide_eq_false c8
       clear c8
       replace H := Option.bind_eq_some_iff.mp H
       obtain ⟨⟨t348, t349⟩, A250, H⟩ := H
       replace H : ((waveletref21_Cost.f k2 l0 t348).bind fun bt352 => (if t349 = 0 then (if bt352.2.2 = 0 then (waveletlaw21_AllocOptimal.j3 k2 l0 x5_2 bt352.1 bt352.2.1 (decide (bt352.1 > a1))) else (waveletlaw21_AllocOptimal.j3 k2 l0 x5_2 bt352.1 bt352.2.1 true)) else (waveletlaw21_AllocOptimal.j3 k2 l0 x5_2 bt352.1 bt352.2.1 true))) = some r := H
       have A25 := As A250
       clear A250
       replace H := Option.bind_eq_some_iff.mp H
       obtain ⟨⟨t352, t353, t354⟩, A260, H⟩ := H
       replace H : (if t349 = 0 then (if t354 = 0 then (waveletlaw21_AllocOptimal.j3 k2 l0 x5_2 t352 t353 (decide (t352 > a1))) else (waveletlaw21_AllocOptimal.j3 k2 l0 x5_2 t352 t353 true)) else (waveletlaw21_AllocOptimal.j3 k2 l0 x5_2 t352 t353 true)) = some r := H
       have A26 := As A260
       clear A260
       have HC27 := As H
       clear H
       go_upto_region 13 with (first | (go_at_call 15; (with_reducible refine (alloc_Choose.calls k2 _ _ l0 a1 t348 t349 _ ?side1 ?side2 A25.out).mono ?_); (case side1 => repeat (first | exact (Kd.C_below HR0.out HB.out) | (with_reducible refine Kd.C_alloc ?_ _) | (with_reducible refine Kd.C_drewN ?_ _) | (with_reducible refine Kd.C_drew ?_))); (case side2 => exact HC0.out); rintro e w28 ⟨v350, rfl, ho0, hb⟩; have n0_ := As (Kd.R_lower ho0 (below_size (by repeat (first | (with_reducible first | exact HB.out | apply bla | apply bln | apply bld) | exact HB.out)))); have n1_ := As (below_step (by repeat (first | (with_reducible first | exact HB.out | apply bla | apply bln | apply bld) | exact HB.out)) hb); clear HB; have HO351 := n0_; have HB := n1_; clear n0_ n1_; (try clear hb); (try clear hb2); (try clear hk); (try clear hi); (try clear ho0); obtain ⟨Ao29, co29, eo29⟩ := Kd.R_slice HO351.out; subst eo29) | (go_at_call 16; (with_reducible refine (waveletref21_Cost.calls k2 _ _ l0 _ _ t348 t352 t353 t354 _ ?side1 ?side2 ?side3 ?side4 A26.out).mono ?_); (case side1 => repeat (first | exact (Kd.C_below HR0.out HB.out) | (with_reducible refine Kd.C_alloc ?_ _) | (with_reducible refine Kd.C_drewN ?_ _) | (with_reducible refine Kd.C_drew ?_))); (case side2 => exact HC0.out); (case side3 => repeat (first | exact (Kd.R_reads' HO351.out).2.2 | (with_reducible refine Kd.C_alloc ?_ _) | (with_reducible refine Kd.C_drewN ?_ _) | (with_reducible refine Kd.C_drew ?_))); (case side4 => exact (Kd.R_reads' HO351.out).2.1); rintro e w30 ⟨rfl, hb⟩; have n0_ := As (Kd.Rb (by (with_reducible repeat (first | apply Kd.Ra | apply Kd.Rn | apply Kd.Rd)); exact HO351.out) hb); have n1_ := As (below_step (by repeat (first | (with_reducible first | exact HB.out | apply bla | apply bln | apply bld) | exact HB.out)) hb); clear HO351; clear HB; have HO351 := n0_; have HB := n1_; clear n0_ n1_; (try clear hb); (try clear hb2); (try clear hk); (try clear hi)))
       repeat (go_quiet (first | (go_at_call 15; (with_reducible refine (alloc_Choose.calls k2 _ _ l0 a1 t348 t349 _ ?side1 ?side2 A25.out).mono ?_); (case side1 => repeat (first | exact (Kd.C_below HR0.out HB.out) | (with_reducible refine Kd.C_alloc ?_ _) | (with_reducible refine Kd.C_drewN ?_ _) | (with_reducible refine Kd.C_drew ?_))); (case side2 => exact HC0.out); rintro e w28 ⟨v350, rfl, ho0, hb⟩; have n0_ := As (Kd.R_lower ho0 (below_size (by repeat (first | (with_reducible first | exact HB.out | apply bla | apply bln | apply bld) | exact HB.out)))); have n1_ := As (below_step (by repeat (first | (with_reducible first | exact HB.out | apply bla | apply bln | apply bld) | exact HB.out)) hb); clear HB; have HO351 := n0_; have HB := n1_; clear n0_ n1_; (try clear hb); (try clear hb2); (try clear hk); (try clear hi); (try clear ho0); obtain ⟨Ao29, co29, eo29⟩ := Kd.R_slice HO351.out; subst eo29) | (go_at_call 16; (with_reducible refine (waveletref21_Cost.calls k2 _ _ l0 _ _ t348 t352 t353 t354 _ ?side1 ?side2 ?side3 ?side4 A26.out).mono ?_); (case side1 => repeat (first | exact (Kd.C_below HR0.out HB.out) | (with_reducible refine Kd.C_alloc ?_ _) | (with_reducible refine Kd.C_drewN ?_ _) | (with_reducible refine Kd.C_drew ?_))); (case side2 => exact HC0.out); (case side3 => repeat (first | exact (Kd.R_reads' HO351.out).2.2 | (with_reducible refine Kd.C_alloc ?_ _) | (with_reducible refine Kd.C_drewN ?_ _) | (with_reducible refine Kd.C_drew ?_))); (case side4 => exact (Kd.R_reads' HO351.out).2.1); rintro e w30 ⟨rfl, hb⟩; have n0_ := As (Kd.Rb (by (with_reducible repeat (first | apply Kd.Ra | apply Kd.Rn | apply Kd.Rd)); exact HO351.out) hb); have n1_ := As (below_step (by repeat (first | (with_reducible first | exact HB.out | apply bla | apply bln | apply bld) | exact HB.out)) hb); clear HO351; clear HB; have HO351 := n0_; have HB := n1_; clear n0_ n1_; (try clear hb); (try clear hb2); (try clear hk); (try clear hi))); go_upto_region 13 with (first | (go_at_call 15; (with_reducible refine (alloc_Choose.calls k2 _ _ l0 a1 t348 t349 _ ?side1 ?side2 A25.out).mono ?_); (case side1 => repeat (first | exact (Kd.C_below HR0.out HB.out) | (with_reducible refine Kd.C_alloc ?_ _) | (with_reducible refine Kd.C_drewN ?_ _) | (with_reducible refine Kd.C_drew ?_))); (case side2 => exact HC0.out); rintro e w28 ⟨v350, rfl, ho0, hb⟩; have n0_ := As (Kd.R_lower ho0 (below_size (by repeat (first | (with_reducible first | exact HB.out | apply bla | apply bln | apply bld) | exact HB.out)))); have n1_ := As (below_step (by repeat (first | (with_reducible first | exact HB.out | apply bla | apply bln | apply bld) | exact HB.out)) hb); clear HB; have HO351 := n0_; have HB := n1_; clear n0_ n1_; (try clear hb); (try clear hb2); (try clear hk); (try clear hi); (try clear ho0); obtain ⟨Ao29, co29, eo29⟩ := Kd.R_slice HO351.out; subst eo29) | (go_at_call 16; (with_reducible refine (waveletref21_Cost.calls k2 _ _ l0 _ _ t348 t352 t353 t354 _ ?side1 ?side2 ?side3 ?side4 A26.out).mono ?_); (case side1 => repeat (first | exact (Kd.C_below HR0.out HB.out) | (with_reducible refine Kd.C_alloc ?_ _) | (with_reducible refine Kd.C_drewN ?_ _) | (with_reducible refine Kd.C_drew ?_))); (case side2 => exact HC0.out); (case side3 => repeat (first | exact (Kd.R_reads' HO351.out).2.2 | (with_reducible refine Kd.C_alloc ?_ _) | (with_reducible refine Kd.C_drewN ?_ _) | (with_reducible refine Kd.C_drew ?_))); (case side4 => exact (Kd.R_reads' HO351.out).2.1); rintro e w30 ⟨rfl, hb⟩; have n0_ := As (Kd.Rb (by (with_reducible repeat (first | apply Kd.Ra | apply Kd.Rn | apply Kd.Rd)); exact HO351.out) hb); have n1_ := As (below_step (by repeat (first | (with_reducible first | exact HB.out | apply bla | apply bln | apply bld) | exact HB.out)) hb); clear HO351; clear HB; have HO351 := n0_; have HB := n1_; clear n0_ n1_; (try clear hb); (try clear hb2); (try clear hk); (try clear hi))))
       (try simp only [Act.put, List.setIfInBounds_toArray, List.set_cons_zero, List.set_cons_succ])
       go_cut [72] (fun v72 wc => ∃ (kq : Nat) (x72_26 : Bool), v72 = .bool x72_26 ∧ Aside0 (waveletlaw21_AllocOptimal.j3 kq l0 x5_2 t352 t353 x72_26 = some r) ∧ Aside0 (kq ≤ k2) ∧ Aside0 (Below w.heap.size w wc))
       case first =>
        have H := HC27.out
        clear HC27
        by_cases c31 : t349 = 0
        ·
         rw [if_pos c31] at H
         have c31b0 : (t349 == 0) = true := beq_iff_eq.mpr c31
         have c31b1 : (t349 != 0) = false := bne_eq_false_iff_eq.mpr c31
         clear c31
         (first | rw [c31b0] | (simp only [i64_w, i32_w]; rw [c31b0]) | skip)
         by_cases c32 : t354 = 0
         ·
          rw [if_pos c32] at H
          have c32b0 : (t354 == 0) = true := beq_iff_eq.mpr c32
          have c32b1 : (t354 != 0) = false := bne_eq_false_iff_eq.mpr c32
          clear c32
          have H' := As H
          clear H
          go_wp2
          repeat (go_quiet (fail); try go_wp2)
          go_meet
          case rel => exact ⟨_, (decide (t352 > a1)), (by first | rfl | (simp; done) | (simp [*]; done)), H', ⟨by have := HJ2.out; have := HK2.out; first | omega | exact Nat.le_refl _⟩, ⟨by repeat (first | (with_reducible first | exact HB.out | apply bla | apply bln | apply bld) | exact HB.out)⟩⟩
         ·
          rw [if_neg c32] at H
          have c32b0 : (t354 == 0) = false := beq_eq_false_iff_ne.mpr c32
          have c32b1 : (t354 != 0) = true := bne_iff_ne.mpr c32
          have H' := As H
          clear H
          go_wp2
          repeat (go_quiet (fail); try go_wp2)
          go_meet
          case rel => exact ⟨_, (true), (by first | rfl | (simp; done) | (simp [*]; done)), H', ⟨by have := HJ2.out; have := HK2.out; first | omega | exact Nat.le_refl _⟩, ⟨by repeat (first | (with_reducible first | exact HB.out | apply bla | apply bln | apply bld) | exact HB.out)⟩⟩
        ·
         rw [if_neg c31] at H
         have c31b0 : (t349 == 0) = false := beq_eq_false_iff_ne.mpr c31
         have c31b1 : (t349 != 0) = true := bne_iff_ne.mpr c31
         (first | rw [c31b0] | (simp only [i64_w, i32_w]; rw [c31b0]) | skip)
         have H' := As H
         clear H
         go_wp2
         repeat (go_quiet (fail); try go_wp2)
         go_meet
         case rel => exact ⟨_, (true), (by first | rfl | (simp; done) | (simp [*]; done)), H', ⟨by have := HJ2.out; have := HK2.out; first | omega | exact Nat.le_refl _⟩, ⟨by repeat (first | (with_reducible first | exact HB.out | apply bla | apply bln | apply bld) | exact HB.out)⟩⟩
       case rest =>
        clear HC27
        try clear c1
        try clear c2
        try clear p2
        try clear c3
        try clear p3
        try clear q3
        try clear hx3
        try clear c4
        try clear c4b0
        try clear c4b1
        try clear c5
        try clear p6
        try clear c7
        try clear c8
        try clear c8b0
        try clear c9
        try clear c9b0
        try clear c10
        try clear c10b0
        try clear c15
        try clear c21
        try clear c31
        try clear c31b0
        try clear c31b1
        try clear c32
        try clear c32b0
        try clear c32b1
        try clear hcz13_0
        try clear hcz13_1
        try clear hcz16_0
        try clear hcz16_1
        try clear hcz18_0
        try clear hcz18_1
        try clear hcz19_0
        try clear hcz19_1
        try clear hcz24_0
        try clear hcz24_1
        try clear hfz13_0
        try clear hfz13_1
        try clear hfz16_0
        try clear hfz16_1
        try clear hfz18_0
        try clear hfz18_1
        try clear hfz19_0
        try clear hfz19_1
        try clear hfz24_0
        try clear hfz24_1
        try clear hx344_0
        try clear hx344_1
        try clear p2
        try clear p3
        try clear p344
        try clear q3
        try clear q344
        obtain ⟨kq, x72_26, rfl, HA, HJ26, HB⟩ := hcut
        cases kq with
        | zero => exact absurd HA.out (by simp [waveletlaw21_AllocOptimal.j3])
        | succ kj26 =>
         have H := HA.out
         clear HA
         simp only [waveletlaw21_AllocOptimal.j3] at H
         by_cases c33 : x72_26 = true
         ·
          subst c33
          have H1 : (some false) = some r := by rw [if_pos rfl] at H; exact H
          clear H
          have H := H1
          clear H1
          obtain rfl := Option.some.inj H
          go_wp2
          repeat (go_quiet (fail); try go_wp2)
          go_ret
          exact ⟨by first | rfl | (simp [errW_none, errW_some] <;> rfl) | (simp [*, errW_none, errW_some] <;> rfl), by repeat (first | (with_reducible first | exact HB.out | apply bla | apply bln | apply bld) | exact HB.out)⟩
         ·
          replace c33 := Bool.eq_false_iff.mpr c33
          subst c33
          have H1 : (waveletlaw21_AllocOptimal.l1 kj26 l0 x5_2 t352 t353 0) = some r := by rw [if_neg (show ¬ (false = true) by decide)] at H; exact H
          clear H
          have H := H1
          clear H1
          have H' := As H
          clear H
          go_wp2
          repeat (go_quiet (fail); try go_wp2)
          go_loopg [13] kj26 (fun kq v13 w' => ∃ (x13_4 : Int), v13 = .int .i64 x13_4 ∧ Aside0 (waveletlaw21_AllocOptimal.l1 kq l0 x5_2 t352 t353 x13_4 = some r) ∧ Aside0 (kq ≤ kj26) ∧ Aside0 (Below w.heap.size w w'))
          case atStart => exact ⟨(0), (by first | rfl | (simp; done) | (simp [*]; done)), H', ⟨Nat.le_refl _⟩, ⟨by repeat (first | (with_reducible first | exact HB.out | apply bla | apply bln | apply bld) | exact HB.out)⟩⟩
          case round =>
           clear H'
           try clear c1
           try clear c2
           try clear p2
           try clear c3
           try clear p3
           try clear q3
           try clear hx3
           try clear c4
           try clear c4b0
           try clear c4b1
           try clear c5
           try clear p6
           try clear c7
           try clear c8
           try clear c8b0
           try clear c9
           try clear c9b0
           try clear c10
           try clear c10b0
           try clear c15
           try clear c21
           try clear c31
           try clear c31b0
           try clear c31b1
           try clear c32
           try clear c32b0
           try clear c32b1
           try clear c33
           try clear hcz13_0
           try clear hcz13_1
           try clear hcz16_0
           try clear hcz16_1
           try clear hcz18_0
           try clear hcz18_1
           try clear hcz19_0
           try clear hcz19_1
           try clear hcz24_0
           try clear hcz24_1
           try clear hfz13_0
           try clear hfz13_1
           try clear hfz16_0
           try clear hfz16_1
           try clear hfz18_0
           try clear hfz18_1
           try clear hfz19_0
           try clear hfz19_1
           try clear hfz24_0
           try clear hfz24_1
           try clear hx344_0
           try clear hx344_1
           try clear p2
           try clear p3
           try clear p344
           try clear p6
           try clear q3
           try clear q344
           obtain ⟨x13_4, rfl, HA, HK4, HB⟩ := hrel
           cases gk with
           | zero => exact absurd HA.out (by simp [waveletlaw21_AllocOptimal.l1])
           | succ k4 =>
            have H := HA.out
            clear HA
            simp only [waveletlaw21_AllocOptimal.l1] at H
            by_cases c34 : x13_4 < x5_2
            ·
             rw [if_pos c34] at H
             have c34b0 : decide (x13_4 < x5_2) = true := decide_eq_true c34
             clear c34
             have H' := As H
             clear H
             go_wp2
             repeat (go_quiet (fail); try go_wp2)
             go_loopg [14, 15, 16, 81] k4 (fun kq v14 v15 v16 v81 w' => ∃ (x14_5 : Int) (x15_5 : Int) (x16_5 : Int) (x81_5 : Int), v14 = .int .i64 x14_5 ∧ v15 = .int .i64 x15_5 ∧ v16 = .int .i64 x16_5 ∧ v81 = .int .i64 x81_5 ∧ Aside0 (waveletlaw21_AllocOptimal.l2 kq l0 x5_2 t352 t353 x13_4 x14_5 x15_5 x16_5 l0 (l0.length : Int) x81_5 = some r) ∧ Aside0 (kq ≤ k4) ∧ Aside0 (Below w.heap.size w w'))
             case atStart => exact ⟨(0), (0), (x13_4), (0), (by first | rfl | (simp; done) | (simp [*]; done)), (by first | rfl | (simp; done) | (simp [*]; done)), (by first | rfl | (simp; done) | (simp [*]; done)), (by first | rfl | (simp; done) | (simp [*]; done)), H', ⟨Nat.le_refl _⟩, ⟨by repeat (first | (with_reducible first | exact HB.out | apply bla | apply bln | apply bld) | exact HB.out)⟩⟩
             case round =>
              clear H'
              try clear c1
              try clear c2
              try clear p2
              try clear c3
              try clear p3
              try clear q3
              try clear hx3
              try clear c4
              try clear c4b0
              try clear c4b1
              try clear c5
              try clear p6
              try clear c7
              try clear c8
              try clear c8b0
              try clear c9
              try clear c9b0
              try clear c10
              try clear c10b0
              try clear c15
              try clear c21
              try clear c31
              try clear c31b0
              try clear c31b1
              try clear c32
              try clear c32b0
              try clear c32b1
              try clear c33
              try clear c34
              try clear c34b0
              try clear p34
              try clear q34
              try clear hx34
              try clear hcz13_0
              try clear hcz13_1
              try clear hcz16_0
              try clear hcz16_1
              try clear hcz18_0
              try clear hcz18_1
              try clear hcz19_0
              try clear hcz19_1
              try clear hcz24_0
              try clear hcz24_1
              try clear hfz13_0
              try clear hfz13_1
              try clear hfz16_0
              try clear hfz16_1
              try clear hfz18_0
              try clear hfz18_1
              try clear hfz19_0
              try clear hfz19_1
              try clear hfz24_0
              try clear hfz24_1
              try clear hx344_0
              try clear hx344_1
              try clear p2
              try clear p3
              try clear p344
              try clear p6
              try clear q3
              try clear q344
              obtain ⟨x14_5, x15_5, x16_5, x81_5, rfl, rfl, rfl, rfl, HA, HK5, HB⟩ := hrel
              cases gk with
              | zero => exact absurd HA.out (by simp [waveletlaw21_AllocOptimal.l2])
              | succ k5 =>
               have H := HA.out
               clear HA
               simp only [waveletlaw21_AllocOptimal.l2] at H
               by_cases c35 : x81_5 < (l0.length : Int)
               ·
                rw [if_pos c35] at H
                have c35b0 : decide (x81_5 < (l0.length : Int)) = true := decide_eq_true c35
                clear c35
                by_cases c36 : 0 ≤ x81_5
                ·
                 rw [if_pos c36] at H
                 have c36b0 : decide (0 ≤ x81_5) = true := decide_eq_true c36
                 clear c36
                 by_cases c37 : x81_5 < (l0.length : Int)
                 ·
                  rw [if_pos c37] at H
                  have c37b0 : decide (x81_5 < (l0.length : Int)) = true := decide_eq_true c37
                  clear c37
                  by_cases c38 : (((rd_T37 l0 x81_5).f0).length : Int) = 0
                  ·
                   rw [if_pos c38] at H
                   exact absurd H (by simp)
                  ·
                   rw [if_neg c38] at H
                   have c38b0 : ((((rd_T37 l0 x81_5).f0).length : Int) == 0) = false := beq_eq_false_iff_ne.mpr c38
                   have c38b1 : ((((rd_T37 l0 x81_5).f0).length : Int) != 0) = true := bne_iff_ne.mpr c38
                   have c38b2 : ¬ (((rd_T37 l0 x81_5).f0) = []) := fun h_ => c38 (by rw [h_]; rfl)
                   obtain ⟨ji39, hji39⟩ : ∃ j_ : Int, (Int.tmod x16_5 (((rd_T37 l0 x81_5).f0).length : Int)) = j_ := ⟨_, rfl⟩
                   replace H : (if 0 ≤ (ji39) then (if (ji39) < (((rd_T37 l0 x81_5).f0).length : Int) then (if (ji39) < (((rd_T37 l0 x81_5).f1).length : Int) then (waveletlaw21_AllocOptimal.l2 k5 l0 x5_2 t352 t353 x13_4 (wrap64 (x14_5 + (rd ((rd_T37 l0 x81_5).f0) (ji39)))) (wrap64 (x15_5 + (rd ((rd_T37 l0 x81_5).f1) (ji39)))) (wrap64 (Int.tdiv x16_5 (((rd_T37 l0 x81_5).f0).length : Int))) l0 (l0.length : Int) (wrap64 (x81_5 + 1))) else (none)) else (none)) else (none)) = some r := by first | (rw [hji39] at H; exact H) | (simp only [hji39] at H ⊢; exact H)
                   by_cases c40 : 0 ≤ (ji39)
                   ·
                    rw [if_pos c40] at H
                    have c40b0 : decide (0 ≤ (ji39)) = true := decide_eq_true c40
                    clear c40
                    by_cases c41 : (ji39) < (((rd_T37 l0 x81_5).f0).length : Int)
                    ·
                     rw [if_pos c41] at H
                     have c41b0 : decide ((ji39) < (((rd_T37 l0 x81_5).f0).length : Int)) = true := decide_eq_true c41
                     clear c41
                     by_cases c42 : (ji39) < (((rd_T37 l0 x81_5).f1).length : Int)
                     ·
                      rw [if_pos c42] at H
                      have c42b0 : decide ((ji39) < (((rd_T37 l0 x81_5).f1).length : Int)) = true := decide_eq_true c42
                      clear c42
                      have H' := As H
                      clear H
                      have p356 : 0 ≤ (x81_5 : Int) := of_decide_eq_true (by first | (with_reducible assumption) | assumption)
                      have q356 : x81_5 < (l0.length : Int) := of_decide_eq_true (by first | (with_reducible assumption) | assumption)
                      obtain ⟨ad356, A356_0, c356_0, A356_1, c356_1, e356, hx356_0, hx356_1, hl356_0, hi356_0, hl356_1, hi356_1⟩ := at_T37 HR0.out x81_5 p356 q356
                      cases e356
                      replace hx356_0 := (HB.out.cell (World.block_lt_of_cell? w _ hx356_0)).trans hx356_0
                      replace hx356_1 := (HB.out.cell (World.block_lt_of_cell? w _ hx356_1)).trans hx356_1
                      have HR356_0 := As hi356_0
                      have HC356_0 := As hl356_0
                      clear hi356_0 hl356_0
                      have HR356_1 := As hi356_1
                      have HC356_1 := As hl356_1
                      clear hi356_1 hl356_1
                      replace p356 := eq_true p356
                      replace q356 := eq_true q356
                      go_wp2_with (first | ((with_reducible refine gate_dst (N := 18) rfl ?_); (try (refine gate_guard (by rfl) ?_; dsimp only)); refine box_event ?hg (N := 18) ?hd (cs := #[.slice none 0 0, .slice none 0 0]) (t := 37) ?hr ?_; (case hd => rfl); (case hg => rfl); (case hr => first | (go_simp; done) | (go_simp; rfl)); intro gb357 hg w43 hbox hb; have n0_ := As (below_step (by repeat (first | (with_reducible first | exact HB.out | apply bla | apply bln | apply bld) | exact HB.out)) hb); have n1_ := As (hbox); have n2_ := As ((by rw [hg]; exact (below_size (by repeat (first | (with_reducible first | exact HB.out | apply bla | apply bln | apply bld) | exact HB.out))) : w.heap.size ≤ gb357)); have n3_ := As ((by rw [hg]; exact (below_size (by repeat (first | (with_reducible first | exact HB.out | apply bla | apply bln | apply bld) | exact HB.out))) : w.heap.size ≤ gb357)); clear HB; have HB := n0_; have BK357 := n1_; have GW357 := n2_; have GE357 := n3_; clear n0_ n1_ n2_ n3_; clear hb hbox hg; have hcz44_0 : w43.cell? ⟨gb357, 0, none⟩ = some (.slice none 0 0) := (blk_cell BK357.out 0).trans rfl; have hcz44_1 : w43.cell? ⟨gb357, 1, none⟩ = some (.slice none 0 0) := (blk_cell BK357.out 1).trans rfl; have hfz44_0 := blk_frozen BK357.out 0; have hfz44_1 := blk_frozen BK357.out 1; have p358 : 0 ≤ ((ji39) : Int) := of_decide_eq_true (by first | (with_reducible assumption) | assumption); have q358 : (ji39) < (((rd_T37 l0 x81_5).f0).length : Int) := of_decide_eq_true (by first | (with_reducible assumption) | assumption); obtain ⟨ad358, e358, hx358_0⟩ := Kd.at_int HR356_0.out (ji39) p358 q358; cases e358; have hn358_0 : ad358.block ≠ gb357 := Nat.ne_of_lt (Nat.lt_of_lt_of_le (by have := World.block_lt_of_cell? _ _ hx358_0; first | rwa [add_block] at this | exact this) GW357.out); have hn358_1 : ad358.block ≠ gb357 := Nat.ne_of_lt (Nat.lt_of_lt_of_le (by have := World.block_lt_of_cell? _ _ hx358_0; first | rwa [add_block] at this | exact this) GW357.out); replace hx358_0 := (HB.out.cell (World.block_lt_of_cell? w _ hx358_0)).trans hx358_0; replace hx358_0 := (cell_far (p := ⟨gb357, 0, none⟩) (by first | (rw [add_block]; exact hn358_0) | (show (Addr.add _ _).block ≠ _; rw [add_block]; exact hn358_0) | exact hn358_0) (.slice (some ad358) ((rd_T37 l0 x81_5).f0).length c356_0)).trans hx358_0; replace hx358_0 := (cell_far (p := ⟨gb357, 1, none⟩) (by first | (rw [add_block]; exact hn358_1) | (show (Addr.add _ _).block ≠ _; rw [add_block]; exact hn358_1) | exact hn358_1) (.slice A356_1 ((rd_T37 l0 x81_5).f1).length c356_1)).trans hx358_0; (try have hy358_0 := fun (n_ : Nat) => (show ((((w43.drewN n_).setCell ⟨gb357, 0, none⟩ (.slice (some ad358) ((rd_T37 l0 x81_5).f0).length c356_0)).setCell ⟨gb357, 1, none⟩ (.slice A356_1 ((rd_T37 l0 x81_5).f1).length c356_1))).cell? _ = some _ from hx358_0)); clear hn358_0; clear hn358_1; replace p358 := eq_true p358; replace q358 := eq_true q358; have p359 : 0 ≤ ((ji39) : Int) := of_decide_eq_true (by first | (with_reducible assumption) | assumption); have q359 : (ji39) < (((rd_T37 l0 x81_5).f1).length : Int) := of_decide_eq_true (by first | (with_reducible assumption) | assumption); obtain ⟨ad359, e359, hx359_0⟩ := Kd.at_int HR356_1.out (ji39) p359 q359; cases e359; have hn359_0 : ad359.block ≠ gb357 := Nat.ne_of_lt (Nat.lt_of_lt_of_le (by have := World.block_lt_of_cell? _ _ hx359_0; first | rwa [add_block] at this | exact this) GW357.out); have hn359_1 : ad359.block ≠ gb357 := Nat.ne_of_lt (Nat.lt_of_lt_of_le (by have := World.block_lt_of_cell? _ _ hx359_0; first | rwa [add_block] at this | exact this) GW357.out); replace hx359_0 := (HB.out.cell (World.block_lt_of_cell? w _ hx359_0)).trans hx359_0; replace hx359_0 := (cell_far (p := ⟨gb357, 0, none⟩) (by first | (rw [add_block]; exact hn359_0) | (show (Addr.add _ _).block ≠ _; rw [add_block]; exact hn359_0) | exact hn359_0) (.slice (some ad358) ((rd_T37 l0 x81_5).f0).length c356_0)).trans hx359_0; replace hx359_0 := (cell_far (p := ⟨gb357, 1, none⟩) (by first | (rw [add_block]; exact hn359_1) | (show (Addr.add _ _).block ≠ _; rw [add_block]; exact hn359_1) | exact hn359_1) (.slice (some ad359) ((rd_T37 l0 x81_5).f1).length c356_1)).trans hx359_0; (try have hy359_0 := fun (n_ : Nat) => (show ((((w43.drewN n_).setCell ⟨gb357, 0, none⟩ (.slice (some ad358) ((rd_T37 l0 x81_5).f0).length c356_0)).setCell ⟨gb357, 1, none⟩ (.slice (some ad359) ((rd_T37 l0 x81_5).f1).length c356_1))).cell? _ = some _ from hx359_0)); clear hn359_0; clear hn359_1; replace p359 := eq_true p359; replace q359 := eq_true q359))
                      repeat (go_quiet (first | ((with_reducible refine gate_dst (N := 18) rfl ?_); (try (refine gate_guard (by rfl) ?_; dsimp only)); refine box_event ?hg (N := 18) ?hd (cs := #[.slice none 0 0, .slice none 0 0]) (t := 37) ?hr ?_; (case hd => rfl); (case hg => rfl); (case hr => first | (go_simp; done) | (go_simp; rfl)); intro gb357 hg w43 hbox hb; have n0_ := As (below_step (by repeat (first | (with_reducible first | exact HB.out | apply bla | apply bln | apply bld) | exact HB.out)) hb); have n1_ := As (hbox); have n2_ := As ((by rw [hg]; exact (below_size (by repeat (first | (with_reducible first | exact HB.out | apply bla | apply bln | apply bld) | exact HB.out))) : w.heap.size ≤ gb357)); have n3_ := As ((by rw [hg]; exact (below_size (by repeat (first | (with_reducible first | exact HB.out | apply bla | apply bln | apply bld) | exact HB.out))) : w.heap.size ≤ gb357)); clear HB; have HB := n0_; have BK357 := n1_; have GW357 := n2_; have GE357 := n3_; clear n0_ n1_ n2_ n3_; clear hb hbox hg; have hcz44_0 : w43.cell? ⟨gb357, 0, none⟩ = some (.slice none 0 0) := (blk_cell BK357.out 0).trans rfl; have hcz44_1 : w43.cell? ⟨gb357, 1, none⟩ = some (.slice none 0 0) := (blk_cell BK357.out 1).trans rfl; have hfz44_0 := blk_frozen BK357.out 0; have hfz44_1 := blk_frozen BK357.out 1; have p358 : 0 ≤ ((ji39) : Int) := of_decide_eq_true (by first | (with_reducible assumption) | assumption); have q358 : (ji39) < (((rd_T37 l0 x81_5).f0).length : Int) := of_decide_eq_true (by first | (with_reducible assumption) | assumption); obtain ⟨ad358, e358, hx358_0⟩ := Kd.at_int HR356_0.out (ji39) p358 q358; cases e358; have hn358_0 : ad358.block ≠ gb357 := Nat.ne_of_lt (Nat.lt_of_lt_of_le (by have := World.block_lt_of_cell? _ _ hx358_0; first | rwa [add_block] at this | exact this) GW357.out); have hn358_1 : ad358.block ≠ gb357 := Nat.ne_of_lt (Nat.lt_of_lt_of_le (by have := World.block_lt_of_cell? _ _ hx358_0; first | rwa [add_block] at this | exact this) GW357.out); replace hx358_0 := (HB.out.cell (World.block_lt_of_cell? w _ hx358_0)).trans hx358_0; replace hx358_0 := (cell_far (p := ⟨gb357, 0, none⟩) (by first | (rw [add_block]; exact hn358_0) | (show (Addr.add _ _).block ≠ _; rw [add_block]; exact hn358_0) | exact hn358_0) (.slice (some ad358) ((rd_T37 l0 x81_5).f0).length c356_0)).trans hx358_0; replace hx358_0 := (cell_far (p := ⟨gb357, 1, none⟩) (by first | (rw [add_block]; exact hn358_1) | (show (Addr.add _ _).block ≠ _; rw [add_block]; exact hn358_1) | exact hn358_1) (.slice A356_1 ((rd_T37 l0 x81_5).f1).length c356_1)).trans hx358_0; (try have hy358_0 := fun (n_ : Nat) => (show ((((w43.drewN n_).setCell ⟨gb357, 0, none⟩ (.slice (some ad358) ((rd_T37 l0 x81_5).f0).length c356_0)).setCell ⟨gb357, 1, none⟩ (.slice A356_1 ((rd_T37 l0 x81_5).f1).length c356_1))).cell? _ = some _ from hx358_0)); clear hn358_0; clear hn358_1; replace p358 := eq_true p358; replace q358 := eq_true q358; have p359 : 0 ≤ ((ji39) : Int) := of_decide_eq_true (by first | (with_reducible assumption) | assumption); have q359 : (ji39) < (((rd_T37 l0 x81_5).f1).length : Int) := of_decide_eq_true (by first | (with_reducible assumption) | assumption); obtain ⟨ad359, e359, hx359_0⟩ := Kd.at_int HR356_1.out (ji39) p359 q359; cases e359; have hn359_0 : ad359.block ≠ gb357 := Nat.ne_of_lt (Nat.lt_of_lt_of_le (by have := World.block_lt_of_cell? _ _ hx359_0; first | rwa [add_block] at this | exact this) GW357.out); have hn359_1 : ad359.block ≠ gb357 := Nat.ne_of_lt (Nat.lt_of_lt_of_le (by have := World.block_lt_of_cell? _ _ hx359_0; first | rwa [add_block] at this | exact this) GW357.out); replace hx359_0 := (HB.out.cell (World.block_lt_of_cell? w _ hx359_0)).trans hx359_0; replace hx359_0 := (cell_far (p := ⟨gb357, 0, none⟩) (by first | (rw [add_block]; exact hn359_0) | (show (Addr.add _ _).block ≠ _; rw [add_block]; exact hn359_0) | exact hn359_0) (.slice (some ad358) ((rd_T37 l0 x81_5).f0).length c356_0)).trans hx359_0; replace hx359_0 := (cell_far (p := ⟨gb357, 1, none⟩) (by first | (rw [add_block]; exact hn359_1) | (show (Addr.add _ _).block ≠ _; rw [add_block]; exact hn359_1) | exact hn359_1) (.slice (some ad359) ((rd_T37 l0 x81_5).f1).length c356_1)).trans hx359_0; (try have hy359_0 := fun (n_ : Nat) => (show ((((w43.drewN n_).setCell ⟨gb357, 0, none⟩ (.slice (some ad358) ((rd_T37 l0 x81_5).f0).length c356_0)).setCell ⟨gb357, 1, none⟩ (.slice (some ad359) ((rd_T37 l0 x81_5).f1).length c356_1))).cell? _ = some _ from hx359_0)); clear hn359_0; clear hn359_1; replace p359 := eq_true p359; replace q359 := eq_true q359)); try go_wp2_with (first | ((with_reducible refine gate_dst (N := 18) rfl ?_); (try (refine gate_guard (by rfl) ?_; dsimp only)); refine box_event ?hg (N := 18) ?hd (cs := #[.slice none 0 0, .slice none 0 0]) (t := 37) ?hr ?_; (case hd => rfl); (case hg => rfl); (case hr => first | (go_simp; done) | (go_simp; rfl)); intro gb357 hg w43 hbox hb; have n0_ := As (below_step (by repeat (first | (with_reducible first | exact HB.out | apply bla | apply bln | apply bld) | exact HB.out)) hb); have n1_ := As (hbox); have n2_ := As ((by rw [hg]; exact (below_size (by repeat (first | (with_reducible first | exact HB.out | apply bla | apply bln | apply bld) | exact HB.out))) : w.heap.size ≤ gb357)); have n3_ := As ((by rw [hg]; exact (below_size (by repeat (first | (with_reducible first | exact HB.out | apply bla | apply bln | apply bld) | exact HB.out))) : w.heap.size ≤ gb357)); clear HB; have HB := n0_; have BK357 := n1_; have GW357 := n2_; have GE357 := n3_; clear n0_ n1_ n2_ n3_; clear hb hbox hg; have hcz44_0 : w43.cell? ⟨gb357, 0, none⟩ = some (.slice none 0 0) := (blk_cell BK357.out 0).trans rfl; have hcz44_1 : w43.cell? ⟨gb357, 1, none⟩ = some (.slice none 0 0) := (blk_cell BK357.out 1).trans rfl; have hfz44_0 := blk_frozen BK357.out 0; have hfz44_1 := blk_frozen BK357.out 1; have p358 : 0 ≤ ((ji39) : Int) := of_decide_eq_true (by first | (with_reducible assumption) | assumption); have q358 : (ji39) < (((rd_T37 l0 x81_5).f0).length : Int) := of_decide_eq_true (by first | (with_reducible assumption) | assumption); obtain ⟨ad358, e358, hx358_0⟩ := Kd.at_int HR356_0.out (ji39) p358 q358; cases e358; have hn358_0 : ad358.block ≠ gb357 := Nat.ne_of_lt (Nat.lt_of_lt_of_le (by have := World.block_lt_of_cell? _ _ hx358_0; first | rwa [add_block] at this | exact this) GW357.out); have hn358_1 : ad358.block ≠ gb357 := Nat.ne_of_lt (Nat.lt_of_lt_of_le (by have := World.block_lt_of_cell? _ _ hx358_0; first | rwa [add_block] at this | exact this) GW357.out); replace hx358_0 := (HB.out.cell (World.block_lt_of_cell? w _ hx358_0)).trans hx358_0; replace hx358_0 := (cell_far (p := ⟨gb357, 0, none⟩) (by first | (rw [add_block]; exact hn358_0) | (show (Addr.add _ _).block ≠ _; rw [add_block]; exact hn358_0) | exact hn358_0) (.slice (some ad358) ((rd_T37 l0 x81_5).f0).length c356_0)).trans hx358_0; replace hx358_0 := (cell_far (p := ⟨gb357, 1, none⟩) (by first | (rw [add_block]; exact hn358_1) | (show (Addr.add _ _).block ≠ _; rw [add_block]; exact hn358_1) | exact hn358_1) (.slice A356_1 ((rd_T37 l0 x81_5).f1).length c356_1)).trans hx358_0; (try have hy358_0 := fun (n_ : Nat) => (show ((((w43.drewN n_).setCell ⟨gb357, 0, none⟩ (.slice (some ad358) ((rd_T37 l0 x81_5).f0).length c356_0)).setCell ⟨gb357, 1, none⟩ (.slice A356_1 ((rd_T37 l0 x81_5).f1).length c356_1))).cell? _ = some _ from hx358_0)); clear hn358_0; clear hn358_1; replace p358 := eq_true p358; replace q358 := eq_true q358; have p359 : 0 ≤ ((ji39) : Int) := of_decide_eq_true (by first | (with_reducible assumption) | assumption); have q359 : (ji39) < (((rd_T37 l0 x81_5).f1).length : Int) := of_decide_eq_true (by first | (with_reducible assumption) | assumption); obtain ⟨ad359, e359, hx359_0⟩ := Kd.at_int HR356_1.out (ji39) p359 q359; cases e359; have hn359_0 : ad359.block ≠ gb357 := Nat.ne_of_lt (Nat.lt_of_lt_of_le (by have := World.block_lt_of_cell? _ _ hx359_0; first | rwa [add_block] at this | exact this) GW357.out); have hn359_1 : ad359.block ≠ gb357 := Nat.ne_of_lt (Nat.lt_of_lt_of_le (by have := World.block_lt_of_cell? _ _ hx359_0; first | rwa [add_block] at this | exact this) GW357.out); replace hx359_0 := (HB.out.cell (World.block_lt_of_cell? w _ hx359_0)).trans hx359_0; replace hx359_0 := (cell_far (p := ⟨gb357, 0, none⟩) (by first | (rw [add_block]; exact hn359_0) | (show (Addr.add _ _).block ≠ _; rw [add_block]; exact hn359_0) | exact hn359_0) (.slice (some ad358) ((rd_T37 l0 x81_5).f0).length c356_0)).trans hx359_0; replace hx359_0 := (cell_far (p := ⟨gb357, 1, none⟩) (by first | (rw [add_block]; exact hn359_1) | (show (Addr.add _ _).block ≠ _; rw [add_block]; exact hn359_1) | exact hn359_1) (.slice (some ad359) ((rd_T37 l0 x81_5).f1).length c356_1)).trans hx359_0; (try have hy359_0 := fun (n_ : Nat) => (show ((((w43.drewN n_).setCell ⟨gb357, 0, none⟩ (.slice (some ad358) ((rd_T37 l0 x81_5).f0).length c356_0)).setCell ⟨gb357, 1, none⟩ (.slice (some ad359) ((rd_T37 l0 x81_5).f1).length c356_1))).cell? _ = some _ from hx359_0)); clear hn359_0; clear hn359_1; replace p359 := eq_true p359; replace q359 := eq_true q359)))
                      go_roundg k5
                      case measure => have := HJ2.out; have := HK2.out; have := HJ26.out; have := HK4.out; have := HK5.out; omega
                      case rel => exact ⟨(wrap64 (x14_5 + (rd ((rd_T37 l0 x81_5).f0) (ji39)))), (wrap64 (x15_5 + (rd ((rd_T37 l0 x81_5).f1) (ji39)))), (wrap64 (Int.tdiv x16_5 (((rd_T37 l0 x81_5).f0).length : Int))), (wrap64 (x81_5 + 1)), (by first | rfl | (simp; done) | (simp only [← hji39] <;> (first | rfl | simp)) | (simp [*]; done)), (by first | rfl | (simp; done) | (simp only [← hji39] <;> (first | rfl | simp)) | (simp [*]; done)), (by first | rfl | (simp; done) | (simp [*]; done)), (by first | rfl | (simp; done) | (simp [*]; done)), H', ⟨by have := HJ2.out; have := HK2.out; have := HJ26.out; have := HK4.out; have := HK5.out; omega⟩, ⟨by repeat (first | (with_reducible first | exact HB.out | apply bla | apply bln | apply bld | refine bls ?_ GE357.out) | exact HB.out)⟩⟩
                     ·
                      rw [if_neg c42] at H
                      exact absurd H (by simp)
                    ·
                     rw [if_neg c41] at H
                     exact absurd H (by simp)
                   ·
                    rw [if_neg c40] at H
                    exact absurd H (by simp)
                 ·
                  rw [if_neg c37] at H
                  exact absurd H (by simp)
                ·
                 rw [if_neg c36] at H
                 exact absurd H (by simp)
               ·
                rw [if_neg c35] at H
                have c35b0 : decide (x81_5 < (l0.length : Int)) = false := decide_eq_false c35
                clear c35
                have HC45 := As H
                clear H
                go_upto_region 26 with (fail)
                repeat (go_quiet (fail); go_upto_region 26 with (fail))
                go_cut [120] (fun v120 wc => ∃ (kq : Nat) (x120_44 : Bool), v120 = .bool x120_44 ∧ Aside0 (waveletlaw21_AllocOptimal.j6 kq l0 x5_2 t352 t353 x13_4 x120_44 = some r) ∧ Aside0 (kq ≤ k5) ∧ Aside0 (Below w.heap.size w wc))
                case first =>
                 have H := HC45.out
                 clear HC45
                 by_cases c46 : x14_5 ≤ t352
                 ·
                  rw [if_pos c46] at H
                  have c46b0 : decide (x14_5 ≤ t352) = true := decide_eq_true c46
                  clear c46
                  (first | rw [c46b0] | (simp only [i64_w, i32_w]; rw [c46b0]) | skip)
                  have H' := As H
                  clear H
                  go_wp2
                  repeat (go_quiet (fail); try go_wp2)
                  go_meet
                  case rel => exact ⟨_, (decide (x15_5 < t353)), (by first | rfl | (simp; done) | (simp [*]; done)), H', ⟨by have := HJ2.out; have := HK2.out; have := HJ26.out; have := HK4.out; have := HK5.out; first | omega | exact Nat.le_refl _⟩, ⟨by repeat (first | (with_reducible first | exact HB.out | apply bla | apply bln | apply bld) | exact HB.out)⟩⟩
                 ·
                  rw [if_neg c46] at H
                  have c46b0 : decide (x14_5 ≤ t352) = false := decide_eq_false c46
                  clear c46
                  (first | rw [c46b0] | (simp only [i64_w, i32_w]; rw [c46b0]) | skip)
                  have H' := As H
                  clear H
                  go_wp2
                  repeat (go_quiet (fail); try go_wp2)
                  go_meet
                  case rel => exact ⟨_, (false), (by first | rfl | (simp; done) | (simp [*]; done)), H', ⟨by have := HJ2.out; have := HK2.out; have := HJ26.out; have := HK4.out; have := HK5.out; first | omega | exact Nat.le_refl _⟩, ⟨by repeat (first | (with_reducible first | exact HB.out | apply bla | apply bln | apply bld) | exact HB.out)⟩⟩
                case rest =>
                 clear HC45
                 try clear c1
                 try clear c2
                 try clear p2
                 try clear c3
                 try clear p3
                 try clear q3
                 try clear hx3
                 try clear c4
                 try clear c4b0
                 try clear c4b1
                 try clear c5
                 try clear p6
                 try clear c7
                 try clear c8
                 try clear c8b0
                 try clear c9
                 try clear c9b0
                 try clear c10
                 try clear c10b0
                 try clear c15
                 try clear c21
                 try clear c31
                 try clear c31b0
                 try clear c31b1
                 try clear c32
                 try clear c32b0
                 try clear c32b1
                 try clear c33
                 try clear c34
                 try clear c34b0
                 try clear p34
                 try clear q34
                 try clear hx34
                 try clear c35
                 try clear c35b0
                 try clear p35
                 try clear q35
                 try clear hx35
                 try clear c36
                 try clear c36b0
                 try clear c37
                 try clear c37b0
                 try clear c38
                 try clear c38b0
                 try clear c38b1
                 try clear c38b2
                 try clear c40
                 try clear c40b0
                 try clear c41
                 try clear c41b0
                 try clear c42
                 try clear c42b0
                 try clear c46
                 try clear c46b0
                 try clear hcz13_0
                 try clear hcz13_1
                 try clear hcz16_0
                 try clear hcz16_1
                 try clear hcz18_0
                 try clear hcz18_1
                 try clear hcz19_0
                 try clear hcz19_1
                 try clear hcz24_0
                 try clear hcz24_1
                 try clear hcz44_0
                 try clear hcz44_1
                 try clear hfz13_0
                 try clear hfz13_1
                 try clear hfz16_0
                 try clear hfz16_1
                 try clear hfz18_0
                 try clear hfz18_1
                 try clear hfz19_0
                 try clear hfz19_1
                 try clear hfz24_0
                 try clear hfz24_1
                 try clear hfz44_0
                 try clear hfz44_1
                 try clear hx344_0
                 try clear hx344_1
                 try clear hx356_0
                 try clear hx356_1
                 try clear hx358_0
                 try clear hx359_0
                 try clear p2
                 try clear p3
                 try clear p34
                 try clear p344
                 try clear p356
                 try clear p358
                 try clear p359
                 try clear p6
                 try clear q3
                 try clear q34
                 try clear q344
                 try clear q356
                 try clear q358
                 try clear q359
                 obtain ⟨kq, x120_44, rfl, HA, HJ44, HB⟩ := hcut
                 cases kq with
                 | zero => exact absurd HA.out (by simp [waveletlaw21_AllocOptimal.j6])
                 | succ kj44 =>
                  have H := HA.out
                  clear HA
                  simp only [waveletlaw21_AllocOptimal.j6] at H
                  by_cases c47 : x120_44 = true
                  ·
                   subst c47
                   have H1 : (some false) = some r := by rw [if_pos rfl] at H; exact H
                   clear H
                   have H := H1
                   clear H1
                   obtain rfl := Option.some.inj H
                   go_wp2
                   repeat (go_quiet (fail); try go_wp2)
                   go_ret
                   exact ⟨by first | rfl | (simp [errW_none, errW_some] <;> rfl) | (simp [*, errW_none, errW_some] <;> rfl), by repeat (first | (with_reducible first | exact HB.out | apply bla | apply bln | apply bld) | exact HB.out)⟩
                  ·
                   replace c47 := Bool.eq_false_iff.mpr c47
                   subst c47
                   have H1 : (waveletlaw21_AllocOptimal.l1 kj44 l0 x5_2 t352 t353 (wrap64 (x13_4 + 1))) = some r := by rw [if_neg (show ¬ (false = true) by decide)] at H; exact H
                   clear H
                   have H := H1
                   clear H1
                   have H' := As H
                   clear H
                   go_wp2
                   repeat (go_quiet (fail); try go_wp2)
                   go_roundg kj44
                   case measure => have := HJ2.out; have := HK2.out; have := HJ26.out; have := HK4.out; have := HK5.out; have := HJ44.out; omega
                   case rel => exact ⟨(wrap64 (x13_4 + 1)), (by first | rfl | (simp; done) | (simp [*]; done)), H', ⟨by have := HJ2.out; have := HK2.out; have := HJ26.out; have := HK4.out; have := HK5.out; have := HJ44.out; omega⟩, ⟨by repeat (first | (with_reducible first | exact HB.out | apply bla | apply bln | apply bld) | exact HB.out)⟩⟩
            ·
             rw [if_neg c34] at H
             have c34b0 : decide (x13_4 < x5_2) = false := decide_eq_false c34
             clear c34
             replace H := Option.bind_eq_some_iff.mp H
             obtain ⟨t355, A480, H⟩ := H
             replace H : (some t355) = some r := H
             have A48 := As A480
             clear A480
             obtain rfl := Option.some.inj H
             go_wp2_with (first | (go_at_call 10; (with_reducible refine (waveletlaw21_exampleHolds.calls k4  t355 _ A48.out).mono ?_); rintro e w49 ⟨rfl, hb⟩; have n0_ := As (below_step (by repeat (first | (with_reducible first | exact HB.out | apply bla | apply bln | apply bld) | exact HB.out)) hb); clear HB; have HB := n0_; clear n0_; (try clear hb); (try clear hb2); (try clear hk); (try clear hi)))
             repeat (go_quiet (first | (go_at_call 10; (with_reducible refine (waveletlaw21_exampleHolds.calls k4  t355 _ A48.out).mono ?_); rintro e w49 ⟨rfl, hb⟩; have n0_ := As (below_step (by repeat (first | (with_reducible first | exact HB.out | apply bla | apply bln | apply bld) | exact HB.out)) hb); clear HB; have HB := n0_; clear n0_; (try clear hb); (try clear hb2); (try clear hk); (try clear hi))); try go_wp2_with (first | (go_at_call 10; (with_reducible refine (waveletlaw21_exampleHolds.calls k4  t355 _ A48.out).mono ?_); rintro e w49 ⟨rfl, hb⟩; have n0_ := As (below_step (by repeat (first | (with_reducible first | exact HB.out | apply bla | apply bln | apply bld) | exact HB.out)) hb); clear HB; have HB := n0_; clear n0_; (try clear hb); (try clear hb2); (try clear hk); (try clear hi))))
             go_ret
             exact ⟨by first | rfl | (simp [errW_none, errW_some] <;> rfl) | (simp [*, errW_none, errW_some] <;> rfl), by repeat (first | (with_reducible first | exact HB.out | apply bla | apply bln | apply bld) | exact HB.out)⟩

end Go.Proofs.Ytgmadhlebpbcpaa.P
