-- Written by a program of this session (wip/gen/pr.py, over the kit's print): Lean checks it.
import Derived.Test.YtgmadhlebpbcpaaPx0
import Derived.Test.YtgmadhlebpbcpaaPx7
import Derived.Test.YtgmadhlebpbcpaaPx10
namespace Go.Proofs.Ytgmadhlebpbcpaa.P
open Go.RowKit Go.Proofs.YtgmadhlebpbcpaaW.PrintWords Go.Proofs.YtgmadhlebpbcpaaW.PrintLast Go.Proofs.YtgmadhlebpbcpaaW.PrintMore
attribute [local go_sem] max2_int min2_int max_two min_two max_three min_three max_four min_four   -- for this text's walks alone
set_option linter.unusedVariables false
set_option linter.unusedSimpArgs false

/-! ### waveletref21_Layers: function 12 -/
mutual
def waveletref21_Layers.l0 : Nat → List (S37) → List Int → List Int → Int → Int → Option ((List (List Int)) × Int)
 | 0, _, _, _, _, _ => none
 | k + 1, x0, x1, x22, x23, x24 => if x24 < x23 then (if 0 ≤ x24 then (if x24 < (x22.length : Int) then (if (rd x22 x24) < (-1) then (waveletref21_Layers.j1 k x0 x1 x22 x23 x24 true) else (if (rd x22 x24) = (-1) then (if x24 < (wrap64 ((x1.length : Int) - 1)) then (waveletref21_Layers.j1 k x0 x1 x22 x23 x24 true) else (if (rd x22 x24) ≥ 0 then (if x24 > 0 then (if 0 ≤ (wrap64 (x24 - 1)) then (if (wrap64 (x24 - 1)) < (x1.length : Int) then (waveletref21_Layers.j1 k x0 x1 x22 x23 x24 (decide ((rd x22 x24) < (rd x1 (wrap64 (x24 - 1)))))) else (none)) else (none)) else (waveletref21_Layers.j1 k x0 x1 x22 x23 x24 false)) else (waveletref21_Layers.j1 k x0 x1 x22 x23 x24 false))) else (if (rd x22 x24) ≥ 0 then (if x24 > 0 then (if 0 ≤ (wrap64 (x24 - 1)) then (if (wrap64 (x24 - 1)) < (x1.length : Int) then (waveletref21_Layers.j1 k x0 x1 x22 x23 x24 (decide ((rd x22 x24) < (rd x1 (wrap64 (x24 - 1)))))) else (none)) else (none)) else (waveletref21_Layers.j1 k x0 x1 x22 x23 x24 false)) else (waveletref21_Layers.j1 k x0 x1 x22 x23 x24 false)))) else (none)) else (none)) else (waveletref21_Layers.l1 k x0 ([] : List (List Int)) x1 (x1.length : Int) 0)
def waveletref21_Layers.j1 : Nat → List (S37) → List Int → List Int → Int → Int → Bool → Option ((List (List Int)) × Int)
 | 0, _, _, _, _, _, _ => none
 | k + 1, x0, x1, x22, x23, x24, x58 => if x58 = true then (some (([] : List (List Int)), 2)) else (waveletref21_Layers.l0 k x0 x1 x22 x23 (wrap64 (x24 + 1)))
def waveletref21_Layers.l1 : Nat → List (S37) → List (List Int) → List Int → Int → Int → Option ((List (List Int)) × Int)
 | 0, _, _, _, _, _ => none
 | k + 1, x0, x9, x60, x61, x62 => if x62 < x61 then (if 0 ≤ x62 then (if x62 < (x60.length : Int) then ((waveletref21_Choose.f k x0 (rd x60 x62)).bind fun bt264 => (if x9.length < 5864062014805 then (waveletref21_Layers.l1 k x0 (x9 ++ [bt264.1]) x60 x61 (wrap64 (x62 + 1))) else (none))) else (none)) else (none)) else (some (x9, 0))
end
def waveletref21_Layers.f (k : Nat) (l0 : List (S37)) (l1 : List Int) : Option ((List (List Int)) × Int) := if (l1.length : Int) > 16 then (some (([] : List (List Int)), 5)) else ((waveletref21_ValidCurves.f k l0).bind fun t259 => (if t259 = 0 then (waveletref21_Layers.l0 k l0 l1 l1 (l1.length : Int) 0) else (some (([] : List (List Int)), t259))))
theorem waveletref21_Layers.mono_l : ∀ k, (∀ y0 y1 y2 y3 y4, LeO (waveletref21_Layers.l0 k y0 y1 y2 y3 y4) (waveletref21_Layers.l0 (k + 1) y0 y1 y2 y3 y4)) ∧ (∀ y0 y1 y2 y3 y4 y5, LeO (waveletref21_Layers.j1 k y0 y1 y2 y3 y4 y5) (waveletref21_Layers.j1 (k + 1) y0 y1 y2 y3 y4 y5)) ∧ (∀ y0 y1 y2 y3 y4, LeO (waveletref21_Layers.l1 k y0 y1 y2 y3 y4) (waveletref21_Layers.l1 (k + 1) y0 y1 y2 y3 y4))
 | 0 => ⟨fun _ _ _ _ _ r h => by simp [waveletref21_Layers.l0] at h, fun _ _ _ _ _ _ r h => by simp [waveletref21_Layers.j1] at h, fun _ _ _ _ _ r h => by simp [waveletref21_Layers.l1] at h⟩
 | k + 1 => by
  obtain ⟨ih0, ih1, ih2⟩ := waveletref21_Layers.mono_l k
  refine ⟨?_, ?_, ?_⟩
  ·
   intro y0 y1 y2 y3 y4
   unfold waveletref21_Layers.l0
   repeat' first
   | (with_reducible exact ih0 _ _ _ _ _)
   | (with_reducible exact ih1 _ _ _ _ _ _)
   | (with_reducible exact ih2 _ _ _ _ _)
   | (with_reducible exact waveletref21_Choose.mono _ _ _)
   | (with_reducible exact waveletref21_ValidCurves.mono _ _)
   | (with_reducible exact LeO.refl _)
   | (with_reducible exact LeO.none _)
   | (with_reducible refine LeO.ite ?_ ?_)
   | (with_reducible refine LeO.bind ?_ (fun _ => ?_))
   | exact ih0 _ _ _ _ _
   | exact ih1 _ _ _ _ _ _
   | exact ih2 _ _ _ _ _
   | exact waveletref21_Choose.mono _ _ _
   | exact waveletref21_ValidCurves.mono _ _
   | exact LeO.none _
   | refine LeO.ite ?_ ?_
   | refine LeO.bind ?_ (fun _ => ?_)
  ·
   intro y0 y1 y2 y3 y4 y5
   unfold waveletref21_Layers.j1
   repeat' first
   | (with_reducible exact ih0 _ _ _ _ _)
   | (with_reducible exact ih1 _ _ _ _ _ _)
   | (with_reducible exact ih2 _ _ _ _ _)
   | (with_reducible exact waveletref21_Choose.mono _ _ _)
   | (with_reducible exact waveletref21_ValidCurves.mono _ _)
   | (with_reducible exact LeO.refl _)
   | (with_reducible exact LeO.none _)
   | (with_reducible refine LeO.ite ?_ ?_)
   | (with_reducible refine LeO.bind ?_ (fun _ => ?_))
   | exact ih0 _ _ _ _ _
   | exact ih1 _ _ _ _ _ _
   | exact ih2 _ _ _ _ _
   | exact waveletref21_Choose.mono _ _ _
   | exact waveletref21_ValidCurves.mono _ _
   | exact LeO.none _
   | refine LeO.ite ?_ ?_
   | refine LeO.bind ?_ (fun _ => ?_)
  ·
   intro y0 y1 y2 y3 y4
   unfold waveletref21_Layers.l1
   repeat' first
   | (with_reducible exact ih0 _ _ _ _ _)
   | (with_reducible exact ih1 _ _ _ _ _ _)
   | (with_reducible exact ih2 _ _ _ _ _)
   | (with_reducible exact waveletref21_Choose.mono _ _ _)
   | (with_reducible exact waveletref21_ValidCurves.mono _ _)
   | (with_reducible exact LeO.refl _)
   | (with_reducible exact LeO.none _)
   | (with_reducible refine LeO.ite ?_ ?_)
   | (with_reducible refine LeO.bind ?_ (fun _ => ?_))
   | exact ih0 _ _ _ _ _
   | exact ih1 _ _ _ _ _ _
   | exact ih2 _ _ _ _ _
   | exact waveletref21_Choose.mono _ _ _
   | exact waveletref21_ValidCurves.mono _ _
   | exact LeO.none _
   | refine LeO.ite ?_ ?_
   | refine LeO.bind ?_ (fun _ => ?_)
theorem waveletref21_Layers.mono : ∀ a0 a1 k, LeO (waveletref21_Layers.f k a0 a1) (waveletref21_Layers.f (k + 1) a0 a1) := by
 intro a0 a1 k
 obtain ⟨ih0, ih1, ih2⟩ := waveletref21_Layers.mono_l k
 unfold waveletref21_Layers.f
 repeat' first
   | (with_reducible exact ih0 _ _ _ _ _)
   | (with_reducible exact ih1 _ _ _ _ _ _)
   | (with_reducible exact ih2 _ _ _ _ _)
   | (with_reducible exact waveletref21_Choose.mono _ _ _)
   | (with_reducible exact waveletref21_ValidCurves.mono _ _)
   | (with_reducible exact LeO.refl _)
   | (with_reducible exact LeO.none _)
   | (with_reducible refine LeO.ite ?_ ?_)
   | (with_reducible refine LeO.bind ?_ (fun _ => ?_))
   | exact ih0 _ _ _ _ _
   | exact ih1 _ _ _ _ _ _
   | exact ih2 _ _ _ _ _
   | exact waveletref21_Choose.mono _ _ _
   | exact waveletref21_ValidCurves.mono _ _
   | exact LeO.none _
   | refine LeO.ite ?_ ?_
   | refine LeO.bind ?_ (fun _ => ?_)
set_option maxHeartbeats 8000000 in
set_option maxRecDepth 100000 in
theorem waveletref21_Layers.calls (k : Nat) (A0 : Option Addr) (c0 : Nat) (l0 : List (S37)) (A1 : Option Addr) (c1 : Nat) (l1 : List Int) (r1 : List (List Int)) (r2 : Int) (w : World) (hr0 : Kd.C k37 w A0 l0.length l0) (hc0 : l0.length ≤ c0) (hr1 : Kd.C (Kd.int .i64) w A1 l1.length l1) (hc1 : l1.length ≤ c1) (h : waveletref21_Layers.f k l0 l1 = some (r1, r2)) :
  Calls Try.prog 12 #[.slice A0 l0.length c0, .slice A1 l1.length c1] w fun e w' => ∃ v0_ : Value, e = .returned (.tuple #[v0_, .int .i64 r2]) ∧ Kd.S (Kd.slice 3 (Kd.int .i64)) 23 w' w.heap.size (fun _ => True) v0_ r1 ∧ Below w.heap.size w w' := by
 have HR0 := As hr0
 have HC0 := As hc0
 clear hr0 hc0
 have HR1 := As hr1
 have HC1 := As hc1
 clear hr1 hc1
 have HB := As (Below.refl w.heap.size w)
 have H : (if (l1.length : Int) > 16 then (some (([] : List (List Int)), 5)) else ((waveletref21_ValidCurves.f k l0).bind fun t259 => (if t259 = 0 then (waveletref21_Layers.l0 k l0 l1 l1 (l1.length : Int) 0) else (some (([] : List (List Int)), t259))))) = some (r1, r2) := h
 clear h
 by_cases c3 : (l1.length : Int) > 16
 ·
  rw [if_pos c3] at H
  have c3b0 : decide (16 < (l1.length : Int)) = true := decide_eq_true c3
  have c3b1 : decide (16 < l1.length) = true := decide_eq_true (by omega)
  clear c3
  simp only [Option.some.injEq, Prod.mk.injEq] at H
  obtain ⟨rfl, rfl⟩ := H
  go_enter Try.func12, Try.ntmps12
  go_wp2
  go_ret2
  exact ⟨_, by first | rfl | (simp [errW_none, errW_some] <;> rfl) | (simp [*, errW_none, errW_some] <;> rfl), by first | exact Kd.S_nil _ _ _ _ _ | exact Kd.N_nil _ _ _ _ _ | exact Kd.V_nil _ _ _ _ _ | exact Kd.Q_nil _ _ _ _ _ | exact Kd.R_nil _ _ _ _ _, by repeat (first | (with_reducible first | exact HB.out | apply bla | apply bln | apply bld) | exact HB.out)⟩
 ·
  rw [if_neg c3] at H
  have c3b0 : decide (16 < (l1.length : Int)) = false := decide_eq_false c3
  have c3b1 : decide (16 < l1.length) = false := decide_eq_false (by omega)
  clear c3
  replace H := Option.bind_eq_some_iff.mp H
  obtain ⟨t259, A40, H⟩ := H
  replace H : (if t259 = 0 then (waveletref21_Layers.l0 k l0 l1 l1 (l1.length : Int) 0) else (some (([] : List (List Int)), t259))) = some (r1, r2) := H
  have A4 := As A40
  clear A40
  by_cases c5 : t259 = 0
  ·
   rw [if_pos c5] at H
   have c5b0 : (t259 == 0) = true := beq_iff_eq.mpr c5
   have c5b1 : (t259 != 0) = false := bne_eq_false_iff_eq.mpr c5
   clear c5
   have H' := As H
   clear H
   go_enter Try.func12, Try.ntmps12
   go_wp2_with (first | ((with_reducible refine gate_callee (f := 20) rfl ?_); refine goesL_ (some 18) rfl rfl Try.func20 (by kernel_rfl) rfl #[.slice A0 l0.length c0] rfl (by (try simp only [List.map_toArray, List.map_cons, List.map_nil]); first | done | rfl | (simp only [List.length_drop, List.length_take]; rfl)) ?_; (with_reducible refine (waveletref21_ValidCurves.calls k _ _ l0 t259 _ ?side1 ?side2 A4.out).mono ?_); (case side1 => repeat (first | exact HR0.out | (with_reducible refine Kd.C_alloc ?_ _) | (with_reducible refine Kd.C_drewN ?_ _) | (with_reducible refine Kd.C_drew ?_))); (case side2 => exact HC0.out); rintro e w6 ⟨rfl, hb⟩; refine ⟨_, rfl, ?_⟩; have n0_ := As (below_step (by repeat (first | (with_reducible first | exact HB.out | apply bla | apply bln | apply bld) | exact HB.out)) hb); clear HB; have HB := n0_; clear n0_; (try clear hb); (try clear hb2); (try clear hk); (try clear hi)))
   go_loopg [24] k (fun kq v24 w' => ∃ (x24_1 : Int), v24 = .int .i64 x24_1 ∧ Aside0 (waveletref21_Layers.l0 kq l0 l1 l1 (l1.length : Int) x24_1 = some (r1, r2)) ∧ Aside0 (kq ≤ k) ∧ Aside0 (Below w.heap.size w w'))
   case atStart => exact ⟨(0), (by first | rfl | (simp; done) | (simp [*]; done)), H', ⟨Nat.le_refl _⟩, ⟨by repeat (first | (with_reducible first | exact HB.out | apply bla | apply bln | apply bld) | exact HB.out)⟩⟩
   case round =>
    clear H'
    try clear c1
    try clear c2
    try clear p2
    try clear c3
    try clear c3b0
    try clear c3b1
    try clear c5
    try clear c5b0
    try clear c5b1
    obtain ⟨x24_1, rfl, HA, HK1, HB⟩ := hrel
    cases gk with
    | zero => exact absurd HA.out (by simp [waveletref21_Layers.l0])
    | succ k1 =>
     have H := HA.out
     clear HA
     simp only [waveletref21_Layers.l0] at H
     by_cases c7 : x24_1 < (l1.length : Int)
     ·
      rw [if_pos c7] at H
      have c7b0 : decide (x24_1 < (l1.length : Int)) = true := decide_eq_true c7
      clear c7
      by_cases c8 : 0 ≤ x24_1
      ·
       rw [if_pos c8] at H
       have c8b0 : decide (0 ≤ x24_1) = true := decide_eq_true c8
       clear c8
       by_cases c9 : x24_1 < (l1.length : Int)
       ·
        rw [if_pos c9] at H
        have c9b0 : decide (x24_1 < (l1.length : Int)) = true := decide_eq_true c9
        clear c9
        have HC10 := As H
        clear H
        have p260 : 0 ≤ (x24_1 : Int) := of_decide_eq_true (by first | (with_reducible assumption) | assumption)
        have q260 : x24_1 < (l1.length : Int) := of_decide_eq_true (by first | (with_reducible assumption) | assumption)
        obtain ⟨ad260, e260, hx260_0⟩ := Kd.at_int HR1.out x24_1 p260 q260
        cases e260
        replace hx260_0 := (HB.out.cell (World.block_lt_of_cell? w _ hx260_0)).trans hx260_0
        replace p260 := eq_true p260
        replace q260 := eq_true q260
        go_upto_region 9 with (fail)
        go_cut [58] (fun v58 wc => ∃ (kq : Nat) (x58_9 : Bool), v58 = .bool x58_9 ∧ Aside0 (waveletref21_Layers.j1 kq l0 l1 l1 (l1.length : Int) x24_1 x58_9 = some (r1, r2)) ∧ Aside0 (kq ≤ k1) ∧ Aside0 (Below w.heap.size w wc))
        case first =>
         have H := HC10.out
         clear HC10
         by_cases c11 : (rd l1 x24_1) < (-1)
         ·
          rw [if_pos c11] at H
          have c11b0 : decide ((rd l1 x24_1) < (-1)) = true := decide_eq_true c11
          clear c11
          (first | rw [c11b0] | (simp only [i64_w, i32_w]; rw [c11b0]) | skip)
          have H' := As H
          clear H
          go_wp2
          go_meet
          case rel => exact ⟨_, (true), (by first | rfl | (simp; done) | (simp [*]; done)), H', ⟨by have := HK1.out; first | omega | exact Nat.le_refl _⟩, ⟨by repeat (first | (with_reducible first | exact HB.out | apply bla | apply bln | apply bld) | exact HB.out)⟩⟩
         ·
          rw [if_neg c11] at H
          have c11b0 : decide ((rd l1 x24_1) < (-1)) = false := decide_eq_false c11
          clear c11
          (first | rw [c11b0] | (simp only [i64_w, i32_w]; rw [c11b0]) | skip)
          by_cases c12 : (rd l1 x24_1) = (-1)
          ·
           rw [if_pos c12] at H
           have c12b0 : ((rd l1 x24_1) == (-1)) = true := beq_iff_eq.mpr c12
           have c12b1 : ((rd l1 x24_1) != (-1)) = false := bne_eq_false_iff_eq.mpr c12
           clear c12
           by_cases c13 : x24_1 < (wrap64 ((l1.length : Int) - 1))
           ·
            rw [if_pos c13] at H
            have c13b0 : decide (x24_1 < (wrap64 ((l1.length : Int) - 1))) = true := decide_eq_true c13
            clear c13
            have H' := As H
            clear H
            go_wp2
            go_meet
            case rel => exact ⟨_, (true), (by first | rfl | (simp; done) | (simp [*]; done)), H', ⟨by have := HK1.out; first | omega | exact Nat.le_refl _⟩, ⟨by repeat (first | (with_reducible first | exact HB.out | apply bla | apply bln | apply bld) | exact HB.out)⟩⟩
           ·
            rw [if_neg c13] at H
            have c13b0 : decide (x24_1 < (wrap64 ((l1.length : Int) - 1))) = false := decide_eq_false c13
            clear c13
            by_cases c14 : (rd l1 x24_1) ≥ 0
            ·
             rw [if_pos c14] at H
             have c14b0 : decide (0 ≤ (rd l1 x24_1)) = true := decide_eq_true c14
             clear c14
             by_cases c15 : x24_1 > 0
             ·
              rw [if_pos c15] at H
              have c15b0 : decide (0 < x24_1) = true := decide_eq_true c15
              clear c15
              obtain ⟨ji16, hji16⟩ : ∃ j_ : Int, (wrap64 (x24_1 - 1)) = j_ := ⟨_, rfl⟩
              replace H : (if 0 ≤ (ji16) then (if (ji16) < (l1.length : Int) then (waveletref21_Layers.j1 k1 l0 l1 l1 (l1.length : Int) x24_1 (decide ((rd l1 x24_1) < (rd l1 (ji16))))) else (none)) else (none)) = some (r1, r2) := by first | (rw [hji16] at H; exact H) | (simp only [hji16] at H ⊢; exact H)
              have hji16w : (IntKind.i64.wrap (x24_1 - 1)) = ji16 := (i64_w _).trans hji16
              by_cases c17 : 0 ≤ (ji16)
              ·
               rw [if_pos c17] at H
               have c17b0 : decide (0 ≤ (ji16)) = true := decide_eq_true c17
               clear c17
               by_cases c18 : (ji16) < (l1.length : Int)
               ·
                rw [if_pos c18] at H
                have c18b0 : decide ((ji16) < (l1.length : Int)) = true := decide_eq_true c18
                clear c18
                have H' := As H
                clear H
                have p261 : 0 ≤ ((ji16) : Int) := of_decide_eq_true (by first | (with_reducible assumption) | assumption)
                have q261 : (ji16) < (l1.length : Int) := of_decide_eq_true (by first | (with_reducible assumption) | assumption)
                obtain ⟨ad261, e261, hx261_0⟩ := Kd.at_int HR1.out (ji16) p261 q261
                obtain rfl : ad260 = ad261 := (by injection e261)
                replace hx261_0 := (HB.out.cell (World.block_lt_of_cell? w _ hx261_0)).trans hx261_0
                replace p261 := eq_true p261
                replace q261 := eq_true q261
                go_wp2
                go_meet
                case rel => exact ⟨_, (decide ((rd l1 x24_1) < (rd l1 (ji16)))), (by first | rfl | (simp; done) | (simp only [← hji16] <;> (first | rfl | simp)) | (simp [*]; done)), H', ⟨by have := HK1.out; first | omega | exact Nat.le_refl _⟩, ⟨by repeat (first | (with_reducible first | exact HB.out | apply bla | apply bln | apply bld) | exact HB.out)⟩⟩
               ·
                rw [if_neg c18] at H
                exact absurd H (by simp)
              ·
               rw [if_neg c17] at H
               exact absurd H (by simp)
             ·
              rw [if_neg c15] at H
              have c15b0 : decide (0 < x24_1) = false := decide_eq_false c15
              clear c15
              have H' := As H
              clear H
              go_wp2
              go_meet
              case rel => exact ⟨_, (false), (by first | rfl | (simp; done) | (simp [*]; done)), H', ⟨by have := HK1.out; first | omega | exact Nat.le_refl _⟩, ⟨by repeat (first | (with_reducible first | exact HB.out | apply bla | apply bln | apply bld) | exact HB.out)⟩⟩
            ·
             rw [if_neg c14] at H
             have c14b0 : decide (0 ≤ (rd l1 x24_1)) = false := decide_eq_false c14
             clear c14
             have H' := As H
             clear H
             go_wp2
             go_meet
             case rel => exact ⟨_, (false), (by first | rfl | (simp; done) | (simp [*]; done)), H', ⟨by have := HK1.out; first | omega | exact Nat.le_refl _⟩, ⟨by repeat (first | (with_reducible first | exact HB.out | apply bla | apply bln | apply bld) | exact HB.out)⟩⟩
          ·
           rw [if_neg c12] at H
           have c12b0 : ((rd l1 x24_1) == (-1)) = false := beq_eq_false_iff_ne.mpr c12
           have c12b1 : ((rd l1 x24_1) != (-1)) = true := bne_iff_ne.mpr c12
           by_cases c19 : (rd l1 x24_1) ≥ 0
           ·
            rw [if_pos c19] at H
            have c19b0 : decide (0 ≤ (rd l1 x24_1)) = true := decide_eq_true c19
            clear c19
            by_cases c20 : x24_1 > 0
            ·
             rw [if_pos c20] at H
             have c20b0 : decide (0 < x24_1) = true := decide_eq_true c20
             clear c20
             obtain ⟨ji21, hji21⟩ : ∃ j_ : Int, (wrap64 (x24_1 - 1)) = j_ := ⟨_, rfl⟩
             replace H : (if 0 ≤ (ji21) then (if (ji21) < (l1.length : Int) then (waveletref21_Layers.j1 k1 l0 l1 l1 (l1.length : Int) x24_1 (decide ((rd l1 x24_1) < (rd l1 (ji21))))) else (none)) else (none)) = some (r1, r2) := by first | (rw [hji21] at H; exact H) | (simp only [hji21] at H ⊢; exact H)
             have hji21w : (IntKind.i64.wrap (x24_1 - 1)) = ji21 := (i64_w _).trans hji21
             by_cases c22 : 0 ≤ (ji21)
             ·
              rw [if_pos c22] at H
              have c22b0 : decide (0 ≤ (ji21)) = true := decide_eq_true c22
              clear c22
              by_cases c23 : (ji21) < (l1.length : Int)
              ·
               rw [if_pos c23] at H
               have c23b0 : decide ((ji21) < (l1.length : Int)) = true := decide_eq_true c23
               clear c23
               have H' := As H
               clear H
               have p262 : 0 ≤ ((ji21) : Int) := of_decide_eq_true (by first | (with_reducible assumption) | assumption)
               have q262 : (ji21) < (l1.length : Int) := of_decide_eq_true (by first | (with_reducible assumption) | assumption)
               obtain ⟨ad262, e262, hx262_0⟩ := Kd.at_int HR1.out (ji21) p262 q262
               obtain rfl : ad260 = ad262 := (by injection e262)
               replace hx262_0 := (HB.out.cell (World.block_lt_of_cell? w _ hx262_0)).trans hx262_0
               replace p262 := eq_true p262
               replace q262 := eq_true q262
               go_wp2
               go_meet
               case rel => exact ⟨_, (decide ((rd l1 x24_1) < (rd l1 (ji21)))), (by first | rfl | (simp; done) | (simp only [← hji21] <;> (first | rfl | simp)) | (simp [*]; done)), H', ⟨by have := HK1.out; first | omega | exact Nat.le_refl _⟩, ⟨by repeat (first | (with_reducible first | exact HB.out | apply bla | apply bln | apply bld) | exact HB.out)⟩⟩
              ·
               rw [if_neg c23] at H
               exact absurd H (by simp)
             ·
              rw [if_neg c22] at H
              exact absurd H (by simp)
            ·
             rw [if_neg c20] at H
             have c20b0 : decide (0 < x24_1) = false := decide_eq_false c20
             clear c20
             have H' := As H
             clear H
             go_wp2
             go_meet
             case rel => exact ⟨_, (false), (by first | rfl | (simp; done) | (simp [*]; done)), H', ⟨by have := HK1.out; first | omega | exact Nat.le_refl _⟩, ⟨by repeat (first | (with_reducible first | exact HB.out | apply bla | apply bln | apply bld) | exact HB.out)⟩⟩
           ·
            rw [if_neg c19] at H
            have c19b0 : decide (0 ≤ (rd l1 x24_1)) = false := decide_eq_false c19
            clear c19
            have H' := As H
            clear H
            go_wp2
            go_meet
            case rel => exact ⟨_, (false), (by first | rfl | (simp; done) | (simp [*]; done)), H', ⟨by have := HK1.out; first | omega | exact Nat.le_refl _⟩, ⟨by repeat (first | (with_reducible first | exact HB.out | apply bla | apply bln | apply bld) | exact HB.out)⟩⟩
        case rest =>
         clear HC10
         try clear c1
         try clear c2
         try clear p2
         try clear q2
         try clear hx2
         try clear c3
         try clear c3b0
         try clear c3b1
         try clear c5
         try clear c5b0
         try clear c5b1
         try clear p6
         try clear c7
         try clear c7b0
         try clear c8
         try clear c8b0
         try clear c9
         try clear c9b0
         try clear c11
         try clear c11b0
         try clear c12
         try clear c12b0
         try clear c12b1
         try clear c13
         try clear c13b0
         try clear c14
         try clear c14b0
         try clear c15
         try clear c15b0
         try clear c17
         try clear c17b0
         try clear c18
         try clear c18b0
         try clear c19
         try clear c19b0
         try clear c20
         try clear c20b0
         try clear c22
         try clear c22b0
         try clear c23
         try clear c23b0
         try clear hx260_0
         try clear hx261_0
         try clear hx262_0
         try clear p2
         try clear p260
         try clear p261
         try clear p262
         try clear q260
         try clear q261
         try clear q262
         obtain ⟨kq, x58_9, rfl, HA, HJ9, HB⟩ := hcut
         cases kq with
         | zero => exact absurd HA.out (by simp [waveletref21_Layers.j1])
         | succ kj9 =>
          have H := HA.out
          clear HA
          simp only [waveletref21_Layers.j1] at H
          by_cases c24 : x58_9 = true
          ·
           subst c24
           have H1 : (some (([] : List (List Int)), 2)) = some (r1, r2) := by rw [if_pos rfl] at H; exact H
           clear H
           have H := H1
           clear H1
           simp only [Option.some.injEq, Prod.mk.injEq] at H
           obtain ⟨rfl, rfl⟩ := H
           go_wp2
           go_ret2
           exact ⟨_, by first | rfl | (simp [errW_none, errW_some] <;> rfl) | (simp [*, errW_none, errW_some] <;> rfl), by first | exact Kd.S_nil _ _ _ _ _ | exact Kd.N_nil _ _ _ _ _ | exact Kd.V_nil _ _ _ _ _ | exact Kd.Q_nil _ _ _ _ _ | exact Kd.R_nil _ _ _ _ _, by repeat (first | (with_reducible first | exact HB.out | apply bla | apply bln | apply bld) | exact HB.out)⟩
          ·
           replace c24 := Bool.eq_false_iff.mpr c24
           subst c24
           have H1 : (waveletref21_Layers.l0 kj9 l0 l1 l1 (l1.length : Int) (wrap64 (x24_1 + 1))) = some (r1, r2) := by rw [if_neg (show ¬ (false = true) by decide)] at H; exact H
           clear H
           have H := H1
           clear H1
           have H' := As H
           clear H
           go_wp2
           go_roundg kj9
           case measure => have := HK1.out; have := HJ9.out; omega
           case rel => exact ⟨(wrap64 (x24_1 + 1)), (by first | rfl | (simp; done) | (simp [*]; done)), H', ⟨by have := HK1.out; have := HJ9.out; omega⟩, ⟨by repeat (first | (with_reducible first | exact HB.out | apply bla | apply bln | apply bld) | exact HB.out)⟩⟩
       ·
        rw [if_neg c9] at H
        exact absurd H (by simp)
      ·
       rw [if_neg c8] at H
       exact absurd H (by simp)
     ·
      rw [if_neg c7] at H
      have c7b0 : decide (x24_1 < (l1.length : Int)) = false := decide_eq_false c7
      clear c7
      have H' := As H
      clear H
      go_wp2
      go_loopg [9, 62] k1 (fun kq v9 v62 w' => ∃ (x9_2 : List (List Int)) (x62_2 : Int), v62 = .int .i64 x62_2 ∧ Aside0 (waveletref21_Layers.l1 kq l0 x9_2 l1 (l1.length : Int) x62_2 = some (r1, r2)) ∧ Aside0 (kq ≤ k1) ∧ Aside0 (Kd.S (Kd.slice 3 (Kd.int .i64)) 23 w' w.heap.size (fun _ => True) v9 x9_2) ∧ Aside0 (Below w.heap.size w w'))
      case atStart => exact ⟨(([] : List (List Int))), (0), (by first | rfl | (simp; done) | (simp [*]; done)), H', ⟨Nat.le_refl _⟩, ⟨by first | exact Kd.S_nil _ _ _ _ _ | exact Kd.N_nil _ _ _ _ _ | exact Kd.V_nil _ _ _ _ _ | exact Kd.Q_nil _ _ _ _ _ | exact Kd.R_nil _ _ _ _ _⟩, ⟨by repeat (first | (with_reducible first | exact HB.out | apply bla | apply bln | apply bld) | exact HB.out)⟩⟩
      case round =>
       clear H'
       try clear c1
       try clear c2
       try clear p2
       try clear q2
       try clear hx2
       try clear c3
       try clear c3b0
       try clear c3b1
       try clear c5
       try clear c5b0
       try clear c5b1
       try clear p6
       try clear c7
       try clear c7b0
       try clear c8
       try clear c8b0
       try clear c9
       try clear c9b0
       try clear c11
       try clear c11b0
       try clear c12
       try clear c12b0
       try clear c12b1
       try clear c13
       try clear c13b0
       try clear c14
       try clear c14b0
       try clear c15
       try clear c15b0
       try clear c17
       try clear c17b0
       try clear c18
       try clear c18b0
       try clear c19
       try clear c19b0
       try clear c20
       try clear c20b0
       try clear c22
       try clear c22b0
       try clear c23
       try clear c23b0
       try clear c24
       try clear hx260_0
       try clear hx261_0
       try clear hx262_0
       try clear p2
       try clear p260
       try clear p261
       try clear p262
       try clear p6
       try clear q2
       try clear q260
       try clear q261
       try clear q262
       obtain ⟨x9_2, x62_2, rfl, HA, HK2, HO_9, HB⟩ := hrel
       cases gk with
       | zero => exact absurd HA.out (by simp [waveletref21_Layers.l1])
       | succ k2 =>
        have H := HA.out
        clear HA
        simp only [waveletref21_Layers.l1] at H
        by_cases c25 : x62_2 < (l1.length : Int)
        ·
         rw [if_pos c25] at H
         have c25b0 : decide (x62_2 < (l1.length : Int)) = true := decide_eq_true c25
         clear c25
         by_cases c26 : 0 ≤ x62_2
         ·
          rw [if_pos c26] at H
          have c26b0 : decide (0 ≤ x62_2) = true := decide_eq_true c26
          clear c26
          by_cases c27 : x62_2 < (l1.length : Int)
          ·
           rw [if_pos c27] at H
           have c27b0 : decide (x62_2 < (l1.length : Int)) = true := decide_eq_true c27
           clear c27
           replace H := Option.bind_eq_some_iff.mp H
           obtain ⟨⟨t264, t265⟩, A280, H⟩ := H
           replace H : (if x9_2.length < 5864062014805 then (waveletref21_Layers.l1 k2 l0 (x9_2 ++ [t264]) l1 (l1.length : Int) (wrap64 (x62_2 + 1))) else (none)) = some (r1, r2) := H
           have A28 := As A280
           clear A280
           by_cases c29 : x9_2.length < 5864062014805
           ·
            rw [if_pos c29] at H
            have LMc29 := As c29
            clear c29
            obtain ⟨y268, hy268⟩ : ∃ y_ : List (List Int), y_ = (x9_2 ++ [t264]) := ⟨_, rfl⟩
            replace H : (waveletref21_Layers.l1 k2 l0 y268 l1 (l1.length : Int) (wrap64 (x62_2 + 1))) = some (r1, r2) := by first | (rw [hy268]; with_reducible exact H) | (have H2_ := (Option.bind_some _ _).symm.trans H; rw [hy268]; with_reducible exact H2_) | (have H2_ := (Option.bind_some _ _).symm.trans H; with_reducible exact H2_) | with_reducible exact H | (rw [hy268]; exact H) | exact H
            have Ny268 := As hy268
            clear hy268
            have H' := As H
            clear H
            have p263 : 0 ≤ (x62_2 : Int) := of_decide_eq_true (by first | (with_reducible assumption) | assumption)
            have q263 : x62_2 < (l1.length : Int) := of_decide_eq_true (by first | (with_reducible assumption) | assumption)
            obtain ⟨ad263, e263, hx263_0⟩ := Kd.at_int HR1.out x62_2 p263 q263
            cases e263
            replace hx263_0 := (HB.out.cell (World.block_lt_of_cell? w _ hx263_0)).trans hx263_0
            replace p263 := eq_true p263
            replace q263 := eq_true q263
            go_wp2_with (first | ((with_reducible refine gate_callee (f := 17) rfl ?_); refine goesL_ (some 69) rfl rfl Try.func17 (by kernel_rfl) rfl #[.slice A0 l0.length c0, .int .i64 (rd l1 x62_2)] rfl (by (try simp only [List.map_toArray, List.map_cons, List.map_nil]); first | done | rfl | (simp only [List.length_drop, List.length_take]; rfl)) ?_; (with_reducible refine (waveletref21_Choose.calls k2 _ _ l0 (rd l1 x62_2) t264 t265 _ ?side1 ?side2 A28.out).mono ?_); (case side1 => repeat (first | exact (Kd.C_below HR0.out HB.out) | (with_reducible refine Kd.C_alloc ?_ _) | (with_reducible refine Kd.C_drewN ?_ _) | (with_reducible refine Kd.C_drew ?_))); (case side2 => exact HC0.out); rintro e w30 ⟨v266, rfl, ho0, hb⟩; refine ⟨_, rfl, ?_⟩; have n0_ := As (Kd.S_elder' (by (with_reducible repeat (first | apply Kd.S_alloc | apply Kd.S_drewN | apply Kd.S_drew)); exact HO_9.out) (Kd.R_base ho0) hb); have n1_ := As (Kd.R_lower ho0 (below_size (by repeat (first | (with_reducible first | exact HB.out | apply bla | apply bln | apply bld) | exact HB.out)))); have n2_ := As (below_step (by repeat (first | (with_reducible first | exact HB.out | apply bla | apply bln | apply bld) | exact HB.out)) hb); clear HO_9; clear HB; have HO_9 := n0_; have HO267 := n1_; have HB := n2_; clear n0_ n1_ n2_; (try clear hb); (try clear hb2); (try clear hk); (try clear hi); (try clear ho0); obtain ⟨Ao32, co32, eo32⟩ := Kd.R_slice HO267.out; subst eo32) | ((with_reducible refine gate_builtin (b := .append) (xs := #[.tmp 72, .tmp 74]) rfl ?_); (try (refine gate_guard (by rfl) ?_; dsimp only)); at_builtin; refine Kd.S_append (Kd.slice 3 (Kd.int .i64)) (w0 := w) w.heap.size rfl (.tmp 72) (.tmp 74) 26 23 (.slice none 0 0) 24 rfl Try.underlying26 info23 rfl (by decide) (by omega) u9 x9_2 t264 [.slice Ao32 t264.length co32] (fun _ => True) (fun k_ => some k_ = (.slice Ao32 t264.length co32 : Value).ownBlock) rfl rfl ?aP (fun k_ hk_ => ((Kd.R_mono (ok' := fun k_ => ((fun _ => True)) k_ ∧ some k_ ≠ (u9 : Value).ownBlock) (Kd.R_apart' (HO267.out) (Kd.S_typed HO_9.out) (by decide)) (fun k_ hk => ⟨trivial, hk.2⟩))).1 k_ hk_.symm) ?aF ?aO ?aB ?aS ?aL ?_; (case aP => exact Kd.M_row (Kd.R_mono (Kd.R_tight rfl (Kd.R_mono (ok' := fun k_ => ((fun _ => True)) k_ ∧ some k_ ≠ (u9 : Value).ownBlock) (Kd.R_apart' (HO267.out) (Kd.S_typed HO_9.out) (by decide)) (fun k_ hk => ⟨trivial, hk.2⟩))) (fun _ h_ => h_))); (case aB => exact (by repeat (first | (with_reducible first | exact HB.out | apply bla | apply bln | apply bld) | exact HB.out))); (case aF => exact (fun _ _ => trivial)); (case aO => exact (by (with_reducible repeat (first | apply Kd.S_alloc | apply Kd.S_drewN | apply Kd.S_drew)); exact Kd.S_mono HO_9.out (fun k_ hk => ⟨trivial, fun e_ => hk.2 e_⟩))); (case aS => exact (below_size (by repeat (first | (with_reducible first | exact HB.out | apply bla | apply bln | apply bld) | exact HB.out)))); (case aL => have := LMc29.out; omega); intro v269 w31 ho hb hg hat; rw [← Ny268.out] at ho; have n0_ := As (hb); have n1_ := As (ho); clear HB; clear HO_9; clear HO267; have HB := n0_; have HO270 := n1_; clear n0_ n1_; clear ho hb hg hat))
            go_roundg k2
            case measure => have := HK1.out; have := HK2.out; omega
            case rel => exact ⟨(y268), (wrap64 (x62_2 + 1)), (by first | rfl | (simp; done) | (simp [*]; done)), H', ⟨by have := HK1.out; have := HK2.out; omega⟩, ⟨by (with_reducible repeat (first | apply Kd.S_alloc | apply Kd.S_drewN | apply Kd.S_drew)); exact HO270.out⟩, ⟨by repeat (first | (with_reducible first | exact HB.out | apply bla | apply bln | apply bld) | exact HB.out)⟩⟩
           ·
            rw [if_neg c29] at H
            exact absurd H (by simp)
          ·
           rw [if_neg c27] at H
           exact absurd H (by simp)
         ·
          rw [if_neg c26] at H
          exact absurd H (by simp)
        ·
         rw [if_neg c25] at H
         have c25b0 : decide (x62_2 < (l1.length : Int)) = false := decide_eq_false c25
         clear c25
         simp only [Option.some.injEq, Prod.mk.injEq] at H
         obtain ⟨rfl, rfl⟩ := H
         go_wp2
         go_ret2
         exact ⟨_, by first | rfl | (simp [errW_none, errW_some] <;> rfl) | (simp [*, errW_none, errW_some] <;> rfl), by (with_reducible repeat (first | apply Kd.S_alloc | apply Kd.S_drewN | apply Kd.S_drew)); exact HO_9.out, by repeat (first | (with_reducible first | exact HB.out | apply bla | apply bln | apply bld) | exact HB.out)⟩
  ·
   rw [if_neg c5] at H
   have c5b0 : (t259 == 0) = false := beq_eq_false_iff_ne.mpr c5
   have c5b1 : (t259 != 0) = true := bne_iff_ne.mpr c5
   simp only [Option.some.injEq, Prod.mk.injEq] at H
   obtain ⟨rfl, rfl⟩ := H
   go_enter Try.func12, Try.ntmps12
   go_wp2_with (first | ((with_reducible refine gate_callee (f := 20) rfl ?_); refine goesL_ (some 18) rfl rfl Try.func20 (by kernel_rfl) rfl #[.slice A0 l0.length c0] rfl (by (try simp only [List.map_toArray, List.map_cons, List.map_nil]); first | done | rfl | (simp only [List.length_drop, List.length_take]; rfl)) ?_; (with_reducible refine (waveletref21_ValidCurves.calls k _ _ l0 t259 _ ?side1 ?side2 A4.out).mono ?_); (case side1 => repeat (first | exact HR0.out | (with_reducible refine Kd.C_alloc ?_ _) | (with_reducible refine Kd.C_drewN ?_ _) | (with_reducible refine Kd.C_drew ?_))); (case side2 => exact HC0.out); rintro e w33 ⟨rfl, hb⟩; refine ⟨_, rfl, ?_⟩; have n0_ := As (below_step (by repeat (first | (with_reducible first | exact HB.out | apply bla | apply bln | apply bld) | exact HB.out)) hb); clear HB; have HB := n0_; clear n0_; (try clear hb); (try clear hb2); (try clear hk); (try clear hi)))
   go_ret2
   exact ⟨_, by first | rfl | (simp [errW_none, errW_some] <;> rfl) | (simp [*, errW_none, errW_some] <;> rfl), by first | exact Kd.S_nil _ _ _ _ _ | exact Kd.N_nil _ _ _ _ _ | exact Kd.V_nil _ _ _ _ _ | exact Kd.Q_nil _ _ _ _ _ | exact Kd.R_nil _ _ _ _ _, by repeat (first | (with_reducible first | exact HB.out | apply bla | apply bln | apply bld) | exact HB.out)⟩

end Go.Proofs.Ytgmadhlebpbcpaa.P
