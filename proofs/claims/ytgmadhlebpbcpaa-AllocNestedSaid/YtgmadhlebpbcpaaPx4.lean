-- Written by a program of this session (wip/gen/pr.py, over the kit's print): Lean checks it.
import Derived.Test.YtgmadhlebpbcpaaPx0
import Derived.Test.YtgmadhlebpbcpaaPx3
import Derived.Test.YtgmadhlebpbcpaaStp
namespace Go.Proofs.Ytgmadhlebpbcpaa.P
open Go.RowKit Go.Proofs.YtgmadhlebpbcpaaW.PrintWords Go.Proofs.YtgmadhlebpbcpaaW.PrintLast Go.Proofs.YtgmadhlebpbcpaaW.PrintMore
attribute [local go_sem] max2_int min2_int max_two min_two max_three min_three max_four min_four   -- for this text's walks alone
set_option linter.unusedVariables false
set_option linter.unusedSimpArgs false

/-! ### alloc_Choose: function 15 -/
def alloc_Choose.f (k : Nat) (l0 : List (S37)) (a1 : Int) : Option (List Int × Int) := (alloc_check.f k l0).bind fun t133 => (if t133 = 0 then (if a1 < (-1) then (some (([] : List Int), 2)) else (if a1 = (-1) then ((alloc_last.f k l0).bind fun t134 => (some (t134, 0))) else ((alloc_steps.f l0).bind fun t137 => ((alloc_take.f k l0 t137 a1).bind fun t140 => (some (t140, 0)))))) else (some (([] : List Int), t133)))
theorem alloc_Choose.mono : ∀ a0 a1 k, LeO (alloc_Choose.f k a0 a1) (alloc_Choose.f (k + 1) a0 a1) := by
 intro a0 a1 k
 unfold alloc_Choose.f
 repeat' first
   | (with_reducible exact alloc_check.mono _ _)
   | (with_reducible exact alloc_last.mono _ _)
   | (with_reducible exact alloc_take.mono _ _ _ _)
   | (with_reducible exact LeO.refl _)
   | (with_reducible exact LeO.none _)
   | (with_reducible refine LeO.ite ?_ ?_)
   | (with_reducible refine LeO.bind ?_ (fun _ => ?_))
   | exact alloc_check.mono _ _
   | exact alloc_last.mono _ _
   | exact alloc_take.mono _ _ _ _
   | exact LeO.none _
   | refine LeO.ite ?_ ?_
   | refine LeO.bind ?_ (fun _ => ?_)
set_option maxHeartbeats 8000000 in
set_option maxRecDepth 100000 in
theorem alloc_Choose.calls (k : Nat) (A0 : Option Addr) (c0 : Nat) (l0 : List (S37)) (a1 : Int) (r1 : List Int) (r2 : Int) (w : World) (hr0 : Kd.C k37 w A0 l0.length l0) (hc0 : l0.length ≤ c0) (h : alloc_Choose.f k l0 a1 = some (r1, r2)) :
  Calls Try.prog 15 #[.slice A0 l0.length c0, .int .i64 a1] w fun e w' => ∃ v0_ : Value, e = .returned (.tuple #[v0_, .int .i64 r2]) ∧ Kd.R (Kd.int .i64) 3 w' w.heap.size (fun _ => True) v0_ r1 ∧ Below w.heap.size w w' := by
 have HR0 := As hr0
 have HC0 := As hc0
 clear hr0 hc0
 have HB := As (Below.refl w.heap.size w)
 have H : ((alloc_check.f k l0).bind fun t133 => (if t133 = 0 then (if a1 < (-1) then (some (([] : List Int), 2)) else (if a1 = (-1) then ((alloc_last.f k l0).bind fun t134 => (some (t134, 0))) else ((alloc_steps.f l0).bind fun t137 => ((alloc_take.f k l0 t137 a1).bind fun t140 => (some (t140, 0)))))) else (some (([] : List Int), t133)))) = some (r1, r2) := h
 clear h
 replace H := Option.bind_eq_some_iff.mp H
 obtain ⟨t133, A30, H⟩ := H
 replace H : (if t133 = 0 then (if a1 < (-1) then (some (([] : List Int), 2)) else (if a1 = (-1) then ((alloc_last.f k l0).bind fun t134 => (some (t134, 0))) else ((alloc_steps.f l0).bind fun t137 => ((alloc_take.f k l0 t137 a1).bind fun t140 => (some (t140, 0)))))) else (some (([] : List Int), t133))) = some (r1, r2) := H
 have A3 := As A30
 clear A30
 by_cases c4 : t133 = 0
 ·
  rw [if_pos c4] at H
  have c4b0 : (t133 == 0) = true := beq_iff_eq.mpr c4
  have c4b1 : (t133 != 0) = false := bne_eq_false_iff_eq.mpr c4
  clear c4
  by_cases c5 : a1 < (-1)
  ·
   rw [if_pos c5] at H
   have c5b0 : decide (a1 < (-1)) = true := decide_eq_true c5
   clear c5
   simp only [Option.some.injEq, Prod.mk.injEq] at H
   obtain ⟨rfl, rfl⟩ := H
   go_enter Try.func15, Try.ntmps15
   go_wp2_with (first | ((with_reducible refine gate_callee (f := 21) rfl ?_); refine goesL_ (some 8) rfl rfl Try.func21 (by kernel_rfl) rfl #[.slice A0 l0.length c0] rfl (by (try simp only [List.map_toArray, List.map_cons, List.map_nil]); first | done | rfl | (simp only [List.length_drop, List.length_take]; rfl)) ?_; (with_reducible refine (alloc_check.calls k _ _ l0 t133 _ ?side1 ?side2 A3.out).mono ?_); (case side1 => repeat (first | exact HR0.out | (with_reducible refine Kd.C_alloc ?_ _) | (with_reducible refine Kd.C_drewN ?_ _) | (with_reducible refine Kd.C_drew ?_))); (case side2 => exact HC0.out); rintro e w6 ⟨rfl, hb⟩; refine ⟨_, rfl, ?_⟩; have n0_ := As (below_step (by repeat (first | (with_reducible first | exact HB.out | apply bla | apply bln | apply bld) | exact HB.out)) hb); clear HB; have HB := n0_; clear n0_; (try clear hb); (try clear hb2); (try clear hk); (try clear hi)))
   go_ret2
   exact ⟨_, by first | rfl | (simp [errW_none, errW_some] <;> rfl) | (simp [*, errW_none, errW_some] <;> rfl), by first | exact Kd.R_nil _ _ _ _ _ | exact Kd.N_nil _ _ _ _ _ | exact Kd.V_nil _ _ _ _ _ | exact Kd.Q_nil _ _ _ _ _ | exact Kd.S_nil _ _ _ _ _, by repeat (first | (with_reducible first | exact HB.out | apply bla | apply bln | apply bld) | exact HB.out)⟩
  ·
   rw [if_neg c5] at H
   have c5b0 : decide (a1 < (-1)) = false := decide_eq_false c5
   clear c5
   by_cases c7 : a1 = (-1)
   ·
    rw [if_pos c7] at H
    have c7b0 : (a1 == (-1)) = true := beq_iff_eq.mpr c7
    have c7b1 : (a1 != (-1)) = false := bne_eq_false_iff_eq.mpr c7
    clear c7
    replace H := Option.bind_eq_some_iff.mp H
    obtain ⟨t134, A80, H⟩ := H
    replace H : (some (t134, 0)) = some (r1, r2) := H
    have A8 := As A80
    clear A80
    simp only [Option.some.injEq, Prod.mk.injEq] at H
    obtain ⟨rfl, rfl⟩ := H
    go_enter Try.func15, Try.ntmps15
    go_wp2_with (first | ((with_reducible refine gate_callee (f := 21) rfl ?_); refine goesL_ (some 8) rfl rfl Try.func21 (by kernel_rfl) rfl #[.slice A0 l0.length c0] rfl (by (try simp only [List.map_toArray, List.map_cons, List.map_nil]); first | done | rfl | (simp only [List.length_drop, List.length_take]; rfl)) ?_; (with_reducible refine (alloc_check.calls k _ _ l0 t133 _ ?side1 ?side2 A3.out).mono ?_); (case side1 => repeat (first | exact HR0.out | (with_reducible refine Kd.C_alloc ?_ _) | (with_reducible refine Kd.C_drewN ?_ _) | (with_reducible refine Kd.C_drew ?_))); (case side2 => exact HC0.out); rintro e w9 ⟨rfl, hb⟩; refine ⟨_, rfl, ?_⟩; have n0_ := As (below_step (by repeat (first | (with_reducible first | exact HB.out | apply bla | apply bln | apply bld) | exact HB.out)) hb); clear HB; have HB := n0_; clear n0_; (try clear hb); (try clear hb2); (try clear hk); (try clear hi)) | ((with_reducible refine gate_callee (f := 23) rfl ?_); refine goesL_ (some 17) rfl rfl Try.func23 (by kernel_rfl) rfl #[.slice A0 l0.length c0] rfl (by (try simp only [List.map_toArray, List.map_cons, List.map_nil]); first | done | rfl | (simp only [List.length_drop, List.length_take]; rfl)) ?_; (with_reducible refine (alloc_last.calls k _ _ l0 t134 _ ?side1 ?side2 A8.out).mono ?_); (case side1 => repeat (first | exact (Kd.C_below HR0.out HB.out) | (with_reducible refine Kd.C_alloc ?_ _) | (with_reducible refine Kd.C_drewN ?_ _) | (with_reducible refine Kd.C_drew ?_))); (case side2 => exact HC0.out); rintro e w10 ⟨v135, rfl, ho0, hb⟩; refine ⟨_, rfl, ?_⟩; have n0_ := As (Kd.R_lower ho0 (below_size (by repeat (first | (with_reducible first | exact HB.out | apply bla | apply bln | apply bld) | exact HB.out)))); have n1_ := As (below_step (by repeat (first | (with_reducible first | exact HB.out | apply bla | apply bln | apply bld) | exact HB.out)) hb); clear HB; have HO136 := n0_; have HB := n1_; clear n0_ n1_; (try clear hb); (try clear hb2); (try clear hk); (try clear hi); (try clear ho0)))
    go_ret2
    exact ⟨_, by first | rfl | (simp [errW_none, errW_some] <;> rfl) | (simp [*, errW_none, errW_some] <;> rfl), by (with_reducible repeat (first | apply Kd.Ra | apply Kd.Rn | apply Kd.Rd)); exact HO136.out, by repeat (first | (with_reducible first | exact HB.out | apply bla | apply bln | apply bld) | exact HB.out)⟩
   ·
    rw [if_neg c7] at H
    have c7b0 : (a1 == (-1)) = false := beq_eq_false_iff_ne.mpr c7
    have c7b1 : (a1 != (-1)) = true := bne_iff_ne.mpr c7
    replace H := Option.bind_eq_some_iff.mp H
    obtain ⟨t137, A110, H⟩ := H
    replace H : ((alloc_take.f k l0 t137 a1).bind fun t140 => (some (t140, 0))) = some (r1, r2) := H
    have A11 := As A110
    clear A110
    replace H := Option.bind_eq_some_iff.mp H
    obtain ⟨t140, A120, H⟩ := H
    replace H : (some (t140, 0)) = some (r1, r2) := H
    have A12 := As A120
    clear A120
    simp only [Option.some.injEq, Prod.mk.injEq] at H
    obtain ⟨rfl, rfl⟩ := H
    go_enter Try.func15, Try.ntmps15
    go_wp2_with (first | ((with_reducible refine gate_callee (f := 21) rfl ?_); refine goesL_ (some 8) rfl rfl Try.func21 (by kernel_rfl) rfl #[.slice A0 l0.length c0] rfl (by (try simp only [List.map_toArray, List.map_cons, List.map_nil]); first | done | rfl | (simp only [List.length_drop, List.length_take]; rfl)) ?_; (with_reducible refine (alloc_check.calls k _ _ l0 t133 _ ?side1 ?side2 A3.out).mono ?_); (case side1 => repeat (first | exact HR0.out | (with_reducible refine Kd.C_alloc ?_ _) | (with_reducible refine Kd.C_drewN ?_ _) | (with_reducible refine Kd.C_drew ?_))); (case side2 => exact HC0.out); rintro e w13 ⟨rfl, hb⟩; refine ⟨_, rfl, ?_⟩; have n0_ := As (below_step (by repeat (first | (with_reducible first | exact HB.out | apply bla | apply bln | apply bld) | exact HB.out)) hb); clear HB; have HB := n0_; clear n0_; (try clear hb); (try clear hb2); (try clear hk); (try clear hi)) | ((with_reducible refine gate_callee (f := 22) rfl ?_); refine goesL_ (some 20) rfl rfl Try.func22 (by kernel_rfl) rfl #[.slice A0 l0.length c0] rfl (by (try simp only [List.map_toArray, List.map_cons, List.map_nil]); first | done | rfl | (simp only [List.length_drop, List.length_take]; rfl)) ?_; (with_reducible refine (alloc_steps.calls _ _ l0 t137 _ ?side1 ?side2 A11.out).mono ?_); (case side1 => repeat (first | exact (Kd.C_below HR0.out HB.out) | (with_reducible refine Kd.C_alloc ?_ _) | (with_reducible refine Kd.C_drewN ?_ _) | (with_reducible refine Kd.C_drew ?_))); (case side2 => exact HC0.out); rintro e w14 ⟨v138, rfl, ho0, hb⟩; refine ⟨_, rfl, ?_⟩; have n0_ := As (Kd.R_lower ho0 (below_size (by repeat (first | (with_reducible first | exact HB.out | apply bla | apply bln | apply bld) | exact HB.out)))); have n1_ := As (below_step (by repeat (first | (with_reducible first | exact HB.out | apply bla | apply bln | apply bld) | exact HB.out)) hb); clear HB; have HO139 := n0_; have HB := n1_; clear n0_ n1_; (try clear hb); (try clear hb2); (try clear hk); (try clear hi); (try clear ho0); obtain ⟨Ao15, co15, eo15⟩ := Kd.R_slice HO139.out; subst eo15) | ((with_reducible refine gate_callee (f := 24) rfl ?_); refine goesL_ (some 22) rfl rfl Try.func24 (by kernel_rfl) rfl #[.slice A0 l0.length c0, .slice Ao15 t137.length co15, .int .i64 a1] rfl (by (try simp only [List.map_toArray, List.map_cons, List.map_nil]); first | done | rfl | (simp only [List.length_drop, List.length_take]; rfl)) ?_; (with_reducible refine (alloc_take.calls k _ _ l0 _ _ t137 a1 t140 _ ?side1 ?side2 ?side3 ?side4 A12.out).mono ?_); (case side1 => repeat (first | exact (Kd.C_below HR0.out HB.out) | (with_reducible refine Kd.C_alloc ?_ _) | (with_reducible refine Kd.C_drewN ?_ _) | (with_reducible refine Kd.C_drew ?_))); (case side2 => exact HC0.out); (case side3 => repeat (first | exact (Kd.R_reads' HO139.out).2.2 | (with_reducible refine Kd.C_alloc ?_ _) | (with_reducible refine Kd.C_drewN ?_ _) | (with_reducible refine Kd.C_drew ?_))); (case side4 => exact (Kd.R_reads' HO139.out).2.1); rintro e w16 ⟨v141, rfl, ho0, hb⟩; refine ⟨_, rfl, ?_⟩; have n0_ := As (Kd.Rb (by (with_reducible repeat (first | apply Kd.Ra | apply Kd.Rn | apply Kd.Rd)); exact HO139.out) hb); have n1_ := As (Kd.R_lower ho0 (below_size (by repeat (first | (with_reducible first | exact HB.out | apply bla | apply bln | apply bld) | exact HB.out)))); have n2_ := As (below_step (by repeat (first | (with_reducible first | exact HB.out | apply bla | apply bln | apply bld) | exact HB.out)) hb); clear HO139; clear HB; have HO139 := n0_; have HO142 := n1_; have HB := n2_; clear n0_ n1_ n2_; (try clear hb); (try clear hb2); (try clear hk); (try clear hi); (try clear ho0)))
    go_ret2
    exact ⟨_, by first | rfl | (simp [errW_none, errW_some] <;> rfl) | (simp [*, errW_none, errW_some] <;> rfl), by (with_reducible repeat (first | apply Kd.Ra | apply Kd.Rn | apply Kd.Rd)); exact HO142.out, by repeat (first | (with_reducible first | exact HB.out | apply bla | apply bln | apply bld) | exact HB.out)⟩
 ·
  rw [if_neg c4] at H
  have c4b0 : (t133 == 0) = false := beq_eq_false_iff_ne.mpr c4
  have c4b1 : (t133 != 0) = true := bne_iff_ne.mpr c4
  simp only [Option.some.injEq, Prod.mk.injEq] at H
  obtain ⟨rfl, rfl⟩ := H
  go_enter Try.func15, Try.ntmps15
  go_wp2_with (first | ((with_reducible refine gate_callee (f := 21) rfl ?_); refine goesL_ (some 8) rfl rfl Try.func21 (by kernel_rfl) rfl #[.slice A0 l0.length c0] rfl (by (try simp only [List.map_toArray, List.map_cons, List.map_nil]); first | done | rfl | (simp only [List.length_drop, List.length_take]; rfl)) ?_; (with_reducible refine (alloc_check.calls k _ _ l0 t133 _ ?side1 ?side2 A3.out).mono ?_); (case side1 => repeat (first | exact HR0.out | (with_reducible refine Kd.C_alloc ?_ _) | (with_reducible refine Kd.C_drewN ?_ _) | (with_reducible refine Kd.C_drew ?_))); (case side2 => exact HC0.out); rintro e w17 ⟨rfl, hb⟩; refine ⟨_, rfl, ?_⟩; have n0_ := As (below_step (by repeat (first | (with_reducible first | exact HB.out | apply bla | apply bln | apply bld) | exact HB.out)) hb); clear HB; have HB := n0_; clear n0_; (try clear hb); (try clear hb2); (try clear hk); (try clear hi)))
  go_ret2
  exact ⟨_, by first | rfl | (simp [errW_none, errW_some] <;> rfl) | (simp [*, errW_none, errW_some] <;> rfl), by first | exact Kd.R_nil _ _ _ _ _ | exact Kd.N_nil _ _ _ _ _ | exact Kd.V_nil _ _ _ _ _ | exact Kd.Q_nil _ _ _ _ _ | exact Kd.S_nil _ _ _ _ _, by repeat (first | (with_reducible first | exact HB.out | apply bla | apply bln | apply bld) | exact HB.out)⟩

/-! ### waveletref03_SameInts: function 18 -/
def waveletref03_SameInts.l0 : Nat → List Int → List Int → Int → Int → Option (Bool)
 | 0, _, _, _, _ => none
 | k + 1, x0, x1, x12, x13 => if x13 < x12 then (if 0 ≤ x13 then (if x13 < (x0.length : Int) then (if x13 < (x1.length : Int) then (if (rd x0 x13) = (rd x1 x13) then (waveletref03_SameInts.l0 k x0 x1 x12 (wrap64 (x13 + 1))) else (some false)) else (none)) else (none)) else (none)) else (some true)
def waveletref03_SameInts.f (k : Nat) (l0 : List Int) (l1 : List Int) : Option (Bool) := if (l0.length : Int) = (l1.length : Int) then (waveletref03_SameInts.l0 k l0 l1 (l0.length : Int) 0) else (some false)
theorem waveletref03_SameInts.mono_l : ∀ k, (∀ y0 y1 y2 y3, LeO (waveletref03_SameInts.l0 k y0 y1 y2 y3) (waveletref03_SameInts.l0 (k + 1) y0 y1 y2 y3))
 | 0 => fun _ _ _ _ r h => by simp [waveletref03_SameInts.l0] at h
 | k + 1 => by
  have ih0 := waveletref03_SameInts.mono_l k
  ·
   intro y0 y1 y2 y3
   unfold waveletref03_SameInts.l0
   repeat' first
   | (with_reducible exact ih0 _ _ _ _)
   | (with_reducible exact LeO.refl _)
   | (with_reducible exact LeO.none _)
   | (with_reducible refine LeO.ite ?_ ?_)
   | (with_reducible refine LeO.bind ?_ (fun _ => ?_))
   | exact ih0 _ _ _ _
   | exact LeO.none _
   | refine LeO.ite ?_ ?_
   | refine LeO.bind ?_ (fun _ => ?_)
theorem waveletref03_SameInts.mono : ∀ a0 a1 k, LeO (waveletref03_SameInts.f k a0 a1) (waveletref03_SameInts.f (k + 1) a0 a1) := by
 intro a0 a1 k
 have ih0 := waveletref03_SameInts.mono_l k
 unfold waveletref03_SameInts.f
 repeat' first
   | (with_reducible exact ih0 _ _ _ _)
   | (with_reducible exact LeO.refl _)
   | (with_reducible exact LeO.none _)
   | (with_reducible refine LeO.ite ?_ ?_)
   | (with_reducible refine LeO.bind ?_ (fun _ => ?_))
   | exact ih0 _ _ _ _
   | exact LeO.none _
   | refine LeO.ite ?_ ?_
   | refine LeO.bind ?_ (fun _ => ?_)
set_option maxHeartbeats 8000000 in
set_option maxRecDepth 100000 in
theorem waveletref03_SameInts.calls (k : Nat) (A0 : Option Addr) (c0 : Nat) (l0 : List Int) (A1 : Option Addr) (c1 : Nat) (l1 : List Int) (r : Bool) (w : World) (hr0 : Kd.C (Kd.int .i64) w A0 l0.length l0) (hc0 : l0.length ≤ c0) (hr1 : Kd.C (Kd.int .i64) w A1 l1.length l1) (hc1 : l1.length ≤ c1) (h : waveletref03_SameInts.f k l0 l1 = some r) :
  Calls Try.prog 18 #[.slice A0 l0.length c0, .slice A1 l1.length c1] w fun e w' => e = .returned (.bool r) ∧ Drawn0 w w' := by
 have HR0 := As hr0
 have HC0 := As hc0
 clear hr0 hc0
 have HR1 := As hr1
 have HC1 := As hc1
 clear hr1 hc1
 have H : (if (l0.length : Int) = (l1.length : Int) then (waveletref03_SameInts.l0 k l0 l1 (l0.length : Int) 0) else (some false)) = some r := h
 clear h
 by_cases c3 : (l0.length : Int) = (l1.length : Int)
 ·
  rw [if_pos c3] at H
  have c3b0 : ((l0.length : Int) == (l1.length : Int)) = true := beq_iff_eq.mpr c3
  have c3b1 : ((l0.length : Int) != (l1.length : Int)) = false := bne_eq_false_iff_eq.mpr c3
  have c3b2 : (l0.length == l1.length) = true := by first | simpa using c3 | (simp at c3 ⊢; omega)
  clear c3
  have H' := As H
  clear H
  go_enter Try.func18, Try.ntmps18
  go_wp2
  repeat (go_quiet (fail); try go_wp2)
  go_loopg [13] k (fun kq v13 w' => ∃ (x13_1 : Int), v13 = .int .i64 x13_1 ∧ Aside0 (waveletref03_SameInts.l0 kq l0 l1 (l0.length : Int) x13_1 = some r) ∧ Aside0 (kq ≤ k) ∧ Drawn0 w w')
  case atStart => exact ⟨(0), (by first | rfl | (simp; done) | (simp [*]; done)), H', ⟨Nat.le_refl _⟩, by repeat (first | exact Drawn0.refl _ | apply Drawn0.step)⟩
  case round =>
   clear H'
   try clear c1
   try clear p2
   try clear c3
   try clear c3b0
   try clear c3b1
   try clear c3b2
   obtain ⟨x13_1, rfl, HA, HK1, ⟨m1, rfl⟩⟩ := hrel
   cases gk with
   | zero => exact absurd HA.out (by simp [waveletref03_SameInts.l0])
   | succ k1 =>
    have H := HA.out
    clear HA
    simp only [waveletref03_SameInts.l0] at H
    by_cases c4 : x13_1 < (l0.length : Int)
    ·
     rw [if_pos c4] at H
     have c4b0 : decide (x13_1 < (l0.length : Int)) = true := decide_eq_true c4
     clear c4
     by_cases c5 : 0 ≤ x13_1
     ·
      rw [if_pos c5] at H
      have c5b0 : decide (0 ≤ x13_1) = true := decide_eq_true c5
      clear c5
      by_cases c6 : x13_1 < (l0.length : Int)
      ·
       rw [if_pos c6] at H
       have c6b0 : decide (x13_1 < (l0.length : Int)) = true := decide_eq_true c6
       clear c6
       by_cases c7 : x13_1 < (l1.length : Int)
       ·
        rw [if_pos c7] at H
        have c7b0 : decide (x13_1 < (l1.length : Int)) = true := decide_eq_true c7
        clear c7
        by_cases c8 : (rd l0 x13_1) = (rd l1 x13_1)
        ·
         rw [if_pos c8] at H
         have c8b0 : ((rd l0 x13_1) == (rd l1 x13_1)) = true := beq_iff_eq.mpr c8
         have c8b1 : ((rd l0 x13_1) != (rd l1 x13_1)) = false := bne_eq_false_iff_eq.mpr c8
         clear c8
         have H' := As H
         clear H
         have p143 : 0 ≤ (x13_1 : Int) := of_decide_eq_true (by first | (with_reducible assumption) | assumption)
         have q143 : x13_1 < (l0.length : Int) := of_decide_eq_true (by first | (with_reducible assumption) | assumption)
         obtain ⟨ad143, e143, hx143_0⟩ := Kd.at_int HR0.out x13_1 p143 q143
         cases e143
         replace p143 := eq_true p143
         replace q143 := eq_true q143
         have p144 : 0 ≤ (x13_1 : Int) := of_decide_eq_true (by first | (with_reducible assumption) | assumption)
         have q144 : x13_1 < (l1.length : Int) := of_decide_eq_true (by first | (with_reducible assumption) | assumption)
         obtain ⟨ad144, e144, hx144_0⟩ := Kd.at_int HR1.out x13_1 p144 q144
         cases e144
         replace p144 := eq_true p144
         replace q144 := eq_true q144
         go_wp2
         repeat (go_quiet (fail); try go_wp2)
         go_roundg k1
         case measure => have := HK1.out; omega
         case rel => exact ⟨(wrap64 (x13_1 + 1)), (by first | rfl | (simp; done) | (simp [*]; done)), H', ⟨by have := HK1.out; omega⟩, by repeat (first | exact Drawn0.refl _ | apply Drawn0.step)⟩
        ·
         rw [if_neg c8] at H
         have c8b0 : ((rd l0 x13_1) == (rd l1 x13_1)) = false := beq_eq_false_iff_ne.mpr c8
         have c8b1 : ((rd l0 x13_1) != (rd l1 x13_1)) = true := bne_iff_ne.mpr c8
         obtain rfl := Option.some.inj H
         have p143 : 0 ≤ (x13_1 : Int) := of_decide_eq_true (by first | (with_reducible assumption) | assumption)
         have q143 : x13_1 < (l0.length : Int) := of_decide_eq_true (by first | (with_reducible assumption) | assumption)
         obtain ⟨ad143, e143, hx143_0⟩ := Kd.at_int HR0.out x13_1 p143 q143
         cases e143
         replace p143 := eq_true p143
         replace q143 := eq_true q143
         have p144 : 0 ≤ (x13_1 : Int) := of_decide_eq_true (by first | (with_reducible assumption) | assumption)
         have q144 : x13_1 < (l1.length : Int) := of_decide_eq_true (by first | (with_reducible assumption) | assumption)
         obtain ⟨ad144, e144, hx144_0⟩ := Kd.at_int HR1.out x13_1 p144 q144
         cases e144
         replace p144 := eq_true p144
         replace q144 := eq_true q144
         go_wp2
         repeat (go_quiet (fail); try go_wp2)
         go_ret
         exact ⟨by first | rfl | (simp; done) | (simp [*]; done), by repeat (first | exact Drawn0.refl _ | apply Drawn0.step)⟩
       ·
        rw [if_neg c7] at H
        exact absurd H (by simp)
      ·
       rw [if_neg c6] at H
       exact absurd H (by simp)
     ·
      rw [if_neg c5] at H
      exact absurd H (by simp)
    ·
     rw [if_neg c4] at H
     have c4b0 : decide (x13_1 < (l0.length : Int)) = false := decide_eq_false c4
     clear c4
     obtain rfl := Option.some.inj H
     go_wp2
     repeat (go_quiet (fail); try go_wp2)
     go_ret
     exact ⟨by first | rfl | (simp; done) | (simp [*]; done), by repeat (first | exact Drawn0.refl _ | apply Drawn0.step)⟩
 ·
  rw [if_neg c3] at H
  have c3b0 : ((l0.length : Int) == (l1.length : Int)) = false := beq_eq_false_iff_ne.mpr c3
  have c3b1 : ((l0.length : Int) != (l1.length : Int)) = true := bne_iff_ne.mpr c3
  have c3b2 : (l0.length == l1.length) = false := by first | simpa using c3 | (simp at c3 ⊢; omega)
  obtain rfl := Option.some.inj H
  go_enter Try.func18, Try.ntmps18
  go_wp2
  repeat (go_quiet (fail); try go_wp2)
  go_ret
  exact ⟨by first | rfl | (simp; done) | (simp [*]; done), by repeat (first | exact Drawn0.refl _ | apply Drawn0.step)⟩

/-! ### waveletlaw21_exampleHolds: function 10 -/
def waveletlaw21_exampleHolds.j0 : Nat → Int → Int → Int → Int → Bool → Option (Bool)
 | 0, _, _, _, _, _ => none
 | k + 1, x8, x9, x10, x12, x74 => if x74 = true then (some false) else (if x8 = 15 then (if x9 = 75 then (if x10 = 0 then (some (x12 == 2)) else (some false)) else (some false)) else (some false))
def waveletlaw21_exampleHolds.f (k : Nat)  : Option (Bool) := (some (([(⟨(([0, 10, 20, 30] : List Int)), (([100, 60, 50, 10] : List Int))⟩ : S37), (⟨(([0, 5] : List Int)), (([30, 15] : List Int))⟩ : S37)] : List (S37)) : List (S37))).bind fun y157 => ((alloc_Choose.f k y157 14).bind fun bt160 => ((alloc_Choose.f k y157 35).bind fun bt164 => ((alloc_Choose.f k y157 9).bind fun bt168 => ((alloc_Cost.f k y157 (([1, 1] : List Int))).bind fun bt175 => ((alloc_Choose.f k y157 (-2)).bind fun bt178 => ((waveletref03_SameInts.f k bt160.1 (([1, 0] : List Int))).bind fun t185 => (if t185 = true then (if bt160.2 = 0 then ((waveletref03_SameInts.f k bt164.1 (([3, 1] : List Int))).bind fun t189 => (if t189 = true then (if bt164.2 = 0 then ((waveletref03_SameInts.f k bt168.1 (([0, 0] : List Int))).bind fun t193 => (if t193 = true then (waveletlaw21_exampleHolds.j0 k bt175.1 bt175.2.1 bt175.2.2 bt178.2 (bt168.2 != 0)) else (waveletlaw21_exampleHolds.j0 k bt175.1 bt175.2.1 bt175.2.2 bt178.2 true))) else (waveletlaw21_exampleHolds.j0 k bt175.1 bt175.2.1 bt175.2.2 bt178.2 true)) else (waveletlaw21_exampleHolds.j0 k bt175.1 bt175.2.1 bt175.2.2 bt178.2 true))) else (waveletlaw21_exampleHolds.j0 k bt175.1 bt175.2.1 bt175.2.2 bt178.2 true)) else (waveletlaw21_exampleHolds.j0 k bt175.1 bt175.2.1 bt175.2.2 bt178.2 true))))))))
theorem waveletlaw21_exampleHolds.mono_l : ∀ k, (∀ y0 y1 y2 y3 y4, LeO (waveletlaw21_exampleHolds.j0 k y0 y1 y2 y3 y4) (waveletlaw21_exampleHolds.j0 (k + 1) y0 y1 y2 y3 y4))
 | 0 => fun _ _ _ _ _ r h => by simp [waveletlaw21_exampleHolds.j0] at h
 | k + 1 => by
  have ih0 := waveletlaw21_exampleHolds.mono_l k
  ·
   intro y0 y1 y2 y3 y4
   unfold waveletlaw21_exampleHolds.j0
   repeat' first
   | (with_reducible exact ih0 _ _ _ _ _)
   | (with_reducible exact alloc_Choose.mono _ _ _)
   | (with_reducible exact alloc_Cost.mono _ _ _)
   | (with_reducible exact waveletref03_SameInts.mono _ _ _)
   | (with_reducible exact LeO.refl _)
   | (with_reducible exact LeO.none _)
   | (with_reducible refine LeO.ite ?_ ?_)
   | (with_reducible refine LeO.bind ?_ (fun _ => ?_))
   | exact ih0 _ _ _ _ _
   | exact alloc_Choose.mono _ _ _
   | exact alloc_Cost.mono _ _ _
   | exact waveletref03_SameInts.mono _ _ _
   | exact LeO.none _
   | refine LeO.ite ?_ ?_
   | refine LeO.bind ?_ (fun _ => ?_)
theorem waveletlaw21_exampleHolds.mono : ∀ k, LeO (waveletlaw21_exampleHolds.f k ) (waveletlaw21_exampleHolds.f (k + 1) ) := by
 intro  k
 have ih0 := waveletlaw21_exampleHolds.mono_l k
 unfold waveletlaw21_exampleHolds.f
 repeat' first
   | (with_reducible exact ih0 _ _ _ _ _)
   | (with_reducible exact alloc_Choose.mono _ _ _)
   | (with_reducible exact alloc_Cost.mono _ _ _)
   | (with_reducible exact waveletref03_SameInts.mono _ _ _)
   | (with_reducible exact LeO.refl _)
   | (with_reducible exact LeO.none _)
   | (with_reducible refine LeO.ite ?_ ?_)
   | (with_reducible refine LeO.bind ?_ (fun _ => ?_))
   | exact ih0 _ _ _ _ _
   | exact alloc_Choose.mono _ _ _
   | exact alloc_Cost.mono _ _ _
   | exact waveletref03_SameInts.mono _ _ _
   | exact LeO.none _
   | refine LeO.ite ?_ ?_
   | refine LeO.bind ?_ (fun _ => ?_)
set_option maxHeartbeats 8000000 in
set_option maxRecDepth 100000 in
theorem waveletlaw21_exampleHolds.calls (k : Nat)  (r : Bool) (w : World) (h : waveletlaw21_exampleHolds.f k  = some r) :
  Calls Try.prog 10 #[] w fun e w' => e = .returned (.bool r) ∧ Below w.heap.size w w' := by
 have hu37 := Try.underlying37
 have HB := As (Below.refl w.heap.size w)
 have H : ((some (([(⟨(([0, 10, 20, 30] : List Int)), (([100, 60, 50, 10] : List Int))⟩ : S37), (⟨(([0, 5] : List Int)), (([30, 15] : List Int))⟩ : S37)] : List (S37)) : List (S37))).bind fun y157 => ((alloc_Choose.f k y157 14).bind fun bt160 => ((alloc_Choose.f k y157 35).bind fun bt164 => ((alloc_Choose.f k y157 9).bind fun bt168 => ((alloc_Cost.f k y157 (([1, 1] : List Int))).bind fun bt175 => ((alloc_Choose.f k y157 (-2)).bind fun bt178 => ((waveletref03_SameInts.f k bt160.1 (([1, 0] : List Int))).bind fun t185 => (if t185 = true then (if bt160.2 = 0 then ((waveletref03_SameInts.f k bt164.1 (([3, 1] : List Int))).bind fun t189 => (if t189 = true then (if bt164.2 = 0 then ((waveletref03_SameInts.f k bt168.1 (([0, 0] : List Int))).bind fun t193 => (if t193 = true then (waveletlaw21_exampleHolds.j0 k bt175.1 bt175.2.1 bt175.2.2 bt178.2 (bt168.2 != 0)) else (waveletlaw21_exampleHolds.j0 k bt175.1 bt175.2.1 bt175.2.2 bt178.2 true))) else (waveletlaw21_exampleHolds.j0 k bt175.1 bt175.2.1 bt175.2.2 bt178.2 true)) else (waveletlaw21_exampleHolds.j0 k bt175.1 bt175.2.1 bt175.2.2 bt178.2 true))) else (waveletlaw21_exampleHolds.j0 k bt175.1 bt175.2.1 bt175.2.2 bt178.2 true)) else (waveletlaw21_exampleHolds.j0 k bt175.1 bt175.2.1 bt175.2.2 bt178.2 true))))))))) = some r := h
 clear h
 obtain ⟨y145, hy145⟩ : ∃ y_ : List Int, y_ = (([0, 10, 20, 30] : List Int)) := ⟨_, rfl⟩
 replace H : ((some (([(⟨y145, (([100, 60, 50, 10] : List Int))⟩ : S37), (⟨(([0, 5] : List Int)), (([30, 15] : List Int))⟩ : S37)] : List (S37)) : List (S37))).bind fun y157 => ((alloc_Choose.f k y157 14).bind fun bt160 => ((alloc_Choose.f k y157 35).bind fun bt164 => ((alloc_Choose.f k y157 9).bind fun bt168 => ((alloc_Cost.f k y157 (([1, 1] : List Int))).bind fun bt175 => ((alloc_Choose.f k y157 (-2)).bind fun bt178 => ((waveletref03_SameInts.f k bt160.1 (([1, 0] : List Int))).bind fun t185 => (if t185 = true then (if bt160.2 = 0 then ((waveletref03_SameInts.f k bt164.1 (([3, 1] : List Int))).bind fun t189 => (if t189 = true then (if bt164.2 = 0 then ((waveletref03_SameInts.f k bt168.1 (([0, 0] : List Int))).bind fun t193 => (if t193 = true then (waveletlaw21_exampleHolds.j0 k bt175.1 bt175.2.1 bt175.2.2 bt178.2 (bt168.2 != 0)) else (waveletlaw21_exampleHolds.j0 k bt175.1 bt175.2.1 bt175.2.2 bt178.2 true))) else (waveletlaw21_exampleHolds.j0 k bt175.1 bt175.2.1 bt175.2.2 bt178.2 true)) else (waveletlaw21_exampleHolds.j0 k bt175.1 bt175.2.1 bt175.2.2 bt178.2 true))) else (waveletlaw21_exampleHolds.j0 k bt175.1 bt175.2.1 bt175.2.2 bt178.2 true)) else (waveletlaw21_exampleHolds.j0 k bt175.1 bt175.2.1 bt175.2.2 bt178.2 true))))))))) = some r := by first | (rw [hy145]; with_reducible exact H) | (have H2_ := (Option.bind_some _ _).symm.trans H; rw [hy145]; with_reducible exact H2_) | (have H2_ := (Option.bind_some _ _).symm.trans H; with_reducible exact H2_) | with_reducible exact H | (rw [hy145]; exact H) | exact H
 have Ny145 := As hy145
 clear hy145
 obtain ⟨y148, hy148⟩ : ∃ y_ : List Int, y_ = (([100, 60, 50, 10] : List Int)) := ⟨_, rfl⟩
 replace H : ((some (([(⟨y145, y148⟩ : S37), (⟨(([0, 5] : List Int)), (([30, 15] : List Int))⟩ : S37)] : List (S37)) : List (S37))).bind fun y157 => ((alloc_Choose.f k y157 14).bind fun bt160 => ((alloc_Choose.f k y157 35).bind fun bt164 => ((alloc_Choose.f k y157 9).bind fun bt168 => ((alloc_Cost.f k y157 (([1, 1] : List Int))).bind fun bt175 => ((alloc_Choose.f k y157 (-2)).bind fun bt178 => ((waveletref03_SameInts.f k bt160.1 (([1, 0] : List Int))).bind fun t185 => (if t185 = true then (if bt160.2 = 0 then ((waveletref03_SameInts.f k bt164.1 (([3, 1] : List Int))).bind fun t189 => (if t189 = true then (if bt164.2 = 0 then ((waveletref03_SameInts.f k bt168.1 (([0, 0] : List Int))).bind fun t193 => (if t193 = true then (waveletlaw21_exampleHolds.j0 k bt175.1 bt175.2.1 bt175.2.2 bt178.2 (bt168.2 != 0)) else (waveletlaw21_exampleHolds.j0 k bt175.1 bt175.2.1 bt175.2.2 bt178.2 true))) else (waveletlaw21_exampleHolds.j0 k bt175.1 bt175.2.1 bt175.2.2 bt178.2 true)) else (waveletlaw21_exampleHolds.j0 k bt175.1 bt175.2.1 bt175.2.2 bt178.2 true))) else (waveletlaw21_exampleHolds.j0 k bt175.1 bt175.2.1 bt175.2.2 bt178.2 true)) else (waveletlaw21_exampleHolds.j0 k bt175.1 bt175.2.1 bt175.2.2 bt178.2 true))))))))) = some r := by first | (rw [hy148]; with_reducible exact H) | (have H2_ := (Option.bind_some _ _).symm.trans H; rw [hy148]; with_reducible exact H2_) | (have H2_ := (Option.bind_some _ _).symm.trans H; with_reducible exact H2_) | with_reducible exact H | (rw [hy148]; exact H) | exact H
 have Ny148 := As hy148
 clear hy148
 obtain ⟨y151, hy151⟩ : ∃ y_ : List Int, y_ = (([0, 5] : List Int)) := ⟨_, rfl⟩
 replace H : ((some (([(⟨y145, y148⟩ : S37), (⟨y151, (([30, 15] : List Int))⟩ : S37)] : List (S37)) : List (S37))).bind fun y157 => ((alloc_Choose.f k y157 14).bind fun bt160 => ((alloc_Choose.f k y157 35).bind fun bt164 => ((alloc_Choose.f k y157 9).bind fun bt168 => ((alloc_Cost.f k y157 (([1, 1] : List Int))).bind fun bt175 => ((alloc_Choose.f k y157 (-2)).bind fun bt178 => ((waveletref03_SameInts.f k bt160.1 (([1, 0] : List Int))).bind fun t185 => (if t185 = true then (if bt160.2 = 0 then ((waveletref03_SameInts.f k bt164.1 (([3, 1] : List Int))).bind fun t189 => (if t189 = true then (if bt164.2 = 0 then ((waveletref03_SameInts.f k bt168.1 (([0, 0] : List Int))).bind fun t193 => (if t193 = true then (waveletlaw21_exampleHolds.j0 k bt175.1 bt175.2.1 bt175.2.2 bt178.2 (bt168.2 != 0)) else (waveletlaw21_exampleHolds.j0 k bt175.1 bt175.2.1 bt175.2.2 bt178.2 true))) else (waveletlaw21_exampleHolds.j0 k bt175.1 bt175.2.1 bt175.2.2 bt178.2 true)) else (waveletlaw21_exampleHolds.j0 k bt175.1 bt175.2.1 bt175.2.2 bt178.2 true))) else (waveletlaw21_exampleHolds.j0 k bt175.1 bt175.2.1 bt175.2.2 bt178.2 true)) else (waveletlaw21_exampleHolds.j0 k bt175.1 bt175.2.1 bt175.2.2 bt178.2 true))))))))) = some r := by first | (rw [hy151]; with_reducible exact H) | (have H2_ := (Option.bind_some _ _).symm.trans H; rw [hy151]; with_reducible exact H2_) | (have H2_ := (Option.bind_some _ _).symm.trans H; with_reducible exact H2_) | with_reducible exact H | (rw [hy151]; exact H) | exact H
 have Ny151 := As hy151
 clear hy151
 obtain ⟨y154, hy154⟩ : ∃ y_ : List Int, y_ = (([30, 15] : List Int)) := ⟨_, rfl⟩
 replace H : ((some (([(⟨y145, y148⟩ : S37), (⟨y151, y154⟩ : S37)] : List (S37)) : List (S37))).bind fun y157 => ((alloc_Choose.f k y157 14).bind fun bt160 => ((alloc_Choose.f k y157 35).bind fun bt164 => ((alloc_Choose.f k y157 9).bind fun bt168 => ((alloc_Cost.f k y157 (([1, 1] : List Int))).bind fun bt175 => ((alloc_Choose.f k y157 (-2)).bind fun bt178 => ((waveletref03_SameInts.f k bt160.1 (([1, 0] : List Int))).bind fun t185 => (if t185 = true then (if bt160.2 = 0 then ((waveletref03_SameInts.f k bt164.1 (([3, 1] : List Int))).bind fun t189 => (if t189 = true then (if bt164.2 = 0 then ((waveletref03_SameInts.f k bt168.1 (([0, 0] : List Int))).bind fun t193 => (if t193 = true then (waveletlaw21_exampleHolds.j0 k bt175.1 bt175.2.1 bt175.2.2 bt178.2 (bt168.2 != 0)) else (waveletlaw21_exampleHolds.j0 k bt175.1 bt175.2.1 bt175.2.2 bt178.2 true))) else (waveletlaw21_exampleHolds.j0 k bt175.1 bt175.2.1 bt175.2.2 bt178.2 true)) else (waveletlaw21_exampleHolds.j0 k bt175.1 bt175.2.1 bt175.2.2 bt178.2 true))) else (waveletlaw21_exampleHolds.j0 k bt175.1 bt175.2.1 bt175.2.2 bt178.2 true)) else (waveletlaw21_exampleHolds.j0 k bt175.1 bt175.2.1 bt175.2.2 bt178.2 true))))))))) = some r := by first | (rw [hy154]; with_reducible exact H) | (have H2_ := (Option.bind_some _ _).symm.trans H; rw [hy154]; with_reducible exact H2_) | (have H2_ := (Option.bind_some _ _).symm.trans H; with_reducible exact H2_) | with_reducible exact H | (rw [hy154]; exact H) | exact H
 have Ny154 := As hy154
 clear hy154
 obtain ⟨y157, hy157⟩ : ∃ y_ : List (S37), y_ = (([(⟨y145, y148⟩ : S37), (⟨y151, y154⟩ : S37)] : List (S37))) := ⟨_, rfl⟩
 replace H : ((alloc_Choose.f k y157 14).bind fun bt160 => ((alloc_Choose.f k y157 35).bind fun bt164 => ((alloc_Choose.f k y157 9).bind fun bt168 => ((alloc_Cost.f k y157 (([1, 1] : List Int))).bind fun bt175 => ((alloc_Choose.f k y157 (-2)).bind fun bt178 => ((waveletref03_SameInts.f k bt160.1 (([1, 0] : List Int))).bind fun t185 => (if t185 = true then (if bt160.2 = 0 then ((waveletref03_SameInts.f k bt164.1 (([3, 1] : List Int))).bind fun t189 => (if t189 = true then (if bt164.2 = 0 then ((waveletref03_SameInts.f k bt168.1 (([0, 0] : List Int))).bind fun t193 => (if t193 = true then (waveletlaw21_exampleHolds.j0 k bt175.1 bt175.2.1 bt175.2.2 bt178.2 (bt168.2 != 0)) else (waveletlaw21_exampleHolds.j0 k bt175.1 bt175.2.1 bt175.2.2 bt178.2 true))) else (waveletlaw21_exampleHolds.j0 k bt175.1 bt175.2.1 bt175.2.2 bt178.2 true)) else (waveletlaw21_exampleHolds.j0 k bt175.1 bt175.2.1 bt175.2.2 bt178.2 true))) else (waveletlaw21_exampleHolds.j0 k bt175.1 bt175.2.1 bt175.2.2 bt178.2 true)) else (waveletlaw21_exampleHolds.j0 k bt175.1 bt175.2.1 bt175.2.2 bt178.2 true)))))))) = some r := by first | (rw [hy157]; with_reducible exact H) | (have H2_ := (Option.bind_some _ _).symm.trans H; rw [hy157]; with_reducible exact H2_) | (have H2_ := (Option.bind_some _ _).symm.trans H; with_reducible exact H2_) | with_reducible exact H | (rw [hy157]; exact H) | exact H
 have Ny157 := As hy157
 clear hy157
 replace H := Option.bind_eq_some_iff.mp H
 obtain ⟨⟨t160, t161⟩, A10, H⟩ := H
 replace H : ((alloc_Choose.f k y157 35).bind fun bt164 => ((alloc_Choose.f k y157 9).bind fun bt168 => ((alloc_Cost.f k y157 (([1, 1] : List Int))).bind fun bt175 => ((alloc_Choose.f k y157 (-2)).bind fun bt178 => ((waveletref03_SameInts.f k t160 (([1, 0] : List Int))).bind fun t185 => (if t185 = true then (if t161 = 0 then ((waveletref03_SameInts.f k bt164.1 (([3, 1] : List Int))).bind fun t189 => (if t189 = true then (if bt164.2 = 0 then ((waveletref03_SameInts.f k bt168.1 (([0, 0] : List Int))).bind fun t193 => (if t193 = true then (waveletlaw21_exampleHolds.j0 k bt175.1 bt175.2.1 bt175.2.2 bt178.2 (bt168.2 != 0)) else (waveletlaw21_exampleHolds.j0 k bt175.1 bt175.2.1 bt175.2.2 bt178.2 true))) else (waveletlaw21_exampleHolds.j0 k bt175.1 bt175.2.1 bt175.2.2 bt178.2 true)) else (waveletlaw21_exampleHolds.j0 k bt175.1 bt175.2.1 bt175.2.2 bt178.2 true))) else (waveletlaw21_exampleHolds.j0 k bt175.1 bt175.2.1 bt175.2.2 bt178.2 true)) else (waveletlaw21_exampleHolds.j0 k bt175.1 bt175.2.1 bt175.2.2 bt178.2 true))))))) = some r := H
 have A1 := As A10
 clear A10
 replace H := Option.bind_eq_some_iff.mp H
 obtain ⟨⟨t164, t165⟩, A20, H⟩ := H
 replace H : ((alloc_Choose.f k y157 9).bind fun bt168 => ((alloc_Cost.f k y157 (([1, 1] : List Int))).bind fun bt175 => ((alloc_Choose.f k y157 (-2)).bind fun bt178 => ((waveletref03_SameInts.f k t160 (([1, 0] : List Int))).bind fun t185 => (if t185 = true then (if t161 = 0 then ((waveletref03_SameInts.f k t164 (([3, 1] : List Int))).bind fun t189 => (if t189 = true then (if t165 = 0 then ((waveletref03_SameInts.f k bt168.1 (([0, 0] : List Int))).bind fun t193 => (if t193 = true then (waveletlaw21_exampleHolds.j0 k bt175.1 bt175.2.1 bt175.2.2 bt178.2 (bt168.2 != 0)) else (waveletlaw21_exampleHolds.j0 k bt175.1 bt175.2.1 bt175.2.2 bt178.2 true))) else (waveletlaw21_exampleHolds.j0 k bt175.1 bt175.2.1 bt175.2.2 bt178.2 true)) else (waveletlaw21_exampleHolds.j0 k bt175.1 bt175.2.1 bt175.2.2 bt178.2 true))) else (waveletlaw21_exampleHolds.j0 k bt175.1 bt175.2.1 bt175.2.2 bt178.2 true)) else (waveletlaw21_exampleHolds.j0 k bt175.1 bt175.2.1 bt175.2.2 bt178.2 true)))))) = some r := H
 have A2 := As A20
 clear A20
 replace H := Option.bind_eq_some_iff.mp H
 obtain ⟨⟨t168, t169⟩, A30, H⟩ := H
 replace H : ((alloc_Cost.f k y157 (([1, 1] : List Int))).bind fun bt175 => ((alloc_Choose.f k y157 (-2)).bind fun bt178 => ((waveletref03_SameInts.f k t160 (([1, 0] : List Int))).bind fun t185 => (if t185 = true then (if t161 = 0 then ((waveletref03_SameInts.f k t164 (([3, 1] : List Int))).bind fun t189 => (if t189 = true then (if t165 = 0 then ((waveletref03_SameInts.f k t168 (([0, 0] : List Int))).bind fun t193 => (if t193 = true then (waveletlaw21_exampleHolds.j0 k bt175.1 bt175.2.1 bt175.2.2 bt178.2 (t169 != 0)) else (waveletlaw21_exampleHolds.j0 k bt175.1 bt175.2.1 bt175.2.2 bt178.2 true))) else (waveletlaw21_exampleHolds.j0 k bt175.1 bt175.2.1 bt175.2.2 bt178.2 true)) else (waveletlaw21_exampleHolds.j0 k bt175.1 bt175.2.1 bt175.2.2 bt178.2 true))) else (waveletlaw21_exampleHolds.j0 k bt175.1 bt175.2.1 bt175.2.2 bt178.2 true)) else (waveletlaw21_exampleHolds.j0 k bt175.1 bt175.2.1 bt175.2.2 bt178.2 true))))) = some r := H
 have A3 := As A30
 clear A30
 obtain ⟨y172, hy172⟩ : ∃ y_ : List Int, y_ = (([1, 1] : List Int)) := ⟨_, rfl⟩
 replace H : ((alloc_Cost.f k y157 y172).bind fun bt175 => ((alloc_Choose.f k y157 (-2)).bind fun bt178 => ((waveletref03_SameInts.f k t160 (([1, 0] : List Int))).bind fun t185 => (if t185 = true then (if t161 = 0 then ((waveletref03_SameInts.f k t164 (([3, 1] : List Int))).bind fun t189 => (if t189 = true then (if t165 = 0 then ((waveletref03_SameInts.f k t168 (([0, 0] : List Int))).bind fun t193 => (if t193 = true then (waveletlaw21_exampleHolds.j0 k bt175.1 bt175.2.1 bt175.2.2 bt178.2 (t169 != 0)) else (waveletlaw21_exampleHolds.j0 k bt175.1 bt175.2.1 bt175.2.2 bt178.2 true))) else (waveletlaw21_exampleHolds.j0 k bt175.1 bt175.2.1 bt175.2.2 bt178.2 true)) else (waveletlaw21_exampleHolds.j0 k bt175.1 bt175.2.1 bt175.2.2 bt178.2 true))) else (waveletlaw21_exampleHolds.j0 k bt175.1 bt175.2.1 bt175.2.2 bt178.2 true)) else (waveletlaw21_exampleHolds.j0 k bt175.1 bt175.2.1 bt175.2.2 bt178.2 true))))) = some r := by first | (rw [hy172]; with_reducible exact H) | (have H2_ := (Option.bind_some _ _).symm.trans H; rw [hy172]; with_reducible exact H2_) | (have H2_ := (Option.bind_some _ _).symm.trans H; with_reducible exact H2_) | with_reducible exact H | (rw [hy172]; exact H) | exact H
 have Ny172 := As hy172
 clear hy172
 replace H := Option.bind_eq_some_iff.mp H
 obtain ⟨⟨t175, t176, t177⟩, A40, H⟩ := H
 replace H : ((alloc_Choose.f k y157 (-2)).bind fun bt178 => ((waveletref03_SameInts.f k t160 (([1, 0] : List Int))).bind fun t185 => (if t185 = true then (if t161 = 0 then ((waveletref03_SameInts.f k t164 (([3, 1] : List Int))).bind fun t189 => (if t189 = true then (if t165 = 0 then ((waveletref03_SameInts.f k t168 (([0, 0] : List Int))).bind fun t193 => (if t193 = true then (waveletlaw21_exampleHolds.j0 k t175 t176 t177 bt178.2 (t169 != 0)) else (waveletlaw21_exampleHolds.j0 k t175 t176 t177 bt178.2 true))) else (waveletlaw21_exampleHolds.j0 k t175 t176 t177 bt178.2 true)) else (waveletlaw21_exampleHolds.j0 k t175 t176 t177 bt178.2 true))) else (waveletlaw21_exampleHolds.j0 k t175 t176 t177 bt178.2 true)) else (waveletlaw21_exampleHolds.j0 k t175 t176 t177 bt178.2 true)))) = some r := H
 have A4 := As A40
 clear A40
 replace H := Option.bind_eq_some_iff.mp H
 obtain ⟨⟨t178, t179⟩, A50, H⟩ := H
 replace H : ((waveletref03_SameInts.f k t160 (([1, 0] : List Int))).bind fun t185 => (if t185 = true then (if t161 = 0 then ((waveletref03_SameInts.f k t164 (([3, 1] : List Int))).bind fun t189 => (if t189 = true then (if t165 = 0 then ((waveletref03_SameInts.f k t168 (([0, 0] : List Int))).bind fun t193 => (if t193 = true then (waveletlaw21_exampleHolds.j0 k t175 t176 t177 t179 (t169 != 0)) else (waveletlaw21_exampleHolds.j0 k t175 t176 t177 t179 true))) else (waveletlaw21_exampleHolds.j0 k t175 t176 t177 t179 true)) else (waveletlaw21_exampleHolds.j0 k t175 t176 t177 t179 true))) else (waveletlaw21_exampleHolds.j0 k t175 t176 t177 t179 true)) else (waveletlaw21_exampleHolds.j0 k t175 t176 t177 t179 true))) = some r := H
 have A5 := As A50
 clear A50
 have HC6 := As H
 clear H
 go_enter Try.func10, Try.ntmps10
 go_upto_region 7 with (first | ((with_reducible refine gate_dst (N := 13) rfl ?_); (try (refine gate_guard (by rfl) ?_; dsimp only)); refine Kd.R_lit (Kd.int .i64) _ 3 ?hg (N := 13) ?hd (xs := ([0, 10, 20, 30] : List Int)) (inner := [.int .i64 0, .int .i64 10, .int .i64 20, .int .i64 30]) (ok := fun _ => True) (okp := fun _ => True) ?hr ?hp (fun _ hk => hk) trivial (Below.refl _ _) (Nat.le_refl _) (by simp) ?_; (case hd => rfl); (case hg => rfl); (case hr => first | (go_simp; done) | (go_simp; rfl)); (case hp => exact (Reps.one (show Kd.M (Kd.int .i64) _ _ _ 0 [.int .i64 0] from rfl) (Reps.one (show Kd.M (Kd.int .i64) _ _ _ 10 [.int .i64 10] from rfl) (Reps.one (show Kd.M (Kd.int .i64) _ _ _ 20 [.int .i64 20] from rfl) (Reps.one (show Kd.M (Kd.int .i64) _ _ _ 30 [.int .i64 30] from rfl) (Reps.none _ _)))))); intro v146 w7 ho8 hb hg_ hnew_; clear hg_ hnew_; (first | rw [← Ny145.out] at ho8 | (simp only [Int.reduceToNat] at ho8; rw [← Ny145.out] at ho8)); have n0_ := As (Kd.R_lower ho8 (below_size (by repeat (first | (with_reducible first | exact HB.out | apply bla | apply bln | apply bld) | exact HB.out)))); have n1_ := As (below_step (by repeat (first | (with_reducible first | exact HB.out | apply bla | apply bln | apply bld) | exact HB.out)) hb); clear HB; have HO147 := n0_; have HB := n1_; clear n0_ n1_; clear hb ho8) | ((with_reducible refine gate_dst (N := 14) rfl ?_); (try (refine gate_guard (by rfl) ?_; dsimp only)); refine Kd.R_lit (Kd.int .i64) _ 3 ?hg (N := 14) ?hd (xs := ([100, 60, 50, 10] : List Int)) (inner := [.int .i64 100, .int .i64 60, .int .i64 50, .int .i64 10]) (ok := fun _ => True) (okp := fun _ => True) ?hr ?hp (fun _ hk => hk) trivial (Below.refl _ _) (Nat.le_refl _) (by simp) ?_; (case hd => rfl); (case hg => rfl); (case hr => first | (go_simp; done) | (go_simp; rfl)); (case hp => exact (Reps.one (show Kd.M (Kd.int .i64) _ _ _ 100 [.int .i64 100] from rfl) (Reps.one (show Kd.M (Kd.int .i64) _ _ _ 60 [.int .i64 60] from rfl) (Reps.one (show Kd.M (Kd.int .i64) _ _ _ 50 [.int .i64 50] from rfl) (Reps.one (show Kd.M (Kd.int .i64) _ _ _ 10 [.int .i64 10] from rfl) (Reps.none _ _)))))); intro v149 w9 ho10 hb hg_ hnew_; clear hg_ hnew_; (first | rw [← Ny148.out] at ho10 | (simp only [Int.reduceToNat] at ho10; rw [← Ny148.out] at ho10)); have n0_ := As (Kd.Rb (by (with_reducible repeat (first | apply Kd.Ra | apply Kd.Rn | apply Kd.Rd)); exact HO147.out) hb); have n1_ := As (Kd.R_lower ho10 (below_size (by repeat (first | (with_reducible first | exact HB.out | apply bla | apply bln | apply bld) | exact HB.out)))); have n2_ := As (below_step (by repeat (first | (with_reducible first | exact HB.out | apply bla | apply bln | apply bld) | exact HB.out)) hb); clear HO147; clear HB; have HO147 := n0_; have HO150 := n1_; have HB := n2_; clear n0_ n1_ n2_; clear hb ho10; obtain ⟨Ao11, co11, eo11⟩ := Kd.R_slice HO150.out; subst eo11; obtain ⟨Ao12, co12, eo12⟩ := Kd.R_slice HO147.out; subst eo12) | ((with_reducible refine gate_dst (N := 16) rfl ?_); (try (refine gate_guard (by rfl) ?_; dsimp only)); refine Kd.R_lit (Kd.int .i64) _ 3 ?hg (N := 16) ?hd (xs := ([0, 5] : List Int)) (inner := [.int .i64 0, .int .i64 5]) (ok := fun _ => True) (okp := fun _ => True) ?hr ?hp (fun _ hk => hk) trivial (Below.refl _ _) (Nat.le_refl _) (by simp) ?_; (case hd => rfl); (case hg => rfl); (case hr => first | (go_simp; done) | (go_simp; rfl)); (case hp => exact (Reps.one (show Kd.M (Kd.int .i64) _ _ _ 0 [.int .i64 0] from rfl) (Reps.one (show Kd.M (Kd.int .i64) _ _ _ 5 [.int .i64 5] from rfl) (Reps.none _ _)))); intro v152 w13 ho14 hb hg_ hnew_; clear hg_ hnew_; (first | rw [← Ny151.out] at ho14 | (simp only [Int.reduceToNat] at ho14; rw [← Ny151.out] at ho14)); have n0_ := As (Kd.Rb (by (with_reducible repeat (first | apply Kd.Ra | apply Kd.Rn | apply Kd.Rd)); exact HO147.out) hb); have n1_ := As (Kd.Rb (by (with_reducible repeat (first | apply Kd.Ra | apply Kd.Rn | apply Kd.Rd)); exact HO150.out) hb); have n2_ := As (Kd.R_lower ho14 (below_size (by repeat (first | (with_reducible first | exact HB.out | apply bla | apply bln | apply bld) | exact HB.out)))); have n3_ := As (below_step (by repeat (first | (with_reducible first | exact HB.out | apply bla | apply bln | apply bld) | exact HB.out)) hb); clear HO147; clear HO150; clear HB; have HO147 := n0_; have HO150 := n1_; have HO153 := n2_; have HB := n3_; clear n0_ n1_ n2_ n3_; clear hb ho14) | ((with_reducible refine gate_dst (N := 17) rfl ?_); (try (refine gate_guard (by rfl) ?_; dsimp only)); refine Kd.R_lit (Kd.int .i64) _ 3 ?hg (N := 17) ?hd (xs := ([30, 15] : List Int)) (inner := [.int .i64 30, .int .i64 15]) (ok := fun _ => True) (okp := fun _ => True) ?hr ?hp (fun _ hk => hk) trivial (Below.refl _ _) (Nat.le_refl _) (by simp) ?_; (case hd => rfl); (case hg => rfl); (case hr => first | (go_simp; done) | (go_simp; rfl)); (case hp => exact (Reps.one (show Kd.M (Kd.int .i64) _ _ _ 30 [.int .i64 30] from rfl) (Reps.one (show Kd.M (Kd.int .i64) _ _ _ 15 [.int .i64 15] from rfl) (Reps.none _ _)))); intro v155 w15 ho16 hb hg_ hnew_; clear hg_ hnew_; (first | rw [← Ny154.out] at ho16 | (simp only [Int.reduceToNat] at ho16; rw [← Ny154.out] at ho16)); have n0_ := As (Kd.Rb (by (with_reducible repeat (first | apply Kd.Ra | apply Kd.Rn | apply Kd.Rd)); exact HO147.out) hb); have n1_ := As (Kd.Rb (by (with_reducible repeat (first | apply Kd.Ra | apply Kd.Rn | apply Kd.Rd)); exact HO150.out) hb); have n2_ := As (Kd.Rb (by (with_reducible repeat (first | apply Kd.Ra | apply Kd.Rn | apply Kd.Rd)); exact HO153.out) hb); have n3_ := As (Kd.R_lower ho16 (below_size (by repeat (first | (with_reducible first | exact HB.out | apply bla | apply bln | apply bld) | exact HB.out)))); have n4_ := As (below_step (by repeat (first | (with_reducible first | exact HB.out | apply bla | apply bln | apply bld) | exact HB.out)) hb); clear HO147; clear HO150; clear HO153; clear HB; have HO147 := n0_; have HO150 := n1_; have HO153 := n2_; have HO156 := n3_; have HB := n4_; clear n0_ n1_ n2_ n3_ n4_; clear hb ho16; obtain ⟨Ao17, co17, eo17⟩ := Kd.R_slice HO156.out; subst eo17; obtain ⟨Ao18, co18, eo18⟩ := Kd.R_slice HO153.out; subst eo18) | ((with_reducible refine gate_dst (N := 19) rfl ?_); (try (refine gate_guard (by rfl) ?_; dsimp only)); refine Kd.N_lit k37 _ 37 ?hg (N' := 19) ?hd (xs := ([(⟨y145, y148⟩ : S37), (⟨y151, y154⟩ : S37)] : List (S37))) (inner := [.slice Ao12 y145.length co12, .slice Ao11 y148.length co11, .slice Ao18 y151.length co18, .slice Ao17 y154.length co17]) (ok := (fun _ => True)) (okp := (fun _ => True)) ?hr ?hp (fun _ hk => hk) ((show ∀ k_, w15.heap.size ≤ k_ → (fun _ => True) k_ from fun k_ hk => trivial) _ (Nat.le_refl _)) (Below.refl _ _) (Nat.le_refl _) (by simp) ?_; (case hd => rfl); (case hg => rfl); (case hr => first | (go_simp; done) | (go_simp; rfl)); (case hp => exact (Reps.c2 (show Kd.FK k37 _ _ (⟨y145, y148⟩ : S37) [.slice Ao12 y145.length co12, .slice Ao11 y148.length co11] from (k37_mkF _ _ (⟨y145, y148⟩ : S37) (Kd.R_reads' (Kd.R_mono (ok' := (fun _ => True)) (HO147.out) (fun k_ hk => trivial))).2.1 (Kd.R_F (Kd.R_mono (ok' := (fun _ => True)) (HO147.out) (fun k_ hk => trivial))) (Kd.R_reads' (Kd.R_mono (ok' := (fun _ => True)) (HO150.out) (fun k_ hk => trivial))).2.1 (Kd.R_F (Kd.R_mono (ok' := (fun _ => True)) (HO150.out) (fun k_ hk => trivial))))) (Reps.c2 (show Kd.FK k37 _ _ (⟨y151, y154⟩ : S37) [.slice Ao18 y151.length co18, .slice Ao17 y154.length co17] from (k37_mkF _ _ (⟨y151, y154⟩ : S37) (Kd.R_reads' (Kd.R_mono (ok' := (fun _ => True)) (HO153.out) (fun k_ hk => trivial))).2.1 (Kd.R_F (Kd.R_mono (ok' := (fun _ => True)) (HO153.out) (fun k_ hk => trivial))) (Kd.R_reads' (Kd.R_mono (ok' := (fun _ => True)) (HO156.out) (fun k_ hk => trivial))).2.1 (Kd.R_F (Kd.R_mono (ok' := (fun _ => True)) (HO156.out) (fun k_ hk => trivial))))) (Reps.none _ _)))); intro v158 w19 ho20 hb hg_ hnew_; clear hg_ hnew_; (first | rw [← Ny157.out] at ho20 | (simp only [Int.reduceToNat] at ho20; rw [← Ny157.out] at ho20)); have n0_ := As (Kd.N_lower ho20 (below_size (by repeat (first | (with_reducible first | exact HB.out | apply bla | apply bln | apply bld) | exact HB.out)))); have n1_ := As (below_step (by repeat (first | (with_reducible first | exact HB.out | apply bla | apply bln | apply bld) | exact HB.out)) hb); clear HB; clear HO147; clear HO150; clear HO153; clear HO156; have HO159 := n0_; have HB := n1_; clear n0_ n1_; clear hb ho20; obtain ⟨Ao21, co21, eo21⟩ := Kd.N_slice HO159.out; subst eo21) | ((with_reducible refine gate_callee (f := 15) rfl ?_); refine goesL_ (some 22) rfl rfl Try.func15 (by kernel_rfl) rfl #[.slice Ao21 y157.length co21, .int .i64 14] rfl (by (try simp only [List.map_toArray, List.map_cons, List.map_nil]); first | done | rfl | (simp only [List.length_drop, List.length_take]; rfl)) ?_; (with_reducible refine (alloc_Choose.calls k _ _ y157 14 t160 t161 _ ?side1 ?side2 A1.out).mono ?_); (case side1 => repeat (first | exact (Kd.N_reads' HO159.out).2.2 | (with_reducible refine Kd.C_alloc ?_ _) | (with_reducible refine Kd.C_drewN ?_ _) | (with_reducible refine Kd.C_drew ?_))); (case side2 => exact (Kd.N_reads' HO159.out).2.1); rintro e w22 ⟨v162, rfl, ho0, hb⟩; refine ⟨_, rfl, ?_⟩; have n0_ := As (Kd.N_below (by (with_reducible repeat (first | apply Kd.N_alloc | apply Kd.N_drewN | apply Kd.N_drew)); exact HO159.out) hb); have n1_ := As (Kd.R_lower ho0 (below_size (by repeat (first | (with_reducible first | exact HB.out | apply bla | apply bln | apply bld) | exact HB.out)))); have n2_ := As (below_step (by repeat (first | (with_reducible first | exact HB.out | apply bla | apply bln | apply bld) | exact HB.out)) hb); clear HO159; clear HB; have HO159 := n0_; have HO163 := n1_; have HB := n2_; clear n0_ n1_ n2_; (try clear hb); (try clear hb2); (try clear hk); (try clear hi); (try clear ho0)) | ((with_reducible refine gate_callee (f := 15) rfl ?_); refine goesL_ (some 27) rfl rfl Try.func15 (by kernel_rfl) rfl #[.slice Ao21 y157.length co21, .int .i64 35] rfl (by (try simp only [List.map_toArray, List.map_cons, List.map_nil]); first | done | rfl | (simp only [List.length_drop, List.length_take]; rfl)) ?_; (with_reducible refine (alloc_Choose.calls k _ _ y157 35 t164 t165 _ ?side1 ?side2 A2.out).mono ?_); (case side1 => repeat (first | exact (Kd.N_reads' HO159.out).2.2 | (with_reducible refine Kd.C_alloc ?_ _) | (with_reducible refine Kd.C_drewN ?_ _) | (with_reducible refine Kd.C_drew ?_))); (case side2 => exact (Kd.N_reads' HO159.out).2.1); rintro e w23 ⟨v166, rfl, ho0, hb⟩; refine ⟨_, rfl, ?_⟩; have n0_ := As (Kd.N_below (by (with_reducible repeat (first | apply Kd.N_alloc | apply Kd.N_drewN | apply Kd.N_drew)); exact HO159.out) hb); have n1_ := As (Kd.Rb (by (with_reducible repeat (first | apply Kd.Ra | apply Kd.Rn | apply Kd.Rd)); exact HO163.out) hb); have n2_ := As (Kd.R_lower ho0 (below_size (by repeat (first | (with_reducible first | exact HB.out | apply bla | apply bln | apply bld) | exact HB.out)))); have n3_ := As (below_step (by repeat (first | (with_reducible first | exact HB.out | apply bla | apply bln | apply bld) | exact HB.out)) hb); clear HO159; clear HO163; clear HB; have HO159 := n0_; have HO163 := n1_; have HO167 := n2_; have HB := n3_; clear n0_ n1_ n2_ n3_; (try clear hb); (try clear hb2); (try clear hk); (try clear hi); (try clear ho0)) | ((with_reducible refine gate_callee (f := 15) rfl ?_); refine goesL_ (some 32) rfl rfl Try.func15 (by kernel_rfl) rfl #[.slice Ao21 y157.length co21, .int .i64 9] rfl (by (try simp only [List.map_toArray, List.map_cons, List.map_nil]); first | done | rfl | (simp only [List.length_drop, List.length_take]; rfl)) ?_; (with_reducible refine (alloc_Choose.calls k _ _ y157 9 t168 t169 _ ?side1 ?side2 A3.out).mono ?_); (case side1 => repeat (first | exact (Kd.N_reads' HO159.out).2.2 | (with_reducible refine Kd.C_alloc ?_ _) | (with_reducible refine Kd.C_drewN ?_ _) | (with_reducible refine Kd.C_drew ?_))); (case side2 => exact (Kd.N_reads' HO159.out).2.1); rintro e w24 ⟨v170, rfl, ho0, hb⟩; refine ⟨_, rfl, ?_⟩; have n0_ := As (Kd.N_below (by (with_reducible repeat (first | apply Kd.N_alloc | apply Kd.N_drewN | apply Kd.N_drew)); exact HO159.out) hb); have n1_ := As (Kd.Rb (by (with_reducible repeat (first | apply Kd.Ra | apply Kd.Rn | apply Kd.Rd)); exact HO163.out) hb); have n2_ := As (Kd.Rb (by (with_reducible repeat (first | apply Kd.Ra | apply Kd.Rn | apply Kd.Rd)); exact HO167.out) hb); have n3_ := As (Kd.R_lower ho0 (below_size (by repeat (first | (with_reducible first | exact HB.out | apply bla | apply bln | apply bld) | exact HB.out)))); have n4_ := As (below_step (by repeat (first | (with_reducible first | exact HB.out | apply bla | apply bln | apply bld) | exact HB.out)) hb); clear HO159; clear HO163; clear HO167; clear HB; have HO159 := n0_; have HO163 := n1_; have HO167 := n2_; have HO171 := n3_; have HB := n4_; clear n0_ n1_ n2_ n3_ n4_; (try clear hb); (try clear hb2); (try clear hk); (try clear hi); (try clear ho0)) | ((with_reducible refine gate_dst (N := 37) rfl ?_); (try (refine gate_guard (by rfl) ?_; dsimp only)); refine Kd.R_lit (Kd.int .i64) _ 3 ?hg (N := 37) ?hd (xs := ([1, 1] : List Int)) (inner := [.int .i64 1, .int .i64 1]) (ok := fun _ => True) (okp := fun _ => True) ?hr ?hp (fun _ hk => hk) trivial (Below.refl _ _) (Nat.le_refl _) (by simp) ?_; (case hd => rfl); (case hg => rfl); (case hr => first | (go_simp; done) | (go_simp; rfl)); (case hp => exact (Reps.one (show Kd.M (Kd.int .i64) _ _ _ 1 [.int .i64 1] from rfl) (Reps.one (show Kd.M (Kd.int .i64) _ _ _ 1 [.int .i64 1] from rfl) (Reps.none _ _)))); intro v173 w25 ho26 hb hg_ hnew_; clear hg_ hnew_; (first | rw [← Ny172.out] at ho26 | (simp only [Int.reduceToNat] at ho26; rw [← Ny172.out] at ho26)); have n0_ := As (Kd.N_below (by (with_reducible repeat (first | apply Kd.N_alloc | apply Kd.N_drewN | apply Kd.N_drew)); exact HO159.out) hb); have n1_ := As (Kd.Rb (by (with_reducible repeat (first | apply Kd.Ra | apply Kd.Rn | apply Kd.Rd)); exact HO163.out) hb); have n2_ := As (Kd.Rb (by (with_reducible repeat (first | apply Kd.Ra | apply Kd.Rn | apply Kd.Rd)); exact HO167.out) hb); have n3_ := As (Kd.Rb (by (with_reducible repeat (first | apply Kd.Ra | apply Kd.Rn | apply Kd.Rd)); exact HO171.out) hb); have n4_ := As (Kd.R_lower ho26 (below_size (by repeat (first | (with_reducible first | exact HB.out | apply bla | apply bln | apply bld) | exact HB.out)))); have n5_ := As (below_step (by repeat (first | (with_reducible first | exact HB.out | apply bla | apply bln | apply bld) | exact HB.out)) hb); clear HO159; clear HO163; clear HO167; clear HO171; clear HB; have HO159 := n0_; have HO163 := n1_; have HO167 := n2_; have HO171 := n3_; have HO174 := n4_; have HB := n5_; clear n0_ n1_ n2_ n3_ n4_ n5_; clear hb ho26; obtain ⟨Ao27, co27, eo27⟩ := Kd.R_slice HO174.out; subst eo27) | ((with_reducible refine gate_callee (f := 14) rfl ?_); refine goesL_ (some 38) rfl rfl Try.func14 (by kernel_rfl) rfl #[.slice Ao21 y157.length co21, .slice Ao27 y172.length co27] rfl (by (try simp only [List.map_toArray, List.map_cons, List.map_nil]); first | done | rfl | (simp only [List.length_drop, List.length_take]; rfl)) ?_; (with_reducible refine (alloc_Cost.calls k _ _ y157 _ _ y172 t175 t176 t177 _ ?side1 ?side2 ?side3 ?side4 A4.out).mono ?_); (case side1 => repeat (first | exact (Kd.N_reads' HO159.out).2.2 | (with_reducible refine Kd.C_alloc ?_ _) | (with_reducible refine Kd.C_drewN ?_ _) | (with_reducible refine Kd.C_drew ?_))); (case side2 => exact (Kd.N_reads' HO159.out).2.1); (case side3 => repeat (first | exact (Kd.R_reads' HO174.out).2.2 | (with_reducible refine Kd.C_alloc ?_ _) | (with_reducible refine Kd.C_drewN ?_ _) | (with_reducible refine Kd.C_drew ?_))); (case side4 => exact (Kd.R_reads' HO174.out).2.1); rintro e w28 ⟨rfl, hb⟩; refine ⟨_, rfl, ?_⟩; have n0_ := As (Kd.N_below (by (with_reducible repeat (first | apply Kd.N_alloc | apply Kd.N_drewN | apply Kd.N_drew)); exact HO159.out) hb); have n1_ := As (Kd.Rb (by (with_reducible repeat (first | apply Kd.Ra | apply Kd.Rn | apply Kd.Rd)); exact HO163.out) hb); have n2_ := As (Kd.Rb (by (with_reducible repeat (first | apply Kd.Ra | apply Kd.Rn | apply Kd.Rd)); exact HO167.out) hb); have n3_ := As (Kd.Rb (by (with_reducible repeat (first | apply Kd.Ra | apply Kd.Rn | apply Kd.Rd)); exact HO171.out) hb); have n4_ := As (Kd.Rb (by (with_reducible repeat (first | apply Kd.Ra | apply Kd.Rn | apply Kd.Rd)); exact HO174.out) hb); have n5_ := As (below_step (by repeat (first | (with_reducible first | exact HB.out | apply bla | apply bln | apply bld) | exact HB.out)) hb); clear HO159; clear HO163; clear HO167; clear HO171; clear HO174; clear HB; have HO159 := n0_; have HO163 := n1_; have HO167 := n2_; have HO171 := n3_; have HO174 := n4_; have HB := n5_; clear n0_ n1_ n2_ n3_ n4_ n5_; (try clear hb); (try clear hb2); (try clear hk); (try clear hi)) | ((with_reducible refine gate_callee (f := 15) rfl ?_); refine goesL_ (some 44) rfl rfl Try.func15 (by kernel_rfl) rfl #[.slice Ao21 y157.length co21, .int .i64 (-2)] rfl (by (try simp only [List.map_toArray, List.map_cons, List.map_nil]); first | done | rfl | (simp only [List.length_drop, List.length_take]; rfl)) ?_; (with_reducible refine (alloc_Choose.calls k _ _ y157 (-2) t178 t179 _ ?side1 ?side2 A5.out).mono ?_); (case side1 => repeat (first | exact (Kd.N_reads' HO159.out).2.2 | (with_reducible refine Kd.C_alloc ?_ _) | (with_reducible refine Kd.C_drewN ?_ _) | (with_reducible refine Kd.C_drew ?_))); (case side2 => exact (Kd.N_reads' HO159.out).2.1); rintro e w29 ⟨v180, rfl, ho0, hb⟩; refine ⟨_, rfl, ?_⟩; have n0_ := As (Kd.N_below (by (with_reducible repeat (first | apply Kd.N_alloc | apply Kd.N_drewN | apply Kd.N_drew)); exact HO159.out) hb); have n1_ := As (Kd.Rb (by (with_reducible repeat (first | apply Kd.Ra | apply Kd.Rn | apply Kd.Rd)); exact HO163.out) hb); have n2_ := As (Kd.Rb (by (with_reducible repeat (first | apply Kd.Ra | apply Kd.Rn | apply Kd.Rd)); exact HO167.out) hb); have n3_ := As (Kd.Rb (by (with_reducible repeat (first | apply Kd.Ra | apply Kd.Rn | apply Kd.Rd)); exact HO171.out) hb); have n4_ := As (Kd.Rb (by (with_reducible repeat (first | apply Kd.Ra | apply Kd.Rn | apply Kd.Rd)); exact HO174.out) hb); have n5_ := As (Kd.R_lower ho0 (below_size (by repeat (first | (with_reducible first | exact HB.out | apply bla | apply bln | apply bld) | exact HB.out)))); have n6_ := As (below_step (by repeat (first | (with_reducible first | exact HB.out | apply bla | apply bln | apply bld) | exact HB.out)) hb); clear HO159; clear HO163; clear HO167; clear HO171; clear HO174; clear HB; have HO159 := n0_; have HO163 := n1_; have HO167 := n2_; have HO171 := n3_; have HO174 := n4_; have HO181 := n5_; have HB := n6_; clear n0_ n1_ n2_ n3_ n4_ n5_ n6_; (try clear hb); (try clear hb2); (try clear hk); (try clear hi); (try clear ho0)))
 (try simp only [Act.put, List.setIfInBounds_toArray, List.set_cons_zero, List.set_cons_succ])
 go_cut [74] (fun v74 wc => ∃ (kq : Nat) (x74_5 : Bool), v74 = .bool x74_5 ∧ Aside0 (waveletlaw21_exampleHolds.j0 kq t175 t176 t177 t179 x74_5 = some r) ∧ Aside0 (kq ≤ k) ∧ Aside0 (Below w.heap.size w wc))
 case first =>
  have H := HC6.out
  clear HC6
  obtain ⟨y182, hy182⟩ : ∃ y_ : List Int, y_ = (([1, 0] : List Int)) := ⟨_, rfl⟩
  replace H : ((waveletref03_SameInts.f k t160 y182).bind fun t185 => (if t185 = true then (if t161 = 0 then ((waveletref03_SameInts.f k t164 (([3, 1] : List Int))).bind fun t189 => (if t189 = true then (if t165 = 0 then ((waveletref03_SameInts.f k t168 (([0, 0] : List Int))).bind fun t193 => (if t193 = true then (waveletlaw21_exampleHolds.j0 k t175 t176 t177 t179 (t169 != 0)) else (waveletlaw21_exampleHolds.j0 k t175 t176 t177 t179 true))) else (waveletlaw21_exampleHolds.j0 k t175 t176 t177 t179 true)) else (waveletlaw21_exampleHolds.j0 k t175 t176 t177 t179 true))) else (waveletlaw21_exampleHolds.j0 k t175 t176 t177 t179 true)) else (waveletlaw21_exampleHolds.j0 k t175 t176 t177 t179 true))) = some r := by first | (rw [hy182]; with_reducible exact H) | (have H2_ := (Option.bind_some _ _).symm.trans H; rw [hy182]; with_reducible exact H2_) | (have H2_ := (Option.bind_some _ _).symm.trans H; with_reducible exact H2_) | with_reducible exact H | (rw [hy182]; exact H) | exact H
  have Ny182 := As hy182
  clear hy182
  replace H := Option.bind_eq_some_iff.mp H
  obtain ⟨t185, A300, H⟩ := H
  replace H : (if t185 = true then (if t161 = 0 then ((waveletref03_SameInts.f k t164 (([3, 1] : List Int))).bind fun t189 => (if t189 = true then (if t165 = 0 then ((waveletref03_SameInts.f k t168 (([0, 0] : List Int))).bind fun t193 => (if t193 = true then (waveletlaw21_exampleHolds.j0 k t175 t176 t177 t179 (t169 != 0)) else (waveletlaw21_exampleHolds.j0 k t175 t176 t177 t179 true))) else (waveletlaw21_exampleHolds.j0 k t175 t176 t177 t179 true)) else (waveletlaw21_exampleHolds.j0 k t175 t176 t177 t179 true))) else (waveletlaw21_exampleHolds.j0 k t175 t176 t177 t179 true)) else (waveletlaw21_exampleHolds.j0 k t175 t176 t177 t179 true)) = some r := H
  have A30 := As A300
  clear A300
  by_cases c31 : t185 = true
  ·
   subst c31
   have H1 : (if t161 = 0 then ((waveletref03_SameInts.f k t164 (([3, 1] : List Int))).bind fun t189 => (if t189 = true then (if t165 = 0 then ((waveletref03_SameInts.f k t168 (([0, 0] : List Int))).bind fun t193 => (if t193 = true then (waveletlaw21_exampleHolds.j0 k t175 t176 t177 t179 (t169 != 0)) else (waveletlaw21_exampleHolds.j0 k t175 t176 t177 t179 true))) else (waveletlaw21_exampleHolds.j0 k t175 t176 t177 t179 true)) else (waveletlaw21_exampleHolds.j0 k t175 t176 t177 t179 true))) else (waveletlaw21_exampleHolds.j0 k t175 t176 t177 t179 true)) = some r := by rw [if_pos rfl] at H; exact H
   clear H
   have H := H1
   clear H1
   by_cases c32 : t161 = 0
   ·
    rw [if_pos c32] at H
    have c32b0 : (t161 == 0) = true := beq_iff_eq.mpr c32
    have c32b1 : (t161 != 0) = false := bne_eq_false_iff_eq.mpr c32
    clear c32
    (first | rw [c32b0] | (simp only [i64_w, i32_w]; rw [c32b0]) | skip)
    obtain ⟨y186, hy186⟩ : ∃ y_ : List Int, y_ = (([3, 1] : List Int)) := ⟨_, rfl⟩
    replace H : ((waveletref03_SameInts.f k t164 y186).bind fun t189 => (if t189 = true then (if t165 = 0 then ((waveletref03_SameInts.f k t168 (([0, 0] : List Int))).bind fun t193 => (if t193 = true then (waveletlaw21_exampleHolds.j0 k t175 t176 t177 t179 (t169 != 0)) else (waveletlaw21_exampleHolds.j0 k t175 t176 t177 t179 true))) else (waveletlaw21_exampleHolds.j0 k t175 t176 t177 t179 true)) else (waveletlaw21_exampleHolds.j0 k t175 t176 t177 t179 true))) = some r := by first | (rw [hy186]; with_reducible exact H) | (have H2_ := (Option.bind_some _ _).symm.trans H; rw [hy186]; with_reducible exact H2_) | (have H2_ := (Option.bind_some _ _).symm.trans H; with_reducible exact H2_) | with_reducible exact H | (rw [hy186]; exact H) | exact H
    have Ny186 := As hy186
    clear hy186
    replace H := Option.bind_eq_some_iff.mp H
    obtain ⟨t189, A330, H⟩ := H
    replace H : (if t189 = true then (if t165 = 0 then ((waveletref03_SameInts.f k t168 (([0, 0] : List Int))).bind fun t193 => (if t193 = true then (waveletlaw21_exampleHolds.j0 k t175 t176 t177 t179 (t169 != 0)) else (waveletlaw21_exampleHolds.j0 k t175 t176 t177 t179 true))) else (waveletlaw21_exampleHolds.j0 k t175 t176 t177 t179 true)) else (waveletlaw21_exampleHolds.j0 k t175 t176 t177 t179 true)) = some r := H
    have A33 := As A330
    clear A330
    by_cases c34 : t189 = true
    ·
     subst c34
     have H1 : (if t165 = 0 then ((waveletref03_SameInts.f k t168 (([0, 0] : List Int))).bind fun t193 => (if t193 = true then (waveletlaw21_exampleHolds.j0 k t175 t176 t177 t179 (t169 != 0)) else (waveletlaw21_exampleHolds.j0 k t175 t176 t177 t179 true))) else (waveletlaw21_exampleHolds.j0 k t175 t176 t177 t179 true)) = some r := by rw [if_pos rfl] at H; exact H
     clear H
     have H := H1
     clear H1
     by_cases c35 : t165 = 0
     ·
      rw [if_pos c35] at H
      have c35b0 : (t165 == 0) = true := beq_iff_eq.mpr c35
      have c35b1 : (t165 != 0) = false := bne_eq_false_iff_eq.mpr c35
      clear c35
      obtain ⟨y190, hy190⟩ : ∃ y_ : List Int, y_ = (([0, 0] : List Int)) := ⟨_, rfl⟩
      replace H : ((waveletref03_SameInts.f k t168 y190).bind fun t193 => (if t193 = true then (waveletlaw21_exampleHolds.j0 k t175 t176 t177 t179 (t169 != 0)) else (waveletlaw21_exampleHolds.j0 k t175 t176 t177 t179 true))) = some r := by first | (rw [hy190]; with_reducible exact H) | (have H2_ := (Option.bind_some _ _).symm.trans H; rw [hy190]; with_reducible exact H2_) | (have H2_ := (Option.bind_some _ _).symm.trans H; with_reducible exact H2_) | with_reducible exact H | (rw [hy190]; exact H) | exact H
      have Ny190 := As hy190
      clear hy190
      replace H := Option.bind_eq_some_iff.mp H
      obtain ⟨t193, A360, H⟩ := H
      replace H : (if t193 = true then (waveletlaw21_exampleHolds.j0 k t175 t176 t177 t179 (t169 != 0)) else (waveletlaw21_exampleHolds.j0 k t175 t176 t177 t179 true)) = some r := H
      have A36 := As A360
      clear A360
      by_cases c37 : t193 = true
      ·
       subst c37
       have H1 : (waveletlaw21_exampleHolds.j0 k t175 t176 t177 t179 (t169 != 0)) = some r := by rw [if_pos rfl] at H; exact H
       clear H
       have H := H1
       clear H1
       have H' := As H
       clear H
       go_wp2_with (first | ((with_reducible refine gate_dst (N := 48) rfl ?_); (try (refine gate_guard (by rfl) ?_; dsimp only)); refine Kd.R_lit (Kd.int .i64) _ 3 ?hg (N := 48) ?hd (xs := ([1, 0] : List Int)) (inner := [.int .i64 1, .int .i64 0]) (ok := fun _ => True) (okp := fun _ => True) ?hr ?hp (fun _ hk => hk) trivial (Below.refl _ _) (Nat.le_refl _) (by simp) ?_; (case hd => rfl); (case hg => rfl); (case hr => first | (go_simp; done) | (go_simp; rfl)); (case hp => exact (Reps.one (show Kd.M (Kd.int .i64) _ _ _ 1 [.int .i64 1] from rfl) (Reps.one (show Kd.M (Kd.int .i64) _ _ _ 0 [.int .i64 0] from rfl) (Reps.none _ _)))); intro v183 w38 ho39 hb hg_ hnew_; clear hg_ hnew_; (first | rw [← Ny182.out] at ho39 | (simp only [Int.reduceToNat] at ho39; rw [← Ny182.out] at ho39)); have n0_ := As (Kd.N_below (by (with_reducible repeat (first | apply Kd.N_alloc | apply Kd.N_drewN | apply Kd.N_drew)); exact HO159.out) hb); have n1_ := As (Kd.Rb (by (with_reducible repeat (first | apply Kd.Ra | apply Kd.Rn | apply Kd.Rd)); exact HO163.out) hb); have n2_ := As (Kd.Rb (by (with_reducible repeat (first | apply Kd.Ra | apply Kd.Rn | apply Kd.Rd)); exact HO167.out) hb); have n3_ := As (Kd.Rb (by (with_reducible repeat (first | apply Kd.Ra | apply Kd.Rn | apply Kd.Rd)); exact HO171.out) hb); have n4_ := As (Kd.Rb (by (with_reducible repeat (first | apply Kd.Ra | apply Kd.Rn | apply Kd.Rd)); exact HO174.out) hb); have n5_ := As (Kd.Rb (by (with_reducible repeat (first | apply Kd.Ra | apply Kd.Rn | apply Kd.Rd)); exact HO181.out) hb); have n6_ := As (Kd.R_lower ho39 (below_size (by repeat (first | (with_reducible first | exact HB.out | apply bla | apply bln | apply bld) | exact HB.out)))); have n7_ := As (below_step (by repeat (first | (with_reducible first | exact HB.out | apply bla | apply bln | apply bld) | exact HB.out)) hb); clear HO159; clear HO163; clear HO167; clear HO171; clear HO174; clear HO181; clear HB; have HO159 := n0_; have HO163 := n1_; have HO167 := n2_; have HO171 := n3_; have HO174 := n4_; have HO181 := n5_; have HO184 := n6_; have HB := n7_; clear n0_ n1_ n2_ n3_ n4_ n5_ n6_ n7_; clear hb ho39; obtain ⟨Ao40, co40, eo40⟩ := Kd.R_slice HO163.out; subst eo40; obtain ⟨Ao41, co41, eo41⟩ := Kd.R_slice HO184.out; subst eo41) | ((with_reducible refine gate_callee (f := 18) rfl ?_); refine goesL_ (some 49) rfl rfl Try.func18 (by kernel_rfl) rfl #[.slice Ao40 t160.length co40, .slice Ao41 y182.length co41] rfl (by (try simp only [List.map_toArray, List.map_cons, List.map_nil]); first | done | rfl | (simp only [List.length_drop, List.length_take]; rfl)) ?_; (with_reducible refine (waveletref03_SameInts.calls k _ _ t160 _ _ y182 true _ ?side1 ?side2 ?side3 ?side4 A30.out).mono ?_); (case side1 => repeat (first | exact (Kd.R_reads' HO163.out).2.2 | (with_reducible refine Kd.C_alloc ?_ _) | (with_reducible refine Kd.C_drewN ?_ _) | (with_reducible refine Kd.C_drew ?_))); (case side2 => exact (Kd.R_reads' HO163.out).2.1); (case side3 => repeat (first | exact (Kd.R_reads' HO184.out).2.2 | (with_reducible refine Kd.C_alloc ?_ _) | (with_reducible refine Kd.C_drewN ?_ _) | (with_reducible refine Kd.C_drew ?_))); (case side4 => exact (Kd.R_reads' HO184.out).2.1); rintro e w' ⟨rfl, ⟨nd, rfl⟩⟩; refine ⟨_, rfl, ?_⟩) | ((with_reducible refine gate_dst (N := 57) rfl ?_); (try (refine gate_guard (by rfl) ?_; dsimp only)); refine Kd.R_lit (Kd.int .i64) _ 3 ?hg (N := 57) ?hd (xs := ([3, 1] : List Int)) (inner := [.int .i64 3, .int .i64 1]) (ok := fun _ => True) (okp := fun _ => True) ?hr ?hp (fun _ hk => hk) trivial (Below.refl _ _) (Nat.le_refl _) (by simp) ?_; (case hd => rfl); (case hg => rfl); (case hr => first | (go_simp; done) | (go_simp; rfl)); (case hp => exact (Reps.one (show Kd.M (Kd.int .i64) _ _ _ 3 [.int .i64 3] from rfl) (Reps.one (show Kd.M (Kd.int .i64) _ _ _ 1 [.int .i64 1] from rfl) (Reps.none _ _)))); intro v187 w42 ho43 hb hg_ hnew_; clear hg_ hnew_; (first | rw [← Ny186.out] at ho43 | (simp only [Int.reduceToNat] at ho43; rw [← Ny186.out] at ho43)); have n0_ := As (Kd.N_below (by (with_reducible repeat (first | apply Kd.N_alloc | apply Kd.N_drewN | apply Kd.N_drew)); exact HO159.out) hb); have n1_ := As (Kd.Rb (by (with_reducible repeat (first | apply Kd.Ra | apply Kd.Rn | apply Kd.Rd)); exact HO163.out) hb); have n2_ := As (Kd.Rb (by (with_reducible repeat (first | apply Kd.Ra | apply Kd.Rn | apply Kd.Rd)); exact HO167.out) hb); have n3_ := As (Kd.Rb (by (with_reducible repeat (first | apply Kd.Ra | apply Kd.Rn | apply Kd.Rd)); exact HO171.out) hb); have n4_ := As (Kd.Rb (by (with_reducible repeat (first | apply Kd.Ra | apply Kd.Rn | apply Kd.Rd)); exact HO174.out) hb); have n5_ := As (Kd.Rb (by (with_reducible repeat (first | apply Kd.Ra | apply Kd.Rn | apply Kd.Rd)); exact HO181.out) hb); have n6_ := As (Kd.Rb (by (with_reducible repeat (first | apply Kd.Ra | apply Kd.Rn | apply Kd.Rd)); exact HO184.out) hb); have n7_ := As (Kd.R_lower ho43 (below_size (by repeat (first | (with_reducible first | exact HB.out | apply bla | apply bln | apply bld) | exact HB.out)))); have n8_ := As (below_step (by repeat (first | (with_reducible first | exact HB.out | apply bla | apply bln | apply bld) | exact HB.out)) hb); clear HO159; clear HO163; clear HO167; clear HO171; clear HO174; clear HO181; clear HO184; clear HB; have HO159 := n0_; have HO163 := n1_; have HO167 := n2_; have HO171 := n3_; have HO174 := n4_; have HO181 := n5_; have HO184 := n6_; have HO188 := n7_; have HB := n8_; clear n0_ n1_ n2_ n3_ n4_ n5_ n6_ n7_ n8_; clear hb ho43; obtain ⟨Ao44, co44, eo44⟩ := Kd.R_slice HO167.out; subst eo44; obtain ⟨Ao45, co45, eo45⟩ := Kd.R_slice HO188.out; subst eo45) | (go_at_call 18; (with_reducible refine (waveletref03_SameInts.calls k _ _ t164 _ _ y186 true _ ?side1 ?side2 ?side3 ?side4 A33.out).mono ?_); (case side1 => repeat (first | exact (Kd.R_reads' HO167.out).2.2 | (with_reducible refine Kd.C_alloc ?_ _) | (with_reducible refine Kd.C_drewN ?_ _) | (with_reducible refine Kd.C_drew ?_))); (case side2 => exact (Kd.R_reads' HO167.out).2.1); (case side3 => repeat (first | exact (Kd.R_reads' HO188.out).2.2 | (with_reducible refine Kd.C_alloc ?_ _) | (with_reducible refine Kd.C_drewN ?_ _) | (with_reducible refine Kd.C_drew ?_))); (case side4 => exact (Kd.R_reads' HO188.out).2.1); rintro e w' ⟨rfl, ⟨nd, rfl⟩⟩) | ((with_reducible refine gate_dst (N := 67) rfl ?_); (try (refine gate_guard (by rfl) ?_; dsimp only)); refine Kd.R_lit (Kd.int .i64) _ 3 ?hg (N := 67) ?hd (xs := ([0, 0] : List Int)) (inner := [.int .i64 0, .int .i64 0]) (ok := fun _ => True) (okp := fun _ => True) ?hr ?hp (fun _ hk => hk) trivial (Below.refl _ _) (Nat.le_refl _) (by simp) ?_; (case hd => rfl); (case hg => rfl); (case hr => first | (go_simp; done) | (go_simp; rfl)); (case hp => exact (Reps.one (show Kd.M (Kd.int .i64) _ _ _ 0 [.int .i64 0] from rfl) (Reps.one (show Kd.M (Kd.int .i64) _ _ _ 0 [.int .i64 0] from rfl) (Reps.none _ _)))); intro v191 w46 ho47 hb hg_ hnew_; clear hg_ hnew_; (first | rw [← Ny190.out] at ho47 | (simp only [Int.reduceToNat] at ho47; rw [← Ny190.out] at ho47)); have n0_ := As (Kd.N_below (by (with_reducible repeat (first | apply Kd.N_alloc | apply Kd.N_drewN | apply Kd.N_drew)); exact HO159.out) hb); have n1_ := As (Kd.Rb (by (with_reducible repeat (first | apply Kd.Ra | apply Kd.Rn | apply Kd.Rd)); exact HO163.out) hb); have n2_ := As (Kd.Rb (by (with_reducible repeat (first | apply Kd.Ra | apply Kd.Rn | apply Kd.Rd)); exact HO167.out) hb); have n3_ := As (Kd.Rb (by (with_reducible repeat (first | apply Kd.Ra | apply Kd.Rn | apply Kd.Rd)); exact HO171.out) hb); have n4_ := As (Kd.Rb (by (with_reducible repeat (first | apply Kd.Ra | apply Kd.Rn | apply Kd.Rd)); exact HO174.out) hb); have n5_ := As (Kd.Rb (by (with_reducible repeat (first | apply Kd.Ra | apply Kd.Rn | apply Kd.Rd)); exact HO181.out) hb); have n6_ := As (Kd.Rb (by (with_reducible repeat (first | apply Kd.Ra | apply Kd.Rn | apply Kd.Rd)); exact HO184.out) hb); have n7_ := As (Kd.Rb (by (with_reducible repeat (first | apply Kd.Ra | apply Kd.Rn | apply Kd.Rd)); exact HO188.out) hb); have n8_ := As (Kd.R_lower ho47 (below_size (by repeat (first | (with_reducible first | exact HB.out | apply bla | apply bln | apply bld) | exact HB.out)))); have n9_ := As (below_step (by repeat (first | (with_reducible first | exact HB.out | apply bla | apply bln | apply bld) | exact HB.out)) hb); clear HO159; clear HO163; clear HO167; clear HO171; clear HO174; clear HO181; clear HO184; clear HO188; clear HB; have HO159 := n0_; have HO163 := n1_; have HO167 := n2_; have HO171 := n3_; have HO174 := n4_; have HO181 := n5_; have HO184 := n6_; have HO188 := n7_; have HO192 := n8_; have HB := n9_; clear n0_ n1_ n2_ n3_ n4_ n5_ n6_ n7_ n8_ n9_; clear hb ho47; obtain ⟨Ao48, co48, eo48⟩ := Kd.R_slice HO171.out; subst eo48; obtain ⟨Ao49, co49, eo49⟩ := Kd.R_slice HO192.out; subst eo49) | (go_at_call 18; (with_reducible refine (waveletref03_SameInts.calls k _ _ t168 _ _ y190 true _ ?side1 ?side2 ?side3 ?side4 A36.out).mono ?_); (case side1 => repeat (first | exact (Kd.R_reads' HO171.out).2.2 | (with_reducible refine Kd.C_alloc ?_ _) | (with_reducible refine Kd.C_drewN ?_ _) | (with_reducible refine Kd.C_drew ?_))); (case side2 => exact (Kd.R_reads' HO171.out).2.1); (case side3 => repeat (first | exact (Kd.R_reads' HO192.out).2.2 | (with_reducible refine Kd.C_alloc ?_ _) | (with_reducible refine Kd.C_drewN ?_ _) | (with_reducible refine Kd.C_drew ?_))); (case side4 => exact (Kd.R_reads' HO192.out).2.1); rintro e w' ⟨rfl, ⟨nd, rfl⟩⟩))
       go_meet
       case rel => exact ⟨_, ((t169 != 0)), (by first | rfl | (simp; done) | (simp [*]; done)), H', ⟨by first | omega | exact Nat.le_refl _⟩, ⟨by repeat (first | (with_reducible first | exact HB.out | apply bla | apply bln | apply bld) | exact HB.out)⟩⟩
      ·
       replace c37 := Bool.eq_false_iff.mpr c37
       subst c37
       have H1 : (waveletlaw21_exampleHolds.j0 k t175 t176 t177 t179 true) = some r := by rw [if_neg (show ¬ (false = true) by decide)] at H; exact H
       clear H
       have H := H1
       clear H1
       have H' := As H
       clear H
       go_wp2_with (first | ((with_reducible refine gate_dst (N := 48) rfl ?_); (try (refine gate_guard (by rfl) ?_; dsimp only)); refine Kd.R_lit (Kd.int .i64) _ 3 ?hg (N := 48) ?hd (xs := ([1, 0] : List Int)) (inner := [.int .i64 1, .int .i64 0]) (ok := fun _ => True) (okp := fun _ => True) ?hr ?hp (fun _ hk => hk) trivial (Below.refl _ _) (Nat.le_refl _) (by simp) ?_; (case hd => rfl); (case hg => rfl); (case hr => first | (go_simp; done) | (go_simp; rfl)); (case hp => exact (Reps.one (show Kd.M (Kd.int .i64) _ _ _ 1 [.int .i64 1] from rfl) (Reps.one (show Kd.M (Kd.int .i64) _ _ _ 0 [.int .i64 0] from rfl) (Reps.none _ _)))); intro v183 w50 ho51 hb hg_ hnew_; clear hg_ hnew_; (first | rw [← Ny182.out] at ho51 | (simp only [Int.reduceToNat] at ho51; rw [← Ny182.out] at ho51)); have n0_ := As (Kd.N_below (by (with_reducible repeat (first | apply Kd.N_alloc | apply Kd.N_drewN | apply Kd.N_drew)); exact HO159.out) hb); have n1_ := As (Kd.Rb (by (with_reducible repeat (first | apply Kd.Ra | apply Kd.Rn | apply Kd.Rd)); exact HO163.out) hb); have n2_ := As (Kd.Rb (by (with_reducible repeat (first | apply Kd.Ra | apply Kd.Rn | apply Kd.Rd)); exact HO167.out) hb); have n3_ := As (Kd.Rb (by (with_reducible repeat (first | apply Kd.Ra | apply Kd.Rn | apply Kd.Rd)); exact HO171.out) hb); have n4_ := As (Kd.Rb (by (with_reducible repeat (first | apply Kd.Ra | apply Kd.Rn | apply Kd.Rd)); exact HO174.out) hb); have n5_ := As (Kd.Rb (by (with_reducible repeat (first | apply Kd.Ra | apply Kd.Rn | apply Kd.Rd)); exact HO181.out) hb); have n6_ := As (Kd.R_lower ho51 (below_size (by repeat (first | (with_reducible first | exact HB.out | apply bla | apply bln | apply bld) | exact HB.out)))); have n7_ := As (below_step (by repeat (first | (with_reducible first | exact HB.out | apply bla | apply bln | apply bld) | exact HB.out)) hb); clear HO159; clear HO163; clear HO167; clear HO171; clear HO174; clear HO181; clear HB; have HO159 := n0_; have HO163 := n1_; have HO167 := n2_; have HO171 := n3_; have HO174 := n4_; have HO181 := n5_; have HO184 := n6_; have HB := n7_; clear n0_ n1_ n2_ n3_ n4_ n5_ n6_ n7_; clear hb ho51; obtain ⟨Ao52, co52, eo52⟩ := Kd.R_slice HO163.out; subst eo52; obtain ⟨Ao53, co53, eo53⟩ := Kd.R_slice HO184.out; subst eo53) | ((with_reducible refine gate_callee (f := 18) rfl ?_); refine goesL_ (some 49) rfl rfl Try.func18 (by kernel_rfl) rfl #[.slice Ao52 t160.length co52, .slice Ao53 y182.length co53] rfl (by (try simp only [List.map_toArray, List.map_cons, List.map_nil]); first | done | rfl | (simp only [List.length_drop, List.length_take]; rfl)) ?_; (with_reducible refine (waveletref03_SameInts.calls k _ _ t160 _ _ y182 true _ ?side1 ?side2 ?side3 ?side4 A30.out).mono ?_); (case side1 => repeat (first | exact (Kd.R_reads' HO163.out).2.2 | (with_reducible refine Kd.C_alloc ?_ _) | (with_reducible refine Kd.C_drewN ?_ _) | (with_reducible refine Kd.C_drew ?_))); (case side2 => exact (Kd.R_reads' HO163.out).2.1); (case side3 => repeat (first | exact (Kd.R_reads' HO184.out).2.2 | (with_reducible refine Kd.C_alloc ?_ _) | (with_reducible refine Kd.C_drewN ?_ _) | (with_reducible refine Kd.C_drew ?_))); (case side4 => exact (Kd.R_reads' HO184.out).2.1); rintro e w' ⟨rfl, ⟨nd, rfl⟩⟩; refine ⟨_, rfl, ?_⟩) | ((with_reducible refine gate_dst (N := 57) rfl ?_); (try (refine gate_guard (by rfl) ?_; dsimp only)); refine Kd.R_lit (Kd.int .i64) _ 3 ?hg (N := 57) ?hd (xs := ([3, 1] : List Int)) (inner := [.int .i64 3, .int .i64 1]) (ok := fun _ => True) (okp := fun _ => True) ?hr ?hp (fun _ hk => hk) trivial (Below.refl _ _) (Nat.le_refl _) (by simp) ?_; (case hd => rfl); (case hg => rfl); (case hr => first | (go_simp; done) | (go_simp; rfl)); (case hp => exact (Reps.one (show Kd.M (Kd.int .i64) _ _ _ 3 [.int .i64 3] from rfl) (Reps.one (show Kd.M (Kd.int .i64) _ _ _ 1 [.int .i64 1] from rfl) (Reps.none _ _)))); intro v187 w54 ho55 hb hg_ hnew_; clear hg_ hnew_; (first | rw [← Ny186.out] at ho55 | (simp only [Int.reduceToNat] at ho55; rw [← Ny186.out] at ho55)); have n0_ := As (Kd.N_below (by (with_reducible repeat (first | apply Kd.N_alloc | apply Kd.N_drewN | apply Kd.N_drew)); exact HO159.out) hb); have n1_ := As (Kd.Rb (by (with_reducible repeat (first | apply Kd.Ra | apply Kd.Rn | apply Kd.Rd)); exact HO163.out) hb); have n2_ := As (Kd.Rb (by (with_reducible repeat (first | apply Kd.Ra | apply Kd.Rn | apply Kd.Rd)); exact HO167.out) hb); have n3_ := As (Kd.Rb (by (with_reducible repeat (first | apply Kd.Ra | apply Kd.Rn | apply Kd.Rd)); exact HO171.out) hb); have n4_ := As (Kd.Rb (by (with_reducible repeat (first | apply Kd.Ra | apply Kd.Rn | apply Kd.Rd)); exact HO174.out) hb); have n5_ := As (Kd.Rb (by (with_reducible repeat (first | apply Kd.Ra | apply Kd.Rn | apply Kd.Rd)); exact HO181.out) hb); have n6_ := As (Kd.Rb (by (with_reducible repeat (first | apply Kd.Ra | apply Kd.Rn | apply Kd.Rd)); exact HO184.out) hb); have n7_ := As (Kd.R_lower ho55 (below_size (by repeat (first | (with_reducible first | exact HB.out | apply bla | apply bln | apply bld) | exact HB.out)))); have n8_ := As (below_step (by repeat (first | (with_reducible first | exact HB.out | apply bla | apply bln | apply bld) | exact HB.out)) hb); clear HO159; clear HO163; clear HO167; clear HO171; clear HO174; clear HO181; clear HO184; clear HB; have HO159 := n0_; have HO163 := n1_; have HO167 := n2_; have HO171 := n3_; have HO174 := n4_; have HO181 := n5_; have HO184 := n6_; have HO188 := n7_; have HB := n8_; clear n0_ n1_ n2_ n3_ n4_ n5_ n6_ n7_ n8_; clear hb ho55; obtain ⟨Ao56, co56, eo56⟩ := Kd.R_slice HO167.out; subst eo56; obtain ⟨Ao57, co57, eo57⟩ := Kd.R_slice HO188.out; subst eo57) | (go_at_call 18; (with_reducible refine (waveletref03_SameInts.calls k _ _ t164 _ _ y186 true _ ?side1 ?side2 ?side3 ?side4 A33.out).mono ?_); (case side1 => repeat (first | exact (Kd.R_reads' HO167.out).2.2 | (with_reducible refine Kd.C_alloc ?_ _) | (with_reducible refine Kd.C_drewN ?_ _) | (with_reducible refine Kd.C_drew ?_))); (case side2 => exact (Kd.R_reads' HO167.out).2.1); (case side3 => repeat (first | exact (Kd.R_reads' HO188.out).2.2 | (with_reducible refine Kd.C_alloc ?_ _) | (with_reducible refine Kd.C_drewN ?_ _) | (with_reducible refine Kd.C_drew ?_))); (case side4 => exact (Kd.R_reads' HO188.out).2.1); rintro e w' ⟨rfl, ⟨nd, rfl⟩⟩) | ((with_reducible refine gate_dst (N := 67) rfl ?_); (try (refine gate_guard (by rfl) ?_; dsimp only)); refine Kd.R_lit (Kd.int .i64) _ 3 ?hg (N := 67) ?hd (xs := ([0, 0] : List Int)) (inner := [.int .i64 0, .int .i64 0]) (ok := fun _ => True) (okp := fun _ => True) ?hr ?hp (fun _ hk => hk) trivial (Below.refl _ _) (Nat.le_refl _) (by simp) ?_; (case hd => rfl); (case hg => rfl); (case hr => first | (go_simp; done) | (go_simp; rfl)); (case hp => exact (Reps.one (show Kd.M (Kd.int .i64) _ _ _ 0 [.int .i64 0] from rfl) (Reps.one (show Kd.M (Kd.int .i64) _ _ _ 0 [.int .i64 0] from rfl) (Reps.none _ _)))); intro v191 w58 ho59 hb hg_ hnew_; clear hg_ hnew_; (first | rw [← Ny190.out] at ho59 | (simp only [Int.reduceToNat] at ho59; rw [← Ny190.out] at ho59)); have n0_ := As (Kd.N_below (by (with_reducible repeat (first | apply Kd.N_alloc | apply Kd.N_drewN | apply Kd.N_drew)); exact HO159.out) hb); have n1_ := As (Kd.Rb (by (with_reducible repeat (first | apply Kd.Ra | apply Kd.Rn | apply Kd.Rd)); exact HO163.out) hb); have n2_ := As (Kd.Rb (by (with_reducible repeat (first | apply Kd.Ra | apply Kd.Rn | apply Kd.Rd)); exact HO167.out) hb); have n3_ := As (Kd.Rb (by (with_reducible repeat (first | apply Kd.Ra | apply Kd.Rn | apply Kd.Rd)); exact HO171.out) hb); have n4_ := As (Kd.Rb (by (with_reducible repeat (first | apply Kd.Ra | apply Kd.Rn | apply Kd.Rd)); exact HO174.out) hb); have n5_ := As (Kd.Rb (by (with_reducible repeat (first | apply Kd.Ra | apply Kd.Rn | apply Kd.Rd)); exact HO181.out) hb); have n6_ := As (Kd.Rb (by (with_reducible repeat (first | apply Kd.Ra | apply Kd.Rn | apply Kd.Rd)); exact HO184.out) hb); have n7_ := As (Kd.Rb (by (with_reducible repeat (first | apply Kd.Ra | apply Kd.Rn | apply Kd.Rd)); exact HO188.out) hb); have n8_ := As (Kd.R_lower ho59 (below_size (by repeat (first | (with_reducible first | exact HB.out | apply bla | apply bln | apply bld) | exact HB.out)))); have n9_ := As (below_step (by repeat (first | (with_reducible first | exact HB.out | apply bla | apply bln | apply bld) | exact HB.out)) hb); clear HO159; clear HO163; clear HO167; clear HO171; clear HO174; clear HO181; clear HO184; clear HO188; clear HB; have HO159 := n0_; have HO163 := n1_; have HO167 := n2_; have HO171 := n3_; have HO174 := n4_; have HO181 := n5_; have HO184 := n6_; have HO188 := n7_; have HO192 := n8_; have HB := n9_; clear n0_ n1_ n2_ n3_ n4_ n5_ n6_ n7_ n8_ n9_; clear hb ho59; obtain ⟨Ao60, co60, eo60⟩ := Kd.R_slice HO171.out; subst eo60; obtain ⟨Ao61, co61, eo61⟩ := Kd.R_slice HO192.out; subst eo61) | (go_at_call 18; (with_reducible refine (waveletref03_SameInts.calls k _ _ t168 _ _ y190 false _ ?side1 ?side2 ?side3 ?side4 A36.out).mono ?_); (case side1 => repeat (first | exact (Kd.R_reads' HO171.out).2.2 | (with_reducible refine Kd.C_alloc ?_ _) | (with_reducible refine Kd.C_drewN ?_ _) | (with_reducible refine Kd.C_drew ?_))); (case side2 => exact (Kd.R_reads' HO171.out).2.1); (case side3 => repeat (first | exact (Kd.R_reads' HO192.out).2.2 | (with_reducible refine Kd.C_alloc ?_ _) | (with_reducible refine Kd.C_drewN ?_ _) | (with_reducible refine Kd.C_drew ?_))); (case side4 => exact (Kd.R_reads' HO192.out).2.1); rintro e w' ⟨rfl, ⟨nd, rfl⟩⟩))
       go_meet
       case rel => exact ⟨_, (true), (by first | rfl | (simp; done) | (simp [*]; done)), H', ⟨by first | omega | exact Nat.le_refl _⟩, ⟨by repeat (first | (with_reducible first | exact HB.out | apply bla | apply bln | apply bld) | exact HB.out)⟩⟩
     ·
      rw [if_neg c35] at H
      have c35b0 : (t165 == 0) = false := beq_eq_false_iff_ne.mpr c35
      have c35b1 : (t165 != 0) = true := bne_iff_ne.mpr c35
      have H' := As H
      clear H
      go_wp2_with (first | ((with_reducible refine gate_dst (N := 48) rfl ?_); (try (refine gate_guard (by rfl) ?_; dsimp only)); refine Kd.R_lit (Kd.int .i64) _ 3 ?hg (N := 48) ?hd (xs := ([1, 0] : List Int)) (inner := [.int .i64 1, .int .i64 0]) (ok := fun _ => True) (okp := fun _ => True) ?hr ?hp (fun _ hk => hk) trivial (Below.refl _ _) (Nat.le_refl _) (by simp) ?_; (case hd => rfl); (case hg => rfl); (case hr => first | (go_simp; done) | (go_simp; rfl)); (case hp => exact (Reps.one (show Kd.M (Kd.int .i64) _ _ _ 1 [.int .i64 1] from rfl) (Reps.one (show Kd.M (Kd.int .i64) _ _ _ 0 [.int .i64 0] from rfl) (Reps.none _ _)))); intro v183 w62 ho63 hb hg_ hnew_; clear hg_ hnew_; (first | rw [← Ny182.out] at ho63 | (simp only [Int.reduceToNat] at ho63; rw [← Ny182.out] at ho63)); have n0_ := As (Kd.N_below (by (with_reducible repeat (first | apply Kd.N_alloc | apply Kd.N_drewN | apply Kd.N_drew)); exact HO159.out) hb); have n1_ := As (Kd.Rb (by (with_reducible repeat (first | apply Kd.Ra | apply Kd.Rn | apply Kd.Rd)); exact HO163.out) hb); have n2_ := As (Kd.Rb (by (with_reducible repeat (first | apply Kd.Ra | apply Kd.Rn | apply Kd.Rd)); exact HO167.out) hb); have n3_ := As (Kd.Rb (by (with_reducible repeat (first | apply Kd.Ra | apply Kd.Rn | apply Kd.Rd)); exact HO171.out) hb); have n4_ := As (Kd.Rb (by (with_reducible repeat (first | apply Kd.Ra | apply Kd.Rn | apply Kd.Rd)); exact HO174.out) hb); have n5_ := As (Kd.Rb (by (with_reducible repeat (first | apply Kd.Ra | apply Kd.Rn | apply Kd.Rd)); exact HO181.out) hb); have n6_ := As (Kd.R_lower ho63 (below_size (by repeat (first | (with_reducible first | exact HB.out | apply bla | apply bln | apply bld) | exact HB.out)))); have n7_ := As (below_step (by repeat (first | (with_reducible first | exact HB.out | apply bla | apply bln | apply bld) | exact HB.out)) hb); clear HO159; clear HO163; clear HO167; clear HO171; clear HO174; clear HO181; clear HB; have HO159 := n0_; have HO163 := n1_; have HO167 := n2_; have HO171 := n3_; have HO174 := n4_; have HO181 := n5_; have HO184 := n6_; have HB := n7_; clear n0_ n1_ n2_ n3_ n4_ n5_ n6_ n7_; clear hb ho63; obtain ⟨Ao64, co64, eo64⟩ := Kd.R_slice HO163.out; subst eo64; obtain ⟨Ao65, co65, eo65⟩ := Kd.R_slice HO184.out; subst eo65) | ((with_reducible refine gate_callee (f := 18) rfl ?_); refine goesL_ (some 49) rfl rfl Try.func18 (by kernel_rfl) rfl #[.slice Ao64 t160.length co64, .slice Ao65 y182.length co65] rfl (by (try simp only [List.map_toArray, List.map_cons, List.map_nil]); first | done | rfl | (simp only [List.length_drop, List.length_take]; rfl)) ?_; (with_reducible refine (waveletref03_SameInts.calls k _ _ t160 _ _ y182 true _ ?side1 ?side2 ?side3 ?side4 A30.out).mono ?_); (case side1 => repeat (first | exact (Kd.R_reads' HO163.out).2.2 | (with_reducible refine Kd.C_alloc ?_ _) | (with_reducible refine Kd.C_drewN ?_ _) | (with_reducible refine Kd.C_drew ?_))); (case side2 => exact (Kd.R_reads' HO163.out).2.1); (case side3 => repeat (first | exact (Kd.R_reads' HO184.out).2.2 | (with_reducible refine Kd.C_alloc ?_ _) | (with_reducible refine Kd.C_drewN ?_ _) | (with_reducible refine Kd.C_drew ?_))); (case side4 => exact (Kd.R_reads' HO184.out).2.1); rintro e w' ⟨rfl, ⟨nd, rfl⟩⟩; refine ⟨_, rfl, ?_⟩) | ((with_reducible refine gate_dst (N := 57) rfl ?_); (try (refine gate_guard (by rfl) ?_; dsimp only)); refine Kd.R_lit (Kd.int .i64) _ 3 ?hg (N := 57) ?hd (xs := ([3, 1] : List Int)) (inner := [.int .i64 3, .int .i64 1]) (ok := fun _ => True) (okp := fun _ => True) ?hr ?hp (fun _ hk => hk) trivial (Below.refl _ _) (Nat.le_refl _) (by simp) ?_; (case hd => rfl); (case hg => rfl); (case hr => first | (go_simp; done) | (go_simp; rfl)); (case hp => exact (Reps.one (show Kd.M (Kd.int .i64) _ _ _ 3 [.int .i64 3] from rfl) (Reps.one (show Kd.M (Kd.int .i64) _ _ _ 1 [.int .i64 1] from rfl) (Reps.none _ _)))); intro v187 w66 ho67 hb hg_ hnew_; clear hg_ hnew_; (first | rw [← Ny186.out] at ho67 | (simp only [Int.reduceToNat] at ho67; rw [← Ny186.out] at ho67)); have n0_ := As (Kd.N_below (by (with_reducible repeat (first | apply Kd.N_alloc | apply Kd.N_drewN | apply Kd.N_drew)); exact HO159.out) hb); have n1_ := As (Kd.Rb (by (with_reducible repeat (first | apply Kd.Ra | apply Kd.Rn | apply Kd.Rd)); exact HO163.out) hb); have n2_ := As (Kd.Rb (by (with_reducible repeat (first | apply Kd.Ra | apply Kd.Rn | apply Kd.Rd)); exact HO167.out) hb); have n3_ := As (Kd.Rb (by (with_reducible repeat (first | apply Kd.Ra | apply Kd.Rn | apply Kd.Rd)); exact HO171.out) hb); have n4_ := As (Kd.Rb (by (with_reducible repeat (first | apply Kd.Ra | apply Kd.Rn | apply Kd.Rd)); exact HO174.out) hb); have n5_ := As (Kd.Rb (by (with_reducible repeat (first | apply Kd.Ra | apply Kd.Rn | apply Kd.Rd)); exact HO181.out) hb); have n6_ := As (Kd.Rb (by (with_reducible repeat (first | apply Kd.Ra | apply Kd.Rn | apply Kd.Rd)); exact HO184.out) hb); have n7_ := As (Kd.R_lower ho67 (below_size (by repeat (first | (with_reducible first | exact HB.out | apply bla | apply bln | apply bld) | exact HB.out)))); have n8_ := As (below_step (by repeat (first | (with_reducible first | exact HB.out | apply bla | apply bln | apply bld) | exact HB.out)) hb); clear HO159; clear HO163; clear HO167; clear HO171; clear HO174; clear HO181; clear HO184; clear HB; have HO159 := n0_; have HO163 := n1_; have HO167 := n2_; have HO171 := n3_; have HO174 := n4_; have HO181 := n5_; have HO184 := n6_; have HO188 := n7_; have HB := n8_; clear n0_ n1_ n2_ n3_ n4_ n5_ n6_ n7_ n8_; clear hb ho67; obtain ⟨Ao68, co68, eo68⟩ := Kd.R_slice HO167.out; subst eo68; obtain ⟨Ao69, co69, eo69⟩ := Kd.R_slice HO188.out; subst eo69) | (go_at_call 18; (with_reducible refine (waveletref03_SameInts.calls k _ _ t164 _ _ y186 true _ ?side1 ?side2 ?side3 ?side4 A33.out).mono ?_); (case side1 => repeat (first | exact (Kd.R_reads' HO167.out).2.2 | (with_reducible refine Kd.C_alloc ?_ _) | (with_reducible refine Kd.C_drewN ?_ _) | (with_reducible refine Kd.C_drew ?_))); (case side2 => exact (Kd.R_reads' HO167.out).2.1); (case side3 => repeat (first | exact (Kd.R_reads' HO188.out).2.2 | (with_reducible refine Kd.C_alloc ?_ _) | (with_reducible refine Kd.C_drewN ?_ _) | (with_reducible refine Kd.C_drew ?_))); (case side4 => exact (Kd.R_reads' HO188.out).2.1); rintro e w' ⟨rfl, ⟨nd, rfl⟩⟩))
      go_meet
      case rel => exact ⟨_, (true), (by first | rfl | (simp; done) | (simp [*]; done)), H', ⟨by first | omega | exact Nat.le_refl _⟩, ⟨by repeat (first | (with_reducible first | exact HB.out | apply bla | apply bln | apply bld) | exact HB.out)⟩⟩
    ·
     replace c34 := Bool.eq_false_iff.mpr c34
     subst c34
     have H1 : (waveletlaw21_exampleHolds.j0 k t175 t176 t177 t179 true) = some r := by rw [if_neg (show ¬ (false = true) by decide)] at H; exact H
     clear H
     have H := H1
     clear H1
     have H' := As H
     clear H
     go_wp2_with (first | ((with_reducible refine gate_dst (N := 48) rfl ?_); (try (refine gate_guard (by rfl) ?_; dsimp only)); refine Kd.R_lit (Kd.int .i64) _ 3 ?hg (N := 48) ?hd (xs := ([1, 0] : List Int)) (inner := [.int .i64 1, .int .i64 0]) (ok := fun _ => True) (okp := fun _ => True) ?hr ?hp (fun _ hk => hk) trivial (Below.refl _ _) (Nat.le_refl _) (by simp) ?_; (case hd => rfl); (case hg => rfl); (case hr => first | (go_simp; done) | (go_simp; rfl)); (case hp => exact (Reps.one (show Kd.M (Kd.int .i64) _ _ _ 1 [.int .i64 1] from rfl) (Reps.one (show Kd.M (Kd.int .i64) _ _ _ 0 [.int .i64 0] from rfl) (Reps.none _ _)))); intro v183 w70 ho71 hb hg_ hnew_; clear hg_ hnew_; (first | rw [← Ny182.out] at ho71 | (simp only [Int.reduceToNat] at ho71; rw [← Ny182.out] at ho71)); have n0_ := As (Kd.N_below (by (with_reducible repeat (first | apply Kd.N_alloc | apply Kd.N_drewN | apply Kd.N_drew)); exact HO159.out) hb); have n1_ := As (Kd.Rb (by (with_reducible repeat (first | apply Kd.Ra | apply Kd.Rn | apply Kd.Rd)); exact HO163.out) hb); have n2_ := As (Kd.Rb (by (with_reducible repeat (first | apply Kd.Ra | apply Kd.Rn | apply Kd.Rd)); exact HO167.out) hb); have n3_ := As (Kd.Rb (by (with_reducible repeat (first | apply Kd.Ra | apply Kd.Rn | apply Kd.Rd)); exact HO171.out) hb); have n4_ := As (Kd.Rb (by (with_reducible repeat (first | apply Kd.Ra | apply Kd.Rn | apply Kd.Rd)); exact HO174.out) hb); have n5_ := As (Kd.Rb (by (with_reducible repeat (first | apply Kd.Ra | apply Kd.Rn | apply Kd.Rd)); exact HO181.out) hb); have n6_ := As (Kd.R_lower ho71 (below_size (by repeat (first | (with_reducible first | exact HB.out | apply bla | apply bln | apply bld) | exact HB.out)))); have n7_ := As (below_step (by repeat (first | (with_reducible first | exact HB.out | apply bla | apply bln | apply bld) | exact HB.out)) hb); clear HO159; clear HO163; clear HO167; clear HO171; clear HO174; clear HO181; clear HB; have HO159 := n0_; have HO163 := n1_; have HO167 := n2_; have HO171 := n3_; have HO174 := n4_; have HO181 := n5_; have HO184 := n6_; have HB := n7_; clear n0_ n1_ n2_ n3_ n4_ n5_ n6_ n7_; clear hb ho71; obtain ⟨Ao72, co72, eo72⟩ := Kd.R_slice HO163.out; subst eo72; obtain ⟨Ao73, co73, eo73⟩ := Kd.R_slice HO184.out; subst eo73) | ((with_reducible refine gate_callee (f := 18) rfl ?_); refine goesL_ (some 49) rfl rfl Try.func18 (by kernel_rfl) rfl #[.slice Ao72 t160.length co72, .slice Ao73 y182.length co73] rfl (by (try simp only [List.map_toArray, List.map_cons, List.map_nil]); first | done | rfl | (simp only [List.length_drop, List.length_take]; rfl)) ?_; (with_reducible refine (waveletref03_SameInts.calls k _ _ t160 _ _ y182 true _ ?side1 ?side2 ?side3 ?side4 A30.out).mono ?_); (case side1 => repeat (first | exact (Kd.R_reads' HO163.out).2.2 | (with_reducible refine Kd.C_alloc ?_ _) | (with_reducible refine Kd.C_drewN ?_ _) | (with_reducible refine Kd.C_drew ?_))); (case side2 => exact (Kd.R_reads' HO163.out).2.1); (case side3 => repeat (first | exact (Kd.R_reads' HO184.out).2.2 | (with_reducible refine Kd.C_alloc ?_ _) | (with_reducible refine Kd.C_drewN ?_ _) | (with_reducible refine Kd.C_drew ?_))); (case side4 => exact (Kd.R_reads' HO184.out).2.1); rintro e w' ⟨rfl, ⟨nd, rfl⟩⟩; refine ⟨_, rfl, ?_⟩) | ((with_reducible refine gate_dst (N := 57) rfl ?_); (try (refine gate_guard (by rfl) ?_; dsimp only)); refine Kd.R_lit (Kd.int .i64) _ 3 ?hg (N := 57) ?hd (xs := ([3, 1] : List Int)) (inner := [.int .i64 3, .int .i64 1]) (ok := fun _ => True) (okp := fun _ => True) ?hr ?hp (fun _ hk => hk) trivial (Below.refl _ _) (Nat.le_refl _) (by simp) ?_; (case hd => rfl); (case hg => rfl); (case hr => first | (go_simp; done) | (go_simp; rfl)); (case hp => exact (Reps.one (show Kd.M (Kd.int .i64) _ _ _ 3 [.int .i64 3] from rfl) (Reps.one (show Kd.M (Kd.int .i64) _ _ _ 1 [.int .i64 1] from rfl) (Reps.none _ _)))); intro v187 w74 ho75 hb hg_ hnew_; clear hg_ hnew_; (first | rw [← Ny186.out] at ho75 | (simp only [Int.reduceToNat] at ho75; rw [← Ny186.out] at ho75)); have n0_ := As (Kd.N_below (by (with_reducible repeat (first | apply Kd.N_alloc | apply Kd.N_drewN | apply Kd.N_drew)); exact HO159.out) hb); have n1_ := As (Kd.Rb (by (with_reducible repeat (first | apply Kd.Ra | apply Kd.Rn | apply Kd.Rd)); exact HO163.out) hb); have n2_ := As (Kd.Rb (by (with_reducible repeat (first | apply Kd.Ra | apply Kd.Rn | apply Kd.Rd)); exact HO167.out) hb); have n3_ := As (Kd.Rb (by (with_reducible repeat (first | apply Kd.Ra | apply Kd.Rn | apply Kd.Rd)); exact HO171.out) hb); have n4_ := As (Kd.Rb (by (with_reducible repeat (first | apply Kd.Ra | apply Kd.Rn | apply Kd.Rd)); exact HO174.out) hb); have n5_ := As (Kd.Rb (by (with_reducible repeat (first | apply Kd.Ra | apply Kd.Rn | apply Kd.Rd)); exact HO181.out) hb); have n6_ := As (Kd.Rb (by (with_reducible repeat (first | apply Kd.Ra | apply Kd.Rn | apply Kd.Rd)); exact HO184.out) hb); have n7_ := As (Kd.R_lower ho75 (below_size (by repeat (first | (with_reducible first | exact HB.out | apply bla | apply bln | apply bld) | exact HB.out)))); have n8_ := As (below_step (by repeat (first | (with_reducible first | exact HB.out | apply bla | apply bln | apply bld) | exact HB.out)) hb); clear HO159; clear HO163; clear HO167; clear HO171; clear HO174; clear HO181; clear HO184; clear HB; have HO159 := n0_; have HO163 := n1_; have HO167 := n2_; have HO171 := n3_; have HO174 := n4_; have HO181 := n5_; have HO184 := n6_; have HO188 := n7_; have HB := n8_; clear n0_ n1_ n2_ n3_ n4_ n5_ n6_ n7_ n8_; clear hb ho75; obtain ⟨Ao76, co76, eo76⟩ := Kd.R_slice HO167.out; subst eo76; obtain ⟨Ao77, co77, eo77⟩ := Kd.R_slice HO188.out; subst eo77) | (go_at_call 18; (with_reducible refine (waveletref03_SameInts.calls k _ _ t164 _ _ y186 false _ ?side1 ?side2 ?side3 ?side4 A33.out).mono ?_); (case side1 => repeat (first | exact (Kd.R_reads' HO167.out).2.2 | (with_reducible refine Kd.C_alloc ?_ _) | (with_reducible refine Kd.C_drewN ?_ _) | (with_reducible refine Kd.C_drew ?_))); (case side2 => exact (Kd.R_reads' HO167.out).2.1); (case side3 => repeat (first | exact (Kd.R_reads' HO188.out).2.2 | (with_reducible refine Kd.C_alloc ?_ _) | (with_reducible refine Kd.C_drewN ?_ _) | (with_reducible refine Kd.C_drew ?_))); (case side4 => exact (Kd.R_reads' HO188.out).2.1); rintro e w' ⟨rfl, ⟨nd, rfl⟩⟩))
     go_meet
     case rel => exact ⟨_, (true), (by first | rfl | (simp; done) | (simp [*]; done)), H', ⟨by first | omega | exact Nat.le_refl _⟩, ⟨by repeat (first | (with_reducible first | exact HB.out | apply bla | apply bln | apply bld) | exact HB.out)⟩⟩
   ·
    rw [if_neg c32] at H
    have c32b0 : (t161 == 0) = false := beq_eq_false_iff_ne.mpr c32
    have c32b1 : (t161 != 0) = true := bne_iff_ne.mpr c32
    (first | rw [c32b0] | (simp only [i64_w, i32_w]; rw [c32b0]) | skip)
    have H' := As H
    clear H
    go_wp2_with (first | ((with_reducible refine gate_dst (N := 48) rfl ?_); (try (refine gate_guard (by rfl) ?_; dsimp only)); refine Kd.R_lit (Kd.int .i64) _ 3 ?hg (N := 48) ?hd (xs := ([1, 0] : List Int)) (inner := [.int .i64 1, .int .i64 0]) (ok := fun _ => True) (okp := fun _ => True) ?hr ?hp (fun _ hk => hk) trivial (Below.refl _ _) (Nat.le_refl _) (by simp) ?_; (case hd => rfl); (case hg => rfl); (case hr => first | (go_simp; done) | (go_simp; rfl)); (case hp => exact (Reps.one (show Kd.M (Kd.int .i64) _ _ _ 1 [.int .i64 1] from rfl) (Reps.one (show Kd.M (Kd.int .i64) _ _ _ 0 [.int .i64 0] from rfl) (Reps.none _ _)))); intro v183 w78 ho79 hb hg_ hnew_; clear hg_ hnew_; (first | rw [← Ny182.out] at ho79 | (simp only [Int.reduceToNat] at ho79; rw [← Ny182.out] at ho79)); have n0_ := As (Kd.N_below (by (with_reducible repeat (first | apply Kd.N_alloc | apply Kd.N_drewN | apply Kd.N_drew)); exact HO159.out) hb); have n1_ := As (Kd.Rb (by (with_reducible repeat (first | apply Kd.Ra | apply Kd.Rn | apply Kd.Rd)); exact HO163.out) hb); have n2_ := As (Kd.Rb (by (with_reducible repeat (first | apply Kd.Ra | apply Kd.Rn | apply Kd.Rd)); exact HO167.out) hb); have n3_ := As (Kd.Rb (by (with_reducible repeat (first | apply Kd.Ra | apply Kd.Rn | apply Kd.Rd)); exact HO171.out) hb); have n4_ := As (Kd.Rb (by (with_reducible repeat (first | apply Kd.Ra | apply Kd.Rn | apply Kd.Rd)); exact HO174.out) hb); have n5_ := As (Kd.Rb (by (with_reducible repeat (first | apply Kd.Ra | apply Kd.Rn | apply Kd.Rd)); exact HO181.out) hb); have n6_ := As (Kd.R_lower ho79 (below_size (by repeat (first | (with_reducible first | exact HB.out | apply bla | apply bln | apply bld) | exact HB.out)))); have n7_ := As (below_step (by repeat (first | (with_reducible first | exact HB.out | apply bla | apply bln | apply bld) | exact HB.out)) hb); clear HO159; clear HO163; clear HO167; clear HO171; clear HO174; clear HO181; clear HB; have HO159 := n0_; have HO163 := n1_; have HO167 := n2_; have HO171 := n3_; have HO174 := n4_; have HO181 := n5_; have HO184 := n6_; have HB := n7_; clear n0_ n1_ n2_ n3_ n4_ n5_ n6_ n7_; clear hb ho79; obtain ⟨Ao80, co80, eo80⟩ := Kd.R_slice HO163.out; subst eo80; obtain ⟨Ao81, co81, eo81⟩ := Kd.R_slice HO184.out; subst eo81) | ((with_reducible refine gate_callee (f := 18) rfl ?_); refine goesL_ (some 49) rfl rfl Try.func18 (by kernel_rfl) rfl #[.slice Ao80 t160.length co80, .slice Ao81 y182.length co81] rfl (by (try simp only [List.map_toArray, List.map_cons, List.map_nil]); first | done | rfl | (simp only [List.length_drop, List.length_take]; rfl)) ?_; (with_reducible refine (waveletref03_SameInts.calls k _ _ t160 _ _ y182 true _ ?side1 ?side2 ?side3 ?side4 A30.out).mono ?_); (case side1 => repeat (first | exact (Kd.R_reads' HO163.out).2.2 | (with_reducible refine Kd.C_alloc ?_ _) | (with_reducible refine Kd.C_drewN ?_ _) | (with_reducible refine Kd.C_drew ?_))); (case side2 => exact (Kd.R_reads' HO163.out).2.1); (case side3 => repeat (first | exact (Kd.R_reads' HO184.out).2.2 | (with_reducible refine Kd.C_alloc ?_ _) | (with_reducible refine Kd.C_drewN ?_ _) | (with_reducible refine Kd.C_drew ?_))); (case side4 => exact (Kd.R_reads' HO184.out).2.1); rintro e w' ⟨rfl, ⟨nd, rfl⟩⟩; refine ⟨_, rfl, ?_⟩))
    go_meet
    case rel => exact ⟨_, (true), (by first | rfl | (simp; done) | (simp [*]; done)), H', ⟨by first | omega | exact Nat.le_refl _⟩, ⟨by repeat (first | (with_reducible first | exact HB.out | apply bla | apply bln | apply bld) | exact HB.out)⟩⟩
  ·
   replace c31 := Bool.eq_false_iff.mpr c31
   subst c31
   have H1 : (waveletlaw21_exampleHolds.j0 k t175 t176 t177 t179 true) = some r := by rw [if_neg (show ¬ (false = true) by decide)] at H; exact H
   clear H
   have H := H1
   clear H1
   have H' := As H
   clear H
   go_wp2_with (first | ((with_reducible refine gate_dst (N := 48) rfl ?_); (try (refine gate_guard (by rfl) ?_; dsimp only)); refine Kd.R_lit (Kd.int .i64) _ 3 ?hg (N := 48) ?hd (xs := ([1, 0] : List Int)) (inner := [.int .i64 1, .int .i64 0]) (ok := fun _ => True) (okp := fun _ => True) ?hr ?hp (fun _ hk => hk) trivial (Below.refl _ _) (Nat.le_refl _) (by simp) ?_; (case hd => rfl); (case hg => rfl); (case hr => first | (go_simp; done) | (go_simp; rfl)); (case hp => exact (Reps.one (show Kd.M (Kd.int .i64) _ _ _ 1 [.int .i64 1] from rfl) (Reps.one (show Kd.M (Kd.int .i64) _ _ _ 0 [.int .i64 0] from rfl) (Reps.none _ _)))); intro v183 w82 ho83 hb hg_ hnew_; clear hg_ hnew_; (first | rw [← Ny182.out] at ho83 | (simp only [Int.reduceToNat] at ho83; rw [← Ny182.out] at ho83)); have n0_ := As (Kd.N_below (by (with_reducible repeat (first | apply Kd.N_alloc | apply Kd.N_drewN | apply Kd.N_drew)); exact HO159.out) hb); have n1_ := As (Kd.Rb (by (with_reducible repeat (first | apply Kd.Ra | apply Kd.Rn | apply Kd.Rd)); exact HO163.out) hb); have n2_ := As (Kd.Rb (by (with_reducible repeat (first | apply Kd.Ra | apply Kd.Rn | apply Kd.Rd)); exact HO167.out) hb); have n3_ := As (Kd.Rb (by (with_reducible repeat (first | apply Kd.Ra | apply Kd.Rn | apply Kd.Rd)); exact HO171.out) hb); have n4_ := As (Kd.Rb (by (with_reducible repeat (first | apply Kd.Ra | apply Kd.Rn | apply Kd.Rd)); exact HO174.out) hb); have n5_ := As (Kd.Rb (by (with_reducible repeat (first | apply Kd.Ra | apply Kd.Rn | apply Kd.Rd)); exact HO181.out) hb); have n6_ := As (Kd.R_lower ho83 (below_size (by repeat (first | (with_reducible first | exact HB.out | apply bla | apply bln | apply bld) | exact HB.out)))); have n7_ := As (below_step (by repeat (first | (with_reducible first | exact HB.out | apply bla | apply bln | apply bld) | exact HB.out)) hb); clear HO159; clear HO163; clear HO167; clear HO171; clear HO174; clear HO181; clear HB; have HO159 := n0_; have HO163 := n1_; have HO167 := n2_; have HO171 := n3_; have HO174 := n4_; have HO181 := n5_; have HO184 := n6_; have HB := n7_; clear n0_ n1_ n2_ n3_ n4_ n5_ n6_ n7_; clear hb ho83; obtain ⟨Ao84, co84, eo84⟩ := Kd.R_slice HO163.out; subst eo84; obtain ⟨Ao85, co85, eo85⟩ := Kd.R_slice HO184.out; subst eo85) | ((with_reducible refine gate_callee (f := 18) rfl ?_); refine goesL_ (some 49) rfl rfl Try.func18 (by kernel_rfl) rfl #[.slice Ao84 t160.length co84, .slice Ao85 y182.length co85] rfl (by (try simp only [List.map_toArray, List.map_cons, List.map_nil]); first | done | rfl | (simp only [List.length_drop, List.length_take]; rfl)) ?_; (with_reducible refine (waveletref03_SameInts.calls k _ _ t160 _ _ y182 false _ ?side1 ?side2 ?side3 ?side4 A30.out).mono ?_); (case side1 => repeat (first | exact (Kd.R_reads' HO163.out).2.2 | (with_reducible refine Kd.C_alloc ?_ _) | (with_reducible refine Kd.C_drewN ?_ _) | (with_reducible refine Kd.C_drew ?_))); (case side2 => exact (Kd.R_reads' HO163.out).2.1); (case side3 => repeat (first | exact (Kd.R_reads' HO184.out).2.2 | (with_reducible refine Kd.C_alloc ?_ _) | (with_reducible refine Kd.C_drewN ?_ _) | (with_reducible refine Kd.C_drew ?_))); (case side4 => exact (Kd.R_reads' HO184.out).2.1); rintro e w' ⟨rfl, ⟨nd, rfl⟩⟩; refine ⟨_, rfl, ?_⟩))
   go_meet
   case rel => exact ⟨_, (true), (by first | rfl | (simp; done) | (simp [*]; done)), H', ⟨by first | omega | exact Nat.le_refl _⟩, ⟨by repeat (first | (with_reducible first | exact HB.out | apply bla | apply bln | apply bld) | exact HB.out)⟩⟩
 case rest =>
  clear HC6
  try clear c1
  try clear c2
  try clear p2
  try clear c3
  try clear c10
  try clear c14
  try clear c15
  try clear c18
  try clear c31
  try clear c32
  try clear c32b0
  try clear c32b1
  try clear c34
  try clear c35
  try clear c35b0
  try clear c35b1
  try clear c37
  obtain ⟨kq, x74_5, rfl, HA, HJ5, HB⟩ := hcut
  cases kq with
  | zero => exact absurd HA.out (by simp [waveletlaw21_exampleHolds.j0])
  | succ kj5 =>
   have H := HA.out
   clear HA
   simp only [waveletlaw21_exampleHolds.j0] at H
   by_cases c86 : x74_5 = true
   ·
    subst c86
    have H1 : (some false) = some r := by rw [if_pos rfl] at H; exact H
    clear H
    have H := H1
    clear H1
    obtain rfl := Option.some.inj H
    go_wp2
    go_ret
    exact ⟨by first | rfl | (simp [errW_none, errW_some] <;> rfl) | (simp [*, errW_none, errW_some] <;> rfl), by repeat (first | (with_reducible first | exact HB.out | apply bla | apply bln | apply bld) | exact HB.out)⟩
   ·
    replace c86 := Bool.eq_false_iff.mpr c86
    subst c86
    have H1 : (if t175 = 15 then (if t176 = 75 then (if t177 = 0 then (some (t179 == 2)) else (some false)) else (some false)) else (some false)) = some r := by rw [if_neg (show ¬ (false = true) by decide)] at H; exact H
    clear H
    have H := H1
    clear H1
    by_cases c87 : t175 = 15
    ·
     rw [if_pos c87] at H
     have c87b0 : (t175 == 15) = true := beq_iff_eq.mpr c87
     have c87b1 : (t175 != 15) = false := bne_eq_false_iff_eq.mpr c87
     clear c87
     by_cases c88 : t176 = 75
     ·
      rw [if_pos c88] at H
      have c88b0 : (t176 == 75) = true := beq_iff_eq.mpr c88
      have c88b1 : (t176 != 75) = false := bne_eq_false_iff_eq.mpr c88
      clear c88
      by_cases c89 : t177 = 0
      ·
       rw [if_pos c89] at H
       have c89b0 : (t177 == 0) = true := beq_iff_eq.mpr c89
       have c89b1 : (t177 != 0) = false := bne_eq_false_iff_eq.mpr c89
       clear c89
       obtain rfl := Option.some.inj H
       go_wp2
       go_ret
       exact ⟨by first | rfl | (simp [errW_none, errW_some] <;> rfl) | (simp [*, errW_none, errW_some] <;> rfl), by repeat (first | (with_reducible first | exact HB.out | apply bla | apply bln | apply bld) | exact HB.out)⟩
      ·
       rw [if_neg c89] at H
       have c89b0 : (t177 == 0) = false := beq_eq_false_iff_ne.mpr c89
       have c89b1 : (t177 != 0) = true := bne_iff_ne.mpr c89
       obtain rfl := Option.some.inj H
       go_wp2
       go_ret
       exact ⟨by first | rfl | (simp [errW_none, errW_some] <;> rfl) | (simp [*, errW_none, errW_some] <;> rfl), by repeat (first | (with_reducible first | exact HB.out | apply bla | apply bln | apply bld) | exact HB.out)⟩
     ·
      rw [if_neg c88] at H
      have c88b0 : (t176 == 75) = false := beq_eq_false_iff_ne.mpr c88
      have c88b1 : (t176 != 75) = true := bne_iff_ne.mpr c88
      obtain rfl := Option.some.inj H
      go_wp2
      go_ret
      exact ⟨by first | rfl | (simp [errW_none, errW_some] <;> rfl) | (simp [*, errW_none, errW_some] <;> rfl), by repeat (first | (with_reducible first | exact HB.out | apply bla | apply bln | apply bld) | exact HB.out)⟩
    ·
     rw [if_neg c87] at H
     have c87b0 : (t175 == 15) = false := beq_eq_false_iff_ne.mpr c87
     have c87b1 : (t175 != 15) = true := bne_iff_ne.mpr c87
     obtain rfl := Option.some.inj H
     go_wp2
     go_ret
     exact ⟨by first | rfl | (simp [errW_none, errW_some] <;> rfl) | (simp [*, errW_none, errW_some] <;> rfl), by repeat (first | (with_reducible first | exact HB.out | apply bla | apply bln | apply bld) | exact HB.out)⟩

end Go.Proofs.Ytgmadhlebpbcpaa.P
