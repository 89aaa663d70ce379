-- Written by a program of this session (wip/gen/pr.py, over the kit's print): Lean checks it.
import Derived.Test.YtfemdpjgglhpnaaPx0
import Derived.Test.YtfemdpjgglhpnaaPx1
import Derived.Test.YtfemdpjgglhpnaaAwk
namespace Go.Proofs.Ytfemdpjgglhpnaa.P
open Go.RowKit Go.Proofs.YtfemdpjgglhpnaaW.Opens Go.Proofs.YtfemdpjgglhpnaaW.PrintWords Go.Proofs.YtfemdpjgglhpnaaW.PrintLast Go.Proofs.YtfemdpjgglhpnaaW.PrintMore
attribute [local go_sem] max2_int min2_int max_two min_two max_three min_three max_four min_four   -- for this text's walks alone
set_option linter.unusedVariables false
set_option linter.unusedSimpArgs false

/-! ### waveletlaw45_BoxKinds: function 3 -/
def waveletlaw45_BoxKinds.f (a0 : ByteArray) : Option (Bool) := (box_Super.f a0).bind fun t203 => ((waveletref45_Super.f a0).bind fun t204 => (if (t203 == t204) = true then ((box_Known.f a0).bind fun t205 => ((waveletref45_Known.f a0).bind fun t206 => (if (t205 == t206) = true then ((waveletlaw45_awake.f).bind fun t207 => (some t207)) else (some false)))) else (some false)))
set_option maxHeartbeats 8000000 in
set_option maxRecDepth 100000 in
theorem waveletlaw45_BoxKinds.calls (a0 : ByteArray) (r : Bool) (w : World) (h : waveletlaw45_BoxKinds.f a0 = some r) :
  Calls Try.prog 3 #[.string a0] w fun e w' => e = .returned (.bool r) ∧ Below w.heap.size w w' := by
 have HB := As (Below.refl w.heap.size w)
 have H : ((box_Super.f a0).bind fun t203 => ((waveletref45_Super.f a0).bind fun t204 => (if (t203 == t204) = true then ((box_Known.f a0).bind fun t205 => ((waveletref45_Known.f a0).bind fun t206 => (if (t205 == t206) = true then ((waveletlaw45_awake.f).bind fun t207 => (some t207)) else (some false)))) else (some false)))) = some r := h
 clear h
 replace H := Option.bind_eq_some_iff.mp H
 obtain ⟨t203, A20, H⟩ := H
 replace H : ((waveletref45_Super.f a0).bind fun t204 => (if (t203 == t204) = true then ((box_Known.f a0).bind fun t205 => ((waveletref45_Known.f a0).bind fun t206 => (if (t205 == t206) = true then ((waveletlaw45_awake.f).bind fun t207 => (some t207)) else (some false)))) else (some false))) = some r := H
 have A2 := As A20
 clear A20
 replace H := Option.bind_eq_some_iff.mp H
 obtain ⟨t204, A30, H⟩ := H
 replace H : (if (t203 == t204) = true then ((box_Known.f a0).bind fun t205 => ((waveletref45_Known.f a0).bind fun t206 => (if (t205 == t206) = true then ((waveletlaw45_awake.f).bind fun t207 => (some t207)) else (some false)))) else (some false)) = some r := H
 have A3 := As A30
 clear A30
 by_cases c4 : (t203 == t204) = true
 ·
  rw [if_pos c4] at H
  have c4b0 : (t203 == t204) = true := c4
  (try (have c4b1 : decide (t203 = t204) = true := by simpa using c4))
  (try (have c4b2 : (t203 == t204) = true := by simpa using c4))
  clear c4
  replace H := Option.bind_eq_some_iff.mp H
  obtain ⟨t205, A50, H⟩ := H
  replace H : ((waveletref45_Known.f a0).bind fun t206 => (if (t205 == t206) = true then ((waveletlaw45_awake.f).bind fun t207 => (some t207)) else (some false))) = some r := H
  have A5 := As A50
  clear A50
  replace H := Option.bind_eq_some_iff.mp H
  obtain ⟨t206, A60, H⟩ := H
  replace H : (if (t205 == t206) = true then ((waveletlaw45_awake.f).bind fun t207 => (some t207)) else (some false)) = some r := H
  have A6 := As A60
  clear A60
  by_cases c7 : (t205 == t206) = true
  ·
   rw [if_pos c7] at H
   have c7b0 : (t205 == t206) = true := c7
   (try (have c7b1 : decide (t205 = t206) = true := by simpa using c7))
   (try (have c7b2 : (t205 == t206) = true := by simpa using c7))
   clear c7
   replace H := Option.bind_eq_some_iff.mp H
   obtain ⟨t207, A80, H⟩ := H
   replace H : (some t207) = some r := H
   have A8 := As A80
   clear A80
   obtain rfl := Option.some.inj H
   go_enter Try.func3, Try.ntmps3
   go_wp2_with (first | ((with_reducible refine gate_callee (f := 9) rfl ?_); refine goesL_ (some 4) rfl rfl Try.func9 (by kernel_rfl) rfl #[.string a0] rfl (by (try simp only [List.map_toArray, List.map_cons, List.map_nil]); first | done | rfl | (simp only [List.length_drop, List.length_take]; rfl)) ?_; (with_reducible refine (box_Super.calls a0 t203 _ A2.out).mono ?_); rintro e w' ⟨rfl, ⟨nd, rfl⟩⟩; refine ⟨_, rfl, ?_⟩) | ((with_reducible refine gate_callee (f := 10) rfl ?_); refine goesL_ (some 6) rfl rfl Try.func10 (by kernel_rfl) rfl #[.string a0] rfl (by (try simp only [List.map_toArray, List.map_cons, List.map_nil]); first | done | rfl | (simp only [List.length_drop, List.length_take]; rfl)) ?_; (with_reducible refine (waveletref45_Super.calls a0 t204 _ A3.out).mono ?_); rintro e w' ⟨rfl, ⟨nd, rfl⟩⟩; refine ⟨_, rfl, ?_⟩) | (go_at_call 11; (with_reducible refine (box_Known.calls a0 t205 _ A5.out).mono ?_); rintro e w' ⟨rfl, ⟨nd, rfl⟩⟩) | (go_at_call 12; (with_reducible refine (waveletref45_Known.calls a0 t206 _ A6.out).mono ?_); rintro e w' ⟨rfl, ⟨nd, rfl⟩⟩) | (go_at_call 13; (with_reducible refine (waveletlaw45_awake.calls  t207 _ A8.out).mono ?_); rintro e w9 ⟨rfl, hb⟩; have n0_ := As (below_step (by repeat (first | (with_reducible first | exact HB.out | apply bla | apply bln | apply bld) | exact HB.out)) hb); clear HB; have HB := n0_; clear n0_; (try clear hb); (try clear hb2); (try clear hk); (try clear hi)))
   go_ret
   exact ⟨by first | rfl | (simp [errW_none, errW_some] <;> rfl) | (simp [*, errW_none, errW_some] <;> rfl), by repeat (first | (with_reducible first | exact HB.out | apply bla | apply bln | apply bld) | exact HB.out)⟩
  ·
   rw [if_neg c7] at H
   have c7b0 : (t205 == t206) = false := by simpa using c7
   (try (have c7b1 : decide (t205 = t206) = false := by simpa using c7))
   (try (have c7b2 : (t205 == t206) = false := by simpa using c7))
   (try (have c7b3 : ¬ (t205 = t206) := by simpa using c7))
   clear c7
   obtain rfl := Option.some.inj H
   go_enter Try.func3, Try.ntmps3
   go_wp2_with (first | ((with_reducible refine gate_callee (f := 9) rfl ?_); refine goesL_ (some 4) rfl rfl Try.func9 (by kernel_rfl) rfl #[.string a0] rfl (by (try simp only [List.map_toArray, List.map_cons, List.map_nil]); first | done | rfl | (simp only [List.length_drop, List.length_take]; rfl)) ?_; (with_reducible refine (box_Super.calls a0 t203 _ A2.out).mono ?_); rintro e w' ⟨rfl, ⟨nd, rfl⟩⟩; refine ⟨_, rfl, ?_⟩) | ((with_reducible refine gate_callee (f := 10) rfl ?_); refine goesL_ (some 6) rfl rfl Try.func10 (by kernel_rfl) rfl #[.string a0] rfl (by (try simp only [List.map_toArray, List.map_cons, List.map_nil]); first | done | rfl | (simp only [List.length_drop, List.length_take]; rfl)) ?_; (with_reducible refine (waveletref45_Super.calls a0 t204 _ A3.out).mono ?_); rintro e w' ⟨rfl, ⟨nd, rfl⟩⟩; refine ⟨_, rfl, ?_⟩) | (go_at_call 11; (with_reducible refine (box_Known.calls a0 t205 _ A5.out).mono ?_); rintro e w' ⟨rfl, ⟨nd, rfl⟩⟩) | (go_at_call 12; (with_reducible refine (waveletref45_Known.calls a0 t206 _ A6.out).mono ?_); rintro e w' ⟨rfl, ⟨nd, rfl⟩⟩))
   go_ret
   exact ⟨by first | rfl | (simp [errW_none, errW_some] <;> rfl) | (simp [*, errW_none, errW_some] <;> rfl), by repeat (first | (with_reducible first | exact HB.out | apply bla | apply bln | apply bld) | exact HB.out)⟩
 ·
  rw [if_neg c4] at H
  have c4b0 : (t203 == t204) = false := by simpa using c4
  (try (have c4b1 : decide (t203 = t204) = false := by simpa using c4))
  (try (have c4b2 : (t203 == t204) = false := by simpa using c4))
  (try (have c4b3 : ¬ (t203 = t204) := by simpa using c4))
  clear c4
  obtain rfl := Option.some.inj H
  go_enter Try.func3, Try.ntmps3
  go_wp2_with (first | ((with_reducible refine gate_callee (f := 9) rfl ?_); refine goesL_ (some 4) rfl rfl Try.func9 (by kernel_rfl) rfl #[.string a0] rfl (by (try simp only [List.map_toArray, List.map_cons, List.map_nil]); first | done | rfl | (simp only [List.length_drop, List.length_take]; rfl)) ?_; (with_reducible refine (box_Super.calls a0 t203 _ A2.out).mono ?_); rintro e w' ⟨rfl, ⟨nd, rfl⟩⟩; refine ⟨_, rfl, ?_⟩) | ((with_reducible refine gate_callee (f := 10) rfl ?_); refine goesL_ (some 6) rfl rfl Try.func10 (by kernel_rfl) rfl #[.string a0] rfl (by (try simp only [List.map_toArray, List.map_cons, List.map_nil]); first | done | rfl | (simp only [List.length_drop, List.length_take]; rfl)) ?_; (with_reducible refine (waveletref45_Super.calls a0 t204 _ A3.out).mono ?_); rintro e w' ⟨rfl, ⟨nd, rfl⟩⟩; refine ⟨_, rfl, ?_⟩))
  go_ret
  exact ⟨by first | rfl | (simp [errW_none, errW_some] <;> rfl) | (simp [*, errW_none, errW_some] <;> rfl), by repeat (first | (with_reducible first | exact HB.out | apply bla | apply bln | apply bld) | exact HB.out)⟩

/-- THE ONE PURE STATEMENT of waveletlaw45_BoxKinds: yours. -/
def waveletlaw45_BoxKinds.Pure : Prop := ∀ (a0 : ByteArray), a0.size ≤ 140737488351232 → waveletlaw45_BoxKinds.f a0 = some true
theorem waveletlaw45_BoxKinds.walk (P : waveletlaw45_BoxKinds.Pure) (a0 : ByteArray) (w : World) (w0 : a0.size ≤ 140737488351232) :
  Calls Try.prog 3 #[.string a0] w fun e w' => e = .returned (.bool true) ∧ Below w.heap.size w w' := by
 have h := P a0 w0
 refine (waveletlaw45_BoxKinds.calls a0 true w h).mono ?_
 rintro e w' ⟨rfl, hd⟩
 exact ⟨rfl, hd⟩

/-! ### waveletref45_few: function 26 -/
mutual
def waveletref45_few.j0 : Nat → List (S37) → Int → Bool → Option (Int)
 | 0, _, _, _ => none
 | k + 1, x0, x1, x19 => if x19 = true then (some (-1)) else (waveletref45_few.l0 k x0 x1 0 0)
def waveletref45_few.l0 : Nat → List (S37) → Int → Int → Int → Option (Int)
 | 0, _, _, _, _ => none
 | k + 1, x0, x1, x5, x6 => if x6 < (x0.length : Int) then (if 0 ≤ x6 then (if (((rd_T37 x0 x6).f0).size : Int) > 20 then (waveletref45_few.j2 k x0 x1 x5 x6 true) else (waveletref45_few.j2 k x0 x1 x5 x6 (decide ((((rd_T37 x0 x6).f1).length : Int) > 20000)))) else (none)) else (some x5)
def waveletref45_few.j2 : Nat → List (S37) → Int → Int → Int → Bool → Option (Int)
 | 0, _, _, _, _, _ => none
 | k + 1, x0, x1, x5, x6, x41 => if x41 = true then (some (-1)) else (if 0 ≤ x6 then (if x6 < (x0.length : Int) then ((waveletref45_few.f k ((rd_T37 x0 x6).f2) (wrap64 (x1 - 1))).bind fun t211 => (if t211 < 0 then (some (-1)) else (if (wrap64 ((wrap64 ((wrap64 (x5 + 1)) + (((rd_T37 x0 x6).f1).length : Int))) + t211)) > 20000 then (some (-1)) else (waveletref45_few.l0 k x0 x1 (wrap64 ((wrap64 ((wrap64 (x5 + 1)) + (((rd_T37 x0 x6).f1).length : Int))) + t211)) (wrap64 (x6 + 1)))))) else (none)) else (none))
def waveletref45_few.f : Nat → List (S37) → Int → Option (Int)
 | 0, _, _ => none
 | k + 1, l0, a1 => if (l0.length : Int) > 300 then (waveletref45_few.j0 k l0 a1 true) else (if a1 = 0 then (waveletref45_few.j0 k l0 a1 (decide ((l0.length : Int) > 0))) else (waveletref45_few.j0 k l0 a1 false))
end
theorem waveletref45_few.mono_l : ∀ k, (∀ y0 y1, LeO (waveletref45_few.f k y0 y1) (waveletref45_few.f (k + 1) y0 y1)) ∧ (∀ y0 y1 y2, LeO (waveletref45_few.j0 k y0 y1 y2) (waveletref45_few.j0 (k + 1) y0 y1 y2)) ∧ (∀ y0 y1 y2 y3, LeO (waveletref45_few.l0 k y0 y1 y2 y3) (waveletref45_few.l0 (k + 1) y0 y1 y2 y3)) ∧ (∀ y0 y1 y2 y3 y4, LeO (waveletref45_few.j2 k y0 y1 y2 y3 y4) (waveletref45_few.j2 (k + 1) y0 y1 y2 y3 y4))
 | 0 => ⟨fun _ _ r h => by simp [waveletref45_few.f] at h, fun _ _ _ r h => by simp [waveletref45_few.j0] at h, fun _ _ _ _ r h => by simp [waveletref45_few.l0] at h, fun _ _ _ _ _ r h => by simp [waveletref45_few.j2] at h⟩
 | k + 1 => by
  obtain ⟨ih0, ih1, ih2, ih3⟩ := waveletref45_few.mono_l k
  refine ⟨?_, ?_, ?_, ?_⟩
  ·
   intro y0 y1
   unfold waveletref45_few.f
   repeat' first
   | (with_reducible exact ih0 _ _)
   | (with_reducible exact ih1 _ _ _)
   | (with_reducible exact ih2 _ _ _ _)
   | (with_reducible exact ih3 _ _ _ _ _)
   | (with_reducible exact LeO.refl _)
   | (with_reducible exact LeO.none _)
   | (with_reducible refine LeO.ite ?_ ?_)
   | (with_reducible refine LeO.bind ?_ (fun _ => ?_))
   | exact ih0 _ _
   | exact ih1 _ _ _
   | exact ih2 _ _ _ _
   | exact ih3 _ _ _ _ _
   | exact LeO.none _
   | refine LeO.ite ?_ ?_
   | refine LeO.bind ?_ (fun _ => ?_)
  ·
   intro y0 y1 y2
   unfold waveletref45_few.j0
   repeat' first
   | (with_reducible exact ih0 _ _)
   | (with_reducible exact ih1 _ _ _)
   | (with_reducible exact ih2 _ _ _ _)
   | (with_reducible exact ih3 _ _ _ _ _)
   | (with_reducible exact LeO.refl _)
   | (with_reducible exact LeO.none _)
   | (with_reducible refine LeO.ite ?_ ?_)
   | (with_reducible refine LeO.bind ?_ (fun _ => ?_))
   | exact ih0 _ _
   | exact ih1 _ _ _
   | exact ih2 _ _ _ _
   | exact ih3 _ _ _ _ _
   | exact LeO.none _
   | refine LeO.ite ?_ ?_
   | refine LeO.bind ?_ (fun _ => ?_)
  ·
   intro y0 y1 y2 y3
   unfold waveletref45_few.l0
   repeat' first
   | (with_reducible exact ih0 _ _)
   | (with_reducible exact ih1 _ _ _)
   | (with_reducible exact ih2 _ _ _ _)
   | (with_reducible exact ih3 _ _ _ _ _)
   | (with_reducible exact LeO.refl _)
   | (with_reducible exact LeO.none _)
   | (with_reducible refine LeO.ite ?_ ?_)
   | (with_reducible refine LeO.bind ?_ (fun _ => ?_))
   | exact ih0 _ _
   | exact ih1 _ _ _
   | exact ih2 _ _ _ _
   | exact ih3 _ _ _ _ _
   | exact LeO.none _
   | refine LeO.ite ?_ ?_
   | refine LeO.bind ?_ (fun _ => ?_)
  ·
   intro y0 y1 y2 y3 y4
   unfold waveletref45_few.j2
   repeat' first
   | (with_reducible exact ih0 _ _)
   | (with_reducible exact ih1 _ _ _)
   | (with_reducible exact ih2 _ _ _ _)
   | (with_reducible exact ih3 _ _ _ _ _)
   | (with_reducible exact LeO.refl _)
   | (with_reducible exact LeO.none _)
   | (with_reducible refine LeO.ite ?_ ?_)
   | (with_reducible refine LeO.bind ?_ (fun _ => ?_))
   | exact ih0 _ _
   | exact ih1 _ _ _
   | exact ih2 _ _ _ _
   | exact ih3 _ _ _ _ _
   | exact LeO.none _
   | refine LeO.ite ?_ ?_
   | refine LeO.bind ?_ (fun _ => ?_)
theorem waveletref45_few.mono : ∀ a0 a1 k, LeO (waveletref45_few.f k a0 a1) (waveletref45_few.f (k + 1) a0 a1) := by
 intro a0 a1 k
 obtain ⟨ih0, ih1, ih2, ih3⟩ := waveletref45_few.mono_l k
 exact ih0 a0 a1
set_option maxHeartbeats 8000000 in
set_option maxRecDepth 100000 in
theorem waveletref45_few.calls (k : Nat) : ∀ (A0 : Option Addr) (c0 : Nat) (l0 : List (S37)) (a1 : Int) (r : Int) (w : World) (hr0 : Kd.C k37 w A0 l0.length l0) (hc0 : l0.length ≤ c0) (h : waveletref45_few.f k l0 a1 = some r),
  Calls Try.prog 26 #[.slice A0 l0.length c0, .int .i64 a1] w fun e w' => e = .returned (.int .i64 r) ∧ Drawn0 w w' := by
 induction k using Nat.strongRecOn with
 | _ k ih =>
 intro A0 c0 l0 a1 r w hr0 hc0 h
 cases k with
 | zero => exact absurd h (by simp [waveletref45_few.f])
 | succ k =>
 simp only [waveletref45_few.f] at h
 have HR0 := As hr0
 have HC0 := As hc0
 clear hr0 hc0
 have H : (if (l0.length : Int) > 300 then (waveletref45_few.j0 k l0 a1 true) else (if a1 = 0 then (waveletref45_few.j0 k l0 a1 (decide ((l0.length : Int) > 0))) else (waveletref45_few.j0 k l0 a1 false))) = some r := h
 clear h
 have HC3 := As H
 clear H
 go_enter Try.func26, Try.ntmps26
 go_upto_region 1 with (fail)
 go_cut [19] (fun v19 wc => ∃ (kq : Nat) (x19_2 : Bool), v19 = .bool x19_2 ∧ Aside0 (waveletref45_few.j0 kq l0 a1 x19_2 = some r) ∧ Aside0 (kq ≤ k) ∧ Drawn0 w wc)
 case first =>
  have H := HC3.out
  clear HC3
  by_cases c4 : (l0.length : Int) > 300
  ·
   rw [if_pos c4] at H
   have c4b0 : decide (300 < (l0.length : Int)) = true := decide_eq_true c4
   have c4b1 : decide (300 < l0.length) = true := decide_eq_true (by omega)
   clear c4
   (first | rw [c4b0] | (simp only [i64_w, i32_w]; rw [c4b0]) | skip)
   have H' := As H
   clear H
   go_wp2
   go_meet
   case rel => exact ⟨_, (true), (by first | rfl | (simp; done) | (simp [*]; done)), H', ⟨by first | omega | exact Nat.le_refl _⟩, by repeat (first | exact Drawn0.refl _ | apply Drawn0.step)⟩
  ·
   rw [if_neg c4] at H
   have c4b0 : decide (300 < (l0.length : Int)) = false := decide_eq_false c4
   have c4b1 : decide (300 < l0.length) = false := decide_eq_false (by omega)
   clear c4
   (first | rw [c4b0] | (simp only [i64_w, i32_w]; rw [c4b0]) | skip)
   by_cases c5 : a1 = 0
   ·
    rw [if_pos c5] at H
    have c5b0 : (a1 == 0) = true := beq_iff_eq.mpr c5
    have c5b1 : (a1 != 0) = false := bne_eq_false_iff_eq.mpr c5
    clear c5
    have H' := As H
    clear H
    go_wp2
    go_meet
    case rel => exact ⟨_, (decide ((l0.length : Int) > 0)), (by first | rfl | (simp; done) | (simp [*]; done)), H', ⟨by first | omega | exact Nat.le_refl _⟩, by repeat (first | exact Drawn0.refl _ | apply Drawn0.step)⟩
   ·
    rw [if_neg c5] at H
    have c5b0 : (a1 == 0) = false := beq_eq_false_iff_ne.mpr c5
    have c5b1 : (a1 != 0) = true := bne_iff_ne.mpr c5
    have H' := As H
    clear H
    go_wp2
    go_meet
    case rel => exact ⟨_, (false), (by first | rfl | (simp; done) | (simp [*]; done)), H', ⟨by first | omega | exact Nat.le_refl _⟩, by repeat (first | exact Drawn0.refl _ | apply Drawn0.step)⟩
 case rest =>
  clear HC3
  try clear c2
  try clear p2
  try clear c4
  try clear c4b0
  try clear c4b1
  try clear c5
  try clear c5b0
  try clear c5b1
  obtain ⟨kq, x19_2, rfl, HA, HJ2, ⟨mc2, rfl⟩⟩ := hcut
  cases kq with
  | zero => exact absurd HA.out (by simp [waveletref45_few.j0])
  | succ kj2 =>
   have H := HA.out
   clear HA
   simp only [waveletref45_few.j0] at H
   by_cases c6 : x19_2 = true
   ·
    subst c6
    have H1 : (some (-1)) = some r := by rw [if_pos rfl] at H; exact H
    clear H
    have H := H1
    clear H1
    obtain rfl := Option.some.inj H
    go_wp2
    go_ret
    exact ⟨by first | rfl | (simp; done) | (simp [*]; done), by repeat (first | exact Drawn0.refl _ | apply Drawn0.step)⟩
   ·
    replace c6 := Bool.eq_false_iff.mpr c6
    subst c6
    have H1 : (waveletref45_few.l0 kj2 l0 a1 0 0) = some r := by rw [if_neg (show ¬ (false = true) by decide)] at H; exact H
    clear H
    have H := H1
    clear H1
    have H' := As H
    clear H
    go_wp2
    go_loopg [5, 6] kj2 (fun kq v5 v6 w' => ∃ (x5_2 : Int) (x6_2 : Int), v5 = .int .i64 x5_2 ∧ v6 = .int .i64 x6_2 ∧ Aside0 (waveletref45_few.l0 kq l0 a1 x5_2 x6_2 = some r) ∧ Aside0 (kq ≤ kj2) ∧ Drawn0 w w')
    case atStart => exact ⟨(0), (0), (by first | rfl | (simp; done) | (simp [*]; done)), (by first | rfl | (simp; done) | (simp [*]; done)), H', ⟨Nat.le_refl _⟩, by repeat (first | exact Drawn0.refl _ | apply Drawn0.step)⟩
    case round =>
     clear H'
     try clear c2
     try clear p2
     try clear c4
     try clear c4b0
     try clear c4b1
     try clear c5
     try clear c5b0
     try clear c5b1
     try clear c6
     try clear p2
     obtain ⟨x5_2, x6_2, rfl, rfl, HA, HK2, ⟨m2, rfl⟩⟩ := hrel
     cases gk with
     | zero => exact absurd HA.out (by simp [waveletref45_few.l0])
     | succ k2 =>
      have H := HA.out
      clear HA
      simp only [waveletref45_few.l0] at H
      by_cases c7 : x6_2 < (l0.length : Int)
      ·
       rw [if_pos c7] at H
       have c7b0 : decide (x6_2 < (l0.length : Int)) = true := decide_eq_true c7
       clear c7
       have HC8 := As H
       clear H
       go_upto_region 7 with (fail)
       go_cut [41] (fun v41 wc => ∃ (kq : Nat) (x41_7 : Bool), v41 = .bool x41_7 ∧ Aside0 (waveletref45_few.j2 kq l0 a1 x5_2 x6_2 x41_7 = some r) ∧ Aside0 (kq ≤ k2) ∧ Drawn0 w wc)
       case first =>
        have H := HC8.out
        clear HC8
        by_cases c9 : 0 ≤ x6_2
        ·
         rw [if_pos c9] at H
         have c9b0 : decide (0 ≤ x6_2) = true := decide_eq_true c9
         clear c9
         (first | rw [c9b0] | (simp only [i64_w, i32_w]; rw [c9b0]) | skip)
         by_cases c10 : (((rd_T37 l0 x6_2).f0).size : Int) > 20
         ·
          rw [if_pos c10] at H
          have c10b0 : decide (20 < (((rd_T37 l0 x6_2).f0).size : Int)) = true := decide_eq_true c10
          have c10b1 : decide (20 < ((rd_T37 l0 x6_2).f0).size) = true := decide_eq_true (by omega)
          clear c10
          have H' := As H
          clear H
          have p208 : 0 ≤ (x6_2 : Int) := of_decide_eq_true (by first | (with_reducible assumption) | assumption)
          have q208 : x6_2 < (l0.length : Int) := of_decide_eq_true (by first | (with_reducible assumption) | assumption)
          obtain ⟨ad208, A208_1, c208_1, A208_2, c208_2, e208, hx208_0, hx208_1, hx208_2, hl208_1, hi208_1, hl208_2, hi208_2⟩ := at_T37 HR0.out x6_2 p208 q208
          cases e208
          have HR208_1 := As hi208_1
          have HC208_1 := As hl208_1
          clear hi208_1 hl208_1
          have HR208_2 := As hi208_2
          have HC208_2 := As hl208_2
          clear hi208_2 hl208_2
          replace p208 := eq_true p208
          replace q208 := eq_true q208
          go_wp2
          go_meet
          case rel => exact ⟨_, (true), (by first | rfl | (simp; done) | (simp [*]; done)), H', ⟨by have := HJ2.out; have := HK2.out; first | omega | exact Nat.le_refl _⟩, by repeat (first | exact Drawn0.refl _ | apply Drawn0.step)⟩
         ·
          rw [if_neg c10] at H
          have c10b0 : decide (20 < (((rd_T37 l0 x6_2).f0).size : Int)) = false := decide_eq_false c10
          have c10b1 : decide (20 < ((rd_T37 l0 x6_2).f0).size) = false := decide_eq_false (by omega)
          clear c10
          have H' := As H
          clear H
          have p208 : 0 ≤ (x6_2 : Int) := of_decide_eq_true (by first | (with_reducible assumption) | assumption)
          have q208 : x6_2 < (l0.length : Int) := of_decide_eq_true (by first | (with_reducible assumption) | assumption)
          obtain ⟨ad208, A208_1, c208_1, A208_2, c208_2, e208, hx208_0, hx208_1, hx208_2, hl208_1, hi208_1, hl208_2, hi208_2⟩ := at_T37 HR0.out x6_2 p208 q208
          cases e208
          have HR208_1 := As hi208_1
          have HC208_1 := As hl208_1
          clear hi208_1 hl208_1
          have HR208_2 := As hi208_2
          have HC208_2 := As hl208_2
          clear hi208_2 hl208_2
          replace p208 := eq_true p208
          replace q208 := eq_true q208
          have p209 : 0 ≤ (x6_2 : Int) := of_decide_eq_true (by first | (with_reducible assumption) | assumption)
          have q209 : x6_2 < (l0.length : Int) := of_decide_eq_true (by first | (with_reducible assumption) | assumption)
          obtain ⟨ad209, A209_1, c209_1, A209_2, c209_2, e209, hx209_0, hx209_1, hx209_2, hl209_1, hi209_1, hl209_2, hi209_2⟩ := at_T37 HR0.out x6_2 p209 q209
          obtain rfl : ad208 = ad209 := (by injection e209)
          have HR209_1 := As hi209_1
          have HC209_1 := As hl209_1
          clear hi209_1 hl209_1
          have HR209_2 := As hi209_2
          have HC209_2 := As hl209_2
          clear hi209_2 hl209_2
          replace p209 := eq_true p209
          replace q209 := eq_true q209
          have ea_ := Option.some.inj (hx208_1.symm.trans hx209_1)
          injection ea_ with ea_ en_ ec_
          subst ea_
          subst ec_
          clear en_
          have ea_ := Option.some.inj (hx208_2.symm.trans hx209_2)
          injection ea_ with ea_ en_ ec_
          subst ea_
          subst ec_
          clear en_
          go_wp2
          go_meet
          case rel => exact ⟨_, (decide ((((rd_T37 l0 x6_2).f1).length : Int) > 20000)), (by first | rfl | (simp; done) | (simp [*]; done)), H', ⟨by have := HJ2.out; have := HK2.out; first | omega | exact Nat.le_refl _⟩, by repeat (first | exact Drawn0.refl _ | apply Drawn0.step)⟩
        ·
         rw [if_neg c9] at H
         exact absurd H (by simp)
       case rest =>
        clear HC8
        try clear c1
        try clear c2
        try clear p2
        try clear q2
        try clear hx2
        try clear c4
        try clear c4b0
        try clear c4b1
        try clear c5
        try clear c5b0
        try clear c5b1
        try clear c6
        try clear c7
        try clear c7b0
        try clear c9
        try clear c9b0
        try clear c10
        try clear c10b0
        try clear c10b1
        try clear hx208_0
        try clear hx208_1
        try clear hx208_2
        try clear hx209_0
        try clear hx209_1
        try clear hx209_2
        try clear p2
        try clear p208
        try clear p209
        try clear q208
        try clear q209
        obtain ⟨kq, x41_7, rfl, HA, HJ7, ⟨mc7, rfl⟩⟩ := hcut
        cases kq with
        | zero => exact absurd HA.out (by simp [waveletref45_few.j2])
        | succ kj7 =>
         have H := HA.out
         clear HA
         simp only [waveletref45_few.j2] at H
         by_cases c11 : x41_7 = true
         ·
          subst c11
          have H1 : (some (-1)) = some r := by rw [if_pos rfl] at H; exact H
          clear H
          have H := H1
          clear H1
          obtain rfl := Option.some.inj H
          go_wp2
          go_ret
          exact ⟨by first | rfl | (simp; done) | (simp [*]; done), by repeat (first | exact Drawn0.refl _ | apply Drawn0.step)⟩
         ·
          replace c11 := Bool.eq_false_iff.mpr c11
          subst c11
          have H1 : (if 0 ≤ x6_2 then (if x6_2 < (l0.length : Int) then ((waveletref45_few.f kj7 ((rd_T37 l0 x6_2).f2) (wrap64 (a1 - 1))).bind fun t211 => (if t211 < 0 then (some (-1)) else (if (wrap64 ((wrap64 ((wrap64 (x5_2 + 1)) + (((rd_T37 l0 x6_2).f1).length : Int))) + t211)) > 20000 then (some (-1)) else (waveletref45_few.l0 kj7 l0 a1 (wrap64 ((wrap64 ((wrap64 (x5_2 + 1)) + (((rd_T37 l0 x6_2).f1).length : Int))) + t211)) (wrap64 (x6_2 + 1)))))) else (none)) else (none)) = some r := by rw [if_neg (show ¬ (false = true) by decide)] at H; exact H
          clear H
          have H := H1
          clear H1
          by_cases c12 : 0 ≤ x6_2
          ·
           rw [if_pos c12] at H
           have c12b0 : decide (0 ≤ x6_2) = true := decide_eq_true c12
           clear c12
           by_cases c13 : x6_2 < (l0.length : Int)
           ·
            rw [if_pos c13] at H
            have c13b0 : decide (x6_2 < (l0.length : Int)) = true := decide_eq_true c13
            clear c13
            replace H := Option.bind_eq_some_iff.mp H
            obtain ⟨t211, A140, H⟩ := H
            replace H : (if t211 < 0 then (some (-1)) else (if (wrap64 ((wrap64 ((wrap64 (x5_2 + 1)) + (((rd_T37 l0 x6_2).f1).length : Int))) + t211)) > 20000 then (some (-1)) else (waveletref45_few.l0 kj7 l0 a1 (wrap64 ((wrap64 ((wrap64 (x5_2 + 1)) + (((rd_T37 l0 x6_2).f1).length : Int))) + t211)) (wrap64 (x6_2 + 1))))) = some r := H
            have A14 := As A140
            clear A140
            by_cases c15 : t211 < 0
            ·
             rw [if_pos c15] at H
             have c15b0 : decide (t211 < 0) = true := decide_eq_true c15
             clear c15
             obtain rfl := Option.some.inj H
             have p210 : 0 ≤ (x6_2 : Int) := of_decide_eq_true (by first | (with_reducible assumption) | assumption)
             have q210 : x6_2 < (l0.length : Int) := of_decide_eq_true (by first | (with_reducible assumption) | assumption)
             obtain ⟨ad210, A210_1, c210_1, A210_2, c210_2, e210, hx210_0, hx210_1, hx210_2, hl210_1, hi210_1, hl210_2, hi210_2⟩ := at_T37 HR0.out x6_2 p210 q210
             cases e210
             have HR210_1 := As hi210_1
             have HC210_1 := As hl210_1
             clear hi210_1 hl210_1
             have HR210_2 := As hi210_2
             have HC210_2 := As hl210_2
             clear hi210_2 hl210_2
             replace p210 := eq_true p210
             replace q210 := eq_true q210
             go_wp2_with (first | ((with_reducible refine gate_callee (f := 26) rfl ?_); refine goesL_ (some 49) rfl rfl Try.func26 (by kernel_rfl) rfl #[.slice A210_2 ((rd_T37 l0 x6_2).f2).length c210_2, .int .i64 (wrap64 (a1 - 1))] rfl (by (try simp only [List.map_toArray, List.map_cons, List.map_nil]); first | done | rfl | (simp only [List.length_drop, List.length_take]; rfl)) ?_; (with_reducible refine (ih kj7 (by have := HJ2.out; have := HK2.out; have := HJ7.out; omega) _ _ ((rd_T37 l0 x6_2).f2) (wrap64 (a1 - 1)) t211 _ ?side1 ?side2 A14.out).mono ?_); (case side1 => repeat (first | exact HR210_2.out | (with_reducible refine Kd.C_alloc ?_ _) | (with_reducible refine Kd.C_drewN ?_ _) | (with_reducible refine Kd.C_drew ?_))); (case side2 => exact HC210_2.out); rintro e w' ⟨rfl, ⟨nd, rfl⟩⟩; refine ⟨_, rfl, ?_⟩; have p212 : 0 ≤ (x6_2 : Int) := of_decide_eq_true (by first | (with_reducible assumption) | assumption); have q212 : x6_2 < (l0.length : Int) := of_decide_eq_true (by first | (with_reducible assumption) | assumption); obtain ⟨ad212, A212_1, c212_1, A212_2, c212_2, e212, hx212_0, hx212_1, hx212_2, hl212_1, hi212_1, hl212_2, hi212_2⟩ := at_T37 HR0.out x6_2 p212 q212; obtain rfl : ad210 = ad212 := (by injection e212); have HR212_1 := As hi212_1; have HC212_1 := As hl212_1; clear hi212_1 hl212_1; have HR212_2 := As hi212_2; have HC212_2 := As hl212_2; clear hi212_2 hl212_2; replace p212 := eq_true p212; replace q212 := eq_true q212; have ea_ := Option.some.inj (hx210_1.symm.trans hx212_1); injection ea_ with ea_ en_ ec_; subst ea_; subst ec_; clear en_; have ea_ := Option.some.inj (hx210_2.symm.trans hx212_2); injection ea_ with ea_ en_ ec_; subst ea_; subst ec_; clear en_))
             go_ret
             exact ⟨by first | rfl | (simp; done) | (simp [*]; done), by repeat (first | exact Drawn0.refl _ | apply Drawn0.step)⟩
            ·
             rw [if_neg c15] at H
             have c15b0 : decide (t211 < 0) = false := decide_eq_false c15
             clear c15
             by_cases c16 : (wrap64 ((wrap64 ((wrap64 (x5_2 + 1)) + (((rd_T37 l0 x6_2).f1).length : Int))) + t211)) > 20000
             ·
              rw [if_pos c16] at H
              have c16b0 : decide (20000 < (wrap64 ((wrap64 ((wrap64 (x5_2 + 1)) + (((rd_T37 l0 x6_2).f1).length : Int))) + t211))) = true := decide_eq_true c16
              clear c16
              obtain rfl := Option.some.inj H
              have p210 : 0 ≤ (x6_2 : Int) := of_decide_eq_true (by first | (with_reducible assumption) | assumption)
              have q210 : x6_2 < (l0.length : Int) := of_decide_eq_true (by first | (with_reducible assumption) | assumption)
              obtain ⟨ad210, A210_1, c210_1, A210_2, c210_2, e210, hx210_0, hx210_1, hx210_2, hl210_1, hi210_1, hl210_2, hi210_2⟩ := at_T37 HR0.out x6_2 p210 q210
              cases e210
              have HR210_1 := As hi210_1
              have HC210_1 := As hl210_1
              clear hi210_1 hl210_1
              have HR210_2 := As hi210_2
              have HC210_2 := As hl210_2
              clear hi210_2 hl210_2
              replace p210 := eq_true p210
              replace q210 := eq_true q210
              go_wp2_with (first | ((with_reducible refine gate_callee (f := 26) rfl ?_); refine goesL_ (some 49) rfl rfl Try.func26 (by kernel_rfl) rfl #[.slice A210_2 ((rd_T37 l0 x6_2).f2).length c210_2, .int .i64 (wrap64 (a1 - 1))] rfl (by (try simp only [List.map_toArray, List.map_cons, List.map_nil]); first | done | rfl | (simp only [List.length_drop, List.length_take]; rfl)) ?_; (with_reducible refine (ih kj7 (by have := HJ2.out; have := HK2.out; have := HJ7.out; omega) _ _ ((rd_T37 l0 x6_2).f2) (wrap64 (a1 - 1)) t211 _ ?side1 ?side2 A14.out).mono ?_); (case side1 => repeat (first | exact HR210_2.out | (with_reducible refine Kd.C_alloc ?_ _) | (with_reducible refine Kd.C_drewN ?_ _) | (with_reducible refine Kd.C_drew ?_))); (case side2 => exact HC210_2.out); rintro e w' ⟨rfl, ⟨nd, rfl⟩⟩; refine ⟨_, rfl, ?_⟩; have p212 : 0 ≤ (x6_2 : Int) := of_decide_eq_true (by first | (with_reducible assumption) | assumption); have q212 : x6_2 < (l0.length : Int) := of_decide_eq_true (by first | (with_reducible assumption) | assumption); obtain ⟨ad212, A212_1, c212_1, A212_2, c212_2, e212, hx212_0, hx212_1, hx212_2, hl212_1, hi212_1, hl212_2, hi212_2⟩ := at_T37 HR0.out x6_2 p212 q212; obtain rfl : ad210 = ad212 := (by injection e212); have HR212_1 := As hi212_1; have HC212_1 := As hl212_1; clear hi212_1 hl212_1; have HR212_2 := As hi212_2; have HC212_2 := As hl212_2; clear hi212_2 hl212_2; replace p212 := eq_true p212; replace q212 := eq_true q212; have ea_ := Option.some.inj (hx210_1.symm.trans hx212_1); injection ea_ with ea_ en_ ec_; subst ea_; subst ec_; clear en_; have ea_ := Option.some.inj (hx210_2.symm.trans hx212_2); injection ea_ with ea_ en_ ec_; subst ea_; subst ec_; clear en_))
              go_ret
              exact ⟨by first | rfl | (simp; done) | (simp [*]; done), by repeat (first | exact Drawn0.refl _ | apply Drawn0.step)⟩
             ·
              rw [if_neg c16] at H
              have c16b0 : decide (20000 < (wrap64 ((wrap64 ((wrap64 (x5_2 + 1)) + (((rd_T37 l0 x6_2).f1).length : Int))) + t211))) = false := decide_eq_false c16
              clear c16
              have H' := As H
              clear H
              have p210 : 0 ≤ (x6_2 : Int) := of_decide_eq_true (by first | (with_reducible assumption) | assumption)
              have q210 : x6_2 < (l0.length : Int) := of_decide_eq_true (by first | (with_reducible assumption) | assumption)
              obtain ⟨ad210, A210_1, c210_1, A210_2, c210_2, e210, hx210_0, hx210_1, hx210_2, hl210_1, hi210_1, hl210_2, hi210_2⟩ := at_T37 HR0.out x6_2 p210 q210
              cases e210
              have HR210_1 := As hi210_1
              have HC210_1 := As hl210_1
              clear hi210_1 hl210_1
              have HR210_2 := As hi210_2
              have HC210_2 := As hl210_2
              clear hi210_2 hl210_2
              replace p210 := eq_true p210
              replace q210 := eq_true q210
              go_wp2_with (first | ((with_reducible refine gate_callee (f := 26) rfl ?_); refine goesL_ (some 49) rfl rfl Try.func26 (by kernel_rfl) rfl #[.slice A210_2 ((rd_T37 l0 x6_2).f2).length c210_2, .int .i64 (wrap64 (a1 - 1))] rfl (by (try simp only [List.map_toArray, List.map_cons, List.map_nil]); first | done | rfl | (simp only [List.length_drop, List.length_take]; rfl)) ?_; (with_reducible refine (ih kj7 (by have := HJ2.out; have := HK2.out; have := HJ7.out; omega) _ _ ((rd_T37 l0 x6_2).f2) (wrap64 (a1 - 1)) t211 _ ?side1 ?side2 A14.out).mono ?_); (case side1 => repeat (first | exact HR210_2.out | (with_reducible refine Kd.C_alloc ?_ _) | (with_reducible refine Kd.C_drewN ?_ _) | (with_reducible refine Kd.C_drew ?_))); (case side2 => exact HC210_2.out); rintro e w' ⟨rfl, ⟨nd, rfl⟩⟩; refine ⟨_, rfl, ?_⟩; have p212 : 0 ≤ (x6_2 : Int) := of_decide_eq_true (by first | (with_reducible assumption) | assumption); have q212 : x6_2 < (l0.length : Int) := of_decide_eq_true (by first | (with_reducible assumption) | assumption); obtain ⟨ad212, A212_1, c212_1, A212_2, c212_2, e212, hx212_0, hx212_1, hx212_2, hl212_1, hi212_1, hl212_2, hi212_2⟩ := at_T37 HR0.out x6_2 p212 q212; obtain rfl : ad210 = ad212 := (by injection e212); have HR212_1 := As hi212_1; have HC212_1 := As hl212_1; clear hi212_1 hl212_1; have HR212_2 := As hi212_2; have HC212_2 := As hl212_2; clear hi212_2 hl212_2; replace p212 := eq_true p212; replace q212 := eq_true q212; have ea_ := Option.some.inj (hx210_1.symm.trans hx212_1); injection ea_ with ea_ en_ ec_; subst ea_; subst ec_; clear en_; have ea_ := Option.some.inj (hx210_2.symm.trans hx212_2); injection ea_ with ea_ en_ ec_; subst ea_; subst ec_; clear en_))
              go_roundg kj7
              case measure => have := HJ2.out; have := HK2.out; have := HJ7.out; omega
              case rel => exact ⟨(wrap64 ((wrap64 ((wrap64 (x5_2 + 1)) + (((rd_T37 l0 x6_2).f1).length : Int))) + t211)), (wrap64 (x6_2 + 1)), (by first | rfl | (simp; done) | (simp [*]; done)), (by first | rfl | (simp; done) | (simp [*]; done)), H', ⟨by have := HJ2.out; have := HK2.out; have := HJ7.out; omega⟩, by repeat (first | exact Drawn0.refl _ | apply Drawn0.step)⟩
           ·
            rw [if_neg c13] at H
            exact absurd H (by simp)
          ·
           rw [if_neg c12] at H
           exact absurd H (by simp)
      ·
       rw [if_neg c7] at H
       have c7b0 : decide (x6_2 < (l0.length : Int)) = false := decide_eq_false c7
       clear c7
       obtain rfl := Option.some.inj H
       go_wp2
       go_ret
       exact ⟨by first | rfl | (simp; done) | (simp [*]; done), by repeat (first | exact Drawn0.refl _ | apply Drawn0.step)⟩

/-! ### waveletref45_Few: function 14 -/
def waveletref45_Few.f (k : Nat) (l0 : List (S37)) : Option (Bool) := (waveletref45_few.f k l0 6).bind fun t213 => (some (decide (t213 ≥ 0)))
theorem waveletref45_Few.mono : ∀ a0 k, LeO (waveletref45_Few.f k a0) (waveletref45_Few.f (k + 1) a0) := by
 intro a0 k
 unfold waveletref45_Few.f
 repeat' first
   | (with_reducible exact waveletref45_few.mono _ _ _)
   | (with_reducible exact LeO.refl _)
   | (with_reducible exact LeO.none _)
   | (with_reducible refine LeO.ite ?_ ?_)
   | (with_reducible refine LeO.bind ?_ (fun _ => ?_))
   | exact waveletref45_few.mono _ _ _
   | exact LeO.none _
   | refine LeO.ite ?_ ?_
   | refine LeO.bind ?_ (fun _ => ?_)
set_option maxHeartbeats 8000000 in
set_option maxRecDepth 100000 in
theorem waveletref45_Few.calls (k : Nat) (A0 : Option Addr) (c0 : Nat) (l0 : List (S37)) (r : Bool) (w : World) (hr0 : Kd.C k37 w A0 l0.length l0) (hc0 : l0.length ≤ c0) (h : waveletref45_Few.f k l0 = some r) :
  Calls Try.prog 14 #[.slice A0 l0.length c0] w fun e w' => e = .returned (.bool r) ∧ Drawn0 w w' := by
 have HR0 := As hr0
 have HC0 := As hc0
 clear hr0 hc0
 have H : ((waveletref45_few.f k l0 6).bind fun t213 => (some (decide (t213 ≥ 0)))) = some r := h
 clear h
 replace H := Option.bind_eq_some_iff.mp H
 obtain ⟨t213, A20, H⟩ := H
 replace H : (some (decide (t213 ≥ 0))) = some r := H
 have A2 := As A20
 clear A20
 obtain rfl := Option.some.inj H
 go_enter Try.func14, Try.ntmps14
 go_wp2_with (first | ((with_reducible refine gate_callee (f := 26) rfl ?_); refine goesL_ (some 4) rfl rfl Try.func26 (by kernel_rfl) rfl #[.slice A0 l0.length c0, .int .i64 6] rfl (by (try simp only [List.map_toArray, List.map_cons, List.map_nil]); first | done | rfl | (simp only [List.length_drop, List.length_take]; rfl)) ?_; (with_reducible refine (waveletref45_few.calls k _ _ l0 6 t213 _ ?side1 ?side2 A2.out).mono ?_); (case side1 => repeat (first | exact HR0.out | (with_reducible refine Kd.C_alloc ?_ _) | (with_reducible refine Kd.C_drewN ?_ _) | (with_reducible refine Kd.C_drew ?_))); (case side2 => exact HC0.out); rintro e w' ⟨rfl, ⟨nd, rfl⟩⟩; refine ⟨_, rfl, ?_⟩))
 go_ret
 exact ⟨by first | rfl | (simp; done) | (simp [*]; done), by repeat (first | exact Drawn0.refl _ | apply Drawn0.step)⟩

/-! ### waveletref45_Count: function 18 -/
mutual
def waveletref45_Count.l0 : Nat → List (S37) → Int → Int → Option (Int)
 | 0, _, _, _ => none
 | k + 1, x0, x3, x4 => if x4 < (x0.length : Int) then (if 0 ≤ x4 then ((waveletref45_Count.f k ((rd_T37 x0 x4).f2)).bind fun t215 => (waveletref45_Count.l0 k x0 (wrap64 (x3 + t215)) (wrap64 (x4 + 1)))) else (none)) else (some x3)
def waveletref45_Count.f : Nat → List (S37) → Option (Int)
 | 0, _ => none
 | k + 1, l0 => waveletref45_Count.l0 k l0 (l0.length : Int) 0
end
theorem waveletref45_Count.mono_l : ∀ k, (∀ y0, LeO (waveletref45_Count.f k y0) (waveletref45_Count.f (k + 1) y0)) ∧ (∀ y0 y1 y2, LeO (waveletref45_Count.l0 k y0 y1 y2) (waveletref45_Count.l0 (k + 1) y0 y1 y2))
 | 0 => ⟨fun _ r h => by simp [waveletref45_Count.f] at h, fun _ _ _ r h => by simp [waveletref45_Count.l0] at h⟩
 | k + 1 => by
  obtain ⟨ih0, ih1⟩ := waveletref45_Count.mono_l k
  refine ⟨?_, ?_⟩
  ·
   intro y0
   unfold waveletref45_Count.f
   repeat' first
   | (with_reducible exact ih0 _)
   | (with_reducible exact ih1 _ _ _)
   | (with_reducible exact LeO.refl _)
   | (with_reducible exact LeO.none _)
   | (with_reducible refine LeO.ite ?_ ?_)
   | (with_reducible refine LeO.bind ?_ (fun _ => ?_))
   | exact ih0 _
   | exact ih1 _ _ _
   | exact LeO.none _
   | refine LeO.ite ?_ ?_
   | refine LeO.bind ?_ (fun _ => ?_)
  ·
   intro y0 y1 y2
   unfold waveletref45_Count.l0
   repeat' first
   | (with_reducible exact ih0 _)
   | (with_reducible exact ih1 _ _ _)
   | (with_reducible exact LeO.refl _)
   | (with_reducible exact LeO.none _)
   | (with_reducible refine LeO.ite ?_ ?_)
   | (with_reducible refine LeO.bind ?_ (fun _ => ?_))
   | exact ih0 _
   | exact ih1 _ _ _
   | exact LeO.none _
   | refine LeO.ite ?_ ?_
   | refine LeO.bind ?_ (fun _ => ?_)
theorem waveletref45_Count.mono : ∀ a0 k, LeO (waveletref45_Count.f k a0) (waveletref45_Count.f (k + 1) a0) := by
 intro a0 k
 obtain ⟨ih0, ih1⟩ := waveletref45_Count.mono_l k
 exact ih0 a0
set_option maxHeartbeats 8000000 in
set_option maxRecDepth 100000 in
theorem waveletref45_Count.calls (k : Nat) : ∀ (A0 : Option Addr) (c0 : Nat) (l0 : List (S37)) (r : Int) (w : World) (hr0 : Kd.C k37 w A0 l0.length l0) (hc0 : l0.length ≤ c0) (h : waveletref45_Count.f k l0 = some r),
  Calls Try.prog 18 #[.slice A0 l0.length c0] w fun e w' => e = .returned (.int .i64 r) ∧ Drawn0 w w' := by
 induction k using Nat.strongRecOn with
 | _ k ih =>
 intro A0 c0 l0 r w hr0 hc0 h
 cases k with
 | zero => exact absurd h (by simp [waveletref45_Count.f])
 | succ k =>
 simp only [waveletref45_Count.f] at h
 have HR0 := As hr0
 have HC0 := As hc0
 clear hr0 hc0
 have H : (waveletref45_Count.l0 k l0 (l0.length : Int) 0) = some r := h
 clear h
 have H' := As H
 clear H
 go_enter Try.func18, Try.ntmps18
 go_wp2
 go_loopg [3, 4] k (fun kq v3 v4 w' => ∃ (x3_1 : Int) (x4_1 : Int), v3 = .int .i64 x3_1 ∧ v4 = .int .i64 x4_1 ∧ Aside0 (waveletref45_Count.l0 kq l0 x3_1 x4_1 = some r) ∧ Aside0 (kq ≤ k) ∧ Drawn0 w w')
 case atStart => exact ⟨((l0.length : Int)), (0), (by first | rfl | (simp; done) | (simp [*]; done)), (by first | rfl | (simp; done) | (simp [*]; done)), H', ⟨Nat.le_refl _⟩, by repeat (first | exact Drawn0.refl _ | apply Drawn0.step)⟩
 case round =>
  clear H'
  try clear c1
  obtain ⟨x3_1, x4_1, rfl, rfl, HA, HK1, ⟨m1, rfl⟩⟩ := hrel
  cases gk with
  | zero => exact absurd HA.out (by simp [waveletref45_Count.l0])
  | succ k1 =>
   have H := HA.out
   clear HA
   simp only [waveletref45_Count.l0] at H
   by_cases c2 : x4_1 < (l0.length : Int)
   ·
    rw [if_pos c2] at H
    have c2b0 : decide (x4_1 < (l0.length : Int)) = true := decide_eq_true c2
    clear c2
    by_cases c3 : 0 ≤ x4_1
    ·
     rw [if_pos c3] at H
     have c3b0 : decide (0 ≤ x4_1) = true := decide_eq_true c3
     clear c3
     replace H := Option.bind_eq_some_iff.mp H
     obtain ⟨t215, A40, H⟩ := H
     replace H : (waveletref45_Count.l0 k1 l0 (wrap64 (x3_1 + t215)) (wrap64 (x4_1 + 1))) = some r := H
     have A4 := As A40
     clear A40
     have H' := As H
     clear H
     have p214 : 0 ≤ (x4_1 : Int) := of_decide_eq_true (by first | (with_reducible assumption) | assumption)
     have q214 : x4_1 < (l0.length : Int) := of_decide_eq_true (by first | (with_reducible assumption) | assumption)
     obtain ⟨ad214, A214_1, c214_1, A214_2, c214_2, e214, hx214_0, hx214_1, hx214_2, hl214_1, hi214_1, hl214_2, hi214_2⟩ := at_T37 HR0.out x4_1 p214 q214
     cases e214
     have HR214_1 := As hi214_1
     have HC214_1 := As hl214_1
     clear hi214_1 hl214_1
     have HR214_2 := As hi214_2
     have HC214_2 := As hl214_2
     clear hi214_2 hl214_2
     replace p214 := eq_true p214
     replace q214 := eq_true q214
     go_wp2_with (first | ((with_reducible refine gate_callee (f := 18) rfl ?_); refine goesL_ (some 19) rfl rfl Try.func18 (by kernel_rfl) rfl #[.slice A214_2 ((rd_T37 l0 x4_1).f2).length c214_2] rfl (by (try simp only [List.map_toArray, List.map_cons, List.map_nil]); first | done | rfl | (simp only [List.length_drop, List.length_take]; rfl)) ?_; (with_reducible refine (ih k1 (by have := HK1.out; omega) _ _ ((rd_T37 l0 x4_1).f2) t215 _ ?side1 ?side2 A4.out).mono ?_); (case side1 => repeat (first | exact HR214_2.out | (with_reducible refine Kd.C_alloc ?_ _) | (with_reducible refine Kd.C_drewN ?_ _) | (with_reducible refine Kd.C_drew ?_))); (case side2 => exact HC214_2.out); rintro e w' ⟨rfl, ⟨nd, rfl⟩⟩; refine ⟨_, rfl, ?_⟩))
     go_roundg k1
     case measure => have := HK1.out; omega
     case rel => exact ⟨(wrap64 (x3_1 + t215)), (wrap64 (x4_1 + 1)), (by first | rfl | (simp; done) | (simp [*]; done)), (by first | rfl | (simp; done) | (simp [*]; done)), H', ⟨by have := HK1.out; omega⟩, by repeat (first | exact Drawn0.refl _ | apply Drawn0.step)⟩
    ·
     rw [if_neg c3] at H
     exact absurd H (by simp)
   ·
    rw [if_neg c2] at H
    have c2b0 : decide (x4_1 < (l0.length : Int)) = false := decide_eq_false c2
    clear c2
    obtain rfl := Option.some.inj H
    go_wp2
    go_ret
    exact ⟨by first | rfl | (simp; done) | (simp [*]; done), by repeat (first | exact Drawn0.refl _ | apply Drawn0.step)⟩

end Go.Proofs.Ytfemdpjgglhpnaa.P
