-- Written by a program of this session (wip/gen/pr.py, over the kit's print): Lean checks it.
import Derived.Test.YtfemdpjgglhpnaaPx0
import Derived.Test.YtfemdpjgglhpnaaPx1
namespace Go.Proofs.Ytfemdpjgglhpnaa.P
open Go.RowKit Go.Proofs.YtfemdpjgglhpnaaW.Opens Go.Proofs.YtfemdpjgglhpnaaW.PrintWords Go.Proofs.YtfemdpjgglhpnaaW.PrintLast Go.Proofs.YtfemdpjgglhpnaaW.PrintMore
attribute [local go_sem] max2_int min2_int max_two min_two max_three min_three max_four min_four   -- for this text's walks alone
set_option linter.unusedVariables false
set_option linter.unusedSimpArgs false

/-! ### waveletref45_valid: function 30 -/
mutual
def waveletref45_valid.l0 : Nat → List (S37) → Bool → Int → Option (Bool)
 | 0, _, _, _ => none
 | k + 1, x0, x1, x5 => if x5 < (x0.length : Int) then (if 0 ≤ x5 then ((waveletref45_Known.f ((rd_T37 x0 x5).f0)).bind fun t217 => (if t217 = true then ((waveletref45_Super.f ((rd_T37 x0 x5).f0)).bind fun t219 => (if t219 = true then (if x1 = true then (some false) else (if (((rd_T37 x0 x5).f1).length : Int) > 0 then (some false) else ((waveletref45_valid.f k ((rd_T37 x0 x5).f2) true).bind fun t222 => (if t222 = true then (waveletref45_valid.l0 k x0 x1 (wrap64 (x5 + 1))) else (some false))))) else (if (((rd_T37 x0 x5).f2).length : Int) > 0 then (some false) else (waveletref45_valid.l0 k x0 x1 (wrap64 (x5 + 1)))))) else (some false))) else (none)) else (some true)
def waveletref45_valid.f : Nat → List (S37) → Bool → Option (Bool)
 | 0, _, _ => none
 | k + 1, l0, a1 => waveletref45_valid.l0 k l0 a1 0
end
theorem waveletref45_valid.mono_l : ∀ k, (∀ y0 y1, LeO (waveletref45_valid.f k y0 y1) (waveletref45_valid.f (k + 1) y0 y1)) ∧ (∀ y0 y1 y2, LeO (waveletref45_valid.l0 k y0 y1 y2) (waveletref45_valid.l0 (k + 1) y0 y1 y2))
 | 0 => ⟨fun _ _ r h => by simp [waveletref45_valid.f] at h, fun _ _ _ r h => by simp [waveletref45_valid.l0] at h⟩
 | k + 1 => by
  obtain ⟨ih0, ih1⟩ := waveletref45_valid.mono_l k
  refine ⟨?_, ?_⟩
  ·
   intro y0 y1
   unfold waveletref45_valid.f
   repeat' first
   | (with_reducible exact ih0 _ _)
   | (with_reducible exact ih1 _ _ _)
   | (with_reducible exact LeO.refl _)
   | (with_reducible exact LeO.none _)
   | (with_reducible refine LeO.ite ?_ ?_)
   | (with_reducible refine LeO.bind ?_ (fun _ => ?_))
   | exact ih0 _ _
   | exact ih1 _ _ _
   | exact LeO.none _
   | refine LeO.ite ?_ ?_
   | refine LeO.bind ?_ (fun _ => ?_)
  ·
   intro y0 y1 y2
   unfold waveletref45_valid.l0
   repeat' first
   | (with_reducible exact ih0 _ _)
   | (with_reducible exact ih1 _ _ _)
   | (with_reducible exact LeO.refl _)
   | (with_reducible exact LeO.none _)
   | (with_reducible refine LeO.ite ?_ ?_)
   | (with_reducible refine LeO.bind ?_ (fun _ => ?_))
   | exact ih0 _ _
   | exact ih1 _ _ _
   | exact LeO.none _
   | refine LeO.ite ?_ ?_
   | refine LeO.bind ?_ (fun _ => ?_)
theorem waveletref45_valid.mono : ∀ a0 a1 k, LeO (waveletref45_valid.f k a0 a1) (waveletref45_valid.f (k + 1) a0 a1) := by
 intro a0 a1 k
 obtain ⟨ih0, ih1⟩ := waveletref45_valid.mono_l k
 exact ih0 a0 a1
set_option maxHeartbeats 8000000 in
set_option maxRecDepth 100000 in
theorem waveletref45_valid.calls (k : Nat) : ∀ (A0 : Option Addr) (c0 : Nat) (l0 : List (S37)) (a1 : Bool) (r : Bool) (w : World) (hr0 : Kd.C k37 w A0 l0.length l0) (hc0 : l0.length ≤ c0) (h : waveletref45_valid.f k l0 a1 = some r),
  Calls Try.prog 30 #[.slice A0 l0.length c0, .bool a1] w fun e w' => e = .returned (.bool r) ∧ Drawn0 w w' := by
 induction k using Nat.strongRecOn with
 | _ k ih =>
 intro A0 c0 l0 a1 r w hr0 hc0 h
 cases k with
 | zero => exact absurd h (by simp [waveletref45_valid.f])
 | succ k =>
 simp only [waveletref45_valid.f] at h
 have HR0 := As hr0
 have HC0 := As hc0
 clear hr0 hc0
 have H : (waveletref45_valid.l0 k l0 a1 0) = some r := h
 clear h
 have H' := As H
 clear H
 go_enter Try.func30, Try.ntmps30
 go_wp2
 go_loopg [5] k (fun kq v5 w' => ∃ (x5_1 : Int), v5 = .int .i64 x5_1 ∧ Aside0 (waveletref45_valid.l0 kq l0 a1 x5_1 = some r) ∧ Aside0 (kq ≤ k) ∧ Drawn0 w w')
 case atStart => exact ⟨(0), (by first | rfl | (simp; done) | (simp [*]; done)), H', ⟨Nat.le_refl _⟩, by repeat (first | exact Drawn0.refl _ | apply Drawn0.step)⟩
 case round =>
  clear H'
  try clear p2
  obtain ⟨x5_1, rfl, HA, HK1, ⟨m1, rfl⟩⟩ := hrel
  cases gk with
  | zero => exact absurd HA.out (by simp [waveletref45_valid.l0])
  | succ k1 =>
   have H := HA.out
   clear HA
   simp only [waveletref45_valid.l0] at H
   by_cases c3 : x5_1 < (l0.length : Int)
   ·
    rw [if_pos c3] at H
    have c3b0 : decide (x5_1 < (l0.length : Int)) = true := decide_eq_true c3
    clear c3
    by_cases c4 : 0 ≤ x5_1
    ·
     rw [if_pos c4] at H
     have c4b0 : decide (0 ≤ x5_1) = true := decide_eq_true c4
     clear c4
     replace H := Option.bind_eq_some_iff.mp H
     obtain ⟨t217, A50, H⟩ := H
     replace H : (if t217 = true then ((waveletref45_Super.f ((rd_T37 l0 x5_1).f0)).bind fun t219 => (if t219 = true then (if a1 = true then (some false) else (if (((rd_T37 l0 x5_1).f1).length : Int) > 0 then (some false) else ((waveletref45_valid.f k1 ((rd_T37 l0 x5_1).f2) true).bind fun t222 => (if t222 = true then (waveletref45_valid.l0 k1 l0 a1 (wrap64 (x5_1 + 1))) else (some false))))) else (if (((rd_T37 l0 x5_1).f2).length : Int) > 0 then (some false) else (waveletref45_valid.l0 k1 l0 a1 (wrap64 (x5_1 + 1)))))) else (some false)) = some r := H
     have A5 := As A50
     clear A50
     by_cases c6 : t217 = true
     ·
      subst c6
      have H1 : ((waveletref45_Super.f ((rd_T37 l0 x5_1).f0)).bind fun t219 => (if t219 = true then (if a1 = true then (some false) else (if (((rd_T37 l0 x5_1).f1).length : Int) > 0 then (some false) else ((waveletref45_valid.f k1 ((rd_T37 l0 x5_1).f2) true).bind fun t222 => (if t222 = true then (waveletref45_valid.l0 k1 l0 a1 (wrap64 (x5_1 + 1))) else (some false))))) else (if (((rd_T37 l0 x5_1).f2).length : Int) > 0 then (some false) else (waveletref45_valid.l0 k1 l0 a1 (wrap64 (x5_1 + 1)))))) = some r := by rw [if_pos rfl] at H; exact H
      clear H
      have H := H1
      clear H1
      replace H := Option.bind_eq_some_iff.mp H
      obtain ⟨t219, A70, H⟩ := H
      replace H : (if t219 = true then (if a1 = true then (some false) else (if (((rd_T37 l0 x5_1).f1).length : Int) > 0 then (some false) else ((waveletref45_valid.f k1 ((rd_T37 l0 x5_1).f2) true).bind fun t222 => (if t222 = true then (waveletref45_valid.l0 k1 l0 a1 (wrap64 (x5_1 + 1))) else (some false))))) else (if (((rd_T37 l0 x5_1).f2).length : Int) > 0 then (some false) else (waveletref45_valid.l0 k1 l0 a1 (wrap64 (x5_1 + 1))))) = some r := H
      have A7 := As A70
      clear A70
      by_cases c8 : t219 = true
      ·
       subst c8
       have H1 : (if a1 = true then (some false) else (if (((rd_T37 l0 x5_1).f1).length : Int) > 0 then (some false) else ((waveletref45_valid.f k1 ((rd_T37 l0 x5_1).f2) true).bind fun t222 => (if t222 = true then (waveletref45_valid.l0 k1 l0 a1 (wrap64 (x5_1 + 1))) else (some false))))) = some r := by rw [if_pos rfl] at H; exact H
       clear H
       have H := H1
       clear H1
       by_cases c9 : a1 = true
       ·
        subst c9
        have H1 : (some false) = some r := by rw [if_pos rfl] at H; exact H
        clear H
        have H := H1
        clear H1
        obtain rfl := Option.some.inj H
        have p216 : 0 ≤ (x5_1 : Int) := of_decide_eq_true (by first | (with_reducible assumption) | assumption)
        have q216 : x5_1 < (l0.length : Int) := of_decide_eq_true (by first | (with_reducible assumption) | assumption)
        obtain ⟨ad216, A216_1, c216_1, A216_2, c216_2, e216, hx216_0, hx216_1, hx216_2, hl216_1, hi216_1, hl216_2, hi216_2⟩ := at_T37 HR0.out x5_1 p216 q216
        cases e216
        have HR216_1 := As hi216_1
        have HC216_1 := As hl216_1
        clear hi216_1 hl216_1
        have HR216_2 := As hi216_2
        have HC216_2 := As hl216_2
        clear hi216_2 hl216_2
        replace p216 := eq_true p216
        replace q216 := eq_true q216
        go_wp2_with (first | ((with_reducible refine gate_callee (f := 12) rfl ?_); refine goesL_ (some 17) rfl rfl Try.func12 (by kernel_rfl) rfl #[.string ((rd_T37 l0 x5_1).f0)] rfl (by (try simp only [List.map_toArray, List.map_cons, List.map_nil]); first | done | rfl | (simp only [List.length_drop, List.length_take]; rfl)) ?_; (with_reducible refine (waveletref45_Known.calls ((rd_T37 l0 x5_1).f0) true _ A5.out).mono ?_); rintro e w' ⟨rfl, ⟨nd, rfl⟩⟩; refine ⟨_, rfl, ?_⟩; have p218 : 0 ≤ (x5_1 : Int) := of_decide_eq_true (by first | (with_reducible assumption) | assumption); have q218 : x5_1 < (l0.length : Int) := of_decide_eq_true (by first | (with_reducible assumption) | assumption); obtain ⟨ad218, A218_1, c218_1, A218_2, c218_2, e218, hx218_0, hx218_1, hx218_2, hl218_1, hi218_1, hl218_2, hi218_2⟩ := at_T37 HR0.out x5_1 p218 q218; obtain rfl : ad216 = ad218 := (by injection e218); have HR218_1 := As hi218_1; have HC218_1 := As hl218_1; clear hi218_1 hl218_1; have HR218_2 := As hi218_2; have HC218_2 := As hl218_2; clear hi218_2 hl218_2; replace p218 := eq_true p218; replace q218 := eq_true q218; have ea_ := Option.some.inj (hx216_1.symm.trans hx218_1); injection ea_ with ea_ en_ ec_; subst ea_; subst ec_; clear en_; have ea_ := Option.some.inj (hx216_2.symm.trans hx218_2); injection ea_ with ea_ en_ ec_; subst ea_; subst ec_; clear en_) | ((with_reducible refine gate_callee (f := 10) rfl ?_); refine goesL_ (some 24) rfl rfl Try.func10 (by kernel_rfl) rfl #[.string ((rd_T37 l0 x5_1).f0)] rfl (by (try simp only [List.map_toArray, List.map_cons, List.map_nil]); first | done | rfl | (simp only [List.length_drop, List.length_take]; rfl)) ?_; (with_reducible refine (waveletref45_Super.calls ((rd_T37 l0 x5_1).f0) true _ A7.out).mono ?_); rintro e w' ⟨rfl, ⟨nd, rfl⟩⟩; refine ⟨_, rfl, ?_⟩))
        go_ret
        exact ⟨by first | rfl | (simp; done) | (simp [*]; done), by repeat (first | exact Drawn0.refl _ | apply Drawn0.step)⟩
       ·
        replace c9 := Bool.eq_false_iff.mpr c9
        subst c9
        have H1 : (if (((rd_T37 l0 x5_1).f1).length : Int) > 0 then (some false) else ((waveletref45_valid.f k1 ((rd_T37 l0 x5_1).f2) true).bind fun t222 => (if t222 = true then (waveletref45_valid.l0 k1 l0 false (wrap64 (x5_1 + 1))) else (some false)))) = some r := by rw [if_neg (show ¬ (false = true) by decide)] at H; exact H
        clear H
        have H := H1
        clear H1
        by_cases c10 : (((rd_T37 l0 x5_1).f1).length : Int) > 0
        ·
         rw [if_pos c10] at H
         have c10b0 : decide (0 < (((rd_T37 l0 x5_1).f1).length : Int)) = true := decide_eq_true c10
         have c10b1 : decide (0 < ((rd_T37 l0 x5_1).f1).length) = true := decide_eq_true (by omega)
         clear c10
         obtain rfl := Option.some.inj H
         have p216 : 0 ≤ (x5_1 : Int) := of_decide_eq_true (by first | (with_reducible assumption) | assumption)
         have q216 : x5_1 < (l0.length : Int) := of_decide_eq_true (by first | (with_reducible assumption) | assumption)
         obtain ⟨ad216, A216_1, c216_1, A216_2, c216_2, e216, hx216_0, hx216_1, hx216_2, hl216_1, hi216_1, hl216_2, hi216_2⟩ := at_T37 HR0.out x5_1 p216 q216
         cases e216
         have HR216_1 := As hi216_1
         have HC216_1 := As hl216_1
         clear hi216_1 hl216_1
         have HR216_2 := As hi216_2
         have HC216_2 := As hl216_2
         clear hi216_2 hl216_2
         replace p216 := eq_true p216
         replace q216 := eq_true q216
         go_wp2_with (first | ((with_reducible refine gate_callee (f := 12) rfl ?_); refine goesL_ (some 17) rfl rfl Try.func12 (by kernel_rfl) rfl #[.string ((rd_T37 l0 x5_1).f0)] rfl (by (try simp only [List.map_toArray, List.map_cons, List.map_nil]); first | done | rfl | (simp only [List.length_drop, List.length_take]; rfl)) ?_; (with_reducible refine (waveletref45_Known.calls ((rd_T37 l0 x5_1).f0) true _ A5.out).mono ?_); rintro e w' ⟨rfl, ⟨nd, rfl⟩⟩; refine ⟨_, rfl, ?_⟩; have p218 : 0 ≤ (x5_1 : Int) := of_decide_eq_true (by first | (with_reducible assumption) | assumption); have q218 : x5_1 < (l0.length : Int) := of_decide_eq_true (by first | (with_reducible assumption) | assumption); obtain ⟨ad218, A218_1, c218_1, A218_2, c218_2, e218, hx218_0, hx218_1, hx218_2, hl218_1, hi218_1, hl218_2, hi218_2⟩ := at_T37 HR0.out x5_1 p218 q218; obtain rfl : ad216 = ad218 := (by injection e218); have HR218_1 := As hi218_1; have HC218_1 := As hl218_1; clear hi218_1 hl218_1; have HR218_2 := As hi218_2; have HC218_2 := As hl218_2; clear hi218_2 hl218_2; replace p218 := eq_true p218; replace q218 := eq_true q218; have ea_ := Option.some.inj (hx216_1.symm.trans hx218_1); injection ea_ with ea_ en_ ec_; subst ea_; subst ec_; clear en_; have ea_ := Option.some.inj (hx216_2.symm.trans hx218_2); injection ea_ with ea_ en_ ec_; subst ea_; subst ec_; clear en_) | ((with_reducible refine gate_callee (f := 10) rfl ?_); refine goesL_ (some 24) rfl rfl Try.func10 (by kernel_rfl) rfl #[.string ((rd_T37 l0 x5_1).f0)] rfl (by (try simp only [List.map_toArray, List.map_cons, List.map_nil]); first | done | rfl | (simp only [List.length_drop, List.length_take]; rfl)) ?_; (with_reducible refine (waveletref45_Super.calls ((rd_T37 l0 x5_1).f0) true _ A7.out).mono ?_); rintro e w' ⟨rfl, ⟨nd, rfl⟩⟩; refine ⟨_, rfl, ?_⟩; have p220 : 0 ≤ (x5_1 : Int) := of_decide_eq_true (by first | (with_reducible assumption) | assumption); have q220 : x5_1 < (l0.length : Int) := of_decide_eq_true (by first | (with_reducible assumption) | assumption); obtain ⟨ad220, A220_1, c220_1, A220_2, c220_2, e220, hx220_0, hx220_1, hx220_2, hl220_1, hi220_1, hl220_2, hi220_2⟩ := at_T37 HR0.out x5_1 p220 q220; obtain rfl : ad216 = ad220 := (by injection e220); have HR220_1 := As hi220_1; have HC220_1 := As hl220_1; clear hi220_1 hl220_1; have HR220_2 := As hi220_2; have HC220_2 := As hl220_2; clear hi220_2 hl220_2; replace p220 := eq_true p220; replace q220 := eq_true q220; have ea_ := Option.some.inj (hx216_1.symm.trans hx220_1); injection ea_ with ea_ en_ ec_; subst ea_; subst ec_; clear en_; have ea_ := Option.some.inj (hx216_2.symm.trans hx220_2); injection ea_ with ea_ en_ ec_; subst ea_; subst ec_; clear en_))
         go_ret
         exact ⟨by first | rfl | (simp; done) | (simp [*]; done), by repeat (first | exact Drawn0.refl _ | apply Drawn0.step)⟩
        ·
         rw [if_neg c10] at H
         have c10b0 : decide (0 < (((rd_T37 l0 x5_1).f1).length : Int)) = false := decide_eq_false c10
         have c10b1 : decide (0 < ((rd_T37 l0 x5_1).f1).length) = false := decide_eq_false (by omega)
         clear c10
         replace H := Option.bind_eq_some_iff.mp H
         obtain ⟨t222, A110, H⟩ := H
         replace H : (if t222 = true then (waveletref45_valid.l0 k1 l0 false (wrap64 (x5_1 + 1))) else (some false)) = some r := H
         have A11 := As A110
         clear A110
         by_cases c12 : t222 = true
         ·
          subst c12
          have H1 : (waveletref45_valid.l0 k1 l0 false (wrap64 (x5_1 + 1))) = some r := by rw [if_pos rfl] at H; exact H
          clear H
          have H := H1
          clear H1
          have H' := As H
          clear H
          have p216 : 0 ≤ (x5_1 : Int) := of_decide_eq_true (by first | (with_reducible assumption) | assumption)
          have q216 : x5_1 < (l0.length : Int) := of_decide_eq_true (by first | (with_reducible assumption) | assumption)
          obtain ⟨ad216, A216_1, c216_1, A216_2, c216_2, e216, hx216_0, hx216_1, hx216_2, hl216_1, hi216_1, hl216_2, hi216_2⟩ := at_T37 HR0.out x5_1 p216 q216
          cases e216
          have HR216_1 := As hi216_1
          have HC216_1 := As hl216_1
          clear hi216_1 hl216_1
          have HR216_2 := As hi216_2
          have HC216_2 := As hl216_2
          clear hi216_2 hl216_2
          replace p216 := eq_true p216
          replace q216 := eq_true q216
          go_wp2_with (first | ((with_reducible refine gate_callee (f := 12) rfl ?_); refine goesL_ (some 17) rfl rfl Try.func12 (by kernel_rfl) rfl #[.string ((rd_T37 l0 x5_1).f0)] rfl (by (try simp only [List.map_toArray, List.map_cons, List.map_nil]); first | done | rfl | (simp only [List.length_drop, List.length_take]; rfl)) ?_; (with_reducible refine (waveletref45_Known.calls ((rd_T37 l0 x5_1).f0) true _ A5.out).mono ?_); rintro e w' ⟨rfl, ⟨nd, rfl⟩⟩; refine ⟨_, rfl, ?_⟩; have p218 : 0 ≤ (x5_1 : Int) := of_decide_eq_true (by first | (with_reducible assumption) | assumption); have q218 : x5_1 < (l0.length : Int) := of_decide_eq_true (by first | (with_reducible assumption) | assumption); obtain ⟨ad218, A218_1, c218_1, A218_2, c218_2, e218, hx218_0, hx218_1, hx218_2, hl218_1, hi218_1, hl218_2, hi218_2⟩ := at_T37 HR0.out x5_1 p218 q218; obtain rfl : ad216 = ad218 := (by injection e218); have HR218_1 := As hi218_1; have HC218_1 := As hl218_1; clear hi218_1 hl218_1; have HR218_2 := As hi218_2; have HC218_2 := As hl218_2; clear hi218_2 hl218_2; replace p218 := eq_true p218; replace q218 := eq_true q218; have ea_ := Option.some.inj (hx216_1.symm.trans hx218_1); injection ea_ with ea_ en_ ec_; subst ea_; subst ec_; clear en_; have ea_ := Option.some.inj (hx216_2.symm.trans hx218_2); injection ea_ with ea_ en_ ec_; subst ea_; subst ec_; clear en_) | ((with_reducible refine gate_callee (f := 10) rfl ?_); refine goesL_ (some 24) rfl rfl Try.func10 (by kernel_rfl) rfl #[.string ((rd_T37 l0 x5_1).f0)] rfl (by (try simp only [List.map_toArray, List.map_cons, List.map_nil]); first | done | rfl | (simp only [List.length_drop, List.length_take]; rfl)) ?_; (with_reducible refine (waveletref45_Super.calls ((rd_T37 l0 x5_1).f0) true _ A7.out).mono ?_); rintro e w' ⟨rfl, ⟨nd, rfl⟩⟩; refine ⟨_, rfl, ?_⟩; have p220 : 0 ≤ (x5_1 : Int) := of_decide_eq_true (by first | (with_reducible assumption) | assumption); have q220 : x5_1 < (l0.length : Int) := of_decide_eq_true (by first | (with_reducible assumption) | assumption); obtain ⟨ad220, A220_1, c220_1, A220_2, c220_2, e220, hx220_0, hx220_1, hx220_2, hl220_1, hi220_1, hl220_2, hi220_2⟩ := at_T37 HR0.out x5_1 p220 q220; obtain rfl : ad216 = ad220 := (by injection e220); have HR220_1 := As hi220_1; have HC220_1 := As hl220_1; clear hi220_1 hl220_1; have HR220_2 := As hi220_2; have HC220_2 := As hl220_2; clear hi220_2 hl220_2; replace p220 := eq_true p220; replace q220 := eq_true q220; have ea_ := Option.some.inj (hx216_1.symm.trans hx220_1); injection ea_ with ea_ en_ ec_; subst ea_; subst ec_; clear en_; have ea_ := Option.some.inj (hx216_2.symm.trans hx220_2); injection ea_ with ea_ en_ ec_; subst ea_; subst ec_; clear en_; have p221 : 0 ≤ (x5_1 : Int) := of_decide_eq_true (by first | (with_reducible assumption) | assumption); have q221 : x5_1 < (l0.length : Int) := of_decide_eq_true (by first | (with_reducible assumption) | assumption); obtain ⟨ad221, A221_1, c221_1, A221_2, c221_2, e221, hx221_0, hx221_1, hx221_2, hl221_1, hi221_1, hl221_2, hi221_2⟩ := at_T37 HR0.out x5_1 p221 q221; obtain rfl : ad216 = ad221 := (by injection e221); have HR221_1 := As hi221_1; have HC221_1 := As hl221_1; clear hi221_1 hl221_1; have HR221_2 := As hi221_2; have HC221_2 := As hl221_2; clear hi221_2 hl221_2; replace p221 := eq_true p221; replace q221 := eq_true q221; have ea_ := Option.some.inj (hx216_1.symm.trans hx221_1); injection ea_ with ea_ en_ ec_; subst ea_; subst ec_; clear en_; have ea_ := Option.some.inj (hx216_2.symm.trans hx221_2); injection ea_ with ea_ en_ ec_; subst ea_; subst ec_; clear en_) | (go_at_call 30; (with_reducible refine (ih k1 (by have := HK1.out; omega) _ _ ((rd_T37 l0 x5_1).f2) true true _ ?side1 ?side2 A11.out).mono ?_); (case side1 => repeat (first | exact HR221_2.out | (with_reducible refine Kd.C_alloc ?_ _) | (with_reducible refine Kd.C_drewN ?_ _) | (with_reducible refine Kd.C_drew ?_))); (case side2 => exact HC221_2.out); rintro e w' ⟨rfl, ⟨nd, rfl⟩⟩))
          go_roundg k1
          case measure => have := HK1.out; omega
          case rel => exact ⟨(wrap64 (x5_1 + 1)), (by first | rfl | (simp; done) | (simp [*]; done)), H', ⟨by have := HK1.out; omega⟩, by repeat (first | exact Drawn0.refl _ | apply Drawn0.step)⟩
         ·
          replace c12 := Bool.eq_false_iff.mpr c12
          subst c12
          have H1 : (some false) = some r := by rw [if_neg (show ¬ (false = true) by decide)] at H; exact H
          clear H
          have H := H1
          clear H1
          obtain rfl := Option.some.inj H
          have p216 : 0 ≤ (x5_1 : Int) := of_decide_eq_true (by first | (with_reducible assumption) | assumption)
          have q216 : x5_1 < (l0.length : Int) := of_decide_eq_true (by first | (with_reducible assumption) | assumption)
          obtain ⟨ad216, A216_1, c216_1, A216_2, c216_2, e216, hx216_0, hx216_1, hx216_2, hl216_1, hi216_1, hl216_2, hi216_2⟩ := at_T37 HR0.out x5_1 p216 q216
          cases e216
          have HR216_1 := As hi216_1
          have HC216_1 := As hl216_1
          clear hi216_1 hl216_1
          have HR216_2 := As hi216_2
          have HC216_2 := As hl216_2
          clear hi216_2 hl216_2
          replace p216 := eq_true p216
          replace q216 := eq_true q216
          go_wp2_with (first | ((with_reducible refine gate_callee (f := 12) rfl ?_); refine goesL_ (some 17) rfl rfl Try.func12 (by kernel_rfl) rfl #[.string ((rd_T37 l0 x5_1).f0)] rfl (by (try simp only [List.map_toArray, List.map_cons, List.map_nil]); first | done | rfl | (simp only [List.length_drop, List.length_take]; rfl)) ?_; (with_reducible refine (waveletref45_Known.calls ((rd_T37 l0 x5_1).f0) true _ A5.out).mono ?_); rintro e w' ⟨rfl, ⟨nd, rfl⟩⟩; refine ⟨_, rfl, ?_⟩; have p218 : 0 ≤ (x5_1 : Int) := of_decide_eq_true (by first | (with_reducible assumption) | assumption); have q218 : x5_1 < (l0.length : Int) := of_decide_eq_true (by first | (with_reducible assumption) | assumption); obtain ⟨ad218, A218_1, c218_1, A218_2, c218_2, e218, hx218_0, hx218_1, hx218_2, hl218_1, hi218_1, hl218_2, hi218_2⟩ := at_T37 HR0.out x5_1 p218 q218; obtain rfl : ad216 = ad218 := (by injection e218); have HR218_1 := As hi218_1; have HC218_1 := As hl218_1; clear hi218_1 hl218_1; have HR218_2 := As hi218_2; have HC218_2 := As hl218_2; clear hi218_2 hl218_2; replace p218 := eq_true p218; replace q218 := eq_true q218; have ea_ := Option.some.inj (hx216_1.symm.trans hx218_1); injection ea_ with ea_ en_ ec_; subst ea_; subst ec_; clear en_; have ea_ := Option.some.inj (hx216_2.symm.trans hx218_2); injection ea_ with ea_ en_ ec_; subst ea_; subst ec_; clear en_) | ((with_reducible refine gate_callee (f := 10) rfl ?_); refine goesL_ (some 24) rfl rfl Try.func10 (by kernel_rfl) rfl #[.string ((rd_T37 l0 x5_1).f0)] rfl (by (try simp only [List.map_toArray, List.map_cons, List.map_nil]); first | done | rfl | (simp only [List.length_drop, List.length_take]; rfl)) ?_; (with_reducible refine (waveletref45_Super.calls ((rd_T37 l0 x5_1).f0) true _ A7.out).mono ?_); rintro e w' ⟨rfl, ⟨nd, rfl⟩⟩; refine ⟨_, rfl, ?_⟩; have p220 : 0 ≤ (x5_1 : Int) := of_decide_eq_true (by first | (with_reducible assumption) | assumption); have q220 : x5_1 < (l0.length : Int) := of_decide_eq_true (by first | (with_reducible assumption) | assumption); obtain ⟨ad220, A220_1, c220_1, A220_2, c220_2, e220, hx220_0, hx220_1, hx220_2, hl220_1, hi220_1, hl220_2, hi220_2⟩ := at_T37 HR0.out x5_1 p220 q220; obtain rfl : ad216 = ad220 := (by injection e220); have HR220_1 := As hi220_1; have HC220_1 := As hl220_1; clear hi220_1 hl220_1; have HR220_2 := As hi220_2; have HC220_2 := As hl220_2; clear hi220_2 hl220_2; replace p220 := eq_true p220; replace q220 := eq_true q220; have ea_ := Option.some.inj (hx216_1.symm.trans hx220_1); injection ea_ with ea_ en_ ec_; subst ea_; subst ec_; clear en_; have ea_ := Option.some.inj (hx216_2.symm.trans hx220_2); injection ea_ with ea_ en_ ec_; subst ea_; subst ec_; clear en_; have p221 : 0 ≤ (x5_1 : Int) := of_decide_eq_true (by first | (with_reducible assumption) | assumption); have q221 : x5_1 < (l0.length : Int) := of_decide_eq_true (by first | (with_reducible assumption) | assumption); obtain ⟨ad221, A221_1, c221_1, A221_2, c221_2, e221, hx221_0, hx221_1, hx221_2, hl221_1, hi221_1, hl221_2, hi221_2⟩ := at_T37 HR0.out x5_1 p221 q221; obtain rfl : ad216 = ad221 := (by injection e221); have HR221_1 := As hi221_1; have HC221_1 := As hl221_1; clear hi221_1 hl221_1; have HR221_2 := As hi221_2; have HC221_2 := As hl221_2; clear hi221_2 hl221_2; replace p221 := eq_true p221; replace q221 := eq_true q221; have ea_ := Option.some.inj (hx216_1.symm.trans hx221_1); injection ea_ with ea_ en_ ec_; subst ea_; subst ec_; clear en_; have ea_ := Option.some.inj (hx216_2.symm.trans hx221_2); injection ea_ with ea_ en_ ec_; subst ea_; subst ec_; clear en_) | (go_at_call 30; (with_reducible refine (ih k1 (by have := HK1.out; omega) _ _ ((rd_T37 l0 x5_1).f2) true false _ ?side1 ?side2 A11.out).mono ?_); (case side1 => repeat (first | exact HR221_2.out | (with_reducible refine Kd.C_alloc ?_ _) | (with_reducible refine Kd.C_drewN ?_ _) | (with_reducible refine Kd.C_drew ?_))); (case side2 => exact HC221_2.out); rintro e w' ⟨rfl, ⟨nd, rfl⟩⟩))
          go_ret
          exact ⟨by first | rfl | (simp; done) | (simp [*]; done), by repeat (first | exact Drawn0.refl _ | apply Drawn0.step)⟩
      ·
       replace c8 := Bool.eq_false_iff.mpr c8
       subst c8
       have H1 : (if (((rd_T37 l0 x5_1).f2).length : Int) > 0 then (some false) else (waveletref45_valid.l0 k1 l0 a1 (wrap64 (x5_1 + 1)))) = some r := by rw [if_neg (show ¬ (false = true) by decide)] at H; exact H
       clear H
       have H := H1
       clear H1
       by_cases c13 : (((rd_T37 l0 x5_1).f2).length : Int) > 0
       ·
        rw [if_pos c13] at H
        have c13b0 : decide (0 < (((rd_T37 l0 x5_1).f2).length : Int)) = true := decide_eq_true c13
        have c13b1 : decide (0 < ((rd_T37 l0 x5_1).f2).length) = true := decide_eq_true (by omega)
        clear c13
        obtain rfl := Option.some.inj H
        have p216 : 0 ≤ (x5_1 : Int) := of_decide_eq_true (by first | (with_reducible assumption) | assumption)
        have q216 : x5_1 < (l0.length : Int) := of_decide_eq_true (by first | (with_reducible assumption) | assumption)
        obtain ⟨ad216, A216_1, c216_1, A216_2, c216_2, e216, hx216_0, hx216_1, hx216_2, hl216_1, hi216_1, hl216_2, hi216_2⟩ := at_T37 HR0.out x5_1 p216 q216
        cases e216
        have HR216_1 := As hi216_1
        have HC216_1 := As hl216_1
        clear hi216_1 hl216_1
        have HR216_2 := As hi216_2
        have HC216_2 := As hl216_2
        clear hi216_2 hl216_2
        replace p216 := eq_true p216
        replace q216 := eq_true q216
        go_wp2_with (first | ((with_reducible refine gate_callee (f := 12) rfl ?_); refine goesL_ (some 17) rfl rfl Try.func12 (by kernel_rfl) rfl #[.string ((rd_T37 l0 x5_1).f0)] rfl (by (try simp only [List.map_toArray, List.map_cons, List.map_nil]); first | done | rfl | (simp only [List.length_drop, List.length_take]; rfl)) ?_; (with_reducible refine (waveletref45_Known.calls ((rd_T37 l0 x5_1).f0) true _ A5.out).mono ?_); rintro e w' ⟨rfl, ⟨nd, rfl⟩⟩; refine ⟨_, rfl, ?_⟩; have p218 : 0 ≤ (x5_1 : Int) := of_decide_eq_true (by first | (with_reducible assumption) | assumption); have q218 : x5_1 < (l0.length : Int) := of_decide_eq_true (by first | (with_reducible assumption) | assumption); obtain ⟨ad218, A218_1, c218_1, A218_2, c218_2, e218, hx218_0, hx218_1, hx218_2, hl218_1, hi218_1, hl218_2, hi218_2⟩ := at_T37 HR0.out x5_1 p218 q218; obtain rfl : ad216 = ad218 := (by injection e218); have HR218_1 := As hi218_1; have HC218_1 := As hl218_1; clear hi218_1 hl218_1; have HR218_2 := As hi218_2; have HC218_2 := As hl218_2; clear hi218_2 hl218_2; replace p218 := eq_true p218; replace q218 := eq_true q218; have ea_ := Option.some.inj (hx216_1.symm.trans hx218_1); injection ea_ with ea_ en_ ec_; subst ea_; subst ec_; clear en_; have ea_ := Option.some.inj (hx216_2.symm.trans hx218_2); injection ea_ with ea_ en_ ec_; subst ea_; subst ec_; clear en_) | ((with_reducible refine gate_callee (f := 10) rfl ?_); refine goesL_ (some 24) rfl rfl Try.func10 (by kernel_rfl) rfl #[.string ((rd_T37 l0 x5_1).f0)] rfl (by (try simp only [List.map_toArray, List.map_cons, List.map_nil]); first | done | rfl | (simp only [List.length_drop, List.length_take]; rfl)) ?_; (with_reducible refine (waveletref45_Super.calls ((rd_T37 l0 x5_1).f0) false _ A7.out).mono ?_); rintro e w' ⟨rfl, ⟨nd, rfl⟩⟩; refine ⟨_, rfl, ?_⟩; have p223 : 0 ≤ (x5_1 : Int) := of_decide_eq_true (by first | (with_reducible assumption) | assumption); have q223 : x5_1 < (l0.length : Int) := of_decide_eq_true (by first | (with_reducible assumption) | assumption); obtain ⟨ad223, A223_1, c223_1, A223_2, c223_2, e223, hx223_0, hx223_1, hx223_2, hl223_1, hi223_1, hl223_2, hi223_2⟩ := at_T37 HR0.out x5_1 p223 q223; obtain rfl : ad216 = ad223 := (by injection e223); have HR223_1 := As hi223_1; have HC223_1 := As hl223_1; clear hi223_1 hl223_1; have HR223_2 := As hi223_2; have HC223_2 := As hl223_2; clear hi223_2 hl223_2; replace p223 := eq_true p223; replace q223 := eq_true q223; have ea_ := Option.some.inj (hx216_1.symm.trans hx223_1); injection ea_ with ea_ en_ ec_; subst ea_; subst ec_; clear en_; have ea_ := Option.some.inj (hx216_2.symm.trans hx223_2); injection ea_ with ea_ en_ ec_; subst ea_; subst ec_; clear en_))
        go_ret
        exact ⟨by first | rfl | (simp; done) | (simp [*]; done), by repeat (first | exact Drawn0.refl _ | apply Drawn0.step)⟩
       ·
        rw [if_neg c13] at H
        have c13b0 : decide (0 < (((rd_T37 l0 x5_1).f2).length : Int)) = false := decide_eq_false c13
        have c13b1 : decide (0 < ((rd_T37 l0 x5_1).f2).length) = false := decide_eq_false (by omega)
        clear c13
        have H' := As H
        clear H
        have p216 : 0 ≤ (x5_1 : Int) := of_decide_eq_true (by first | (with_reducible assumption) | assumption)
        have q216 : x5_1 < (l0.length : Int) := of_decide_eq_true (by first | (with_reducible assumption) | assumption)
        obtain ⟨ad216, A216_1, c216_1, A216_2, c216_2, e216, hx216_0, hx216_1, hx216_2, hl216_1, hi216_1, hl216_2, hi216_2⟩ := at_T37 HR0.out x5_1 p216 q216
        cases e216
        have HR216_1 := As hi216_1
        have HC216_1 := As hl216_1
        clear hi216_1 hl216_1
        have HR216_2 := As hi216_2
        have HC216_2 := As hl216_2
        clear hi216_2 hl216_2
        replace p216 := eq_true p216
        replace q216 := eq_true q216
        go_wp2_with (first | ((with_reducible refine gate_callee (f := 12) rfl ?_); refine goesL_ (some 17) rfl rfl Try.func12 (by kernel_rfl) rfl #[.string ((rd_T37 l0 x5_1).f0)] rfl (by (try simp only [List.map_toArray, List.map_cons, List.map_nil]); first | done | rfl | (simp only [List.length_drop, List.length_take]; rfl)) ?_; (with_reducible refine (waveletref45_Known.calls ((rd_T37 l0 x5_1).f0) true _ A5.out).mono ?_); rintro e w' ⟨rfl, ⟨nd, rfl⟩⟩; refine ⟨_, rfl, ?_⟩; have p218 : 0 ≤ (x5_1 : Int) := of_decide_eq_true (by first | (with_reducible assumption) | assumption); have q218 : x5_1 < (l0.length : Int) := of_decide_eq_true (by first | (with_reducible assumption) | assumption); obtain ⟨ad218, A218_1, c218_1, A218_2, c218_2, e218, hx218_0, hx218_1, hx218_2, hl218_1, hi218_1, hl218_2, hi218_2⟩ := at_T37 HR0.out x5_1 p218 q218; obtain rfl : ad216 = ad218 := (by injection e218); have HR218_1 := As hi218_1; have HC218_1 := As hl218_1; clear hi218_1 hl218_1; have HR218_2 := As hi218_2; have HC218_2 := As hl218_2; clear hi218_2 hl218_2; replace p218 := eq_true p218; replace q218 := eq_true q218; have ea_ := Option.some.inj (hx216_1.symm.trans hx218_1); injection ea_ with ea_ en_ ec_; subst ea_; subst ec_; clear en_; have ea_ := Option.some.inj (hx216_2.symm.trans hx218_2); injection ea_ with ea_ en_ ec_; subst ea_; subst ec_; clear en_) | ((with_reducible refine gate_callee (f := 10) rfl ?_); refine goesL_ (some 24) rfl rfl Try.func10 (by kernel_rfl) rfl #[.string ((rd_T37 l0 x5_1).f0)] rfl (by (try simp only [List.map_toArray, List.map_cons, List.map_nil]); first | done | rfl | (simp only [List.length_drop, List.length_take]; rfl)) ?_; (with_reducible refine (waveletref45_Super.calls ((rd_T37 l0 x5_1).f0) false _ A7.out).mono ?_); rintro e w' ⟨rfl, ⟨nd, rfl⟩⟩; refine ⟨_, rfl, ?_⟩; have p223 : 0 ≤ (x5_1 : Int) := of_decide_eq_true (by first | (with_reducible assumption) | assumption); have q223 : x5_1 < (l0.length : Int) := of_decide_eq_true (by first | (with_reducible assumption) | assumption); obtain ⟨ad223, A223_1, c223_1, A223_2, c223_2, e223, hx223_0, hx223_1, hx223_2, hl223_1, hi223_1, hl223_2, hi223_2⟩ := at_T37 HR0.out x5_1 p223 q223; obtain rfl : ad216 = ad223 := (by injection e223); have HR223_1 := As hi223_1; have HC223_1 := As hl223_1; clear hi223_1 hl223_1; have HR223_2 := As hi223_2; have HC223_2 := As hl223_2; clear hi223_2 hl223_2; replace p223 := eq_true p223; replace q223 := eq_true q223; have ea_ := Option.some.inj (hx216_1.symm.trans hx223_1); injection ea_ with ea_ en_ ec_; subst ea_; subst ec_; clear en_; have ea_ := Option.some.inj (hx216_2.symm.trans hx223_2); injection ea_ with ea_ en_ ec_; subst ea_; subst ec_; clear en_))
        go_roundg k1
        case measure => have := HK1.out; omega
        case rel => exact ⟨(wrap64 (x5_1 + 1)), (by first | rfl | (simp; done) | (simp [*]; done)), H', ⟨by have := HK1.out; omega⟩, by repeat (first | exact Drawn0.refl _ | apply Drawn0.step)⟩
     ·
      replace c6 := Bool.eq_false_iff.mpr c6
      subst c6
      have H1 : (some false) = some r := by rw [if_neg (show ¬ (false = true) by decide)] at H; exact H
      clear H
      have H := H1
      clear H1
      obtain rfl := Option.some.inj H
      have p216 : 0 ≤ (x5_1 : Int) := of_decide_eq_true (by first | (with_reducible assumption) | assumption)
      have q216 : x5_1 < (l0.length : Int) := of_decide_eq_true (by first | (with_reducible assumption) | assumption)
      obtain ⟨ad216, A216_1, c216_1, A216_2, c216_2, e216, hx216_0, hx216_1, hx216_2, hl216_1, hi216_1, hl216_2, hi216_2⟩ := at_T37 HR0.out x5_1 p216 q216
      cases e216
      have HR216_1 := As hi216_1
      have HC216_1 := As hl216_1
      clear hi216_1 hl216_1
      have HR216_2 := As hi216_2
      have HC216_2 := As hl216_2
      clear hi216_2 hl216_2
      replace p216 := eq_true p216
      replace q216 := eq_true q216
      go_wp2_with (first | ((with_reducible refine gate_callee (f := 12) rfl ?_); refine goesL_ (some 17) rfl rfl Try.func12 (by kernel_rfl) rfl #[.string ((rd_T37 l0 x5_1).f0)] rfl (by (try simp only [List.map_toArray, List.map_cons, List.map_nil]); first | done | rfl | (simp only [List.length_drop, List.length_take]; rfl)) ?_; (with_reducible refine (waveletref45_Known.calls ((rd_T37 l0 x5_1).f0) false _ A5.out).mono ?_); rintro e w' ⟨rfl, ⟨nd, rfl⟩⟩; refine ⟨_, rfl, ?_⟩))
      go_ret
      exact ⟨by first | rfl | (simp; done) | (simp [*]; done), by repeat (first | exact Drawn0.refl _ | apply Drawn0.step)⟩
    ·
     rw [if_neg c4] at H
     exact absurd H (by simp)
   ·
    rw [if_neg c3] at H
    have c3b0 : decide (x5_1 < (l0.length : Int)) = false := decide_eq_false c3
    clear c3
    obtain rfl := Option.some.inj H
    go_wp2
    go_ret
    exact ⟨by first | rfl | (simp; done) | (simp [*]; done), by repeat (first | exact Drawn0.refl _ | apply Drawn0.step)⟩

/-! ### waveletref45_size: function 31 -/
mutual
def waveletref45_size.l0 : Nat → List (S37) → Int → Int → Option (Int)
 | 0, _, _, _ => none
 | k + 1, x0, x3, x4 => if x4 < (x0.length : Int) then (if 0 ≤ x4 then ((waveletref45_size.f k ((rd_T37 x0 x4).f2)).bind fun t226 => (waveletref45_size.l0 k x0 (wrap64 ((wrap64 ((wrap64 (x3 + 8)) + (((rd_T37 x0 x4).f1).length : Int))) + t226)) (wrap64 (x4 + 1)))) else (none)) else (some x3)
def waveletref45_size.f : Nat → List (S37) → Option (Int)
 | 0, _ => none
 | k + 1, l0 => waveletref45_size.l0 k l0 0 0
end
theorem waveletref45_size.mono_l : ∀ k, (∀ y0, LeO (waveletref45_size.f k y0) (waveletref45_size.f (k + 1) y0)) ∧ (∀ y0 y1 y2, LeO (waveletref45_size.l0 k y0 y1 y2) (waveletref45_size.l0 (k + 1) y0 y1 y2))
 | 0 => ⟨fun _ r h => by simp [waveletref45_size.f] at h, fun _ _ _ r h => by simp [waveletref45_size.l0] at h⟩
 | k + 1 => by
  obtain ⟨ih0, ih1⟩ := waveletref45_size.mono_l k
  refine ⟨?_, ?_⟩
  ·
   intro y0
   unfold waveletref45_size.f
   repeat' first
   | (with_reducible exact ih0 _)
   | (with_reducible exact ih1 _ _ _)
   | (with_reducible exact LeO.refl _)
   | (with_reducible exact LeO.none _)
   | (with_reducible refine LeO.ite ?_ ?_)
   | (with_reducible refine LeO.bind ?_ (fun _ => ?_))
   | exact ih0 _
   | exact ih1 _ _ _
   | exact LeO.none _
   | refine LeO.ite ?_ ?_
   | refine LeO.bind ?_ (fun _ => ?_)
  ·
   intro y0 y1 y2
   unfold waveletref45_size.l0
   repeat' first
   | (with_reducible exact ih0 _)
   | (with_reducible exact ih1 _ _ _)
   | (with_reducible exact LeO.refl _)
   | (with_reducible exact LeO.none _)
   | (with_reducible refine LeO.ite ?_ ?_)
   | (with_reducible refine LeO.bind ?_ (fun _ => ?_))
   | exact ih0 _
   | exact ih1 _ _ _
   | exact LeO.none _
   | refine LeO.ite ?_ ?_
   | refine LeO.bind ?_ (fun _ => ?_)
theorem waveletref45_size.mono : ∀ a0 k, LeO (waveletref45_size.f k a0) (waveletref45_size.f (k + 1) a0) := by
 intro a0 k
 obtain ⟨ih0, ih1⟩ := waveletref45_size.mono_l k
 exact ih0 a0
def waveletref45_size.T5 : Bool × List (List Nat × List Nat) := (true, [([], []), ([0], [0]), ([], []), ([], []), ([2, 3], [2, 3]), ([4], [4]), ([5], [5]), ([6], [6]), ([1, 7], [1, 7]), ([], []), ([], []), ([9, 10], [9, 10]), ([11], [11]), ([12], [12]), ([13], [13]), ([8, 14], [8, 14]), ([15, 14, 0, 1, 2, 3, 4, 5, 6, 7, 8, 9, 10, 11, 12, 13, 14, 15], [0, 15])])
def waveletref45_size.B5 : List Nat := [0, 1, 0, 0, 12, 28, 60, 124, 255, 0, 0, 1536, 3584, 7680, 15872, 32767, 65535]
theorem waveletref45_size.tab5 : rtab .any (opsOf Try.f31 5) = waveletref45_size.T5 := by kernel_rfl
theorem waveletref45_size.bits5 : waitsOk waveletref45_size.T5.2 waveletref45_size.B5 = true := by kernel_rfl
set_option maxHeartbeats 8000000 in
set_option maxRecDepth 100000 in
theorem waveletref45_size.calls (k : Nat) : ∀ (A0 : Option Addr) (c0 : Nat) (l0 : List (S37)) (r : Int) (w : World) (hr0 : Kd.C k37 w A0 l0.length l0) (hc0 : l0.length ≤ c0) (h : waveletref45_size.f k l0 = some r),
  Calls Try.prog 31 #[.slice A0 l0.length c0] w fun e w' => e = .returned (.int .i64 r) ∧ Below w.heap.size w w' := by
 induction k using Nat.strongRecOn with
 | _ k ih =>
 intro A0 c0 l0 r w hr0 hc0 h
 cases k with
 | zero => exact absurd h (by simp [waveletref45_size.f])
 | succ k =>
 simp only [waveletref45_size.f] at h
 have HR0 := As hr0
 have HC0 := As hc0
 clear hr0 hc0
 have HB := As (Below.refl w.heap.size w)
 have H : (waveletref45_size.l0 k l0 0 0) = some r := h
 clear h
 have H' := As H
 clear H
 go_enter Try.func31, Try.ntmps31
 go_wp2
 go_loopg [3, 4] k (fun kq v3 v4 w' => ∃ (x3_1 : Int) (x4_1 : Int), v3 = .int .i64 x3_1 ∧ v4 = .int .i64 x4_1 ∧ Aside0 (waveletref45_size.l0 kq l0 x3_1 x4_1 = some r) ∧ Aside0 (kq ≤ k) ∧ Aside0 (Below w.heap.size w w'))
 case atStart => exact ⟨(0), (0), (by first | rfl | (simp; done) | (simp [*]; done)), (by first | rfl | (simp; done) | (simp [*]; done)), H', ⟨Nat.le_refl _⟩, ⟨by repeat (first | (with_reducible first | exact HB.out | apply bla | apply bln | apply bld) | exact HB.out)⟩⟩
 case round =>
  clear H'
  obtain ⟨x3_1, x4_1, rfl, rfl, HA, HK1, HB⟩ := hrel
  cases gk with
  | zero => exact absurd HA.out (by simp [waveletref45_size.l0])
  | succ k1 =>
   have H := HA.out
   clear HA
   simp only [waveletref45_size.l0] at H
   by_cases c2 : x4_1 < (l0.length : Int)
   ·
    rw [if_pos c2] at H
    have c2b0 : decide (x4_1 < (l0.length : Int)) = true := decide_eq_true c2
    clear c2
    by_cases c3 : 0 ≤ x4_1
    ·
     rw [if_pos c3] at H
     have c3b0 : decide (0 ≤ x4_1) = true := decide_eq_true c3
     clear c3
     replace H := Option.bind_eq_some_iff.mp H
     obtain ⟨t226, A40, H⟩ := H
     replace H : (waveletref45_size.l0 k1 l0 (wrap64 ((wrap64 ((wrap64 (x3_1 + 8)) + (((rd_T37 l0 x4_1).f1).length : Int))) + t226)) (wrap64 (x4_1 + 1))) = some r := H
     have A4 := As A40
     clear A40
     have H' := As H
     clear H
     try go_wp2
     have n0_ := As (bld HB.out)
     clear HB
     have HB := n0_
     clear n0_
     have p224 : 0 ≤ (x4_1 : Int) := of_decide_eq_true (by first | (with_reducible assumption) | assumption)
     have q224 : x4_1 < (l0.length : Int) := of_decide_eq_true (by first | (with_reducible assumption) | assumption)
     obtain ⟨ad224, A224_1, c224_1, A224_2, c224_2, e224, hx224_0, hx224_1, hx224_2, hl224_1, hi224_1, hl224_2, hi224_2⟩ := at_T37 HR0.out x4_1 p224 q224
     have hw224_2 := hx224_2
     have hw224_1 := hx224_1
     have hw224_0 := hx224_0
     cases e224
     replace hx224_0 := (HB.out.cell (World.block_lt_of_cell? w _ hx224_0)).trans hx224_0
     replace hx224_1 := (HB.out.cell (World.block_lt_of_cell? w _ hx224_1)).trans hx224_1
     replace hx224_2 := (HB.out.cell (World.block_lt_of_cell? w _ hx224_2)).trans hx224_2
     have HR224_1 := As hi224_1
     have HC224_1 := As hl224_1
     clear hi224_1 hl224_1
     have HR224_2 := As hi224_2
     have HC224_2 := As hl224_2
     clear hi224_2 hl224_2
     replace p224 := eq_true p224
     replace q224 := eq_true q224
     have p225 : 0 ≤ (x4_1 : Int) := of_decide_eq_true (by first | (with_reducible assumption) | assumption)
     have q225 : x4_1 < (l0.length : Int) := of_decide_eq_true (by first | (with_reducible assumption) | assumption)
     obtain ⟨ad225, A225_1, c225_1, A225_2, c225_2, e225, hx225_0, hx225_1, hx225_2, hl225_1, hi225_1, hl225_2, hi225_2⟩ := at_T37 HR0.out x4_1 p225 q225
     have hw225_2 := hx225_2
     have hw225_1 := hx225_1
     have hw225_0 := hx225_0
     obtain rfl : ad224 = ad225 := (by injection e225)
     replace hx225_0 := (HB.out.cell (World.block_lt_of_cell? w _ hx225_0)).trans hx225_0
     replace hx225_1 := (HB.out.cell (World.block_lt_of_cell? w _ hx225_1)).trans hx225_1
     replace hx225_2 := (HB.out.cell (World.block_lt_of_cell? w _ hx225_2)).trans hx225_2
     have HR225_1 := As hi225_1
     have HC225_1 := As hl225_1
     clear hi225_1 hl225_1
     have HR225_2 := As hi225_2
     have HC225_2 := As hl225_2
     clear hi225_2 hl225_2
     replace p225 := eq_true p225
     replace q225 := eq_true q225
     have ea_ := Option.some.inj (hx224_1.symm.trans hx225_1)
     injection ea_ with ea_ en_ ec_
     subst ea_
     subst ec_
     clear en_
     have ea_ := Option.some.inj (hx224_2.symm.trans hx225_2)
     injection ea_ with ea_ en_ ec_
     subst ea_
     subst ec_
     clear en_
     refine start_ (n := 17) (S := fun w' => w'.cell? (ad224.add ((x4_1).toNat * 3)) = some (.string ((rd_T37 l0 x4_1).f0)) ∧ w'.cell? ⟨(ad224.add ((x4_1).toNat * 3)).block, (ad224.add ((x4_1).toNat * 3)).off + 1, none⟩ = some (.slice A224_1 ((rd_T37 l0 x4_1).f1).length c224_1) ∧ w'.cell? ⟨(ad224.add ((x4_1).toNat * 3)).block, (ad224.add ((x4_1).toNat * 3)).off + 2, none⟩ = some (.slice A224_2 ((rd_T37 l0 x4_1).f2).length c224_2) ∧ w'.cell? (ad224.add ((x4_1).toNat * 3)) = some (.string ((rd_T37 l0 x4_1).f0)) ∧ w'.cell? ⟨(ad224.add ((x4_1).toNat * 3)).block, (ad224.add ((x4_1).toNat * 3)).off + 1, none⟩ = some (.slice A224_1 ((rd_T37 l0 x4_1).f1).length c224_1) ∧ w'.cell? ⟨(ad224.add ((x4_1).toNat * 3)).block, (ad224.add ((x4_1).toNat * 3)).off + 2, none⟩ = some (.slice A224_2 ((rd_T37 l0 x4_1).f2).length c224_2)) (ds := []) #[false, false, false, false, false, false, false, false, false, false, false, false, false, false, false, false, false] (by kernel_rfl) rfl rfl ⟨((HB.out.cell (World.block_lt_of_cell? w _ hw224_0)).trans hw224_0), ((HB.out.cell (World.block_lt_of_cell? w _ hw224_1)).trans hw224_1), ((HB.out.cell (World.block_lt_of_cell? w _ hw224_2)).trans hw224_2), ((HB.out.cell (World.block_lt_of_cell? w _ hw225_0)).trans hw225_0), ((HB.out.cell (World.block_lt_of_cell? w _ hw225_1)).trans hw225_1), ((HB.out.cell (World.block_lt_of_cell? w _ hw225_2)).trans hw225_2)⟩ (fun hHeld => ?_); refine with_tabW waveletref45_size.tab5 waveletref45_size.bits5 (fun HT_ HW_ => ?_)
     generalize wr.drew = w5 at HB HR224_1 HR224_2 HR225_1 HR225_2 hx224_0 hx224_1 hx224_2 hx225_0 hx225_1 hx225_2 hHeld ⊢
     refine pure_ (i := 0) (N := some 11) (v := ?_) (a' := ?_) #[true, false, false, false, false, false, false, false, false, false, false, false, false, false, false, false, false] rfl rfl (any_of HT_.out (by kernel_rfl)) (fun _ _ _ h => h) (Or.inl ⟨by rfl, ?_⟩) ?_ ?_
     rotate_left
     ·
      intro w'
      go_simp
      with_reducible rfl
     rotate_left
     ·
      simp only [Act.put, List.setIfInBounds_toArray, List.set_cons_zero, List.set_cons_succ, i64_w, i32_w]
      rfl
     refine pure_ (i := 1) (N := some 12) (v := ?_) (a' := ?_) #[true, true, false, false, false, false, false, false, false, false, false, false, false, false, false, false, false] rfl rfl (any_of HT_.out (by kernel_rfl)) (fun _ _ _ h => h) (Or.inl ⟨by rfl, ?_⟩) ?_ ?_
     rotate_left
     ·
      intro w'
      go_simp
      with_reducible rfl
     rotate_left
     ·
      simp only [Act.put, List.setIfInBounds_toArray, List.set_cons_zero, List.set_cons_succ, i64_w, i32_w]
      rfl
     refine pure_ (i := 2) (N := some 13) (v := ?_) (a' := ?_) #[true, true, true, false, false, false, false, false, false, false, false, false, false, false, false, false, false] rfl rfl (any_of HT_.out (by kernel_rfl)) (fun _ _ _ h => h) (Or.inl ⟨by rfl, ?_⟩) ?_ ?_
     rotate_left
     ·
      intro w'
      go_simp
      with_reducible rfl
     rotate_left
     ·
      simp only [Act.put, List.setIfInBounds_toArray, List.set_cons_zero, List.set_cons_succ, i64_w, i32_w]
      rfl
     refine pure_ (i := 3) (N := some 14) (v := ?_) (a' := ?_) #[true, true, true, true, false, false, false, false, false, false, false, false, false, false, false, false, false] rfl rfl (any_of HT_.out (by kernel_rfl)) (fun _ _ _ h => h) (Or.inl ⟨by rfl, ?_⟩) ?_ ?_
     rotate_left
     ·
      intro w'
      go_simp
      with_reducible rfl
     rotate_left
     ·
      simp only [Act.put, List.setIfInBounds_toArray, List.set_cons_zero, List.set_cons_succ, i64_w, i32_w]
      rfl
     refine pure_ (i := 4) (N := some 15) (v := ?_) (a' := ?_) #[true, true, true, true, true, false, false, false, false, false, false, false, false, false, false, false, false] rfl rfl (any_of HT_.out (by kernel_rfl)) (fun _ _ _ h => h) (Or.inl ⟨by rfl, ?_⟩) ?_ ?_
     rotate_left
     ·
      intro w'
      go_simp
      with_reducible rfl
     rotate_left
     ·
      simp only [Act.put, List.setIfInBounds_toArray, List.set_cons_zero, List.set_cons_succ, i64_w, i32_w]
      rfl
     refine pure_ (i := 5) (N := some 16) (v := ?_) (a' := ?_) #[true, true, true, true, true, true, false, false, false, false, false, false, false, false, false, false, false] rfl rfl (any_of HT_.out (by kernel_rfl)) (fun _ _ _ h => h) (Or.inl ⟨by rfl, ?_⟩) ?_ ?_
     rotate_left
     ·
      intro w'
      go_simp
      with_reducible rfl
     rotate_left
     ·
      simp only [Act.put, List.setIfInBounds_toArray, List.set_cons_zero, List.set_cons_succ, i64_w, i32_w]
      rfl
     refine pure_ (i := 9) (N := some 20) (v := ?_) (a' := ?_) #[true, true, true, true, true, true, false, false, false, true, false, false, false, false, false, false, false] rfl rfl (any_of HT_.out (by kernel_rfl)) (fun _ _ _ h => h) (Or.inl ⟨by rfl, ?_⟩) ?_ ?_
     rotate_left
     ·
      intro w'
      go_simp
      with_reducible rfl
     rotate_left
     ·
      simp only [Act.put, List.setIfInBounds_toArray, List.set_cons_zero, List.set_cons_succ, i64_w, i32_w]
      rfl
     refine pure_ (i := 10) (N := some 21) (v := ?_) (a' := ?_) #[true, true, true, true, true, true, false, false, false, true, true, false, false, false, false, false, false] rfl rfl (any_of HT_.out (by kernel_rfl)) (fun _ _ _ h => h) (Or.inl ⟨by rfl, ?_⟩) ?_ ?_
     rotate_left
     ·
      intro w'
      go_simp
      with_reducible rfl
     rotate_left
     ·
      simp only [Act.put, List.setIfInBounds_toArray, List.set_cons_zero, List.set_cons_succ, i64_w, i32_w]
      rfl
     refine pure_ (i := 11) (N := some 22) (v := ?_) (a' := ?_) #[true, true, true, true, true, true, false, false, false, true, true, true, false, false, false, false, false] rfl rfl (any_of HT_.out (by kernel_rfl)) (fun _ _ _ h => h) (Or.inl ⟨by rfl, ?_⟩) ?_ ?_
     rotate_left
     ·
      intro w'
      go_simp
      with_reducible rfl
     rotate_left
     ·
      simp only [Act.put, List.setIfInBounds_toArray, List.set_cons_zero, List.set_cons_succ, i64_w, i32_w]
      rfl
     refine pure_ (i := 12) (N := some 23) (v := ?_) (a' := ?_) #[true, true, true, true, true, true, false, false, false, true, true, true, true, false, false, false, false] rfl rfl (any_of HT_.out (by kernel_rfl)) (fun _ _ _ h => h) (Or.inl ⟨by rfl, ?_⟩) ?_ ?_
     rotate_left
     ·
      intro w'
      go_simp
      with_reducible rfl
     rotate_left
     ·
      simp only [Act.put, List.setIfInBounds_toArray, List.set_cons_zero, List.set_cons_succ, i64_w, i32_w]
      rfl
     refine take_ (i := 6) (N := some 17) (v := ?_) (a' := ?_) #[true, true, true, true, true, true, true, false, false, true, true, true, true, false, false, false, false] rfl rfl (take_ofW HT_.out HW_.out (by kernel_rfl)) (fun _ _ _ h => h) (Or.inl ⟨by rfl, ?_⟩) hHeld ?_ ?_
     rotate_left
     ·
      rintro w' ⟨s0, s1, s2, s3, s4, s5⟩
      go_simp
      with_reducible rfl
     rotate_left
     ·
      simp only [Act.put, List.setIfInBounds_toArray, List.set_cons_zero, List.set_cons_succ, i64_w, i32_w]
      rfl
     refine pure_ (i := 7) (N := some 18) (v := ?_) (a' := ?_) #[true, true, true, true, true, true, true, true, false, true, true, true, true, false, false, false, false] rfl rfl (any_of HT_.out (by kernel_rfl)) (fun _ _ _ h => h) (Or.inl ⟨by rfl, ?_⟩) ?_ ?_
     rotate_left
     ·
      intro w'
      go_simp
      with_reducible rfl
     rotate_left
     ·
      simp only [Act.put, List.setIfInBounds_toArray, List.set_cons_zero, List.set_cons_succ, i64_w, i32_w]
      rfl
     refine pure_ (i := 8) (N := some 19) (v := ?_) (a' := ?_) #[true, true, true, true, true, true, true, true, true, true, true, true, true, false, false, false, false] rfl rfl (any_of HT_.out (by kernel_rfl)) (fun _ _ _ h => h) (Or.inl ⟨by rfl, ?_⟩) ?_ ?_
     rotate_left
     ·
      intro w'
      go_simp
      with_reducible rfl
     rotate_left
     ·
      simp only [Act.put, List.setIfInBounds_toArray, List.set_cons_zero, List.set_cons_succ, i64_w, i32_w]
      rfl
     refine take_ (i := 13) (N := some 24) (v := ?_) (a' := ?_) #[true, true, true, true, true, true, true, true, true, true, true, true, true, true, false, false, false] rfl rfl (take_ofW HT_.out HW_.out (by kernel_rfl)) (fun _ _ _ h => h) (Or.inl ⟨by rfl, ?_⟩) hHeld ?_ ?_
     rotate_left
     ·
      rintro w' ⟨s0, s1, s2, s3, s4, s5⟩
      go_simp
      with_reducible rfl
     rotate_left
     ·
      simp only [Act.put, List.setIfInBounds_toArray, List.set_cons_zero, List.set_cons_succ, i64_w, i32_w]
      rfl
     refine one_ (i := 14) (N := some 25) #[true, true, true, true, true, true, true, true, true, true, true, true, true, true, true, false, false] rfl rfl (one_of HT_.out (by kernel_rfl)) (by decide) (fun K hK => ?_)
     refine goes_ Try.func31 (by kernel_rfl) rfl #[.slice A224_2 ((rd_T37 l0 x4_1).f2).length c224_2] (by rfl) rfl rfl (by (try simp only [List.map_toArray, List.map_cons, List.map_nil]); first | done | rfl | (simp only [List.length_drop, List.length_take]; rfl)) ?_
     with_reducible refine (ih k1 (by have := HK1.out; omega) _ _ ((rd_T37 l0 x4_1).f2) t226 _ ?side1 ?side2 A4.out).mono ?_
     (case side1 => repeat (first | exact (Kd.C_below HR225_2.out HB.out) | (with_reducible refine Kd.C_alloc ?_ _) | (with_reducible refine Kd.C_drewN ?_ _) | (with_reducible refine Kd.C_drew ?_)))
     (case side2 => exact HC225_2.out)
     rintro e w6 ⟨rfl, hb⟩
     refine ⟨_, rfl, ?_⟩
     have n0_ := As (below_step (by repeat (first | (with_reducible first | exact HB.out | apply bla | apply bln | apply bld) | exact HB.out)) hb)
     clear HB
     have HB := n0_
     clear n0_
     (try clear hb)
     (try clear hb2)
     (try clear hk)
     (try clear hi)
     refine hK.out _ _ ⟨((HB.out.cell (World.block_lt_of_cell? w _ hw224_0)).trans hw224_0), ((HB.out.cell (World.block_lt_of_cell? w _ hw224_1)).trans hw224_1), ((HB.out.cell (World.block_lt_of_cell? w _ hw224_2)).trans hw224_2), ((HB.out.cell (World.block_lt_of_cell? w _ hw225_0)).trans hw225_0), ((HB.out.cell (World.block_lt_of_cell? w _ hw225_1)).trans hw225_1), ((HB.out.cell (World.block_lt_of_cell? w _ hw225_2)).trans hw225_2)⟩ (fun hHeld => ?_)
     clear hK K
     refine norm_ (a' := ?_) ?_ ?_
     rotate_left
     ·
      show Act.put _ (some 25) _ = _
      simp only [Act.put, List.setIfInBounds_toArray, List.set_cons_zero, List.set_cons_succ, i64_w, i32_w]
      rfl
     refine pure_ (i := 15) (N := some 26) (v := ?_) (a' := ?_) #[true, true, true, true, true, true, true, true, true, true, true, true, true, true, true, true, false] rfl rfl (any_of HT_.out (by kernel_rfl)) (fun _ _ _ h => h) (Or.inl ⟨by rfl, ?_⟩) ?_ ?_
     rotate_left
     ·
      intro w'
      go_simp
      with_reducible rfl
     rotate_left
     ·
      simp only [Act.put, List.setIfInBounds_toArray, List.set_cons_zero, List.set_cons_succ, i64_w, i32_w]
      rfl
     refine pure_ (i := 16) (N := some 3) (v := ?_) (a' := ?_) #[true, true, true, true, true, true, true, true, true, true, true, true, true, true, true, true, true] rfl rfl (any_of HT_.out (by kernel_rfl)) (fun _ _ _ h => h) (Or.inl ⟨by rfl, ?_⟩) ?_ ?_
     rotate_left
     ·
      intro w'
      go_simp
      with_reducible rfl
     rotate_left
     ·
      simp only [Act.put, List.setIfInBounds_toArray, List.set_cons_zero, List.set_cons_succ, i64_w, i32_w]
      rfl
     refine done_ (done_of HT_.out (by kernel_rfl)) ?_
     try go_wp2
     go_roundg k1
     case measure => have := HK1.out; omega
     case rel => exact ⟨(wrap64 ((wrap64 ((wrap64 (x3_1 + 8)) + (((rd_T37 l0 x4_1).f1).length : Int))) + t226)), (wrap64 (x4_1 + 1)), (by first | rfl | (simp; done) | (simp [*]; done)), (by first | rfl | (simp; done) | (simp [*]; done)), H', ⟨by have := HK1.out; omega⟩, ⟨by repeat (first | (with_reducible first | exact HB.out | apply bla | apply bln | apply bld) | exact HB.out)⟩⟩
    ·
     rw [if_neg c3] at H
     exact absurd H (by simp)
   ·
    rw [if_neg c2] at H
    have c2b0 : decide (x4_1 < (l0.length : Int)) = false := decide_eq_false c2
    clear c2
    obtain rfl := Option.some.inj H
    go_wp2
    go_ret
    exact ⟨by first | rfl | (simp [errW_none, errW_some] <;> rfl) | (simp [*, errW_none, errW_some] <;> rfl), by repeat (first | (with_reducible first | exact HB.out | apply bla | apply bln | apply bld) | exact HB.out)⟩

/-! ### waveletref45_write: function 32 -/
mutual
def waveletref45_write.l0 : Nat → List (S37) → List Int → Int → Option (List Int)
 | 0, _, _, _ => none
 | k + 1, x0, x3, x4 => if x4 < (x0.length : Int) then (if 0 ≤ x4 then (if x4 ≤ (wrap64 (x4 + 1)) then (if (wrap64 (x4 + 1)) ≤ (x0.length : Int) then ((waveletref45_size.f k ((x0.take ((wrap64 (x4 + 1)) : Int).toNat).drop (x4 : Int).toNat)).bind fun t234 => ((some (([(t234 / 16777216) % 256, (t234 / 65536) % 256, (t234 / 256) % 256, (t234) % 256] : List Int) : List Int)).bind fun y235 => (if x3.length + y235.length < 140737488355328 then ((some (x3 ++ y235 : List Int)).bind fun y238 => (if y238.length + ((rd_T37 x0 x4).f0).size < 140737488355328 then ((some (y238 ++ bytesOf ((rd_T37 x0 x4).f0) : List Int)).bind fun y242 => (if y242.length + ((rd_T37 x0 x4).f1).length < 140737488355328 then ((some (y242 ++ ((rd_T37 x0 x4).f1) : List Int)).bind fun y246 => ((waveletref45_write.f k ((rd_T37 x0 x4).f2)).bind fun t250 => (if y246.length + t250.length < 140737488355328 then (waveletref45_write.l0 k x0 (y246 ++ t250) (wrap64 (x4 + 1))) else (none)))) else (none))) else (none))) else (none)))) else (none)) else (none)) else (none)) else (some x3)
def waveletref45_write.f : Nat → List (S37) → Option (List Int)
 | 0, _ => none
 | k + 1, l0 => waveletref45_write.l0 k l0 (([] : List Int)) 0
end
theorem waveletref45_write.mono_l : ∀ k, (∀ y0, LeO (waveletref45_write.f k y0) (waveletref45_write.f (k + 1) y0)) ∧ (∀ y0 y1 y2, LeO (waveletref45_write.l0 k y0 y1 y2) (waveletref45_write.l0 (k + 1) y0 y1 y2))
 | 0 => ⟨fun _ r h => by simp [waveletref45_write.f] at h, fun _ _ _ r h => by simp [waveletref45_write.l0] at h⟩
 | k + 1 => by
  obtain ⟨ih0, ih1⟩ := waveletref45_write.mono_l k
  refine ⟨?_, ?_⟩
  ·
   intro y0
   unfold waveletref45_write.f
   repeat' first
   | (with_reducible exact ih0 _)
   | (with_reducible exact ih1 _ _ _)
   | (with_reducible exact waveletref45_size.mono _ _)
   | (with_reducible exact LeO.refl _)
   | (with_reducible exact LeO.none _)
   | (with_reducible refine LeO.ite ?_ ?_)
   | (with_reducible refine LeO.bind ?_ (fun _ => ?_))
   | exact ih0 _
   | exact ih1 _ _ _
   | exact waveletref45_size.mono _ _
   | exact LeO.none _
   | refine LeO.ite ?_ ?_
   | refine LeO.bind ?_ (fun _ => ?_)
  ·
   intro y0 y1 y2
   unfold waveletref45_write.l0
   repeat' first
   | (with_reducible exact ih0 _)
   | (with_reducible exact ih1 _ _ _)
   | (with_reducible exact waveletref45_size.mono _ _)
   | (with_reducible exact LeO.refl _)
   | (with_reducible exact LeO.none _)
   | (with_reducible refine LeO.ite ?_ ?_)
   | (with_reducible refine LeO.bind ?_ (fun _ => ?_))
   | exact ih0 _
   | exact ih1 _ _ _
   | exact waveletref45_size.mono _ _
   | exact LeO.none _
   | refine LeO.ite ?_ ?_
   | refine LeO.bind ?_ (fun _ => ?_)
theorem waveletref45_write.mono : ∀ a0 k, LeO (waveletref45_write.f k a0) (waveletref45_write.f (k + 1) a0) := by
 intro a0 k
 obtain ⟨ih0, ih1⟩ := waveletref45_write.mono_l k
 exact ih0 a0
set_option maxHeartbeats 8000000 in
set_option maxRecDepth 100000 in
theorem waveletref45_write.calls (k : Nat) : ∀ (A0 : Option Addr) (c0 : Nat) (l0 : List (S37)) (r : List Int) (w : World) (hr0 : Kd.C k37 w A0 l0.length l0) (hc0 : l0.length ≤ c0) (h : waveletref45_write.f k l0 = some r),
  Calls Try.prog 32 #[.slice A0 l0.length c0] w fun e w' => ∃ v0_ : Value, e = .returned (v0_) ∧ Kd.R (Kd.int .u8) 5 w' w.heap.size (fun _ => True) v0_ r ∧ Below w.heap.size w w' := by
 induction k using Nat.strongRecOn with
 | _ k ih =>
 intro A0 c0 l0 r w hr0 hc0 h
 cases k with
 | zero => exact absurd h (by simp [waveletref45_write.f])
 | succ k =>
 simp only [waveletref45_write.f] at h
 have HR0 := As hr0
 have HC0 := As hc0
 clear hr0 hc0
 have HB := As (Below.refl w.heap.size w)
 have H : (waveletref45_write.l0 k l0 (([] : List Int)) 0) = some r := h
 clear h
 obtain ⟨y227, hy227⟩ : ∃ y_ : List Int, y_ = (([] : List Int)) := ⟨_, rfl⟩
 replace H : (waveletref45_write.l0 k l0 y227 0) = some r := by first | (rw [hy227]; with_reducible exact H) | (have H2_ := (Option.bind_some _ _).symm.trans H; rw [hy227]; with_reducible exact H2_) | (have H2_ := (Option.bind_some _ _).symm.trans H; with_reducible exact H2_) | with_reducible exact H | (rw [hy227]; exact H) | exact H
 have Ny227 := As hy227
 clear hy227
 have H' := As H
 clear H
 go_enter Try.func32, Try.ntmps32
 go_wp2_with (first | ((with_reducible refine gate_dst (N := 6) rfl ?_); refine Kd.R_lit (Kd.int .u8) _ 5 ?hg (N := 6) ?hd (xs := ([] : List Int)) (inner := []) (ok := fun _ => True) (okp := fun _ => True) ?hr ?hp (fun _ hk => hk) trivial (Below.refl _ _) (Nat.le_refl _) (by simp) ?_; (case hd => rfl); (case hg => rfl); (case hr => first | (go_simp; done) | (go_simp; rfl)); (case hp => exact (Reps.none _ _)); intro v228 w2 ho3 hb hg_ hnew_; clear hg_ hnew_; (first | rw [← Ny227.out] at ho3 | (simp only [Int.reduceToNat] at ho3; rw [← Ny227.out] at ho3)); have n0_ := As (Kd.R_lower ho3 (below_size (by repeat (first | (with_reducible first | exact HB.out | apply bla | apply bln | apply bld) | exact HB.out)))); have n1_ := As (below_step (by repeat (first | (with_reducible first | exact HB.out | apply bla | apply bln | apply bld) | exact HB.out)) hb); clear HB; have HO229 := n0_; have HB := n1_; clear n0_ n1_; clear hb ho3))
 go_loopg [3, 4] k (fun kq v3 v4 w' => ∃ (x3_1 : List Int) (x4_1 : Int), v4 = .int .i64 x4_1 ∧ Aside0 (waveletref45_write.l0 kq l0 x3_1 x4_1 = some r) ∧ Aside0 (kq ≤ k) ∧ Aside0 (Kd.R (Kd.int .u8) 5 w' w.heap.size (fun _ => True) v3 x3_1) ∧ Aside0 (Below w.heap.size w w'))
 case atStart => exact ⟨(y227), (0), (by first | rfl | (simp; done) | (simp [*]; done)), H', ⟨Nat.le_refl _⟩, ⟨by (with_reducible repeat (first | apply Kd.Ra | apply Kd.Rn | apply Kd.Rd)); exact HO229.out⟩, ⟨by repeat (first | (with_reducible first | exact HB.out | apply bla | apply bln | apply bld) | exact HB.out)⟩⟩
 case round =>
  clear H'
  try clear p2
  try clear c3
  obtain ⟨x3_1, x4_1, rfl, HA, HK1, HO_3, HB⟩ := hrel
  cases gk with
  | zero => exact absurd HA.out (by simp [waveletref45_write.l0])
  | succ k1 =>
   have H := HA.out
   clear HA
   simp only [waveletref45_write.l0] at H
   by_cases c4 : x4_1 < (l0.length : Int)
   ·
    rw [if_pos c4] at H
    have c4b0 : decide (x4_1 < (l0.length : Int)) = true := decide_eq_true c4
    clear c4
    by_cases c5 : 0 ≤ x4_1
    ·
     rw [if_pos c5] at H
     have c5b0 := eq_true c5
     have c5b1 : decide (0 ≤ x4_1) = true := decide_eq_true c5
     clear c5
     by_cases c6 : x4_1 ≤ (wrap64 (x4_1 + 1))
     ·
      rw [if_pos c6] at H
      have c6b0 := eq_true c6
      have c6b1 : decide (x4_1 ≤ (wrap64 (x4_1 + 1))) = true := decide_eq_true c6
      by_cases c7 : (wrap64 (x4_1 + 1)) ≤ (l0.length : Int)
      ·
       rw [if_pos c7] at H
       have c7b0 := eq_true c7
       have c7b1 : decide ((wrap64 (x4_1 + 1)) ≤ (l0.length : Int)) = true := decide_eq_true c7
       obtain ⟨y230, hy230⟩ : ∃ y_ : List (S37), y_ = ((l0.take ((wrap64 (x4_1 + 1)) : Int).toNat).drop (x4_1 : Int).toNat) := ⟨_, rfl⟩
       replace H : ((waveletref45_size.f k1 y230).bind fun t234 => ((some (([(t234 / 16777216) % 256, (t234 / 65536) % 256, (t234 / 256) % 256, (t234) % 256] : List Int) : List Int)).bind fun y235 => (if x3_1.length + y235.length < 140737488355328 then ((some (x3_1 ++ y235 : List Int)).bind fun y238 => (if y238.length + ((rd_T37 l0 x4_1).f0).size < 140737488355328 then ((some (y238 ++ bytesOf ((rd_T37 l0 x4_1).f0) : List Int)).bind fun y242 => (if y242.length + ((rd_T37 l0 x4_1).f1).length < 140737488355328 then ((some (y242 ++ ((rd_T37 l0 x4_1).f1) : List Int)).bind fun y246 => ((waveletref45_write.f k1 ((rd_T37 l0 x4_1).f2)).bind fun t250 => (if y246.length + t250.length < 140737488355328 then (waveletref45_write.l0 k1 l0 (y246 ++ t250) (wrap64 (x4_1 + 1))) else (none)))) else (none))) else (none))) else (none)))) = some r := by first | (rw [hy230]; with_reducible exact H) | (have H2_ := (Option.bind_some _ _).symm.trans H; rw [hy230]; with_reducible exact H2_) | (have H2_ := (Option.bind_some _ _).symm.trans H; with_reducible exact H2_) | with_reducible exact H | (rw [hy230]; exact H) | exact H
       have Ny230 := As hy230
       clear hy230
       replace H := Option.bind_eq_some_iff.mp H
       obtain ⟨t234, A80, H⟩ := H
       replace H : ((some (([(t234 / 16777216) % 256, (t234 / 65536) % 256, (t234 / 256) % 256, (t234) % 256] : List Int) : List Int)).bind fun y235 => (if x3_1.length + y235.length < 140737488355328 then ((some (x3_1 ++ y235 : List Int)).bind fun y238 => (if y238.length + ((rd_T37 l0 x4_1).f0).size < 140737488355328 then ((some (y238 ++ bytesOf ((rd_T37 l0 x4_1).f0) : List Int)).bind fun y242 => (if y242.length + ((rd_T37 l0 x4_1).f1).length < 140737488355328 then ((some (y242 ++ ((rd_T37 l0 x4_1).f1) : List Int)).bind fun y246 => ((waveletref45_write.f k1 ((rd_T37 l0 x4_1).f2)).bind fun t250 => (if y246.length + t250.length < 140737488355328 then (waveletref45_write.l0 k1 l0 (y246 ++ t250) (wrap64 (x4_1 + 1))) else (none)))) else (none))) else (none))) else (none))) = some r := H
       have A8 := As A80
       clear A80
       obtain ⟨y235, hy235⟩ : ∃ y_ : List Int, y_ = (([(t234 / 16777216) % 256, (t234 / 65536) % 256, (t234 / 256) % 256, (t234) % 256] : List Int)) := ⟨_, rfl⟩
       replace H : (if x3_1.length + y235.length < 140737488355328 then ((some (x3_1 ++ y235 : List Int)).bind fun y238 => (if y238.length + ((rd_T37 l0 x4_1).f0).size < 140737488355328 then ((some (y238 ++ bytesOf ((rd_T37 l0 x4_1).f0) : List Int)).bind fun y242 => (if y242.length + ((rd_T37 l0 x4_1).f1).length < 140737488355328 then ((some (y242 ++ ((rd_T37 l0 x4_1).f1) : List Int)).bind fun y246 => ((waveletref45_write.f k1 ((rd_T37 l0 x4_1).f2)).bind fun t250 => (if y246.length + t250.length < 140737488355328 then (waveletref45_write.l0 k1 l0 (y246 ++ t250) (wrap64 (x4_1 + 1))) else (none)))) else (none))) else (none))) else (none)) = some r := by first | (rw [hy235]; with_reducible exact H) | (have H2_ := (Option.bind_some _ _).symm.trans H; rw [hy235]; with_reducible exact H2_) | (have H2_ := (Option.bind_some _ _).symm.trans H; with_reducible exact H2_) | with_reducible exact H | (rw [hy235]; exact H) | exact H
       have Ny235 := As hy235
       clear hy235
       by_cases c9 : x3_1.length + y235.length < 140737488355328
       ·
        rw [if_pos c9] at H
        have LMc9 := As c9
        clear c9
        obtain ⟨y238, hy238⟩ : ∃ y_ : List Int, y_ = (x3_1 ++ y235) := ⟨_, rfl⟩
        replace H : (if y238.length + ((rd_T37 l0 x4_1).f0).size < 140737488355328 then ((some (y238 ++ bytesOf ((rd_T37 l0 x4_1).f0) : List Int)).bind fun y242 => (if y242.length + ((rd_T37 l0 x4_1).f1).length < 140737488355328 then ((some (y242 ++ ((rd_T37 l0 x4_1).f1) : List Int)).bind fun y246 => ((waveletref45_write.f k1 ((rd_T37 l0 x4_1).f2)).bind fun t250 => (if y246.length + t250.length < 140737488355328 then (waveletref45_write.l0 k1 l0 (y246 ++ t250) (wrap64 (x4_1 + 1))) else (none)))) else (none))) else (none)) = some r := by first | (rw [hy238]; with_reducible exact H) | (have H2_ := (Option.bind_some _ _).symm.trans H; rw [hy238]; with_reducible exact H2_) | (have H2_ := (Option.bind_some _ _).symm.trans H; with_reducible exact H2_) | with_reducible exact H | (rw [hy238]; exact H) | exact H
        have Ny238 := As hy238
        clear hy238
        by_cases c10 : y238.length + ((rd_T37 l0 x4_1).f0).size < 140737488355328
        ·
         rw [if_pos c10] at H
         have LMc10 := As c10
         clear c10
         obtain ⟨y242, hy242⟩ : ∃ y_ : List Int, y_ = (y238 ++ bytesOf ((rd_T37 l0 x4_1).f0)) := ⟨_, rfl⟩
         replace H : (if y242.length + ((rd_T37 l0 x4_1).f1).length < 140737488355328 then ((some (y242 ++ ((rd_T37 l0 x4_1).f1) : List Int)).bind fun y246 => ((waveletref45_write.f k1 ((rd_T37 l0 x4_1).f2)).bind fun t250 => (if y246.length + t250.length < 140737488355328 then (waveletref45_write.l0 k1 l0 (y246 ++ t250) (wrap64 (x4_1 + 1))) else (none)))) else (none)) = some r := by first | (rw [hy242]; with_reducible exact H) | (have H2_ := (Option.bind_some _ _).symm.trans H; rw [hy242]; with_reducible exact H2_) | (have H2_ := (Option.bind_some _ _).symm.trans H; with_reducible exact H2_) | with_reducible exact H | (rw [hy242]; exact H) | exact H
         have Ny242 := As hy242
         clear hy242
         by_cases c11 : y242.length + ((rd_T37 l0 x4_1).f1).length < 140737488355328
         ·
          rw [if_pos c11] at H
          have LMc11 := As c11
          clear c11
          obtain ⟨y246, hy246⟩ : ∃ y_ : List Int, y_ = (y242 ++ ((rd_T37 l0 x4_1).f1)) := ⟨_, rfl⟩
          replace H : ((waveletref45_write.f k1 ((rd_T37 l0 x4_1).f2)).bind fun t250 => (if y246.length + t250.length < 140737488355328 then (waveletref45_write.l0 k1 l0 (y246 ++ t250) (wrap64 (x4_1 + 1))) else (none))) = some r := by first | (rw [hy246]; with_reducible exact H) | (have H2_ := (Option.bind_some _ _).symm.trans H; rw [hy246]; with_reducible exact H2_) | (have H2_ := (Option.bind_some _ _).symm.trans H; with_reducible exact H2_) | with_reducible exact H | (rw [hy246]; exact H) | exact H
          have Ny246 := As hy246
          clear hy246
          replace H := Option.bind_eq_some_iff.mp H
          obtain ⟨t250, A120, H⟩ := H
          replace H : (if y246.length + t250.length < 140737488355328 then (waveletref45_write.l0 k1 l0 (y246 ++ t250) (wrap64 (x4_1 + 1))) else (none)) = some r := H
          have A12 := As A120
          clear A120
          by_cases c13 : y246.length + t250.length < 140737488355328
          ·
           rw [if_pos c13] at H
           have LMc13 := As c13
           clear c13
           obtain ⟨y253, hy253⟩ : ∃ y_ : List Int, y_ = (y246 ++ t250) := ⟨_, rfl⟩
           replace H : (waveletref45_write.l0 k1 l0 y253 (wrap64 (x4_1 + 1))) = some r := by first | (rw [hy253]; with_reducible exact H) | (have H2_ := (Option.bind_some _ _).symm.trans H; rw [hy253]; with_reducible exact H2_) | (have H2_ := (Option.bind_some _ _).symm.trans H; with_reducible exact H2_) | with_reducible exact H | (rw [hy253]; exact H) | exact H
           have Ny253 := As hy253
           clear hy253
           have H' := As H
           clear H
           have q14 : ((wrap64 (x4_1 + 1)) : Int) ≤ ((l0.length : Int) : Int) := of_decide_eq_true (by first | (with_reducible assumption) | assumption)
           obtain ⟨i014, hi014, _, hsz14, _⟩ := info_parts info37
           have hroom14 : l0.length ≤ c0 := HC0.out
           have hC14 : Kd.C k37 _ A0 l0.length l0 := HR0.out
           have ql14 : (x4_1 : Int) ≤ ((wrap64 (x4_1 + 1)) : Int) := of_decide_eq_true (by first | (with_reducible assumption) | assumption)
           have q014 : (0 : Int) ≤ (x4_1 : Int) := of_decide_eq_true (by first | (with_reducible assumption) | assumption)
           have hcut14 := cut_mid (P := Try.prog) 24 37 .i64 .i64 Try.underlying24 hi014 3 hsz14 A0 l0.length c0 x4_1 (wrap64 (x4_1 + 1)) q014 ql14 q14 hroom14
           have hr14 := Kd.C_mid (lo := (x4_1 : Int).toNat) (hi := ((wrap64 (x4_1 + 1)) : Int).toNat) (c := c0) hC14 (by omega) (by omega) hroom14
           obtain ⟨A14, hA14⟩ : ∃ A1, A1 = (if c0 = (x4_1 : Int).toNat then A0 else (A0 : Option Addr).map (·.add ((x4_1 : Int).toNat * 3))) := ⟨_, rfl⟩
           obtain ⟨c14, hc14⟩ : ∃ c1, c1 = c0 - (x4_1 : Int).toNat := ⟨_, rfl⟩
           have hy14 : y230.length = ((wrap64 (x4_1 + 1)) : Int).toNat - (x4_1 : Int).toNat := (by rw [Ny230.out, List.length_drop, List.length_take] <;> omega)
           rw [show ((l0).take ((wrap64 (x4_1 + 1)) : Int).toNat).drop (x4_1 : Int).toNat = y230 from Ny230.out.symm] at hr14
           replace hr14 : Kd.C k37 _ A14 y230.length y230 := (by rw [hA14]; exact hr14)
           rw [← hy14, ← hA14, ← hc14] at hcut14
           have HR233 := As hr14
           have HC233 := As (show y230.length ≤ c14 from by rw [hy14, hc14]; exact Nat.sub_le_sub_right (Nat.le_trans (by omega) hroom14) _)
           clear hr14 hC14 hroom14 hi014 hsz14 hc14
           have KY14 := As hy14
           have KA14 := As hA14
           clear hy14 hA14
           replace q14 := eq_true q14
           go_wp2_with (first | ((with_reducible refine gate_callee (f := 31) rfl ?_); refine goesL_ (some 18) rfl rfl Try.func31 (by kernel_rfl) rfl #[.slice A14 y230.length c14] rfl (by (try simp only [List.map_toArray, List.map_cons, List.map_nil]); first | done | rfl | (simp only [List.length_drop, List.length_take]; rfl)) ?_; (with_reducible refine (waveletref45_size.calls k1 _ _ y230 t234 _ ?side1 ?side2 A8.out).mono ?_); (case side1 => repeat (first | exact (Kd.C_below HR233.out HB.out) | (with_reducible refine Kd.C_alloc ?_ _) | (with_reducible refine Kd.C_drewN ?_ _) | (with_reducible refine Kd.C_drew ?_))); (case side2 => exact HC233.out); rintro e w15 ⟨rfl, hb⟩; refine ⟨_, rfl, ?_⟩; have n0_ := As (Kd.Rb (by (with_reducible repeat (first | apply Kd.Ra | apply Kd.Rn | apply Kd.Rd)); exact HO_3.out) hb); have n1_ := As (below_step (by repeat (first | (with_reducible first | exact HB.out | apply bla | apply bln | apply bld) | exact HB.out)) hb); clear HO_3; clear HB; have HO_3 := n0_; have HB := n1_; clear n0_ n1_; (try clear hb); (try clear hb2); (try clear hk); (try clear hi)) | ((with_reducible refine gate_dst (N := 31) rfl ?_); refine Kd.R_lit (Kd.int .u8) _ 5 ?hg (N := 31) ?hd (xs := ([(t234 / 16777216) % 256, (t234 / 65536) % 256, (t234 / 256) % 256, (t234) % 256] : List Int)) (inner := [.int .u8 ((t234 / 16777216) % 256), .int .u8 ((t234 / 65536) % 256), .int .u8 ((t234 / 256) % 256), .int .u8 ((t234) % 256)]) (ok := fun _ => True) (okp := fun _ => True) ?hr ?hp (fun _ hk => hk) trivial (Below.refl _ _) (Nat.le_refl _) (by simp) ?_; (case hd => rfl); (case hg => rfl); (case hr => first | (go_simp; done) | (go_simp; rfl)); (case hp => exact (Reps.one (show Kd.M (Kd.int .u8) _ _ _ ((t234 / 16777216) % 256) [.int .u8 ((t234 / 16777216) % 256)] from rfl) (Reps.one (show Kd.M (Kd.int .u8) _ _ _ ((t234 / 65536) % 256) [.int .u8 ((t234 / 65536) % 256)] from rfl) (Reps.one (show Kd.M (Kd.int .u8) _ _ _ ((t234 / 256) % 256) [.int .u8 ((t234 / 256) % 256)] from rfl) (Reps.one (show Kd.M (Kd.int .u8) _ _ _ ((t234) % 256) [.int .u8 ((t234) % 256)] from rfl) (Reps.none _ _)))))); intro v236 w16 ho17 hb hg_ hnew_; clear hg_ hnew_; (first | rw [← Ny235.out] at ho17 | (simp only [Int.reduceToNat] at ho17; rw [← Ny235.out] at ho17)); have n0_ := As (Kd.R_elder' (by (with_reducible repeat (first | apply Kd.Ra | apply Kd.Rn | apply Kd.Rd)); exact HO_3.out) (Kd.R_base ho17) hb); have n1_ := As (Kd.R_lower (Kd.R_new' ho17 (Kd.R_lt (by (with_reducible repeat (first | apply Kd.Ra | apply Kd.Rn | apply Kd.Rd)); exact HO_3.out))) (below_size (by repeat (first | (with_reducible first | exact HB.out | apply bla | apply bln | apply bld) | exact HB.out)))); have n2_ := As (below_step (by repeat (first | (with_reducible first | exact HB.out | apply bla | apply bln | apply bld) | exact HB.out)) hb); clear HO_3; clear HB; have HO_3 := n0_; have HO237 := n1_; have HB := n2_; clear n0_ n1_ n2_; clear hb ho17; obtain ⟨Ao19, co19, eo19⟩ := Kd.R_slice HO237.out; subst eo19) | ((with_reducible refine gate_builtin (b := .append) (xs := #[.tmp 19, .tmp 31]) rfl ?_); at_builtin; refine Kd.R_append_rows (Kd.int .u8) (w0 := w) w.heap.size rfl (.tmp 19) (.tmp 31) 26 5 (.int .u8 0) 1 rfl Try.underlying26 info5 rfl (by decide) (by omega) u3 x3_1 y235 _ _ _ (fun k_ => some k_ ≠ (.slice Ao19 y235.length co19 : Value).ownBlock) (fun _ => False) rfl rfl ?aO ?aR (fun _ _ h => h) (fun _ h => h.elim) ?aF ?aB ?aS ?aL ?_; (case aR => repeat (first | exact (Kd.R_reads' HO237.out).2.2 | (with_reducible refine Kd.C_alloc ?_ _) | (with_reducible refine Kd.C_drewN ?_ _) | (with_reducible refine Kd.C_drew ?_))); (case aB => exact (by repeat (first | (with_reducible first | exact HB.out | apply bla | apply bln | apply bld) | exact HB.out))); (case aF => exact (fun k_ hk => Kd.fresh' (Kd.R_lt (by (with_reducible repeat (first | apply Kd.Ra | apply Kd.Rn | apply Kd.Rd)); exact HO237.out)) k_ hk)); (case aO => exact (by (with_reducible repeat (first | apply Kd.Ra | apply Kd.Rn | apply Kd.Rd)); exact Kd.R_mono HO_3.out (fun _ hk => hk.2))); (case aS => exact (below_size (by repeat (first | (with_reducible first | exact HB.out | apply bla | apply bln | apply bld) | exact HB.out)))); (case aL => have := LMc9.out; omega); intro v239 w18 ho hb hg hat; rw [← Ny238.out] at ho; have n0_ := As (Kd.R_after (ok := (fun _ => True)) (by (with_reducible repeat (first | apply Kd.Ra | apply Kd.Rn | apply Kd.Rd)); exact HO237.out) hg hat); have n1_ := As (hb); have n2_ := As (ho); clear HO237; clear HB; clear HO_3; have HO237 := n0_; have HB := n1_; have HO240 := n2_; clear n0_ n1_ n2_; clear ho hb hg hat; have p241 : 0 ≤ (x4_1 : Int) := of_decide_eq_true (by first | (with_reducible assumption) | assumption); have q241 : x4_1 < (l0.length : Int) := of_decide_eq_true (by first | (with_reducible assumption) | assumption); obtain ⟨ad241, A241_1, c241_1, A241_2, c241_2, e241, hx241_0, hx241_1, hx241_2, hl241_1, hi241_1, hl241_2, hi241_2⟩ := at_T37 HR0.out x4_1 p241 q241; cases e241; replace hx241_0 := (HB.out.cell (World.block_lt_of_cell? w _ hx241_0)).trans hx241_0; replace hx241_1 := (HB.out.cell (World.block_lt_of_cell? w _ hx241_1)).trans hx241_1; replace hx241_2 := (HB.out.cell (World.block_lt_of_cell? w _ hx241_2)).trans hx241_2; have HR241_1 := As hi241_1; have HC241_1 := As hl241_1; clear hi241_1 hl241_1; have HR241_2 := As hi241_2; have HC241_2 := As hl241_2; clear hi241_2 hl241_2; replace p241 := eq_true p241; replace q241 := eq_true q241) | (at_builtin; refine R_append_str (w0 := w) w.heap.size rfl (.tmp 33) _ 26 9 5 rfl Try.underlying26 Try.underlying9 info5 v239 y238 ((rd_T37 l0 x4_1).f0) (fun k_ => some k_ ≠ (.slice Ao19 y235.length co19 : Value).ownBlock) rfl rfl ?aF ?aO ?aB ?aS ?aL ?_; (case aB => exact (by repeat (first | (with_reducible first | exact HB.out | apply bla | apply bln | apply bld) | exact HB.out))); (case aF => exact (fun k_ hk => Kd.fresh' (Kd.R_lt (by (with_reducible repeat (first | apply Kd.Ra | apply Kd.Rn | apply Kd.Rd)); exact HO237.out)) k_ hk)); (case aO => exact (by (with_reducible repeat (first | apply Kd.Ra | apply Kd.Rn | apply Kd.Rd)); exact HO240.out)); (case aS => exact (below_size (by repeat (first | (with_reducible first | exact HB.out | apply bla | apply bln | apply bld) | exact HB.out)))); (case aL => have := LMc10.out; omega); intro v243 w20 ho hb hg hat; rw [← Ny242.out] at ho; change Kd.R (Kd.int .u8) 5 w20 w.heap.size (fun k_ => some k_ ≠ (.slice Ao19 y235.length co19 : Value).ownBlock) v243 y242 at ho; have n0_ := As (Kd.R_after (ok := (fun _ => True)) (by (with_reducible repeat (first | apply Kd.Ra | apply Kd.Rn | apply Kd.Rd)); exact HO237.out) hg hat); have n1_ := As (hb); have n2_ := As (ho); clear HO237; clear HB; clear HO240; have HO237 := n0_; have HB := n1_; have HO244 := n2_; clear n0_ n1_ n2_; clear ho hb hg hat; have p245 : 0 ≤ (x4_1 : Int) := of_decide_eq_true (by first | (with_reducible assumption) | assumption); have q245 : x4_1 < (l0.length : Int) := of_decide_eq_true (by first | (with_reducible assumption) | assumption); obtain ⟨ad245, A245_1, c245_1, A245_2, c245_2, e245, hx245_0, hx245_1, hx245_2, hl245_1, hi245_1, hl245_2, hi245_2⟩ := at_T37 HR0.out x4_1 p245 q245; obtain rfl : ad241 = ad245 := (by injection e245); replace hx245_0 := (HB.out.cell (World.block_lt_of_cell? w _ hx245_0)).trans hx245_0; replace hx245_1 := (HB.out.cell (World.block_lt_of_cell? w _ hx245_1)).trans hx245_1; replace hx245_2 := (HB.out.cell (World.block_lt_of_cell? w _ hx245_2)).trans hx245_2; have HR245_1 := As hi245_1; have HC245_1 := As hl245_1; clear hi245_1 hl245_1; have HR245_2 := As hi245_2; have HC245_2 := As hl245_2; clear hi245_2 hl245_2; replace p245 := eq_true p245; replace q245 := eq_true q245) | ((with_reducible refine gate_builtin (b := .append) (xs := #[.tmp 40, .tmp 45]) rfl ?_); at_builtin; refine Kd.R_append_rows (Kd.int .u8) (w0 := w) w.heap.size rfl (.tmp 40) (.tmp 45) 26 5 (.int .u8 0) 1 rfl Try.underlying26 info5 rfl (by decide) (by omega) v243 y242 ((rd_T37 l0 x4_1).f1) _ _ _ (fun k_ => some k_ ≠ (.slice Ao19 y235.length co19 : Value).ownBlock) (fun _ => False) rfl rfl ?aO ?aR (fun _ _ h => h) (fun _ h => h.elim) ?aF ?aB ?aS ?aL ?_; (case aR => repeat (first | exact (Kd.C_below HR245_1.out HB.out) | (with_reducible refine Kd.C_alloc ?_ _) | (with_reducible refine Kd.C_drewN ?_ _) | (with_reducible refine Kd.C_drew ?_))); (case aB => exact (by repeat (first | (with_reducible first | exact HB.out | apply bla | apply bln | apply bld) | exact HB.out))); (case aF => exact (fun k_ hk => Kd.fresh' (Kd.R_lt (by (with_reducible repeat (first | apply Kd.Ra | apply Kd.Rn | apply Kd.Rd)); exact HO237.out)) k_ hk)); (case aO => exact (by (with_reducible repeat (first | apply Kd.Ra | apply Kd.Rn | apply Kd.Rd)); exact HO244.out)); (case aS => exact (below_size (by repeat (first | (with_reducible first | exact HB.out | apply bla | apply bln | apply bld) | exact HB.out)))); (case aL => have := LMc11.out; omega); intro v247 w21 ho hb hg hat; rw [← Ny246.out] at ho; have n0_ := As (Kd.R_after (ok := (fun _ => True)) (by (with_reducible repeat (first | apply Kd.Ra | apply Kd.Rn | apply Kd.Rd)); exact HO237.out) hg hat); have n1_ := As (hb); have n2_ := As (ho); clear HO237; clear HB; clear HO244; have HO237 := n0_; have HB := n1_; have HO248 := n2_; clear n0_ n1_ n2_; clear ho hb hg hat; have p249 : 0 ≤ (x4_1 : Int) := of_decide_eq_true (by first | (with_reducible assumption) | assumption); have q249 : x4_1 < (l0.length : Int) := of_decide_eq_true (by first | (with_reducible assumption) | assumption); obtain ⟨ad249, A249_1, c249_1, A249_2, c249_2, e249, hx249_0, hx249_1, hx249_2, hl249_1, hi249_1, hl249_2, hi249_2⟩ := at_T37 HR0.out x4_1 p249 q249; obtain rfl : ad241 = ad249 := (by injection e249); replace hx249_0 := (HB.out.cell (World.block_lt_of_cell? w _ hx249_0)).trans hx249_0; replace hx249_1 := (HB.out.cell (World.block_lt_of_cell? w _ hx249_1)).trans hx249_1; replace hx249_2 := (HB.out.cell (World.block_lt_of_cell? w _ hx249_2)).trans hx249_2; have HR249_1 := As hi249_1; have HC249_1 := As hl249_1; clear hi249_1 hl249_1; have HR249_2 := As hi249_2; have HC249_2 := As hl249_2; clear hi249_2 hl249_2; replace p249 := eq_true p249; replace q249 := eq_true q249) | ((with_reducible refine gate_callee (f := 32) rfl ?_); refine goesL_ (some 53) rfl rfl Try.func32 (by kernel_rfl) rfl #[.slice A249_2 ((rd_T37 l0 x4_1).f2).length c249_2] rfl (by (try simp only [List.map_toArray, List.map_cons, List.map_nil]); first | done | rfl | (simp only [List.length_drop, List.length_take]; rfl)) ?_; (with_reducible refine (ih k1 (by have := HK1.out; omega) _ _ ((rd_T37 l0 x4_1).f2) t250 _ ?side1 ?side2 A12.out).mono ?_); (case side1 => repeat (first | exact (Kd.C_below HR249_2.out HB.out) | (with_reducible refine Kd.C_alloc ?_ _) | (with_reducible refine Kd.C_drewN ?_ _) | (with_reducible refine Kd.C_drew ?_))); (case side2 => exact HC249_2.out); rintro e w22 ⟨v251, rfl, ho0, hb⟩; refine ⟨_, rfl, ?_⟩; have n0_ := As (Kd.R_elder' (by (with_reducible repeat (first | apply Kd.Ra | apply Kd.Rn | apply Kd.Rd)); exact HO237.out) (Kd.R_base ho0) hb); have n1_ := As (Kd.R_elder' (by (with_reducible repeat (first | apply Kd.Ra | apply Kd.Rn | apply Kd.Rd)); exact HO248.out) (Kd.R_base ho0) hb); have n2_ := As (Kd.R_lower (Kd.R_new' (Kd.R_new' ho0 (Kd.R_lt (by (with_reducible repeat (first | apply Kd.Ra | apply Kd.Rn | apply Kd.Rd)); exact HO237.out))) (Kd.R_lt (by (with_reducible repeat (first | apply Kd.Ra | apply Kd.Rn | apply Kd.Rd)); exact HO248.out))) (below_size (by repeat (first | (with_reducible first | exact HB.out | apply bla | apply bln | apply bld) | exact HB.out)))); have n3_ := As (below_step (by repeat (first | (with_reducible first | exact HB.out | apply bla | apply bln | apply bld) | exact HB.out)) hb); clear HO237; clear HO248; clear HB; have HO237 := n0_; have HO248 := n1_; have HO252 := n2_; have HB := n3_; clear n0_ n1_ n2_ n3_; (try clear hb); (try clear hb2); (try clear hk); (try clear hi); (try clear ho0); obtain ⟨Ao24, co24, eo24⟩ := Kd.R_slice HO252.out; subst eo24) | ((with_reducible refine gate_builtin (b := .append) (xs := #[.tmp 47, .tmp 53]) rfl ?_); at_builtin; refine Kd.R_append_rows (Kd.int .u8) (w0 := w) w.heap.size rfl (.tmp 47) (.tmp 53) 26 5 (.int .u8 0) 1 rfl Try.underlying26 info5 rfl (by decide) (by omega) v247 y246 t250 _ _ _ (fun k_ => some k_ ≠ (.slice Ao19 y235.length co19 : Value).ownBlock ∧ some k_ ≠ (.slice Ao24 t250.length co24 : Value).ownBlock) (fun _ => False) rfl rfl ?aO ?aR (fun _ _ h => h) (fun _ h => h.elim) ?aF ?aB ?aS ?aL ?_; (case aR => repeat (first | exact (Kd.R_reads' HO252.out).2.2 | (with_reducible refine Kd.C_alloc ?_ _) | (with_reducible refine Kd.C_drewN ?_ _) | (with_reducible refine Kd.C_drew ?_))); (case aB => exact (by repeat (first | (with_reducible first | exact HB.out | apply bla | apply bln | apply bld) | exact HB.out))); (case aF => exact (fun k_ hk => ⟨Kd.fresh' (Kd.R_lt (by (with_reducible repeat (first | apply Kd.Ra | apply Kd.Rn | apply Kd.Rd)); exact HO237.out)) k_ hk, Kd.fresh' (Kd.R_lt (by (with_reducible repeat (first | apply Kd.Ra | apply Kd.Rn | apply Kd.Rd)); exact HO252.out)) k_ hk⟩)); (case aO => exact (by (with_reducible repeat (first | apply Kd.Ra | apply Kd.Rn | apply Kd.Rd)); exact HO248.out)); (case aS => exact (below_size (by repeat (first | (with_reducible first | exact HB.out | apply bla | apply bln | apply bld) | exact HB.out)))); (case aL => have := LMc13.out; omega); intro v254 w23 ho hb hg hat; rw [← Ny253.out] at ho; have n0_ := As (Kd.R_after (ok := (fun k_ => some k_ ≠ (.slice Ao24 t250.length co24 : Value).ownBlock)) (by (with_reducible repeat (first | apply Kd.Ra | apply Kd.Rn | apply Kd.Rd)); exact Kd.R_mono HO237.out (fun _ hk => ⟨hk.2, hk.1.2⟩)) hg hat); have n1_ := As (Kd.R_after (ok := (fun k_ => some k_ ≠ (.slice Ao19 y235.length co19 : Value).ownBlock)) (by (with_reducible repeat (first | apply Kd.Ra | apply Kd.Rn | apply Kd.Rd)); exact Kd.R_mono HO252.out (fun _ hk => ⟨hk.1.2, hk.2⟩)) hg hat); have n2_ := As (hb); have n3_ := As (ho); clear HO237; clear HO252; clear HB; clear HO248; have HO237 := n0_; have HO252 := n1_; have HB := n2_; have HO255 := n3_; clear n0_ n1_ n2_ n3_; clear ho hb hg hat))
           go_roundg k1
           case measure => have := HK1.out; omega
           case rel => exact ⟨(y253), (wrap64 (x4_1 + 1)), (by first | rfl | (simp; done) | (simp [*]; done)), H', ⟨by have := HK1.out; omega⟩, ⟨by (with_reducible repeat (first | apply Kd.Ra | apply Kd.Rn | apply Kd.Rd)); exact Kd.R_mono HO255.out (fun _ hk => trivial)⟩, ⟨by repeat (first | (with_reducible first | exact HB.out | apply bla | apply bln | apply bld) | exact HB.out)⟩⟩
          ·
           rw [if_neg c13] at H
           exact absurd H (by simp)
         ·
          rw [if_neg c11] at H
          exact absurd H (by simp)
        ·
         rw [if_neg c10] at H
         exact absurd H (by simp)
       ·
        rw [if_neg c9] at H
        exact absurd H (by simp)
      ·
       rw [if_neg c7] at H
       exact absurd H (by simp)
     ·
      rw [if_neg c6] at H
      exact absurd H (by simp)
    ·
     rw [if_neg c5] at H
     exact absurd H (by simp)
   ·
    rw [if_neg c4] at H
    have c4b0 : decide (x4_1 < (l0.length : Int)) = false := decide_eq_false c4
    clear c4
    obtain rfl := Option.some.inj H
    go_wp2
    go_ret
    exact ⟨_, by first | rfl | (simp [errW_none, errW_some] <;> rfl) | (simp [*, errW_none, errW_some] <;> rfl), by (with_reducible repeat (first | apply Kd.Ra | apply Kd.Rn | apply Kd.Rd)); exact HO_3.out, by repeat (first | (with_reducible first | exact HB.out | apply bla | apply bln | apply bld) | exact HB.out)⟩

end Go.Proofs.Ytfemdpjgglhpnaa.P
