/- The small methods of models and encoders. -/
import Derived.Test.YtfbdenlpoidnjaaEst
import Derived.Deep.RegionWith
set_option linter.unusedVariables false
set_option linter.unusedSimpArgs false
namespace Go.Proofs.Ytfbdenlpoidnjaa.P
open Go.RowKit Go.Proofs.YtfbdenlpoidnjaaW.PrintWords Go.Proofs.YtfbdenlpoidnjaaW.PrintLast Go.Proofs.YtfbdenlpoidnjaaW.PrintMore

/-- The probability after a bit. -/
def adaptP (p bit : Int) : Int := if bit = 0 then p + (4096 - p) / 32 else p - p / 32
theorem adapt_f (p bit : Int) (h0 : 0 ≤ p) (h1 : p ≤ 4096) (hb : bit = 0 ∨ bit = 1) : Ev (fun k => arith_Adapt.f k p bit) (adaptP p bit) := by
  refine ⟨1, fun k hk => ?_⟩
  obtain ⟨k, rfl⟩ : ∃ j, k = j + 1 := ⟨k - 1, by omega⟩
  unfold arith_Adapt.f
  have d : Int.tdiv (wrap64 (4096 - p)) 32 = (4096 - p) / 32 := by
    rw [show wrap64 (4096 - p) = 4096 - p by unfold wrap64; omega, Int.tdiv_eq_ediv_of_nonneg (by omega)]
  have d2 : Int.tdiv p 32 = p / 32 := Int.tdiv_eq_ediv_of_nonneg h0
  show (if p < 0 then arith_Adapt.j0 (k + 1) p bit true else arith_Adapt.j0 (k + 1) p bit (decide (p > 4096))) = some (adaptP p bit)
  rw [if_neg (by omega), decide_eq_false (by omega), arith_Adapt.j0, if_neg (by decide), d, d2]
  unfold adaptP
  rcases hb with rfl | rfl
  · rw [if_pos rfl, if_pos rfl]
    congr 1
    unfold wrap64
    omega
  · rw [if_neg (by decide), if_pos rfl, if_neg (by decide)]
    congr 1
    unfold wrap64
    omega
theorem split_le (size x : Int) (h0 : 0 ≤ size) (h1 : 0 ≤ x) (h2 : x ≤ 4096) : 0 ≤ size / 4096 * x ∧ size / 4096 * x ≤ size := by
  have q : 0 ≤ size / 4096 := by omega
  have a := Int.mul_le_mul_of_nonneg_left h2 q
  have b := Int.mul_nonneg q h1
  exact ⟨b, by omega⟩
theorem valid.nil (w : World) : Calls Try.prog 42 #[.pointer none] w fun e w' => e = .returned (.bool false) ∧ w' = w := by
  go_enter Try.func42, Try.ntmps42
  go_wp2
  go_ret
  exact ⟨rfl, rfl⟩
theorem valid.at (w : World) (g n c : Nat) (A : Option Addr) (hc : w.cell? ⟨g, 0, none⟩ = some (.slice A n c)) (h0 : 0 < n) : Calls Try.prog 42 #[.pointer (some ⟨g, 0, none⟩)] w fun e w' => e = .returned (.bool true) ∧ w' = w := by
  have h1 : (0 : Int) < (n : Int) := by omega
  go_enter Try.func42, Try.ntmps42
  go_wp2
  go_ret
  exact ⟨rfl, rfl⟩
theorem valid.zero (w : World) (g c : Nat) (A : Option Addr) (hc : w.cell? ⟨g, 0, none⟩ = some (.slice A 0 c)) : Calls Try.prog 42 #[.pointer (some ⟨g, 0, none⟩)] w fun e w' => e = .returned (.bool false) ∧ w' = w := by
  go_enter Try.func42, Try.ntmps42
  go_wp2
  go_ret
  exact ⟨rfl, rfl⟩
theorem has.yes (w : World) (g n c : Nat) (A : Option Addr) (hc : w.cell? ⟨g, 0, none⟩ = some (.slice A n c)) (i : Int) (h0 : 0 ≤ i) (h1 : i < n) : Calls Try.prog 47 #[.pointer (some ⟨g, 0, none⟩), .int .i64 i] w fun e w' => e = .returned (.bool true) ∧ w' = w := by
  go_enter Try.func47, Try.ntmps47
  go_wp2
  go_ret
  exact ⟨rfl, rfl⟩
theorem has.no (w : World) (g n c : Nat) (A : Option Addr) (hc : w.cell? ⟨g, 0, none⟩ = some (.slice A n c)) (i : Int) (h : ¬ (0 ≤ i ∧ i < n)) : Calls Try.prog 47 #[.pointer (some ⟨g, 0, none⟩), .int .i64 i] w fun e w' => e = .returned (.bool false) ∧ w' = w := by
  by_cases h0 : 0 ≤ i
  · have h1 : ¬ i < (n : Int) := fun hh => h ⟨h0, hh⟩
    clear h
    go_enter Try.func47, Try.ntmps47
    go_wp2
    go_ret
    exact ⟨rfl, rfl⟩
  · clear h
    go_enter Try.func47, Try.ntmps47
    go_wp2
    go_ret
    exact ⟨rfl, rfl⟩
theorem split.calls (w : World) (g n c b : Nat) (hc : w.cell? ⟨g, 0, none⟩ = some (.slice (some ⟨b, 0, none⟩) n c)) (i : Nat) (x size : Int) (h1 : i < n) (hx : w.cell? ⟨b, i, none⟩ = some (.int .i64 x)) (hs0 : 0 ≤ size) (hs1 : size < 4294967296) (hx0 : 0 ≤ x) (hx1 : x ≤ 4096) :
    Calls Try.prog 48 #[.pointer (some ⟨g, 0, none⟩), .int .i64 i, .int .i64 size] w fun e w' => e = .returned (.int .i64 (size / 4096 * x)) ∧ w' = w := by
  have h2 : (0 : Int) ≤ (i : Int) := by omega
  have h3 : (i : Int) < (n : Int) := by omega
  go_enter Try.func48, Try.ntmps48
  go_wp2
  go_ret
  refine ⟨?_, rfl⟩
  have hb := split_le size x hs0 hx0 hx1
  show Ending.returned (.int .i64 (wrap64 (size / 4096 * x))) = _
  rw [show wrap64 (size / 4096 * x) = size / 4096 * x by unfold wrap64; omega]
theorem keep_other {w : World} {g b i j nd : Nat} {u v : Value} (h : g ≠ b) (hc : w.cell? ⟨g, j, none⟩ = some u) : ((w.drewN nd).setCell ⟨b, i, none⟩ v).cell? ⟨g, j, none⟩ = some u :=
  (World.cell?_setCell_other _ _ _ _ (fun e => h (by injection e with e1; exact e1.symm))).trans hc
set_option maxHeartbeats 2000000 in
theorem adapt.calls (w : World) (g n c b : Nat) (hc : w.cell? ⟨g, 0, none⟩ = some (.slice (some ⟨b, 0, none⟩) n c)) (i : Nat) (x bit : Int) (h1 : i < n) (hx : w.cell? ⟨b, i, none⟩ = some (.int .i64 x)) (hf : w.frozen? ⟨b, i, none⟩ = false) (hx0 : 0 ≤ x) (hx1 : x ≤ 4096) (hbit : bit = 0 ∨ bit = 1) (hgb : g ≠ b) :
    Calls Try.prog 49 #[.pointer (some ⟨g, 0, none⟩), .int .i64 i, .int .i64 bit] w fun e w' => e = .returned (.tuple #[]) ∧ ∃ nd, w' = (w.drewN nd).setCell ⟨b, i, none⟩ (.int .i64 (adaptP x bit)) := by
  have h2 : (0 : Int) ≤ (i : Int) := by omega
  have h3 : (i : Int) < (n : Int) := by omega
  obtain ⟨k, hk⟩ := (adapt_f x bit hx0 hx1 hbit).rounds
  have HK := Aside0.mk hk
  clear hk
  go_enter Try.func49, Try.ntmps49
  go_wp2
  go_region_with (go_at_call 11; (with_reducible refine (arith_Adapt.calls k _ _ _ _ HK.out).mono ?_); rintro e w1 ⟨rfl, ⟨n1, rfl⟩⟩)
  all_goals go_wp2
  all_goals first | go_end0 | ((try simp only [Exit.inBlock, Exit.then]); refine bodyPost_ret (results_none rfl _ _ _) rfl ?_)
  all_goals exact ⟨rfl, _, rfl⟩
end Go.Proofs.Ytfbdenlpoidnjaa.P
