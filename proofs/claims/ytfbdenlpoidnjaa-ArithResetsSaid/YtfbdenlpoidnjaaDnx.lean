/- The decoder's next byte. -/
import Derived.Test.YtfbdenlpoidnjaaDst
import Derived.Test.YtfbdenlpoidnjaaEpu
import Derived.BigQuiet
set_option linter.unusedVariables false
set_option linter.unusedSimpArgs false
namespace Go.Proofs.Ytfbdenlpoidnjaa.P
open Go.RowKit Go.Proofs.YtfbdenlpoidnjaaW.PrintWords Go.Proofs.YtfbdenlpoidnjaaW.PrintLast Go.Proofs.YtfbdenlpoidnjaaW.PrintMore

/-- The byte at a place, and 0 behind the end. -/
def nextP (data : List Int) (at_ : Nat) : Int := if at_ < data.length then rd data (at_ : Int) else 0
def nextA (data : List Int) (at_ : Nat) : Nat := if at_ < data.length then at_ + 1 else at_
set_option maxHeartbeats 4000000 in
set_option maxRecDepth 100000 in
theorem Dnext.more (w : World) (g : Nat) (ad : Addr) (n c at_ : Nat) (x : Int) (x1 : w.cell? ⟨g, 1, none⟩ = some (.slice (some ad) n c)) (x2 : w.cell? ⟨g, 2, none⟩ = some (.int .i64 at_)) (f2 : w.frozen? ⟨g, 2, none⟩ = false) (hlt : at_ < n) (hn : n ≤ 1000000) (hne : ad.block ≠ g) (hab : (ad.add at_).block = ad.block) (hx : w.cell? (ad.add at_) = some (.int .u8 x)) (h0 : 0 ≤ x) (h1 : x < 256) :
    Calls Try.prog 51 #[.pointer (some ⟨g, 0, none⟩)] w fun e w' => e = .returned (.int .i64 x) ∧ ∃ n1 n2, w' = ((w.drewN n1).setCell ⟨g, 2, none⟩ (.int .i64 ((at_ : Int) + 1))).drewN n2 := by
  have g1 : (at_ : Int) < (n : Int) := by omega
  have g2 : (at_ : Int) ≤ 1000000 := by omega
  have hw : wrap64 ((at_ : Int) + 1) = (at_ : Int) + 1 := by unfold wrap64; omega
  have hw2 : wrap64 ((at_ : Int) + 1 - 1) = (at_ : Int) := by unfold wrap64; omega
  have hw3 : wrap64 x = x := by unfold wrap64; omega
  go_enter Try.func51, Try.ntmps51
  have d1 : ∀ m, ((w.drewN m).setCell ⟨g, 2, none⟩ (.int .i64 ((at_ : Int) + 1))).cell? ⟨g, 1, none⟩ = some (.slice (some ad) n c) := fun m => (World.cell?_setCell_other _ _ _ _ (by simp)).trans x1
  have d2 : ∀ m, ((w.drewN m).setCell ⟨g, 2, none⟩ (.int .i64 ((at_ : Int) + 1))).cell? ⟨g, 2, none⟩ = some (.int .i64 ((at_ : Int) + 1)) := fun m => World.cell?_setCell_same _ _ _ x2
  have d3 : ∀ m, ((w.drewN m).setCell ⟨g, 2, none⟩ (.int .i64 ((at_ : Int) + 1))).cell? (ad.add at_) = some (.int .u8 x) := fun m => (World.cell?_setCell_other _ _ _ _ (fun e => hne (by rw [← hab, ← e]))).trans hx
  have g0 : (0 : Int) ≤ (at_ : Int) := by omega
  go_wp2
  go_quiet (fail)
  go_wp2
  go_quiet (fail)
  go_wp2
  go_ret
  exact ⟨rfl, _, _, rfl⟩
theorem Dnext.done (w : World) (g : Nat) (A : Option Addr) (n c at_ : Nat) (x1 : w.cell? ⟨g, 1, none⟩ = some (.slice A n c)) (x2 : w.cell? ⟨g, 2, none⟩ = some (.int .i64 at_)) (hge : ¬ at_ < n) :
    Calls Try.prog 51 #[.pointer (some ⟨g, 0, none⟩)] w fun e w' => e = .returned (.int .i64 0) ∧ ∃ nd, w' = w.drewN nd := by
  have g1 : ¬ (at_ : Int) < (n : Int) := by omega
  have g2 : (n : Int) ≤ (at_ : Int) := by omega
  go_enter Try.func51, Try.ntmps51
  go_wp2
  go_quiet (fail)
  go_wp2
  go_ret
  exact ⟨rfl, _, rfl⟩
end Go.Proofs.Ytfbdenlpoidnjaa.P
