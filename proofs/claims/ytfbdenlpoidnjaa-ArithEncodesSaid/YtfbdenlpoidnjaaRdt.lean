/- The reference's decoder: its state over arith's own plain state; NewDecoder, next, and what a nil decoder answers. -/
import Derived.Test.YtfbdenlpoidnjaaSta
import Derived.Test.YtfbdenlpoidnjaaPx2
import Derived.BigQuiet
set_option linter.unusedVariables false
set_option linter.unusedSimpArgs false
namespace Go.Proofs.Ytfbdenlpoidnjaa.P
open Go.RowKit Go.Proofs.YtfbdenlpoidnjaaW.PrintWords Go.Proofs.YtfbdenlpoidnjaaW.PrintLast Go.Proofs.YtfbdenlpoidnjaaW.PrintMore

/-- The reference's decoder at g: as arith's, but its place counts on behind the end (at most to n). -/
def RDecAt (b : Nat) (w : World) (S : Nat → Prop) (g : Nat) (s : DecS) (n : Nat) : Prop :=
  ∃ (vp vo : Value) (ra : Nat), w.heap[g]? = some (.cells #[vp, vo, .int .i64 ra, .int .i64 s.value, .int .i64 s.size, .bool s.started] 83) ∧ S g ∧ b ≤ g ∧ Kd.R (Kd.int .i64) 3 w b S vp s.p ∧ Kd.R (Kd.int .u8) 5 w b S vo s.data ∧ s.at_ = ((min ra s.data.length : Nat) : Int) ∧ ra ≤ n
theorem RDecAt.kept {b n : Nat} {w w' : World} {S T : Nat → Prop} {g : Nat} {s : DecS} (h : RDecAt b w S g s n) (hk : Kept w w' T) (hd : ∀ k, S k → ¬ T k) : RDecAt b w' S g s n := by
  obtain ⟨vp, vo, ra, h1, h2, h3, h4, h5, h6⟩ := h
  exact ⟨vp, vo, ra, (hk.2 g (blk_lt h1) (hd g h2)).trans h1, h2, h3, Kd.R_step h4 (fun k hs hl => hk.2 k hl (hd k hs)), Kd.R_step h5 (fun k hs hl => hk.2 k hl (hd k hs)), h6⟩
theorem RDecAt.mono {b n : Nat} {w : World} {S T : Nat → Prop} {g : Nat} {s : DecS} (h : RDecAt b w S g s n) (hs : ∀ k, S k → T k) : RDecAt b w T g s n := by
  obtain ⟨vp, vo, ra, h1, h2, h3, h4, h5, h6⟩ := h
  exact ⟨vp, vo, ra, h1, hs g h2, h3, Kd.R_mono h4 hs, Kd.R_mono h5 hs, h6⟩
theorem RDecAt.lower {b b' n : Nat} {w : World} {S : Nat → Prop} {g : Nat} {s : DecS} (h : RDecAt b w S g s n) (hb : b' ≤ b) : RDecAt b' w S g s n := by
  obtain ⟨vp, vo, ra, h1, h2, h3, h4, h5, h6⟩ := h
  exact ⟨vp, vo, ra, h1, h2, by omega, Kd.R_lower h4 hb, Kd.R_lower h5 hb, h6⟩
theorem RDecAt.up {b n m : Nat} {w : World} {S : Nat → Prop} {g : Nat} {s : DecS} (h : RDecAt b w S g s n) (hm : n ≤ m) : RDecAt b w S g s m := by
  obtain ⟨vp, vo, ra, h1, h2, h3, h4, h5, h6, h7⟩ := h
  exact ⟨vp, vo, ra, h1, h2, h3, h4, h5, h6, by omega⟩
theorem RDecAt.bound {b n : Nat} {w : World} {S : Nat → Prop} {g : Nat} {s : DecS} (h : RDecAt b w S g s n) : RDecAt b w (fun k => S k ∧ b ≤ k ∧ k < w.heap.size) g s n := by
  obtain ⟨vp, vo, ra, h1, h2, h3, h4, h5, h6⟩ := h
  exact ⟨vp, vo, ra, h1, ⟨h2, h3, blk_lt h1⟩, h3, Kd.R_mono (Kd.R_bound h4) (fun k hk => ⟨hk.1, hk.2.1, hk.2.2.1⟩), Kd.R_mono (Kd.R_bound h5) (fun k hk => ⟨hk.1, hk.2.1, hk.2.2.1⟩), h6⟩
theorem RDecAt.below {b n : Nat} {w w' : World} {S : Nat → Prop} {g : Nat} {s : DecS} (h : RDecAt b w S g s n) (hb : Below w.heap.size w w') : RDecAt b w' S g s n :=
  h.kept (Kept.of_below hb (fun _ => False)) (fun _ _ h => h)
theorem initial_f (n : Nat) (h : n ≤ 1000) : Ev (fun k => waveletref11_initial.f k (n : Int)) (List.replicate n 2048) := by
  have hl : ∀ m i : Nat, i + m = n → Ev (fun k => waveletref11_initial.l0 k (n : Int) (List.replicate i 2048) (i : Int)) (List.replicate n 2048) := by
    intro m
    induction m with
    | zero =>
      intro i hi
      obtain rfl : i = n := by omega
      exact Ev.step (f := fun _ => some (List.replicate i 2048)) (fun k => by rw [waveletref11_initial.l0, if_neg (by omega)]) (Ev.now _)
    | succ m ih =>
      intro i hi
      refine Ev.step (fun k => ?_) (ih (i + 1) (by omega))
      rw [waveletref11_initial.l0, if_pos (by omega), if_pos (by rw [List.length_replicate]; omega), wrap64_id (by omega) (by omega), List.replicate_succ']
      rfl
  exact hl n 0 (by omega)
theorem initial.calls (n : Nat) (w : World) (h : n ≤ 1000) : Calls Try.prog 40 #[.int .i64 n] w fun e w' => ∃ v : Value, e = .returned v ∧ Kd.R (Kd.int .i64) 3 w' w.heap.size (fun _ => True) v (List.replicate n 2048) ∧ Below w.heap.size w w' := by
  obtain ⟨k, hk⟩ := (initial_f n h).rounds
  exact waveletref11_initial.calls k n _ w hk
set_option maxHeartbeats 8000000 in
set_option maxRecDepth 100000 in
theorem RNewDecoder.good (n : Nat) (w : World) (h0 : 1 ≤ n) (h1 : n ≤ 64) :
    Calls Try.prog 32 #[.int .i64 n] w fun e w' => ∃ g : Nat, e = .returned (.tuple #[.pointer (some ⟨g, 0, none⟩), .int .i64 0]) ∧ RDecAt w.heap.size w' (fun _ => True) g (newD n) 0 ∧ Below w.heap.size w w' := by
  have g1 : ¬ (n : Int) < 1 := by omega
  have g2 : ¬ (64 : Int) < (n : Int) := by omega
  have HN := Aside0.mk (And.intro h0 h1)
  clear h0 h1
  go_enter Try.func32, Try.ntmps32
  go_wp2_with (go_at_call 40; (with_reducible refine (initial.calls n _ (by have := HN.out.2; omega)).mono ?_); rintro e w5 ⟨vp, rfl, hR, hb⟩; have e5 : ∃ A c, vp = .slice A n c := (by obtain ⟨A, c, h⟩ := Kd.R_slice hR; exact ⟨A, c, by simpa using h⟩); obtain ⟨A5, c5, rfl⟩ := e5; have HR := Aside0.mk hR; have HB := Aside0.mk hb; clear hR hb)
  go_ret2
  exact ⟨_, rfl, ⟨_, _, 0, heap_alloc_new w5 _, trivial, HB.out.size, Kd.R_alloc HR.out _, Kd.R_nil _ _ _ _ _, rfl, Nat.le_refl _⟩, below_alloc HB.out _⟩
theorem RNewDecoder.bad (n : Int) (w : World) (h : n < 1 ∨ 64 < n) :
    Calls Try.prog 32 #[.int .i64 n] w fun e w' => e = .returned (.tuple #[.pointer none, .int .i64 2]) ∧ Below w.heap.size w w' := by
  by_cases h1 : n < 1
  · clear h
    go_enter Try.func32, Try.ntmps32
    go_wp2
    go_ret2
    exact ⟨rfl, Below.refl _ _⟩
  · have h2 : 64 < n := by omega
    clear h
    go_enter Try.func32, Try.ntmps32
    go_wp2
    go_ret2
    exact ⟨rfl, Below.refl _ _⟩
theorem RStart.nil (x : Value) (w : World) : Calls Try.prog 34 #[.pointer none, x] w fun e w' => e = .returned (.int .i64 6) ∧ w' = w := by
  go_enter Try.func34, Try.ntmps34
  go_wp2
  go_ret
  exact ⟨rfl, rfl⟩
theorem RDecode.nil (i : Int) (w : World) : Calls Try.prog 38 #[.pointer none, .int .i64 i] w fun e w' => e = .returned (.tuple #[.int .i64 0, .int .i64 6]) ∧ w' = w := by
  go_enter Try.func38, Try.ntmps38
  go_wp2
  go_ret2
  exact ⟨rfl, rfl⟩
theorem RDReset.nil (w : World) : Calls Try.prog 36 #[.pointer none] w fun e w' => e = .returned (.tuple #[]) ∧ w' = w := by
  go_enter Try.func36, Try.ntmps36
  go_wp2
  first | go_end0 | ((try simp only [Exit.inBlock, Exit.then]); refine bodyPost_ret (results_none rfl _ _ _) rfl ?_)
  exact ⟨rfl, rfl⟩
set_option maxHeartbeats 4000000 in
set_option maxRecDepth 100000 in
theorem Rnext.more (w : World) (g : Nat) (ad : Addr) (n c at_ : Nat) (x : Int) (x1 : w.cell? ⟨g, 1, none⟩ = some (.slice (some ad) n c)) (x2 : w.cell? ⟨g, 2, none⟩ = some (.int .i64 at_)) (f2 : w.frozen? ⟨g, 2, none⟩ = false) (hlt : at_ < n) (hn : n ≤ 1000000) (hne : ad.block ≠ g) (hab : (ad.add at_).block = ad.block) (hx : w.cell? (ad.add at_) = some (.int .u8 x)) (h0 : 0 ≤ x) (h1 : x < 256) :
    Calls Try.prog 52 #[.pointer (some ⟨g, 0, none⟩)] w fun e w' => e = .returned (.int .i64 x) ∧ ∃ n1 n2, w' = ((w.drewN n1).setCell ⟨g, 2, none⟩ (.int .i64 ((at_ : Int) + 1))).drewN n2 := by
  have g1 : (at_ : Int) < (n : Int) := by omega
  have g2 : (at_ : Int) ≤ 1000000 := by omega
  have g3 : ¬ (n : Int) < (at_ : Int) + 1 := by omega
  have hw : wrap64 ((at_ : Int) + 1) = (at_ : Int) + 1 := by unfold wrap64; omega
  have hw2 : wrap64 ((at_ : Int) + 1 - 1) = (at_ : Int) := by unfold wrap64; omega
  have hw3 : wrap64 x = x := by unfold wrap64; omega
  have hw4 : IntKind.i64.wrap (at_ : Int) = (at_ : Int) := (i64_w _).trans (wrap64_id (by omega) (by omega))
  go_enter Try.func52, Try.ntmps52
  have d1 : ∀ m, ((w.drewN m).setCell ⟨g, 2, none⟩ (.int .i64 ((at_ : Int) + 1))).cell? ⟨g, 1, none⟩ = some (.slice (some ad) n c) := fun m => (World.cell?_setCell_other _ _ _ _ (by simp)).trans x1
  have d2 : ∀ m, ((w.drewN m).setCell ⟨g, 2, none⟩ (.int .i64 ((at_ : Int) + 1))).cell? ⟨g, 2, none⟩ = some (.int .i64 ((at_ : Int) + 1)) := fun m => World.cell?_setCell_same _ _ _ x2
  have d3 : ∀ m, ((w.drewN m).setCell ⟨g, 2, none⟩ (.int .i64 ((at_ : Int) + 1))).cell? (ad.add at_) = some (.int .u8 x) := fun m => (World.cell?_setCell_other _ _ _ _ (fun e => hne (by rw [← hab, ← e]))).trans hx
  have d4 : (w.setCell ⟨g, 2, none⟩ (.int .i64 ((at_ : Int) + 1))).cell? (ad.add at_) = some (.int .u8 x) := d3 0
  have g0 : (0 : Int) ≤ (at_ : Int) := by omega
  go_wp2
  go_quiet (fail)
  go_wp2
  go_quiet (fail)
  go_wp2
  go_ret
  exact ⟨rfl, 0, _, by rw [World.drewN_drewN]; rfl⟩
theorem Rnext.done (w : World) (g : Nat) (A : Option Addr) (n c at_ : Nat) (x1 : w.cell? ⟨g, 1, none⟩ = some (.slice A n c)) (x2 : w.cell? ⟨g, 2, none⟩ = some (.int .i64 at_)) (f2 : w.frozen? ⟨g, 2, none⟩ = false) (hge : ¬ at_ < n) (hb : at_ ≤ 2000000) :
    Calls Try.prog 52 #[.pointer (some ⟨g, 0, none⟩)] w fun e w' => e = .returned (.int .i64 0) ∧ ∃ n1 n2, w' = ((w.drewN n1).setCell ⟨g, 2, none⟩ (.int .i64 ((at_ : Int) + 1))).drewN n2 := by
  have g1 : (n : Int) < (at_ : Int) + 1 := by omega
  have g2 : (at_ : Int) ≤ 2000000 := by omega
  have g0 : (0 : Int) ≤ (at_ : Int) := by omega
  have hw : wrap64 ((at_ : Int) + 1) = (at_ : Int) + 1 := by unfold wrap64; omega
  go_enter Try.func52, Try.ntmps52
  have d1 : ∀ m, ((w.drewN m).setCell ⟨g, 2, none⟩ (.int .i64 ((at_ : Int) + 1))).cell? ⟨g, 1, none⟩ = some (.slice A n c) := fun m => (World.cell?_setCell_other _ _ _ _ (by simp)).trans x1
  have d2 : ∀ m, ((w.drewN m).setCell ⟨g, 2, none⟩ (.int .i64 ((at_ : Int) + 1))).cell? ⟨g, 2, none⟩ = some (.int .i64 ((at_ : Int) + 1)) := fun m => World.cell?_setCell_same _ _ _ x2
  go_wp2
  go_quiet (fail)
  go_wp2
  go_ret
  exact ⟨rfl, 0, _, rfl⟩
end Go.Proofs.Ytfbdenlpoidnjaa.P
