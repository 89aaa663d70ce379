/- What lies behind a pointer to an encoder: its cells, its probabilities and its bytes; NewEncoder. -/
import Derived.Test.YtfbdenlpoidnjaaNem
set_option linter.unusedVariables false
set_option linter.unusedSimpArgs false
namespace Go.Proofs.Ytfbdenlpoidnjaa.P
open Go.RowKit Go.Proofs.YtfbdenlpoidnjaaW.PrintWords Go.Proofs.YtfbdenlpoidnjaaW.PrintLast Go.Proofs.YtfbdenlpoidnjaaW.PrintMore

/-- An encoder in plain terms. -/
structure EncS where
  p : List Int
  out : List Int
  low : Int
  size : Int
  begun : Bool
/-- The blocks of the encoder at g are new since b, and in S. -/
def EncAt (b : Nat) (w : World) (S : Nat → Prop) (g : Nat) (s : EncS) : Prop :=
  ∃ vp vo : Value, w.heap[g]? = some (.cells #[vp, vo, .int .i64 s.low, .int .i64 s.size, .bool s.begun] 64) ∧ S g ∧ b ≤ g ∧ Kd.R (Kd.int .i64) 3 w b S vp s.p ∧ Kd.R (Kd.int .u8) 5 w b S vo s.out
theorem EncAt.kept {b : Nat} {w w' : World} {S T : Nat → Prop} {g : Nat} {s : EncS} (h : EncAt b w S g s) (hk : Kept w w' T) (hd : ∀ k, S k → ¬ T k) : EncAt b w' S g s := by
  obtain ⟨vp, vo, h1, h2, h3, h4, h5⟩ := h
  exact ⟨vp, vo, (hk.2 g (blk_lt h1) (hd g h2)).trans h1, h2, h3, Kd.R_step h4 (fun k hs hl => hk.2 k hl (hd k hs)), Kd.R_step h5 (fun k hs hl => hk.2 k hl (hd k hs))⟩
theorem EncAt.mono {b : Nat} {w : World} {S T : Nat → Prop} {g : Nat} {s : EncS} (h : EncAt b w S g s) (hs : ∀ k, S k → T k) : EncAt b w T g s := by
  obtain ⟨vp, vo, h1, h2, h3, h4, h5⟩ := h
  exact ⟨vp, vo, h1, hs g h2, h3, Kd.R_mono h4 hs, Kd.R_mono h5 hs⟩
theorem EncAt.lower {b b' : Nat} {w : World} {S : Nat → Prop} {g : Nat} {s : EncS} (h : EncAt b w S g s) (hb : b' ≤ b) : EncAt b' w S g s := by
  obtain ⟨vp, vo, h1, h2, h3, h4, h5⟩ := h
  exact ⟨vp, vo, h1, h2, by omega, Kd.R_lower h4 hb, Kd.R_lower h5 hb⟩
/-- Its blocks are there, and new since b. -/
theorem EncAt.bound {b : Nat} {w : World} {S : Nat → Prop} {g : Nat} {s : EncS} (h : EncAt b w S g s) : EncAt b w (fun k => S k ∧ b ≤ k ∧ k < w.heap.size) g s := by
  obtain ⟨vp, vo, h1, h2, h3, h4, h5⟩ := h
  exact ⟨vp, vo, h1, ⟨h2, h3, blk_lt h1⟩, h3, Kd.R_mono (Kd.R_bound h4) (fun k hk => ⟨hk.1, hk.2.1, hk.2.2.1⟩), Kd.R_mono (Kd.R_bound h5) (fun k hk => ⟨hk.1, hk.2.1, hk.2.2.1⟩)⟩
theorem EncAt.below {b : Nat} {w w' : World} {S : Nat → Prop} {g : Nat} {s : EncS} (h : EncAt b w S g s) (hb : Below w.heap.size w w') : EncAt b w' S g s :=
  h.kept (Kept.of_below hb (fun _ => False)) (fun _ _ h => h)
/-- A new encoder. -/
def newE (n : Nat) : EncS := ⟨List.replicate n 2048, [], 0, 4294967295, false⟩
set_option maxHeartbeats 8000000 in
set_option maxRecDepth 100000 in
theorem NewEncoder.good (n : Nat) (w : World) (h0 : 1 ≤ n) (h1 : n ≤ 64) :
    Calls Try.prog 15 #[.int .i64 n] w fun e w' => ∃ g : Nat, e = .returned (.tuple #[.pointer (some ⟨g, 0, none⟩), .int .i64 0]) ∧ EncAt w.heap.size w' (fun _ => True) g (newE n) ∧ Below w.heap.size w w' := by
  have g1 : ¬ (n : Int) < 1 := by omega
  have g2 : ¬ (64 : Int) < (n : Int) := by omega
  have HN := Aside0.mk (And.intro h0 h1)
  clear h0 h1
  go_enter Try.func15, Try.ntmps15
  go_wp2_with (go_at_call 39; (with_reducible refine (newModels.calls n _ HN.out.1 HN.out.2).mono ?_); rintro e w5 ⟨vp, rfl, hR, hb⟩; have e5 : ∃ A c, vp = .slice A n c := (by obtain ⟨A, c, h⟩ := Kd.R_slice hR; exact ⟨A, c, by simpa using h⟩); obtain ⟨A5, c5, rfl⟩ := e5; have HR := Aside0.mk hR; have HB := Aside0.mk hb; clear hR hb)
  go_ret2
  exact ⟨_, rfl, ⟨_, _, heap_alloc_new w5 _, trivial, HB.out.size, Kd.R_alloc HR.out _, Kd.R_nil _ _ _ _ _⟩, below_alloc HB.out _⟩
set_option maxHeartbeats 8000000 in
set_option maxRecDepth 100000 in
theorem NewEncoder.bad (n : Int) (w : World) (h : n < 1 ∨ 64 < n) :
    Calls Try.prog 15 #[.int .i64 n] w fun e w' => e = .returned (.tuple #[.pointer none, .int .i64 2]) ∧ Below w.heap.size w w' := by
  by_cases h1 : n < 1
  · clear h
    go_enter Try.func15, Try.ntmps15
    go_wp2
    go_ret2
    exact ⟨rfl, Below.refl _ _⟩
  · have h2 : 64 < n := by omega
    clear h
    go_enter Try.func15, Try.ntmps15
    go_wp2
    go_ret2
    exact ⟨rfl, Below.refl _ _⟩
end Go.Proofs.Ytfbdenlpoidnjaa.P
