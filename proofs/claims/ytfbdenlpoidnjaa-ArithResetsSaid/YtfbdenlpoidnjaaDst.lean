/- What lies behind a pointer to a decoder; NewDecoder, Reset, and what a decoder answers that is nil or that no function returned. -/
import Derived.Test.YtfbdenlpoidnjaaEsz
import Derived.Test.YtfbdenlpoidnjaaErs
set_option linter.unusedVariables false
set_option linter.unusedSimpArgs false
namespace Go.Proofs.Ytfbdenlpoidnjaa.P
open Go.RowKit Go.Proofs.YtfbdenlpoidnjaaW.PrintWords Go.Proofs.YtfbdenlpoidnjaaW.PrintLast Go.Proofs.YtfbdenlpoidnjaaW.PrintMore

/-- A decoder in plain terms. -/
structure DecS where
  p : List Int
  data : List Int
  at_ : Int
  value : Int
  size : Int
  started : Bool
/-- The blocks of the decoder at g are new since b, and in S. -/
def DecAt (b : Nat) (w : World) (S : Nat → Prop) (g : Nat) (s : DecS) : Prop :=
  ∃ vp vo : Value, w.heap[g]? = some (.cells #[vp, vo, .int .i64 s.at_, .int .i64 s.value, .int .i64 s.size, .bool s.started] 66) ∧ S g ∧ b ≤ g ∧ Kd.R (Kd.int .i64) 3 w b S vp s.p ∧ Kd.R (Kd.int .u8) 5 w b S vo s.data
theorem DecAt.kept {b : Nat} {w w' : World} {S T : Nat → Prop} {g : Nat} {s : DecS} (h : DecAt b w S g s) (hk : Kept w w' T) (hd : ∀ k, S k → ¬ T k) : DecAt b w' S g s := by
  obtain ⟨vp, vo, h1, h2, h3, h4, h5⟩ := h
  exact ⟨vp, vo, (hk.2 g (blk_lt h1) (hd g h2)).trans h1, h2, h3, Kd.R_step h4 (fun k hs hl => hk.2 k hl (hd k hs)), Kd.R_step h5 (fun k hs hl => hk.2 k hl (hd k hs))⟩
theorem DecAt.mono {b : Nat} {w : World} {S T : Nat → Prop} {g : Nat} {s : DecS} (h : DecAt b w S g s) (hs : ∀ k, S k → T k) : DecAt b w T g s := by
  obtain ⟨vp, vo, h1, h2, h3, h4, h5⟩ := h
  exact ⟨vp, vo, h1, hs g h2, h3, Kd.R_mono h4 hs, Kd.R_mono h5 hs⟩
theorem DecAt.lower {b b' : Nat} {w : World} {S : Nat → Prop} {g : Nat} {s : DecS} (h : DecAt b w S g s) (hb : b' ≤ b) : DecAt b' w S g s := by
  obtain ⟨vp, vo, h1, h2, h3, h4, h5⟩ := h
  exact ⟨vp, vo, h1, h2, by omega, Kd.R_lower h4 hb, Kd.R_lower h5 hb⟩
/-- Its blocks are there, and new since b. -/
theorem DecAt.bound {b : Nat} {w : World} {S : Nat → Prop} {g : Nat} {s : DecS} (h : DecAt b w S g s) : DecAt b w (fun k => S k ∧ b ≤ k ∧ k < w.heap.size) g s := by
  obtain ⟨vp, vo, h1, h2, h3, h4, h5⟩ := h
  exact ⟨vp, vo, h1, ⟨h2, h3, blk_lt h1⟩, h3, Kd.R_mono (Kd.R_bound h4) (fun k hk => ⟨hk.1, hk.2.1, hk.2.2.1⟩), Kd.R_mono (Kd.R_bound h5) (fun k hk => ⟨hk.1, hk.2.1, hk.2.2.1⟩)⟩
theorem DecAt.below {b : Nat} {w w' : World} {S : Nat → Prop} {g : Nat} {s : DecS} (h : DecAt b w S g s) (hb : Below w.heap.size w w') : DecAt b w' S g s :=
  h.kept (Kept.of_below hb (fun _ => False)) (fun _ _ h => h)
/-- A new decoder. -/
def newD (n : Nat) : DecS := ⟨List.replicate n 2048, [], 0, 0, 0, false⟩
set_option maxHeartbeats 8000000 in
set_option maxRecDepth 100000 in
theorem NewDecoder.good (n : Nat) (w : World) (h0 : 1 ≤ n) (h1 : n ≤ 64) :
    Calls Try.prog 16 #[.int .i64 n] w fun e w' => ∃ g : Nat, e = .returned (.tuple #[.pointer (some ⟨g, 0, none⟩), .int .i64 0]) ∧ DecAt w.heap.size w' (fun _ => True) g (newD n) ∧ Below w.heap.size w w' := by
  have g1 : ¬ (n : Int) < 1 := by omega
  have g2 : ¬ (64 : Int) < (n : Int) := by omega
  have HN := Aside0.mk (And.intro h0 h1)
  clear h0 h1
  go_enter Try.func16, Try.ntmps16
  go_wp2_with (go_at_call 39; (with_reducible refine (newModels.calls n _ HN.out.1 HN.out.2).mono ?_); rintro e w5 ⟨vp, rfl, hR, hb⟩; have e5 : ∃ A c, vp = .slice A n c := (by obtain ⟨A, c, h⟩ := Kd.R_slice hR; exact ⟨A, c, by simpa using h⟩); obtain ⟨A5, c5, rfl⟩ := e5; have HR := Aside0.mk hR; have HB := Aside0.mk hb; clear hR hb)
  go_ret2
  exact ⟨_, rfl, ⟨_, _, heap_alloc_new w5 _, trivial, HB.out.size, Kd.R_alloc HR.out _, Kd.R_nil _ _ _ _ _⟩, below_alloc HB.out _⟩
set_option maxHeartbeats 8000000 in
set_option maxRecDepth 100000 in
theorem NewDecoder.bad (n : Int) (w : World) (h : n < 1 ∨ 64 < n) :
    Calls Try.prog 16 #[.int .i64 n] w fun e w' => e = .returned (.tuple #[.pointer none, .int .i64 2]) ∧ Below w.heap.size w w' := by
  by_cases h1 : n < 1
  · clear h
    go_enter Try.func16, Try.ntmps16
    go_wp2
    go_ret2
    exact ⟨rfl, Below.refl _ _⟩
  · have h2 : 64 < n := by omega
    clear h
    go_enter Try.func16, Try.ntmps16
    go_wp2
    go_ret2
    exact ⟨rfl, Below.refl _ _⟩
theorem Dvalid.nil (w : World) : Calls Try.prog 50 #[.pointer none] w fun e w' => e = .returned (.bool false) ∧ w' = w := by
  go_enter Try.func50, Try.ntmps50
  go_wp2
  go_ret
  exact ⟨rfl, rfl⟩
theorem Dvalid.at (w : World) (g n c : Nat) (A : Option Addr) (hc : w.cell? ⟨g, 0, none⟩ = some (.slice A n c)) (h0 : 0 < n) : Calls Try.prog 50 #[.pointer (some ⟨g, 0, none⟩)] w fun e w' => e = .returned (.bool true) ∧ w' = w := by
  have h1 : (0 : Int) < (n : Int) := by omega
  go_enter Try.func50, Try.ntmps50
  go_wp2
  go_ret
  exact ⟨rfl, rfl⟩
theorem Dvalid.zero (w : World) (g c : Nat) (A : Option Addr) (hc : w.cell? ⟨g, 0, none⟩ = some (.slice A 0 c)) : Calls Try.prog 50 #[.pointer (some ⟨g, 0, none⟩)] w fun e w' => e = .returned (.bool false) ∧ w' = w := by
  go_enter Try.func50, Try.ntmps50
  go_wp2
  go_ret
  exact ⟨rfl, rfl⟩
/-- A pointer to no decoder. -/
abbrev BadD (v : Value) (w : World) : Prop := Calls Try.prog 50 #[v] w fun e w' => e = .returned (.bool false) ∧ w' = w
theorem Start.bad (v x : Value) (w : World) (h : BadD v w) : Calls Try.prog 33 #[v, x] w fun e w' => e = .returned (.int .i64 6) ∧ w' = w := by
  have H := Aside0.mk h
  clear h
  go_enter Try.func33, Try.ntmps33
  go_wp2_with (go_at_call 50; (with_reducible refine H.out.mono ?_); rintro e w1 ⟨rfl, rfl⟩)
  go_ret
  exact ⟨rfl, rfl⟩
theorem Decode.bad (v : Value) (i : Int) (w : World) (h : BadD v w) : Calls Try.prog 37 #[v, .int .i64 i] w fun e w' => e = .returned (.tuple #[.int .i64 0, .int .i64 6]) ∧ w' = w := by
  have H := Aside0.mk h
  clear h
  go_enter Try.func37, Try.ntmps37
  go_wp2_with (go_at_call 50; (with_reducible refine H.out.mono ?_); rintro e w1 ⟨rfl, rfl⟩)
  go_ret2
  exact ⟨rfl, rfl⟩
theorem DReset.bad (v : Value) (w : World) (h : BadD v w) : Calls Try.prog 35 #[v] w fun e w' => e = .returned (.tuple #[]) ∧ w' = w := by
  have H := Aside0.mk h
  clear h
  go_enter Try.func35, Try.ntmps35
  go_wp2_with (go_at_call 50; (with_reducible refine H.out.mono ?_); rintro e w1 ⟨rfl, rfl⟩)
  first | go_end0 | ((try simp only [Exit.inBlock, Exit.then]); refine bodyPost_ret (results_none rfl _ _ _) rfl ?_)
  exact ⟨rfl, rfl⟩
theorem DecAt.restart {b : Nat} {w w' : World} {S : Nat → Prop} {g : Nat} {s : DecS} {vp vo : Value} {q : List Int} (h1 : w.heap[g]? = some (.cells #[vp, vo, .int .i64 s.at_, .int .i64 s.value, .int .i64 s.size, .bool s.started] 66)) (h2 : S g) (h3 : b ≤ g) (h4 : Kd.R (Kd.int .i64) 3 w b S vp s.p) (h5 : Kd.R (Kd.int .u8) 5 w b S vo s.data)
    (hR : Kd.R (Kd.int .i64) 3 w' b S vp q) (hk : Kept w w' (fun k => some k = vp.ownBlock)) : DecAt b w' S g ⟨q, s.data, s.at_, s.value, s.size, s.started⟩ := by
  have hne : some g ≠ vp.ownBlock := Kd.R_ne h4 h1 (by decide)
  have h6 := Kd.R_apartR h5 h4 (by decide)
  exact ⟨vp, vo, (hk.2 g (blk_lt h1) hne).trans h1, h2, h3, hR, Kd.R_mono (Kd.R_step h6 (fun k hs hl => hk.2 k hl hs.2)) (fun k hs => hs.1)⟩
theorem DReset.good (w0 w : World) (S : Nat → Prop) (g : Nat) (s : DecS) (hB : Below w0.heap.size w0 w) (h : DecAt w0.heap.size w S g s) (hp : 0 < s.p.length) (hp2 : s.p.length ≤ 1000) : Calls Try.prog 35 #[.pointer (some ⟨g, 0, none⟩)] w fun e w' => e = .returned (.tuple #[]) ∧ DecAt w0.heap.size w' S g ⟨List.replicate s.p.length 2048, s.data, s.at_, s.value, s.size, s.started⟩ ∧ Below w0.heap.size w0 w' ∧ Kept w w' S := by
  obtain ⟨vp, vo, h1, h2, h3, h4, h5⟩ := h
  obtain ⟨A, c, e⟩ := Kd.R_slice h4
  have x0 : w.cell? ⟨g, 0, none⟩ = some (.slice A s.p.length c) := by rw [← e]; exact (blk_cell h1 0).trans rfl
  have HV := Aside0.mk (Dvalid.at w g s.p.length c A x0 hp)
  have HM := Aside0.mk (restart.calls w0 w S g vp s.p hB ⟨(blk_cell h1 0).trans rfl, ⟨_, 66, h1, by decide⟩, h4, hp2⟩)
  have HQ := Aside0.mk (fun (w' : World) (hR : Kd.R (Kd.int .i64) 3 w' w0.heap.size S vp (List.replicate s.p.length 2048)) (hk : Kept w w' (fun k => some k = vp.ownBlock)) => And.intro (DecAt.restart h1 h2 h3 h4 h5 hR hk) (Kept.mono hk (fun k hk => h4.1 k hk.symm)))
  generalize List.replicate s.p.length (2048 : Int) = q at *
  clear h1 h2 h3 h4 h5 hp hp2 hB e x0
  go_enter Try.func35, Try.ntmps35
  go_wp2_with (first | (go_at_call 50; (with_reducible refine HV.out.mono ?_); rintro e w1 ⟨rfl, rfl⟩) | (go_at_call 46; (with_reducible refine HM.out.mono ?_); rintro e w2 ⟨rfl, hR, hb, hk⟩))
  first | go_end0 | ((try simp only [Exit.inBlock, Exit.then]); refine bodyPost_ret (results_none rfl _ _ _) rfl ?_)
  exact ⟨rfl, (HQ.out _ hR hk).1, hb, (HQ.out _ hR hk).2⟩
end Go.Proofs.Ytfbdenlpoidnjaa.P
