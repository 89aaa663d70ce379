/- Reset of an encoder: the first probabilities. -/
import Derived.Test.YtfbdenlpoidnjaaEsz
set_option linter.unusedVariables false
set_option linter.unusedSimpArgs false
namespace Go.Proofs.Ytfbdenlpoidnjaa.P
open Go.RowKit Go.Proofs.YtfbdenlpoidnjaaW.PrintWords Go.Proofs.YtfbdenlpoidnjaaW.PrintLast Go.Proofs.YtfbdenlpoidnjaaW.PrintMore

theorem EncAt.restart {b : Nat} {w w' : World} {S : Nat → Prop} {g : Nat} {s : EncS} {vp vo : Value} {q : List Int} (h1 : w.heap[g]? = some (.cells #[vp, vo, .int .i64 s.low, .int .i64 s.size, .bool s.begun] 64)) (h2 : S g) (h3 : b ≤ g) (h4 : Kd.R (Kd.int .i64) 3 w b S vp s.p) (h5 : Kd.R (Kd.int .u8) 5 w b S vo s.out)
    (hR : Kd.R (Kd.int .i64) 3 w' b S vp q) (hk : Kept w w' (fun k => some k = vp.ownBlock)) : EncAt b w' S g ⟨q, s.out, s.low, s.size, s.begun⟩ := by
  have hne : some g ≠ vp.ownBlock := Kd.R_ne h4 h1 (by decide)
  have h6 := Kd.R_apartR h5 h4 (by decide)
  exact ⟨vp, vo, (hk.2 g (blk_lt h1) hne).trans h1, h2, h3, hR, Kd.R_mono (Kd.R_step h6 (fun k hs hl => hk.2 k hl hs.2)) (fun k hs => hs.1)⟩
theorem Reset.good (w0 w : World) (S : Nat → Prop) (g : Nat) (s : EncS) (hB : Below w0.heap.size w0 w) (h : EncAt w0.heap.size w S g s) (hp : 0 < s.p.length) (hp2 : s.p.length ≤ 1000) : Calls Try.prog 24 #[.pointer (some ⟨g, 0, none⟩)] w fun e w' => e = .returned (.tuple #[]) ∧ EncAt w0.heap.size w' S g ⟨List.replicate s.p.length 2048, s.out, s.low, s.size, s.begun⟩ ∧ Below w0.heap.size w0 w' ∧ Kept w w' S := by
  obtain ⟨vp, vo, h1, h2, h3, h4, h5⟩ := h
  obtain ⟨A, c, e⟩ := Kd.R_slice h4
  have x0 : w.cell? ⟨g, 0, none⟩ = some (.slice A s.p.length c) := by rw [← e]; exact (blk_cell h1 0).trans rfl
  have HV := Aside0.mk (valid.at w g s.p.length c A x0 hp)
  have HM := Aside0.mk (restart.calls w0 w S g vp s.p hB ⟨(blk_cell h1 0).trans rfl, ⟨_, 64, h1, by decide⟩, h4, hp2⟩)
  have HQ := Aside0.mk (fun (w' : World) (hR : Kd.R (Kd.int .i64) 3 w' w0.heap.size S vp (List.replicate s.p.length 2048)) (hk : Kept w w' (fun k => some k = vp.ownBlock)) => And.intro (EncAt.restart h1 h2 h3 h4 h5 hR hk) (Kept.mono hk (fun k hk => h4.1 k hk.symm)))
  generalize List.replicate s.p.length (2048 : Int) = q at *
  clear h1 h2 h3 h4 h5 hp hp2 hB e x0
  go_enter Try.func24, Try.ntmps24
  go_wp2_with (first | (go_at_call 42; (with_reducible refine HV.out.mono ?_); rintro e w1 ⟨rfl, rfl⟩) | (go_at_call 46; (with_reducible refine HM.out.mono ?_); rintro e w2 ⟨rfl, hR, hb, hk⟩))
  first | go_end0 | ((try simp only [Exit.inBlock, Exit.then]); refine bodyPost_ret (results_none rfl _ _ _) rfl ?_)
  exact ⟨rfl, (HQ.out _ hR hk).1, hb, (HQ.out _ hR hk).2⟩
end Go.Proofs.Ytfbdenlpoidnjaa.P
