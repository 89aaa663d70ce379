/- The reference's Reset of a decoder; two decoders side by side. -/
import Derived.Test.YtfbdenlpoidnjaaRdt
set_option linter.unusedVariables false
set_option linter.unusedSimpArgs false
namespace Go.Proofs.Ytfbdenlpoidnjaa.P
open Go.RowKit Go.Proofs.YtfbdenlpoidnjaaW.PrintWords Go.Proofs.YtfbdenlpoidnjaaW.PrintLast Go.Proofs.YtfbdenlpoidnjaaW.PrintMore

def resetD (s : DecS) : DecS := ⟨List.replicate s.p.length 2048, s.data, s.at_, s.value, s.size, s.started⟩
theorem RDReset.good (w0 w : World) (S : Nat → Prop) (g n : Nat) (s : DecS) (hB : Below w0.heap.size w0 w) (h : RDecAt w0.heap.size w S g s n) (hp2 : s.p.length ≤ 1000) : Calls Try.prog 36 #[.pointer (some ⟨g, 0, none⟩)] w fun e w' => e = .returned (.tuple #[]) ∧ RDecAt w0.heap.size w' (fun k => S k ∨ w.heap.size ≤ k) g (resetD s) n ∧ Below w0.heap.size w0 w' ∧ Kept w w' S := by
  obtain ⟨vp, vo, ra, h1, h2, h3, h4, h5, h6⟩ := h
  obtain ⟨A, c, rfl⟩ := Kd.R_slice h4
  have x0 : w.cell? ⟨g, 0, none⟩ = some (.slice A s.p.length c) := (blk_cell h1 0).trans rfl
  have f0 := blk_frozen h1 0
  have HX := Aside0.mk (And.intro h1 (And.intro h2 (And.intro h3 (And.intro h5 h6))))
  have HB := Aside0.mk hB
  have HP := Aside0.mk hp2
  have HRD : Aside0 (resetD s = ⟨List.replicate s.p.length 2048, s.data, s.at_, s.value, s.size, s.started⟩) := ⟨rfl⟩
  generalize s.p.length = L at *
  clear h1 h2 h3 h4 h5 h6 hB hp2
  go_enter Try.func36, Try.ntmps36
  go_wp2_with (go_at_call 40; (with_reducible refine (initial.calls L _ HP.out).mono ?_); rintro e w5 ⟨vq, rfl, hR, hb⟩; obtain ⟨Aq, cq, eq⟩ := Kd.R_slice hR; subst eq; have BK := blk_below HX.out.1 hb; have d0 : w5.cell? ⟨g, 0, none⟩ = some (.slice A L c) := (blk_cell BK 0).trans rfl; have e0 := blk_frozen BK 0; have HN := Aside0.mk (And.intro BK (And.intro hR hb)); clear BK hR hb)
  first | go_end0 | ((try simp only [Exit.inBlock, Exit.then]); refine bodyPost_ret (results_none rfl _ _ _) rfl ?_)
  rw [HRD.out]
  have r1 := Kd.R_lower (Kd.R_mono (ok' := fun k => S k ∨ w.heap.size ≤ k) (Kd.R_bound HN.out.2.1) (fun k hk => .inr hk.2.1)) HB.out.size
  rw [List.length_replicate] at r1
  have o1 := Kd.R_mono (ok' := fun k => S k ∨ w.heap.size ≤ k) (Kd.R_below HX.out.2.2.2.1 HN.out.2.2) (fun k hk => .inl hk)
  refine ⟨rfl, ⟨_, vo, ra, blk_put HN.out.1 0 _ rfl, .inl HX.out.2.1, HX.out.2.2.1, Kd.R_set r1 HN.out.1 (by decide) 0 _, Kd.R_set o1 HN.out.1 (by decide) 0 _, HX.out.2.2.2.2⟩, below_set (below_then HB.out HB.out.size HN.out.2.2) HX.out.2.2.1, Kept.setCell (Kept.of_below HN.out.2.2 S) (.inl HX.out.2.1) _⟩
/-- Two decoders side by side, in the same plain state. -/
def DPair (w0 w : World) (g1 g2 : Nat) (s : DecS) (n : Nat) : Prop :=
  ∃ S1 S2 : Nat → Prop, DecAt w0.heap.size w S1 g1 s ∧ RDecAt w0.heap.size w S2 g2 s n ∧ (∀ k, S1 k → ¬ S2 k) ∧ (∀ k, S1 k → k < w.heap.size) ∧ (∀ k, S2 k → k < w.heap.size)
theorem DPair.step {w0 wr W0 w3 w4 : World} {S1 S2 : Nat → Prop} {g1 g2 n : Nat} {s : DecS} (ha : ∀ k, S1 k → ¬ S2 k) (h1 : ∀ k, S1 k → k < wr.heap.size) (h2 : ∀ k, S2 k → k < wr.heap.size) (hW : wr.heap.size ≤ W0.heap.size) (hD : DecAt w0.heap.size w3 (fun k => S1 k ∨ W0.heap.size ≤ k) g1 s) (hk1 : W0.heap.size ≤ w3.heap.size) (hR : RDecAt w0.heap.size w4 (fun k => S2 k ∨ w3.heap.size ≤ k) g2 s n) (hk2 : Kept w3 w4 S2) : DPair w0 w4 g1 g2 s n := by
  refine ⟨fun k => (S1 k ∨ W0.heap.size ≤ k) ∧ k < w3.heap.size, fun k => (S2 k ∨ w3.heap.size ≤ k) ∧ k < w4.heap.size, ?_, ?_, ?_, ?_, ?_⟩
  · exact (hD.bound.mono (fun k hk => ⟨hk.1, hk.2.2⟩)).kept hk2 (fun k hk h => hk.1.elim (fun h3 => ha k h3 h) (fun h3 => by have := h2 k h; omega))
  · exact hR.bound.mono (fun k hk => ⟨hk.1, hk.2.2⟩)
  · intro k hk h
    rcases h.1 with h3 | h3
    · exact hk.1.elim (fun h4 => ha k h4 h3) (fun h4 => by have := h2 k h3; omega)
    · omega
  · intro k hk
    have := hk2.1
    omega
  · exact fun k hk => hk.2
theorem DPair.below {w0 w w' : World} {g1 g2 n : Nat} {s : DecS} (h : DPair w0 w g1 g2 s n) (hb : Below w.heap.size w w') : DPair w0 w' g1 g2 s n := by
  obtain ⟨S1, S2, h1, h2, h3, h4, h5⟩ := h
  exact ⟨S1, S2, h1.below hb, h2.below hb, h3, fun k hk => Nat.lt_of_lt_of_le (h4 k hk) hb.size, fun k hk => Nat.lt_of_lt_of_le (h5 k hk) hb.size⟩
/-- What a decoder is at any time. -/
def DSt (s : DecS) : Prop := DecP s ∧ (s.started = true → DecOk s)
theorem newD_st (n : Nat) (h0 : 1 ≤ n) (h1 : n ≤ 64) : DSt (newD n) := ⟨newD_p n h0 h1, fun h => by cases h⟩
theorem DecP_reset {s : DecS} (h : DecP s) : DecP (resetD s) := by
  refine ⟨?_, ?_, ?_⟩
  · show 0 < (List.replicate s.p.length (2048 : Int)).length; rw [List.length_replicate]; exact h.p0
  · show (List.replicate s.p.length (2048 : Int)).length ≤ 64; rw [List.length_replicate]; exact h.p1
  · intro z hz
    have := (List.mem_replicate.1 hz).2
    omega
theorem DSt.reset {s : DecS} (h : DSt s) : DSt (resetD s) :=
  ⟨DecP_reset h.1, fun hs => have o := h.2 hs; ⟨DecP_reset h.1, hs, o.data, o.len, o.at0, o.at1, o.v0, o.v1, o.size0, o.size1⟩⟩
theorem DSt.start {s : DecS} (h : DSt s) {data : List Int} (hb : Byt data) (hl : data.length ≤ 1000000) : DSt (startD s data) := ⟨(startD_ok h.1 hb hl).toDecP, fun _ => startD_ok h.1 hb hl⟩
theorem DSt.dec {s : DecS} (h : DSt s) (hs : s.started = true) {i : Nat} (hi : i < s.p.length) : DSt (decE s i).2 := ⟨(decE_ok (h.2 hs) hi).toDecP, fun _ => decE_ok (h.2 hs) hi⟩
end Go.Proofs.Ytfbdenlpoidnjaa.P
