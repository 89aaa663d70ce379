/- The reference's encoder: its state over arith's own plain state; NewEncoder, Reset, Size, Probability, and what a nil encoder answers. -/
import Derived.Test.YtfbdenlpoidnjaaTrm
import Derived.Test.YtfbdenlpoidnjaaRdt
set_option linter.unusedVariables false
set_option linter.unusedSimpArgs false
namespace Go.Proofs.Ytfbdenlpoidnjaa.P
open Go.RowKit Go.Proofs.YtfbdenlpoidnjaaW.PrintWords Go.Proofs.YtfbdenlpoidnjaaW.PrintLast Go.Proofs.YtfbdenlpoidnjaaW.PrintMore

/-- The digits of the lower end. -/
def digP (s : EncS) : List Int := s.out ++ lit4P s.low
theorem digP_length (s : EncS) : (digP s).length = s.out.length + 4 := by unfold digP; rw [List.length_append]; rfl
/-- The reference's encoder at g. -/
def REncAt (b : Nat) (w : World) (S : Nat → Prop) (g : Nat) (s : EncS) : Prop :=
  ∃ vp vl : Value, w.heap[g]? = some (.cells #[vp, vl, .int .i64 s.size, .bool s.begun] 73) ∧ S g ∧ b ≤ g ∧ Kd.R (Kd.int .i64) 3 w b S vp s.p ∧ Kd.R (Kd.int .i64) 3 w b (fun k => S k ∧ some k ≠ vp.ownBlock) vl (digP s)
theorem REncAt.kept {b : Nat} {w w' : World} {S T : Nat → Prop} {g : Nat} {s : EncS} (h : REncAt b w S g s) (hk : Kept w w' T) (hd : ∀ k, S k → ¬ T k) : REncAt b w' S g s := by
  obtain ⟨vp, vo, h1, h2, h3, h4, h5⟩ := h
  exact ⟨vp, vo, (hk.2 g (blk_lt h1) (hd g h2)).trans h1, h2, h3, Kd.R_step h4 (fun k hs hl => hk.2 k hl (hd k hs)), Kd.R_step h5 (fun k hs hl => hk.2 k hl (hd k hs.1))⟩
theorem REncAt.mono {b : Nat} {w : World} {S T : Nat → Prop} {g : Nat} {s : EncS} (h : REncAt b w S g s) (hs : ∀ k, S k → T k) : REncAt b w T g s := by
  obtain ⟨vp, vo, h1, h2, h3, h4, h5⟩ := h
  exact ⟨vp, vo, h1, hs g h2, h3, Kd.R_mono h4 hs, Kd.R_mono h5 (fun k hk => ⟨hs k hk.1, hk.2⟩)⟩
theorem REncAt.lower {b b' : Nat} {w : World} {S : Nat → Prop} {g : Nat} {s : EncS} (h : REncAt b w S g s) (hb : b' ≤ b) : REncAt b' w S g s := by
  obtain ⟨vp, vo, h1, h2, h3, h4, h5⟩ := h
  exact ⟨vp, vo, h1, h2, by omega, Kd.R_lower h4 hb, Kd.R_lower h5 hb⟩
theorem REncAt.bound {b : Nat} {w : World} {S : Nat → Prop} {g : Nat} {s : EncS} (h : REncAt b w S g s) : REncAt b w (fun k => S k ∧ b ≤ k ∧ k < w.heap.size) g s := by
  obtain ⟨vp, vo, h1, h2, h3, h4, h5⟩ := h
  exact ⟨vp, vo, h1, ⟨h2, h3, blk_lt h1⟩, h3, Kd.R_mono (Kd.R_bound h4) (fun k hk => ⟨hk.1, hk.2.1, hk.2.2.1⟩), Kd.R_mono (Kd.R_bound h5) (fun k hk => ⟨⟨hk.1.1, hk.2.1, hk.2.2.1⟩, hk.1.2⟩)⟩
theorem REncAt.below {b : Nat} {w w' : World} {S : Nat → Prop} {g : Nat} {s : EncS} (h : REncAt b w S g s) (hb : Below w.heap.size w w') : REncAt b w' S g s :=
  h.kept (Kept.of_below hb (fun _ => False)) (fun _ _ h => h)
theorem RSize.nil (w : World) : Calls Try.prog 29 #[.pointer none] w fun e w' => e = .returned (.int .i64 0) ∧ w' = w := by
  go_enter Try.func29, Try.ntmps29
  go_wp2
  go_ret
  exact ⟨rfl, rfl⟩
theorem RProbability.nil (i : Int) (w : World) : Calls Try.prog 31 #[.pointer none, .int .i64 i] w fun e w' => e = .returned (.int .i64 0) ∧ w' = w := by
  go_enter Try.func31, Try.ntmps31
  go_wp2
  go_ret
  exact ⟨rfl, rfl⟩
set_option maxRecDepth 100000 in
theorem REncode.nil (i b : Int) (w : World) : Calls Try.prog 27 #[.pointer none, .int .i64 i, .int .i64 b] w fun e w' => e = .returned (.int .i64 6) ∧ w' = w := by
  go_enter Try.func27, Try.ntmps27
  go_wp2
  go_ret
  exact ⟨rfl, rfl⟩
set_option maxRecDepth 100000 in
theorem RTerminate.nil (w : World) : Calls Try.prog 23 #[.pointer none] w fun e w' => e = .returned (.slice none 0 0) ∧ w' = w := by
  go_enter Try.func23, Try.ntmps23
  go_wp2
  go_ret
  exact ⟨rfl, rfl⟩
theorem RReset.nil (w : World) : Calls Try.prog 25 #[.pointer none] w fun e w' => e = .returned (.tuple #[]) ∧ w' = w := by
  go_enter Try.func25, Try.ntmps25
  go_wp2
  first | go_end0 | ((try simp only [Exit.inBlock, Exit.then]); refine bodyPost_ret (results_none rfl _ _ _) rfl ?_)
  exact ⟨rfl, rfl⟩
theorem RSize.good (b : Nat) (w : World) (S : Nat → Prop) (g : Nat) (s : EncS) (h : REncAt b w S g s) (hp : 0 < s.p.length) (ho : s.out.length ≤ 1000000000) : Calls Try.prog 29 #[.pointer (some ⟨g, 0, none⟩)] w fun e w' => e = .returned (.int .i64 (sizeE s)) ∧ w' = w := by
  obtain ⟨vp, vl, h1, h2, h3, h4, h5⟩ := h
  obtain ⟨A, c, rfl⟩ := Kd.R_slice h4
  obtain ⟨A2, c2, rfl⟩ := Kd.R_slice h5
  rw [digP_length] at h1
  have x0 : w.cell? ⟨g, 0, none⟩ = some (.slice A s.p.length c) := (blk_cell h1 0).trans rfl
  have x1 : w.cell? ⟨g, 1, none⟩ = some (.slice A2 (s.out.length + 4) c2) := (blk_cell h1 1).trans rfl
  have x3 : w.cell? ⟨g, 3, none⟩ = some (.bool s.begun) := (blk_cell h1 3).trans rfl
  have HS : Hid (sizeE s = if s.begun then (s.out.length : Int) + 4 else 0) := Lib.hid rfl
  have hp1 : ((s.p.length : Int) == 0) = false := by simp; intro e; rw [e] at hp; simp at hp
  generalize s.begun = bg at *
  generalize s.out.length = L at *
  clear h1 h2 h3 h4 h5 hp
  cases bg
  all_goals
    go_enter Try.func29, Try.ntmps29
    go_wp2
    go_ret
    exact ⟨by rw [HS.out]; first | rfl | (simp; done), rfl⟩
theorem RProbability.good (b : Nat) (w : World) (S : Nat → Prop) (g : Nat) (s : EncS) (i : Int) (h : REncAt b w S g s) (hp : 0 < s.p.length) : Calls Try.prog 31 #[.pointer (some ⟨g, 0, none⟩), .int .i64 i] w fun e w' => e = .returned (.int .i64 (probE s.p i)) ∧ w' = w := by
  obtain ⟨vp, vo, h1, h2, h3, h4, h5⟩ := h
  obtain ⟨bb, c, rfl, hb0, hb1, _⟩ := Kd.R_form h4 hp
  have x0 : w.cell? ⟨g, 0, none⟩ = some (.slice (some ⟨bb, 0, none⟩) s.p.length c) := (blk_cell h1 0).trans rfl
  have HS : Hid (probE s.p i = if 0 ≤ i ∧ i < s.p.length then rd s.p i else 0) := Lib.hid rfl
  by_cases hi : 0 ≤ i ∧ i < s.p.length
  · obtain ⟨y0, y1⟩ := Kd.R_cell (0 : Int) h4 i hi.1 hi.2
    have e1 : rdOf (0 : Int) s.p i = rd s.p i := rfl
    rw [e1] at y0
    rw [if_pos hi] at HS
    obtain ⟨i0, i1⟩ := hi
    generalize rd s.p i = x at *
    generalize s.p.length = L at *
    clear h1 h2 h3 h4 h5 hb0 hb1 y1
    go_enter Try.func31, Try.ntmps31
    go_wp2
    go_ret
    exact ⟨by rw [HS.out]; first | rfl | simp, rfl⟩
  · rw [if_neg hi] at HS
    generalize s.p.length = L at *
    clear h1 h2 h3 h4 h5 hb0 hb1
    by_cases h0 : i < 0
    · clear hi
      go_enter Try.func31, Try.ntmps31
      go_wp2
      go_ret
      exact ⟨by rw [HS.out]; first | rfl | simp, rfl⟩
    · have h1 : (L : Int) ≤ i := by omega
      clear hi
      go_enter Try.func31, Try.ntmps31
      go_wp2
      go_ret
      exact ⟨by rw [HS.out]; first | rfl | simp, rfl⟩
theorem row4_R (w : World) (b : Nat) (hb : b ≤ w.heap.size) (x0 x1 x2 x3 : Int) : Kd.R (Kd.int .i64) 3 (w.alloc (.cells #[.int .i64 x0, .int .i64 x1, .int .i64 x2, .int .i64 x3] 3)) b (fun k => w.heap.size ≤ k) (.slice (some ⟨w.heap.size, 0, none⟩) 4 4) [x0, x1, x2, x3] := by
  have h := own_lit w b 3 .i64 [x0, x1, x2, x3] hb (by simp)
  exact Kd.R_of_own h (fun k hk => by
    have h9 : w.heap.size = k := by simpa [Value.ownBlock] using hk
    omega)
set_option maxRecDepth 100000 in
theorem begin.calls (w0 w : World) (S : Nat → Prop) (g : Nat) (vp vl : Value) (p : List Int) (z : Int) (bg : Bool) (hB : Below w0.heap.size w0 w) (h1 : w.heap[g]? = some (.cells #[vp, vl, .int .i64 z, .bool bg] 73)) (h2 : S g) (h3 : w0.heap.size ≤ g) (h4 : Kd.R (Kd.int .i64) 3 w w0.heap.size S vp p) (hv : ∃ A n c, vl = .slice A n c) :
    Calls Try.prog 41 #[.pointer (some ⟨g, 0, none⟩)] w fun e w' => e = .returned (.tuple #[]) ∧ REncAt w0.heap.size w' (fun k => S k ∨ w.heap.size ≤ k) g ⟨p, [], 0, 4294967295, false⟩ ∧ Below w0.heap.size w0 w' ∧ Kept w w' S := by
  obtain ⟨Al, nl, cl, rfl⟩ := hv
  have HX := Aside0.mk (And.intro h1 (And.intro h2 (And.intro h3 h4)))
  have HB := Aside0.mk hB
  have x1 : w.cell? ⟨g, 1, none⟩ = some (.slice Al nl cl) := (blk_cell h1 1).trans rfl
  have x2 : w.cell? ⟨g, 2, none⟩ = some (.int .i64 z) := (blk_cell h1 2).trans rfl
  have x3 : w.cell? ⟨g, 3, none⟩ = some (.bool bg) := (blk_cell h1 3).trans rfl
  have f1 := blk_frozen h1 1
  have f2 := blk_frozen h1 2
  have f3 := blk_frozen h1 3
  have BK := Aside0.mk (blk_alloc h1 (.cells #[.int .i64 0, .int .i64 0, .int .i64 0, .int .i64 0] 3))
  have y1 : (w.alloc (.cells #[.int .i64 0, .int .i64 0, .int .i64 0, .int .i64 0] 3)).cell? ⟨g, 1, none⟩ = some (.slice Al nl cl) := (blk_cell BK.out 1).trans rfl
  have y2 : (w.alloc (.cells #[.int .i64 0, .int .i64 0, .int .i64 0, .int .i64 0] 3)).cell? ⟨g, 2, none⟩ = some (.int .i64 z) := (blk_cell BK.out 2).trans rfl
  have y3 : (w.alloc (.cells #[.int .i64 0, .int .i64 0, .int .i64 0, .int .i64 0] 3)).cell? ⟨g, 3, none⟩ = some (.bool bg) := (blk_cell BK.out 3).trans rfl
  have k1 := blk_frozen BK.out 1
  have k2 := blk_frozen BK.out 2
  have k3 := blk_frozen BK.out 3
  clear h1 h2 h3 h4 hB
  go_enter Try.func41, Try.ntmps41
  go_wp2
  first | go_end0 | ((try simp only [Exit.inBlock, Exit.then]); refine bodyPost_ret (results_none rfl _ _ _) rfl ?_)
  have b1 := blk_put BK.out 1 (.slice (some ⟨w.heap.size, 0, none⟩) 4 4) rfl
  have b2 := blk_put b1 2 (.int .i64 4294967295) rfl
  have b3 := blk_put b2 3 (.bool false) rfl
  have r0 := row4_R w w0.heap.size HB.out.size 0 0 0 0
  have p0 := Kd.R_alloc HX.out.2.2.2 (.cells #[.int .i64 0, .int .i64 0, .int .i64 0, .int .i64 0] 3)
  have hpb := Kd.R_lt HX.out.2.2.2
  refine ⟨rfl, ⟨vp, _, b3, .inl HX.out.2.1, HX.out.2.2.1, Kd.R_mono (Kd.R_set (Kd.R_set (Kd.R_set p0 BK.out (by decide) 1 _) b1 (by decide) 2 _) b2 (by decide) 3 _) (fun k hk => .inl hk), Kd.R_mono (Kd.R_set (Kd.R_set (Kd.R_set r0 BK.out (by decide) 1 _) b1 (by decide) 2 _) b2 (by decide) 3 _) (fun k hk => ⟨.inr hk, fun he => by have := hpb k he.symm; omega⟩)⟩, below_set (below_set (below_set (below_alloc HB.out _) HX.out.2.2.1) HX.out.2.2.1) HX.out.2.2.1, Kept.setCell (Kept.setCell (Kept.setCell (Kept.alloc (Kept.refl w S) _) (.inl HX.out.2.1) _) (.inl HX.out.2.1) _) (.inl HX.out.2.1) _⟩
set_option maxHeartbeats 8000000 in
set_option maxRecDepth 100000 in
theorem RNewEncoder.good (n : Nat) (w : World) (h0 : 1 ≤ n) (h1 : n ≤ 64) :
    Calls Try.prog 20 #[.int .i64 n] w fun e w' => ∃ g : Nat, e = .returned (.tuple #[.pointer (some ⟨g, 0, none⟩), .int .i64 0]) ∧ REncAt w.heap.size w' (fun _ => True) g (newE n) ∧ Below w.heap.size w w' := by
  have g1 : ¬ (n : Int) < 1 := by omega
  have g2 : ¬ (64 : Int) < (n : Int) := by omega
  have HN := Aside0.mk (And.intro h0 h1)
  clear h0 h1
  go_enter Try.func20, Try.ntmps20
  go_wp2_with (first
    | (go_at_call 40; (with_reducible refine (initial.calls n _ (by have := HN.out.2; omega)).mono ?_); rintro e w5 ⟨vp, rfl, hR, hb⟩; have e5 : ∃ A c, vp = .slice A n c := (by obtain ⟨A, c, h⟩ := Kd.R_slice hR; exact ⟨A, c, by simpa using h⟩); obtain ⟨A5, c5, rfl⟩ := e5; have HR := Aside0.mk hR; have HB := Aside0.mk hb; clear hR hb)
    | (go_at_call 41; (with_reducible refine (begin.calls w _ (fun _ => True) w5.heap.size (.slice A5 n c5) (.slice none 0 0) (List.replicate n 2048) 0 false (below_alloc HB.out _) (heap_alloc_new w5 _) trivial HB.out.size (Kd.R_alloc HR.out _) ⟨none, 0, 0, rfl⟩).mono ?_); rintro e w6 ⟨rfl, hE, hb, hk⟩; have HE6 := Aside0.mk hE; have HB6 := Aside0.mk hb; clear hE hb hk))
  go_ret2
  exact ⟨_, rfl, HE6.out.mono (fun _ _ => trivial), HB6.out⟩
theorem RNewEncoder.bad (n : Int) (w : World) (h : n < 1 ∨ 64 < n) :
    Calls Try.prog 20 #[.int .i64 n] w fun e w' => e = .returned (.tuple #[.pointer none, .int .i64 2]) ∧ Below w.heap.size w w' := by
  by_cases h1 : n < 1
  · clear h
    go_enter Try.func20, Try.ntmps20
    go_wp2
    go_ret2
    exact ⟨rfl, Below.refl _ _⟩
  · have h2 : 64 < n := by omega
    clear h
    go_enter Try.func20, Try.ntmps20
    go_wp2
    go_ret2
    exact ⟨rfl, Below.refl _ _⟩
def resetE (s : EncS) : EncS := ⟨List.replicate s.p.length 2048, s.out, s.low, s.size, s.begun⟩
theorem RReset.good (w0 w : World) (S : Nat → Prop) (g : Nat) (s : EncS) (hB : Below w0.heap.size w0 w) (h : REncAt w0.heap.size w S g s) (hp2 : s.p.length ≤ 1000) : Calls Try.prog 25 #[.pointer (some ⟨g, 0, none⟩)] w fun e w' => e = .returned (.tuple #[]) ∧ REncAt w0.heap.size w' (fun k => S k ∨ w.heap.size ≤ k) g (resetE s) ∧ Below w0.heap.size w0 w' ∧ Kept w w' S := by
  obtain ⟨vp, vl, h1, h2, h3, h4, h5⟩ := h
  obtain ⟨A, c, rfl⟩ := Kd.R_slice h4
  have x0 : w.cell? ⟨g, 0, none⟩ = some (.slice A s.p.length c) := (blk_cell h1 0).trans rfl
  have f0 := blk_frozen h1 0
  have HX := Aside0.mk (And.intro h1 (And.intro h2 (And.intro h3 h5)))
  have HB := Aside0.mk hB
  have HP := Aside0.mk hp2
  have HRD : Aside0 (resetE s = ⟨List.replicate s.p.length 2048, s.out, s.low, s.size, s.begun⟩) := ⟨rfl⟩
  generalize s.p.length = L at *
  clear h1 h2 h3 h4 h5 hB hp2
  go_enter Try.func25, Try.ntmps25
  go_wp2_with (go_at_call 40; (with_reducible refine (initial.calls L _ HP.out).mono ?_); rintro e w5 ⟨vq, rfl, hR, hb⟩; obtain ⟨Aq, cq, eq⟩ := Kd.R_slice hR; subst eq; have BK := blk_below HX.out.1 hb; have d0 : w5.cell? ⟨g, 0, none⟩ = some (.slice A L c) := (blk_cell BK 0).trans rfl; have e0 := blk_frozen BK 0; have HN := Aside0.mk (And.intro BK (And.intro hR hb)); clear BK hR hb)
  first | go_end0 | ((try simp only [Exit.inBlock, Exit.then]); refine bodyPost_ret (results_none rfl _ _ _) rfl ?_)
  rw [HRD.out]
  have r1 := Kd.R_lower (Kd.R_mono (ok' := fun k => S k ∨ w.heap.size ≤ k) (Kd.R_bound HN.out.2.1) (fun k hk => .inr hk.2.1)) HB.out.size
  have hq := Kd.R_base HN.out.2.1
  rw [List.length_replicate] at r1 hq
  have o1 := Kd.R_below (Kd.R_bound HX.out.2.2.2) HN.out.2.2
  refine ⟨rfl, ⟨_, vl, blk_put HN.out.1 0 _ rfl, .inl HX.out.2.1, HX.out.2.2.1, Kd.R_set r1 HN.out.1 (by decide) 0 _, Kd.R_mono (Kd.R_set o1 HN.out.1 (by decide) 0 _) (fun k hk => ⟨.inl hk.1.1, fun he => by have h8 := hq k he.symm; have h9 := hk.2.2.1; omega⟩)⟩, below_set (below_then HB.out HB.out.size HN.out.2.2) HX.out.2.2.1, Kept.setCell (Kept.of_below HN.out.2.2 S) (.inl HX.out.2.1) _⟩
end Go.Proofs.Ytfbdenlpoidnjaa.P
