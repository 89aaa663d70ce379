/- What lies behind a pointer to a decoder; NewDecoder, Reset, and what a decoder answers that is nil or that no function returned. -/
import Derived.Test.YtfbdenlpoidnjaaErs
import Derived.Test.YtfbdenlpoidnjaaEpu
import Derived.BigQuiet
import Derived.Test.YtfbdenlpoidnjaaEnc
set_option linter.unusedVariables false
set_option linter.unusedSimpArgs false
namespace Go.Proofs.Ytfbdenlpoidnjaa.P
open Go.RowKit Go.Proofs.YtfbdenlpoidnjaaW.PrintWords Go.Proofs.YtfbdenlpoidnjaaW.PrintLast Go.Proofs.YtfbdenlpoidnjaaW.PrintMore

/-- A decoder in plain terms. -/
structure DecS where
  p : List Int
  data : List Int
  at_ : Int
  value : Int
  size : Int
  started : Bool
/-- The blocks of the decoder at g are new since b, and in S. -/
def DecAt (b : Nat) (w : World) (S : Nat → Prop) (g : Nat) (s : DecS) : Prop :=
  ∃ vp vo : Value, w.heap[g]? = some (.cells #[vp, vo, .int .i64 s.at_, .int .i64 s.value, .int .i64 s.size, .bool s.started] 66) ∧ S g ∧ b ≤ g ∧ Kd.R (Kd.int .i64) 3 w b S vp s.p ∧ Kd.R (Kd.int .u8) 5 w b S vo s.data
theorem DecAt.kept {b : Nat} {w w' : World} {S T : Nat → Prop} {g : Nat} {s : DecS} (h : DecAt b w S g s) (hk : Kept w w' T) (hd : ∀ k, S k → ¬ T k) : DecAt b w' S g s := by
  obtain ⟨vp, vo, h1, h2, h3, h4, h5⟩ := h
  exact ⟨vp, vo, (hk.2 g (blk_lt h1) (hd g h2)).trans h1, h2, h3, Kd.R_step h4 (fun k hs hl => hk.2 k hl (hd k hs)), Kd.R_step h5 (fun k hs hl => hk.2 k hl (hd k hs))⟩
theorem DecAt.mono {b : Nat} {w : World} {S T : Nat → Prop} {g : Nat} {s : DecS} (h : DecAt b w S g s) (hs : ∀ k, S k → T k) : DecAt b w T g s := by
  obtain ⟨vp, vo, h1, h2, h3, h4, h5⟩ := h
  exact ⟨vp, vo, h1, hs g h2, h3, Kd.R_mono h4 hs, Kd.R_mono h5 hs⟩
theorem DecAt.lower {b b' : Nat} {w : World} {S : Nat → Prop} {g : Nat} {s : DecS} (h : DecAt b w S g s) (hb : b' ≤ b) : DecAt b' w S g s := by
  obtain ⟨vp, vo, h1, h2, h3, h4, h5⟩ := h
  exact ⟨vp, vo, h1, h2, by omega, Kd.R_lower h4 hb, Kd.R_lower h5 hb⟩
/-- Its blocks are there, and new since b. -/
theorem DecAt.bound {b : Nat} {w : World} {S : Nat → Prop} {g : Nat} {s : DecS} (h : DecAt b w S g s) : DecAt b w (fun k => S k ∧ b ≤ k ∧ k < w.heap.size) g s := by
  obtain ⟨vp, vo, h1, h2, h3, h4, h5⟩ := h
  exact ⟨vp, vo, h1, ⟨h2, h3, blk_lt h1⟩, h3, Kd.R_mono (Kd.R_bound h4) (fun k hk => ⟨hk.1, hk.2.1, hk.2.2.1⟩), Kd.R_mono (Kd.R_bound h5) (fun k hk => ⟨hk.1, hk.2.1, hk.2.2.1⟩)⟩
theorem DecAt.below {b : Nat} {w w' : World} {S : Nat → Prop} {g : Nat} {s : DecS} (h : DecAt b w S g s) (hb : Below w.heap.size w w') : DecAt b w' S g s :=
  h.kept (Kept.of_below hb (fun _ => False)) (fun _ _ h => h)
/-- A new decoder. -/
def newD (n : Nat) : DecS := ⟨List.replicate n 2048, [], 0, 0, 0, false⟩
set_option maxHeartbeats 8000000 in
set_option maxRecDepth 100000 in
theorem NewDecoder.good (n : Nat) (w : World) (h0 : 1 ≤ n) (h1 : n ≤ 64) :
    Calls Try.prog 16 #[.int .i64 n] w fun e w' => ∃ g : Nat, e = .returned (.tuple #[.pointer (some ⟨g, 0, none⟩), .int .i64 0]) ∧ DecAt w.heap.size w' (fun _ => True) g (newD n) ∧ Below w.heap.size w w' := by
  have g1 : ¬ (n : Int) < 1 := by omega
  have g2 : ¬ (64 : Int) < (n : Int) := by omega
  have HN := Aside0.mk (And.intro h0 h1)
  clear h0 h1
  go_enter Try.func16, Try.ntmps16
  go_wp2_with (go_at_call 39; (with_reducible refine (newModels.calls n _ HN.out.1 HN.out.2).mono ?_); rintro e w5 ⟨vp, rfl, hR, hb⟩; have e5 : ∃ A c, vp = .slice A n c := (by obtain ⟨A, c, h⟩ := Kd.R_slice hR; exact ⟨A, c, by simpa using h⟩); obtain ⟨A5, c5, rfl⟩ := e5; have HR := Aside0.mk hR; have HB := Aside0.mk hb; clear hR hb)
  go_ret2
  exact ⟨_, rfl, ⟨_, _, heap_alloc_new w5 _, trivial, HB.out.size, Kd.R_alloc HR.out _, Kd.R_nil _ _ _ _ _⟩, below_alloc HB.out _⟩
set_option maxHeartbeats 8000000 in
set_option maxRecDepth 100000 in
theorem NewDecoder.bad (n : Int) (w : World) (h : n < 1 ∨ 64 < n) :
    Calls Try.prog 16 #[.int .i64 n] w fun e w' => e = .returned (.tuple #[.pointer none, .int .i64 2]) ∧ Below w.heap.size w w' := by
  by_cases h1 : n < 1
  · clear h
    go_enter Try.func16, Try.ntmps16
    go_wp2
    go_ret2
    exact ⟨rfl, Below.refl _ _⟩
  · have h2 : 64 < n := by omega
    clear h
    go_enter Try.func16, Try.ntmps16
    go_wp2
    go_ret2
    exact ⟨rfl, Below.refl _ _⟩
theorem Dvalid.nil (w : World) : Calls Try.prog 50 #[.pointer none] w fun e w' => e = .returned (.bool false) ∧ w' = w := by
  go_enter Try.func50, Try.ntmps50
  go_wp2
  go_ret
  exact ⟨rfl, rfl⟩
theorem Dvalid.at (w : World) (g n c : Nat) (A : Option Addr) (hc : w.cell? ⟨g, 0, none⟩ = some (.slice A n c)) (h0 : 0 < n) : Calls Try.prog 50 #[.pointer (some ⟨g, 0, none⟩)] w fun e w' => e = .returned (.bool true) ∧ w' = w := by
  have h1 : (0 : Int) < (n : Int) := by omega
  go_enter Try.func50, Try.ntmps50
  go_wp2
  go_ret
  exact ⟨rfl, rfl⟩
theorem Dvalid.zero (w : World) (g c : Nat) (A : Option Addr) (hc : w.cell? ⟨g, 0, none⟩ = some (.slice A 0 c)) : Calls Try.prog 50 #[.pointer (some ⟨g, 0, none⟩)] w fun e w' => e = .returned (.bool false) ∧ w' = w := by
  go_enter Try.func50, Try.ntmps50
  go_wp2
  go_ret
  exact ⟨rfl, rfl⟩
/-- A pointer to no decoder. -/
abbrev BadD (v : Value) (w : World) : Prop := Calls Try.prog 50 #[v] w fun e w' => e = .returned (.bool false) ∧ w' = w
theorem Start.bad (v x : Value) (w : World) (h : BadD v w) : Calls Try.prog 33 #[v, x] w fun e w' => e = .returned (.int .i64 6) ∧ w' = w := by
  have H := Aside0.mk h
  clear h
  go_enter Try.func33, Try.ntmps33
  go_wp2_with (go_at_call 50; (with_reducible refine H.out.mono ?_); rintro e w1 ⟨rfl, rfl⟩)
  go_ret
  exact ⟨rfl, rfl⟩
theorem Decode.bad (v : Value) (i : Int) (w : World) (h : BadD v w) : Calls Try.prog 37 #[v, .int .i64 i] w fun e w' => e = .returned (.tuple #[.int .i64 0, .int .i64 6]) ∧ w' = w := by
  have H := Aside0.mk h
  clear h
  go_enter Try.func37, Try.ntmps37
  go_wp2_with (go_at_call 50; (with_reducible refine H.out.mono ?_); rintro e w1 ⟨rfl, rfl⟩)
  go_ret2
  exact ⟨rfl, rfl⟩
theorem DReset.bad (v : Value) (w : World) (h : BadD v w) : Calls Try.prog 35 #[v] w fun e w' => e = .returned (.tuple #[]) ∧ w' = w := by
  have H := Aside0.mk h
  clear h
  go_enter Try.func35, Try.ntmps35
  go_wp2_with (go_at_call 50; (with_reducible refine H.out.mono ?_); rintro e w1 ⟨rfl, rfl⟩)
  first | go_end0 | ((try simp only [Exit.inBlock, Exit.then]); refine bodyPost_ret (results_none rfl _ _ _) rfl ?_)
  exact ⟨rfl, rfl⟩
theorem DecAt.restart {b : Nat} {w w' : World} {S : Nat → Prop} {g : Nat} {s : DecS} {vp vo : Value} {q : List Int} (h1 : w.heap[g]? = some (.cells #[vp, vo, .int .i64 s.at_, .int .i64 s.value, .int .i64 s.size, .bool s.started] 66)) (h2 : S g) (h3 : b ≤ g) (h4 : Kd.R (Kd.int .i64) 3 w b S vp s.p) (h5 : Kd.R (Kd.int .u8) 5 w b S vo s.data)
    (hR : Kd.R (Kd.int .i64) 3 w' b S vp q) (hk : Kept w w' (fun k => some k = vp.ownBlock)) : DecAt b w' S g ⟨q, s.data, s.at_, s.value, s.size, s.started⟩ := by
  have hne : some g ≠ vp.ownBlock := Kd.R_ne h4 h1 (by decide)
  have h6 := Kd.R_apartR h5 h4 (by decide)
  exact ⟨vp, vo, (hk.2 g (blk_lt h1) hne).trans h1, h2, h3, hR, Kd.R_mono (Kd.R_step h6 (fun k hs hl => hk.2 k hl hs.2)) (fun k hs => hs.1)⟩
theorem DReset.good (w0 w : World) (S : Nat → Prop) (g : Nat) (s : DecS) (hB : Below w0.heap.size w0 w) (h : DecAt w0.heap.size w S g s) (hp : 0 < s.p.length) (hp2 : s.p.length ≤ 1000) : Calls Try.prog 35 #[.pointer (some ⟨g, 0, none⟩)] w fun e w' => e = .returned (.tuple #[]) ∧ DecAt w0.heap.size w' S g ⟨List.replicate s.p.length 2048, s.data, s.at_, s.value, s.size, s.started⟩ ∧ Below w0.heap.size w0 w' ∧ Kept w w' S := by
  obtain ⟨vp, vo, h1, h2, h3, h4, h5⟩ := h
  obtain ⟨A, c, e⟩ := Kd.R_slice h4
  have x0 : w.cell? ⟨g, 0, none⟩ = some (.slice A s.p.length c) := by rw [← e]; exact (blk_cell h1 0).trans rfl
  have HV := Aside0.mk (Dvalid.at w g s.p.length c A x0 hp)
  have HM := Aside0.mk (restart.calls w0 w S g vp s.p hB ⟨(blk_cell h1 0).trans rfl, ⟨_, 66, h1, by decide⟩, h4, hp2⟩)
  have HQ := Aside0.mk (fun (w' : World) (hR : Kd.R (Kd.int .i64) 3 w' w0.heap.size S vp (List.replicate s.p.length 2048)) (hk : Kept w w' (fun k => some k = vp.ownBlock)) => And.intro (DecAt.restart h1 h2 h3 h4 h5 hR hk) (Kept.mono hk (fun k hk => h4.1 k hk.symm)))
  generalize List.replicate s.p.length (2048 : Int) = q at *
  clear h1 h2 h3 h4 h5 hp hp2 hB e x0
  go_enter Try.func35, Try.ntmps35
  go_wp2_with (first | (go_at_call 50; (with_reducible refine HV.out.mono ?_); rintro e w1 ⟨rfl, rfl⟩) | (go_at_call 46; (with_reducible refine HM.out.mono ?_); rintro e w2 ⟨rfl, hR, hb, hk⟩))
  first | go_end0 | ((try simp only [Exit.inBlock, Exit.then]); refine bodyPost_ret (results_none rfl _ _ _) rfl ?_)
  exact ⟨rfl, (HQ.out _ hR hk).1, hb, (HQ.out _ hR hk).2⟩
end Go.Proofs.Ytfbdenlpoidnjaa.P
-- The decoder's next byte.
set_option linter.unusedVariables false
set_option linter.unusedSimpArgs false
namespace Go.Proofs.Ytfbdenlpoidnjaa.P
open Go.RowKit Go.Proofs.YtfbdenlpoidnjaaW.PrintWords Go.Proofs.YtfbdenlpoidnjaaW.PrintLast Go.Proofs.YtfbdenlpoidnjaaW.PrintMore

/-- The byte at a place, and 0 behind the end. -/
def nextP (data : List Int) (at_ : Nat) : Int := if at_ < data.length then rd data (at_ : Int) else 0
def nextA (data : List Int) (at_ : Nat) : Nat := if at_ < data.length then at_ + 1 else at_
set_option maxHeartbeats 4000000 in
set_option maxRecDepth 100000 in
theorem Dnext.more (w : World) (g : Nat) (ad : Addr) (n c at_ : Nat) (x : Int) (x1 : w.cell? ⟨g, 1, none⟩ = some (.slice (some ad) n c)) (x2 : w.cell? ⟨g, 2, none⟩ = some (.int .i64 at_)) (f2 : w.frozen? ⟨g, 2, none⟩ = false) (hlt : at_ < n) (hn : n ≤ 1000000) (hne : ad.block ≠ g) (hab : (ad.add at_).block = ad.block) (hx : w.cell? (ad.add at_) = some (.int .u8 x)) (h0 : 0 ≤ x) (h1 : x < 256) :
    Calls Try.prog 51 #[.pointer (some ⟨g, 0, none⟩)] w fun e w' => e = .returned (.int .i64 x) ∧ ∃ n1 n2, w' = ((w.drewN n1).setCell ⟨g, 2, none⟩ (.int .i64 ((at_ : Int) + 1))).drewN n2 := by
  have g1 : (at_ : Int) < (n : Int) := by omega
  have g2 : (at_ : Int) ≤ 1000000 := by omega
  have hw : wrap64 ((at_ : Int) + 1) = (at_ : Int) + 1 := by unfold wrap64; omega
  have hw2 : wrap64 ((at_ : Int) + 1 - 1) = (at_ : Int) := by unfold wrap64; omega
  have hw3 : wrap64 x = x := by unfold wrap64; omega
  go_enter Try.func51, Try.ntmps51
  have d1 : ∀ m, ((w.drewN m).setCell ⟨g, 2, none⟩ (.int .i64 ((at_ : Int) + 1))).cell? ⟨g, 1, none⟩ = some (.slice (some ad) n c) := fun m => (World.cell?_setCell_other _ _ _ _ (by simp)).trans x1
  have d2 : ∀ m, ((w.drewN m).setCell ⟨g, 2, none⟩ (.int .i64 ((at_ : Int) + 1))).cell? ⟨g, 2, none⟩ = some (.int .i64 ((at_ : Int) + 1)) := fun m => World.cell?_setCell_same _ _ _ x2
  have d3 : ∀ m, ((w.drewN m).setCell ⟨g, 2, none⟩ (.int .i64 ((at_ : Int) + 1))).cell? (ad.add at_) = some (.int .u8 x) := fun m => (World.cell?_setCell_other _ _ _ _ (fun e => hne (by rw [← hab, ← e]))).trans hx
  have g0 : (0 : Int) ≤ (at_ : Int) := by omega
  go_wp2
  go_quiet (fail)
  go_wp2
  go_quiet (fail)
  go_wp2
  go_ret
  exact ⟨rfl, _, _, rfl⟩
theorem Dnext.done (w : World) (g : Nat) (A : Option Addr) (n c at_ : Nat) (x1 : w.cell? ⟨g, 1, none⟩ = some (.slice A n c)) (x2 : w.cell? ⟨g, 2, none⟩ = some (.int .i64 at_)) (hge : ¬ at_ < n) :
    Calls Try.prog 51 #[.pointer (some ⟨g, 0, none⟩)] w fun e w' => e = .returned (.int .i64 0) ∧ ∃ nd, w' = w.drewN nd := by
  have g1 : ¬ (at_ : Int) < (n : Int) := by omega
  have g2 : (n : Int) ≤ (at_ : Int) := by omega
  go_enter Try.func51, Try.ntmps51
  go_wp2
  go_quiet (fail)
  go_wp2
  go_ret
  exact ⟨rfl, _, rfl⟩
end Go.Proofs.Ytfbdenlpoidnjaa.P
-- What Start and Decode compute, in plain terms.
set_option linter.unusedVariables false
set_option linter.unusedSimpArgs false
namespace Go.Proofs.Ytfbdenlpoidnjaa.P
open Go.RowKit Go.Proofs.YtfbdenlpoidnjaaW.PrintWords

theorem nextP_bd {data : List Int} (h : Byt data) (a : Nat) : 0 ≤ nextP data a ∧ nextP data a < 256 := by
  unfold nextP
  split
  · rename_i hl
    unfold rd
    rw [Int.toNat_natCast, List.getD_eq_getElem?_getD, List.getElem?_eq_getElem hl]
    exact h _ (List.getElem_mem hl)
  · omega
/-- So many bytes behind a value. -/
def pullP (data : List Int) : Nat → Nat → Int → Nat × Int
  | 0, a, v => (a, v)
  | n + 1, a, v => pullP data n (nextA data a) (v * 256 + nextP data a)
/-- Start's answer. -/
def startD (s : DecS) (data : List Int) : DecS :=
  let t := pullP data 4 0 0
  ⟨s.p, data, (t.1 : Int), min t.2 4294967294, 4294967295, true⟩
theorem pullP_bd {data : List Int} (h : Byt data) : ∀ (n a : Nat) (v : Int), 0 ≤ v → 0 ≤ (pullP data n a v).2 ∧ (pullP data n a v).2 < (v + 1) * 256 ^ n ∧ (pullP data n a v).1 ≤ max a data.length
  | 0, a, v, hv => by
    rw [pullP]
    exact ⟨hv, by simp; omega, by omega⟩
  | n + 1, a, v, hv => by
    have hb := nextP_bd h a
    obtain ⟨i1, i2, i3⟩ := pullP_bd h n (nextA data a) (v * 256 + nextP data a) (by omega)
    rw [pullP]
    refine ⟨i1, ?_, ?_⟩
    · refine Int.lt_of_lt_of_le i2 ?_
      rw [Int.pow_succ', ← Int.mul_assoc]
      exact Int.mul_le_mul_of_nonneg_right (by omega) (Int.pow_nonneg (by omega))
    · refine Nat.le_trans i3 ?_
      unfold nextA
      split <;> omega
end Go.Proofs.Ytfbdenlpoidnjaa.P
-- Start, walked.
set_option linter.unusedVariables false
set_option linter.unusedSimpArgs false
namespace Go.Proofs.Ytfbdenlpoidnjaa.P
open Go.RowKit Go.Proofs.YtfbdenlpoidnjaaW.PrintWords Go.Proofs.YtfbdenlpoidnjaaW.PrintLast Go.Proofs.YtfbdenlpoidnjaaW.PrintMore

theorem rd_mem {l : List Int} {a : Nat} (h : a < l.length) : rd l (a : Int) ∈ l := by
  unfold rd
  rw [Int.toNat_natCast, List.getD_eq_getElem?_getD, List.getElem?_eq_getElem h]
  exact List.getElem_mem h
theorem add0 (b a : Nat) : (⟨b, 0, none⟩ : Addr).add a = ⟨b, a, none⟩ := by
  by_cases h : a = 0 <;> simp [Addr.add, h]
theorem pow256_le {i j : Nat} (h : i ≤ j) : (256 : Int) ^ i ≤ 256 ^ j := by
  have e : ∀ k : Nat, (256 : Int) ^ k = ((256 ^ k : Nat) : Int) := fun k => by simp
  rw [e, e]
  exact Int.ofNat_le.2 (Nat.pow_le_pow_right (by decide) h)
theorem start_end {w0 w wr : World} {S : Nat → Prop} {g : Nat} {vp vo : Value} {p data : List Int} {a v size : Int} {st : Bool} (h1 : wr.heap[g]? = some (.cells #[vp, vo, .int .i64 a, .int .i64 v, .int .i64 size, .bool st] 66)) (h4 : Kd.R (Kd.int .i64) 3 wr w0.heap.size (fun k => S k ∨ w.heap.size ≤ k) vp p) (h5 : Kd.R (Kd.int .u8) 5 wr w0.heap.size (fun k => S k ∨ w.heap.size ≤ k) vo data) (hB : Below w0.heap.size w0 wr) (hK : Kept w wr S) (hS : S g) (hg : w0.heap.size ≤ g) (v' size' : Int) (st' : Bool) :
    DecAt w0.heap.size (((wr.setCell ⟨g, 3, none⟩ (.int .i64 v')).setCell ⟨g, 4, none⟩ (.int .i64 size')).setCell ⟨g, 5, none⟩ (.bool st')) (fun k => S k ∨ w.heap.size ≤ k) g ⟨p, data, a, v', size', st'⟩ ∧ Below w0.heap.size w0 (((wr.setCell ⟨g, 3, none⟩ (.int .i64 v')).setCell ⟨g, 4, none⟩ (.int .i64 size')).setCell ⟨g, 5, none⟩ (.bool st')) ∧ Kept w (((wr.setCell ⟨g, 3, none⟩ (.int .i64 v')).setCell ⟨g, 4, none⟩ (.int .i64 size')).setCell ⟨g, 5, none⟩ (.bool st')) S := by
  have b1 := blk_put h1 3 (.int .i64 v') rfl
  have b2 := blk_put b1 4 (.int .i64 size') rfl
  have b3 := blk_put b2 5 (.bool st') rfl
  exact ⟨⟨vp, vo, b3, .inl hS, hg, Kd.R_set (Kd.R_set (Kd.R_set h4 h1 (by decide) 3 _) b1 (by decide) 4 _) b2 (by decide) 5 _, Kd.R_set (Kd.R_set (Kd.R_set h5 h1 (by decide) 3 _) b1 (by decide) 4 _) b2 (by decide) 5 _⟩, below_set (below_set (below_set hB hg) hg) hg, Kept.setCell (Kept.setCell (Kept.setCell hK (.inl hS) _) (.inl hS) _) (.inl hS) _⟩
attribute [local go_sem] min2_int min_two
set_option maxHeartbeats 8000000 in
set_option maxRecDepth 100000 in
theorem Start.good (w0 w : World) (S : Nat → Prop) (g : Nat) (s : DecS) (A : Option Addr) (c : Nat) (data : List Int) (hB : Below w0.heap.size w0 w) (h : DecAt w0.heap.size w S g s) (hp : 0 < s.p.length) (hD : (Kd.int .u8).C w A data.length data) (hc : data.length ≤ c) (hby : Byt data) (hl : data.length ≤ 1000000) : Calls Try.prog 33 #[.pointer (some ⟨g, 0, none⟩), .slice A data.length c] w fun e w' => e = .returned (.int .i64 0) ∧ DecAt w0.heap.size w' (fun k => S k ∨ w.heap.size ≤ k) g (startD s data) ∧ Below w0.heap.size w0 w' ∧ Kept w w' S := by
  obtain ⟨vp, vo, h1, h2, h3, h4, h5⟩ := h
  obtain ⟨Ap, cp, rfl⟩ := Kd.R_slice h4
  have x0 : w.cell? ⟨g, 0, none⟩ = some (.slice Ap s.p.length cp) := (blk_cell h1 0).trans rfl
  have HV := Aside0.mk (Dvalid.at w g s.p.length cp _ x0 hp)
  have HX := Aside0.mk (And.intro h1 (And.intro h2 (And.intro h3 (And.intro (Kd.R_mono (ok' := fun k => S k ∨ w.heap.size ≤ k) h4 (fun _ hk => .inl hk)) (Kd.R_mono (ok' := fun k => S k ∨ w.heap.size ≤ k) h5 (fun _ hk => .inl hk))))))
  have HBl := Aside0.mk hB
  have HD := Aside0.mk hD
  have HL := Aside0.mk hl
  have HBY := Aside0.mk hby
  clear h1 h2 h3 h4 h5 hB hD hl hby hp
  go_enter Try.func33, Try.ntmps33
  go_wp2_with (first | (go_at_call 50; (with_reducible refine HV.out.mono ?_); rintro e w1 ⟨rfl, hw⟩; replace hw := hw.symm; subst hw) | ((with_reducible refine gate_dst (N := 12) rfl ?_); refine Kd.R_append_rows (Kd.int .u8) (w0 := w0) w0.heap.size rfl (.const (.slice none 0 0)) (.tmp 11) 34 5 (.int .u8 0) 1 rfl Try.underlying34 info5 rfl (by decide) (by decide) (.slice none 0 0) [] data _ _ _ (fun k => w.heap.size ≤ k) (fun _ => False) rfl rfl (Kd.R_nil _ _ _ _ _) HD.out (fun _ _ h => h) (fun _ h => h.elim) (fun _ h => h) HBl.out HBl.out.size (by have := HL.out; simp; omega) ?_; intro v1 w1 hR1 hb1 hg1 hat1; obtain ⟨A6, c6, e6⟩ := Kd.R_slice hR1; have e7 : v1 = .slice A6 data.length c6 := (by simpa using e6); clear e6; subst e7; have BK := blk_grown HX.out.1 hg1 (by simp [Value.ownBlock]); have d1 : w1.cell? ⟨g, 1, none⟩ = some vo := (blk_cell BK 1).trans rfl; have d2 : w1.cell? ⟨g, 2, none⟩ = some (.int .i64 s.at_) := (blk_cell BK 2).trans rfl; have d3 : w1.cell? ⟨g, 3, none⟩ = some (.int .i64 s.value) := (blk_cell BK 3).trans rfl; have k1 := blk_frozen BK 1; have k2 := blk_frozen BK 2; have k3 := blk_frozen BK 3; have HN := Aside0.mk (And.intro BK (And.intro hR1 (And.intro hb1 hg1))); clear BK hR1 hb1 hg1 hat1))
  go_loopg [19] 5 (fun kq v19 w' => ∃ (i a : Nat) (v : Int), v19 = .int .i64 i ∧ Aside0 (i ≤ 4 ∧ kq + i = 5 ∧ a ≤ data.length ∧ 0 ≤ v ∧ v < 256 ^ i ∧ pullP data (4 - i) a v = pullP data 4 0 0) ∧ Aside0 (w'.heap[g]? = some (.cells #[.slice Ap s.p.length cp, .slice A6 data.length c6, .int .i64 a, .int .i64 v, .int .i64 s.size, .bool s.started] 66)) ∧ Aside0 (Kd.R (Kd.int .i64) 3 w' w0.heap.size (fun k => S k ∨ w.heap.size ≤ k) (.slice Ap s.p.length cp) s.p) ∧ Aside0 (Kd.R (Kd.int .u8) 5 w' w0.heap.size (fun k => S k ∨ w.heap.size ≤ k) (.slice A6 data.length c6) data) ∧ Aside0 (Below w0.heap.size w0 w') ∧ Aside0 (Kept w w' S))
  case atStart =>
    have b1 := blk_put HN.out.1 1 (.slice A6 data.length c6) rfl
    have b2 := blk_put b1 2 (.int .i64 0) rfl
    have b3 := blk_put b2 3 (.int .i64 0) rfl
    have p1 := Kd.R_grown HX.out.2.2.2.1 HN.out.2.2.2 (fun k _ => by simp [Value.ownBlock])
    have o1 : Kd.R (Kd.int .u8) 5 w1 w0.heap.size (fun k => S k ∨ w.heap.size ≤ k) (.slice A6 data.length c6) data := Kd.R_mono HN.out.2.1 (fun k hk => .inr hk)
    have kk : Kept w w1 S := Kept.of_grown HN.out.2.2.2 (Kept.refl w S) (fun k hk => by simp [Value.ownBlock] at hk)
    exact ⟨0, 0, 0, by first | rfl | simp, ⟨by omega, by omega, by omega, by omega, by decide, rfl⟩, ⟨b3⟩, ⟨Kd.R_set (Kd.R_set (Kd.R_set p1 HN.out.1 (by decide) 1 _) b1 (by decide) 2 _) b2 (by decide) 3 _⟩, ⟨Kd.R_set (Kd.R_set (Kd.R_set o1 HN.out.1 (by decide) 1 _) b1 (by decide) 2 _) b2 (by decide) 3 _⟩, ⟨below_set (below_set (below_set HN.out.2.2.1 HX.out.2.2.1) HX.out.2.2.1) HX.out.2.2.1⟩, ⟨Kept.setCell (Kept.setCell (Kept.setCell kk (.inl HX.out.2.1) _) (.inl HX.out.2.1) _) (.inl HX.out.2.1) _⟩⟩
  case round =>
    obtain ⟨i, a, v, rfl, HI, HB1, HP1, HO1, HBB, HKK⟩ := hrel
    have c3 : wr.cell? ⟨g, 3, none⟩ = some (.int .i64 v) := (blk_cell HB1.out 3).trans rfl
    have c2 : wr.cell? ⟨g, 2, none⟩ = some (.int .i64 a) := (blk_cell HB1.out 2).trans rfl
    have c1 : wr.cell? ⟨g, 1, none⟩ = some (.slice A6 data.length c6) := (blk_cell HB1.out 1).trans rfl
    have k3 := blk_frozen HB1.out 3
    have k2 := blk_frozen HB1.out 2
    have k4 := blk_frozen HB1.out 4
    have k5 := blk_frozen HB1.out 5
    have c4 : wr.cell? ⟨g, 4, none⟩ = some (.int .i64 s.size) := (blk_cell HB1.out 4).trans rfl
    have c5 : wr.cell? ⟨g, 5, none⟩ = some (.bool s.started) := (blk_cell HB1.out 5).trans rfl
    by_cases h4 : i < 4
    · have g4 : (i : Int) < 4 := by omega
      have v0 := HI.out.2.2.2.1
      have vb : v < 16777216 := by
        have h9 := HI.out.2.2.2.2.1
        have := pow256_le (i := i) (j := 3) (by omega)
        have e3 : (256 : Int) ^ 3 = 16777216 := by decide
        omega
      by_cases ha : a < data.length
      · obtain ⟨bd, cd, ed, hbd0, hbd1, _⟩ := Kd.R_form HO1.out (by omega)
        injection ed with ed1 _ ed3
        subst ed1
        subst ed3
        obtain ⟨y0, y1⟩ := Kd.R_cell (0 : Int) HO1.out (a : Int) (by omega) (by omega)
        rw [Int.toNat_natCast] at y0 y1
        have hx := HBY.out (rd data (a : Int)) (rd_mem ha)
        have hne : bd ≠ g := fun e => Kd.R_ne HO1.out HB1.out (by decide) (by rw [e]; rfl)
        have HDN := Aside0.mk (fun W (e1 : W.cell? ⟨g, 1, none⟩ = some (.slice (some ⟨bd, 0, none⟩) data.length c6)) (e2 : W.cell? ⟨g, 2, none⟩ = some (.int .i64 a)) (e3 : W.frozen? ⟨g, 2, none⟩ = false) (e4 : W.cell? ⟨bd, a, none⟩ = some (.int .u8 (rd data (a : Int)))) => Dnext.more W g ⟨bd, 0, none⟩ data.length c6 a (rd data (a : Int)) e1 e2 e3 ha HL.out hne (by rw [add0]) (by rw [add0]; exact e4) hx.1 hx.2)
        have d3 : ∀ m n, (((wr.drewN m).setCell ⟨g, 2, none⟩ (.int .i64 ((a : Int) + 1))).drewN n).cell? ⟨g, 3, none⟩ = some (.int .i64 v) := fun m n => (World.cell?_setCell_other _ _ _ _ (by simp)).trans c3
        have HQ : Aside0 (pullP data (4 - (i + 1)) (a + 1) (v * 256 + rd data (a : Int)) = pullP data 4 0 0) := ⟨by rw [← HI.out.2.2.2.2.2, show 4 - i = (4 - (i + 1)) + 1 by omega, pullP, show nextA data a = a + 1 by unfold nextA; rw [if_pos ha], show nextP data a = rd data (a : Int) by unfold nextP; rw [if_pos ha]]⟩
        have HV2 : Aside0 (v * 256 + rd data (a : Int) < 256 ^ (i + 1)) := ⟨by have h9 := HI.out.2.2.2.2.1; rw [Int.pow_succ]; omega⟩
        have HV0 : Aside0 (0 ≤ v * 256 + rd data (a : Int)) := ⟨by omega⟩
        go_wp2
        go_region_with (go_at_call 51; (with_reducible refine (HDN.out _ ?qa ?qb ?qc ?qd).mono ?_); (case qa => exact c1); (case qb => exact c2); (case qc => exact k2); (case qd => exact y0); rintro e w2 ⟨rfl, n1, n2, rfl⟩)
        all_goals go_wp2
        all_goals go_roundg (gk - 1)
        case' measure => have := HI.out; omega
        all_goals first | (have := HI.out; omega) | skip
        all_goals
          have b0 := blk_drewN HB1.out (1 + n1)
          have b1 := blk_put b0 2 (.int .i64 ((a : Int) + 1)) rfl
          have b2 := blk_drewN b1 n2
          have b3 := blk_put b2 3 (.int .i64 (v * 256 + rd data (a : Int))) rfl
          refine ⟨i + 1, a + 1, v * 256 + rd data (a : Int), by first | rfl | simp, ⟨by omega, by have := HI.out; omega, by omega, HV0.out, HV2.out, HQ.out⟩, ⟨b3⟩, ⟨Kd.R_set (Kd.R_drewN (Kd.R_set (Kd.R_drewN HP1.out _) b0 (by decide) 2 _) n2) b2 (by decide) 3 _⟩, ⟨Kd.R_set (Kd.R_drewN (Kd.R_set (Kd.R_drewN HO1.out _) b0 (by decide) 2 _) n2) b2 (by decide) 3 _⟩, ⟨below_set (pw_below_drewN (below_set (pw_below_drewN HBB.out _) HX.out.2.2.1) _) HX.out.2.2.1⟩, ⟨Kept.setCell (Kept.drewN (Kept.setCell (Kept.drewN HKK.out _) (.inl HX.out.2.1) _) _) (.inl HX.out.2.1) _⟩⟩
      · have HDN := Aside0.mk (fun W (e1 : W.cell? ⟨g, 1, none⟩ = some (.slice A6 data.length c6)) (e2 : W.cell? ⟨g, 2, none⟩ = some (.int .i64 a)) => Dnext.done W g A6 data.length c6 a e1 e2 ha)
        have HQ : Aside0 (pullP data (4 - (i + 1)) a (v * 256) = pullP data 4 0 0) := ⟨by rw [← HI.out.2.2.2.2.2, show 4 - i = (4 - (i + 1)) + 1 by omega, pullP, show nextA data a = a by unfold nextA; rw [if_neg ha], show nextP data a = 0 by unfold nextP; rw [if_neg ha], Int.add_zero]⟩
        have HV2 : Aside0 (v * 256 < 256 ^ (i + 1)) := ⟨by have h9 := HI.out.2.2.2.2.1; rw [Int.pow_succ]; omega⟩
        have HV0 : Aside0 (0 ≤ v * 256) := ⟨by omega⟩
        go_wp2
        go_region_with (go_at_call 51; (with_reducible refine (HDN.out _ ?qa ?qb).mono ?_); (case qa => exact c1); (case qb => exact c2); rintro e w2 ⟨rfl, n1, rfl⟩)
        all_goals go_wp2
        all_goals go_roundg (gk - 1)
        case' measure => have := HI.out; omega
        all_goals first | (have := HI.out; omega) | skip
        all_goals
          have b0 := blk_drewN HB1.out (1 + n1)
          have b1 := blk_put b0 3 (.int .i64 (v * 256)) rfl
          refine ⟨i + 1, a, v * 256, by first | rfl | simp, ⟨by omega, by have := HI.out; omega, HI.out.2.2.1, HV0.out, HV2.out, HQ.out⟩, ⟨b1⟩, ⟨Kd.R_set (Kd.R_drewN HP1.out _) b0 (by decide) 3 _⟩, ⟨Kd.R_set (Kd.R_drewN HO1.out _) b0 (by decide) 3 _⟩, ⟨below_set (pw_below_drewN HBB.out _) HX.out.2.2.1⟩, ⟨Kept.setCell (Kept.drewN HKK.out _) (.inl HX.out.2.1) _⟩⟩
    · have g4 : ¬ (i : Int) < 4 := by omega
      have he : pullP data 0 a v = pullP data 4 0 0 := by rw [← HI.out.2.2.2.2.2, show 4 - i = 0 by have := HI.out.1; omega]
      have hmin : startD s data = ⟨s.p, data, (a : Int), min v 4294967294, 4294967295, true⟩ := by
        show (⟨s.p, data, (((pullP data 4 0 0).1 : Nat) : Int), min (pullP data 4 0 0).2 4294967294, 4294967295, true⟩ : DecS) = _
        rw [← he]
        rfl
      have HM := Lib.hid hmin
      clear he hmin
      go_wp2
      all_goals go_ret
      all_goals
        refine ⟨rfl, ?_⟩
        rw [HM.out]
      · rw [show min v 4294967294 = 4294967294 by omega]
        exact start_end HB1.out HP1.out HO1.out HBB.out HKK.out HX.out.2.1 HX.out.2.2.1 _ _ _
      · rw [show min v 4294967294 = v by omega]
        exact start_end HB1.out HP1.out HO1.out HBB.out HKK.out HX.out.2.1 HX.out.2.2.1 _ _ _
end Go.Proofs.Ytfbdenlpoidnjaa.P
-- Decode's step in plain terms, and its bounds.
set_option linter.unusedVariables false
set_option linter.unusedSimpArgs false
namespace Go.Proofs.Ytfbdenlpoidnjaa.P
open Go.RowKit Go.Proofs.YtfbdenlpoidnjaaW.PrintWords

/-- The bit, and the value and the range ahead of the renewal. -/
def midD (v size x : Int) : Int × Int × Int := if v < splitP size x then (0, v, splitP size x) else (1, v - splitP size x, size - splitP size x)
/-- A range that is small is enlarged: once is enough. -/
def rnD (data : List Int) (t : Nat × Int × Int) : Nat × Int × Int := if t.2.2 < 16777216 then (nextA data t.1, t.2.1 * 256 + nextP data t.1, t.2.2 * 256) else t
/-- Decode's answer and the decoder behind it. -/
def decE (s : DecS) (i : Nat) : Int × DecS :=
  let m := midD s.value s.size (rd s.p (i : Int))
  let t := rnD s.data (s.at_.toNat, m.2.1, m.2.2)
  (m.1, ⟨s.p.set i (adaptP (rd s.p (i : Int)) m.1), s.data, (t.1 : Int), t.2.1, t.2.2, true⟩)
/-- A decoder's probabilities. -/
structure DecP (s : DecS) : Prop where
  p0 : 0 < s.p.length
  p1 : s.p.length ≤ 64
  p : OkP s.p
/-- What a decoder is that has begun a codeword. -/
structure DecOk (s : DecS) : Prop extends DecP s where
  started : s.started = true
  data : Byt s.data
  len : s.data.length ≤ 1000000
  at0 : 0 ≤ s.at_
  at1 : s.at_ ≤ s.data.length
  v0 : 0 ≤ s.value
  v1 : s.value < s.size
  size0 : 16777216 ≤ s.size
  size1 : s.size ≤ 4294967295
structure DMid (data : List Int) (t : Nat × Int × Int) : Prop where
  a1 : t.1 ≤ data.length
  v0 : 0 ≤ t.2.1
  v1 : t.2.1 < t.2.2
  size0 : 65536 ≤ t.2.2
  size1 : t.2.2 ≤ 4294967295
theorem newD_p (n : Nat) (h0 : 1 ≤ n) (h1 : n ≤ 64) : DecP (newD n) := by
  have h := newE_ok n h0 h1
  exact ⟨h.p0, h.p1, h.p⟩
theorem startD_ok {s : DecS} (h : DecP s) {data : List Int} (hb : Byt data) (hl : data.length ≤ 1000000) : DecOk (startD s data) := by
  obtain ⟨h1, h2, h3⟩ := pullP_bd hb 4 0 0 (Int.le_refl 0)
  refine ⟨⟨h.p0, h.p1, h.p⟩, rfl, hb, hl, ?_, ?_, ?_, ?_, ?_, ?_⟩
  · show 0 ≤ (((pullP data 4 0 0).1 : Nat) : Int); omega
  · show (((pullP data 4 0 0).1 : Nat) : Int) ≤ (data.length : Int); omega
  · show 0 ≤ min (pullP data 4 0 0).2 4294967294; omega
  · show min (pullP data 4 0 0).2 4294967294 < 4294967295; omega
  · show (16777216 : Int) ≤ 4294967295; omega
  · show (4294967295 : Int) ≤ 4294967295; omega
theorem midD_ok {data : List Int} {a : Nat} {v size x : Int} (ha : a ≤ data.length) (v0 : 0 ≤ v) (v1 : v < size) (h0 : 16777216 ≤ size) (h1 : size ≤ 4294967295) (hx : 31 ≤ x ∧ x ≤ 4065) : DMid data (a, (midD v size x).2.1, (midD v size x).2.2) := by
  have hs := splitP_bd h0 h1 hx
  unfold midD
  split
  · rename_i hlt
    exact ⟨ha, v0, hlt, hs.1, by show splitP size x ≤ _; omega⟩
  · rename_i hlt
    exact ⟨ha, by show 0 ≤ v - splitP size x; omega, by show v - splitP size x < size - splitP size x; omega, hs.2.1, by show size - splitP size x ≤ _; omega⟩
theorem nextA_le {data : List Int} {a : Nat} (h : a ≤ data.length) : nextA data a ≤ data.length := by
  unfold nextA
  split <;> omega
theorem rnD_ok {data : List Int} {t : Nat × Int × Int} (hb : Byt data) (h : DMid data t) : DMid data (rnD data t) ∧ 16777216 ≤ (rnD data t).2.2 := by
  obtain ⟨a1, v0, v1, s0, s1⟩ := h
  have hn := nextP_bd hb t.1
  unfold rnD
  split
  · rename_i hlt
    refine ⟨⟨nextA_le a1, ?_, ?_, ?_, ?_⟩, ?_⟩
    · show 0 ≤ t.2.1 * 256 + nextP data t.1; omega
    · show t.2.1 * 256 + nextP data t.1 < t.2.2 * 256; omega
    · show _ ≤ t.2.2 * 256; omega
    · show t.2.2 * 256 ≤ _; omega
    · show _ ≤ t.2.2 * 256; omega
  · exact ⟨⟨a1, v0, v1, s0, s1⟩, by omega⟩
theorem decE_ok {s : DecS} (h : DecOk s) {i : Nat} (hi : i < s.p.length) : DecOk (decE s i).2 := by
  have hx := h.p.get hi
  have ha : s.at_.toNat ≤ s.data.length := by have := h.at1; omega
  obtain ⟨hm, hs⟩ := rnD_ok h.data (midD_ok (x := rd s.p (i : Int)) ha h.v0 h.v1 h.size0 h.size1 hx)
  refine ⟨⟨?_, ?_, h.p.set (adapt_ok hx)⟩, rfl, h.data, h.len, ?_, ?_, hm.v0, hm.v1, hs, hm.size1⟩
  · show 0 < (s.p.set i _).length; rw [List.length_set]; exact h.p0
  · show (s.p.set i _).length ≤ 64; rw [List.length_set]; exact h.p1
  · exact Int.natCast_nonneg _
  · exact Int.ofNat_le.2 hm.a1
theorem decE_bit (s : DecS) (i : Nat) : (decE s i).1 = 0 ∨ (decE s i).1 = 1 := by
  show (midD _ _ _).1 = 0 ∨ (midD _ _ _).1 = 1
  unfold midD
  split
  · exact .inl rfl
  · exact .inr rfl
theorem rnD_step {data : List Int} {a : Nat} {v size : Int} (hb : Byt data) (h : DMid data (a, v, size)) (hlt : size < 16777216) : DMid data (nextA data a, v * 256 + nextP data a, size * 256) ∧ rnD data (nextA data a, v * 256 + nextP data a, size * 256) = rnD data (a, v, size) ∧ ¬ size * 256 < 16777216 := by
  have e : rnD data (a, v, size) = (nextA data a, v * 256 + nextP data a, size * 256) := by unfold rnD; rw [if_pos hlt]
  obtain ⟨h1, h2⟩ := rnD_ok hb h
  rw [e] at h1 h2
  have h3 : ¬ size * 256 < 16777216 := by have : 16777216 ≤ size * 256 := h2; omega
  refine ⟨h1, ?_, h3⟩
  rw [e]
  unfold rnD
  rw [if_neg h3]
end Go.Proofs.Ytfbdenlpoidnjaa.P
