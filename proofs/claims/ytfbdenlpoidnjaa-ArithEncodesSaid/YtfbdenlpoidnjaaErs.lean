/- The methods of arith's models, in plain terms: restart, has, split, adapt. -/
import Derived.Test.YtfbdenlpoidnjaaPx1
import Derived.LoopTactic
import Derived.WalkSpells
import Derived.Outline
import Derived.Lib.Hide
import Derived.Deep.RegionHeld3
import Derived.Deep.DrawnRows
import Derived.Deep.RegionWith
set_option linter.unusedVariables false
set_option linter.unusedSimpArgs false
namespace Go.Proofs.Ytfbdenlpoidnjaa.P
open Go.RowKit Go.Proofs.YtfbdenlpoidnjaaW.PrintWords Go.Proofs.YtfbdenlpoidnjaaW.PrintLast Go.Proofs.YtfbdenlpoidnjaaW.PrintMore

/-- What lies behind a pointer to models: the row p, which is the call's own. -/
def Mods (w0 w : World) (S : Nat → Prop) (g : Nat) (vp : Value) (p : List Int) : Prop :=
  w.cell? ⟨g, 0, none⟩ = some vp ∧ (∃ cells t, w.heap[g]? = some (.cells cells t (0, 0)) ∧ t ≠ 3) ∧ Kd.R (Kd.int .i64) 3 w w0.heap.size S vp p ∧ p.length ≤ 1000
theorem rep_set (p : List Int) (i : Nat) (h : i < p.length) (x : Int) : (List.replicate i x ++ p.drop i).set i x = List.replicate (i + 1) x ++ p.drop (i + 1) := by
  rw [List.set_append_right _ _ (by simp), List.length_replicate, Nat.sub_self, List.drop_eq_getElem_cons h, List.set_cons_zero, List.replicate_succ', List.append_assoc]
  rfl
set_option maxHeartbeats 8000000 in
set_option maxRecDepth 100000 in
theorem restart.calls (w0 w : World) (S : Nat → Prop) (g : Nat) (vp : Value) (p : List Int) (hB : Below w0.heap.size w0 w) (h : Mods w0 w S g vp p) :
    Calls Try.prog 46 #[.pointer (some ⟨g, 0, none⟩)] w fun e w' => e = .returned (.tuple #[]) ∧ Kd.R (Kd.int .i64) 3 w' w0.heap.size S vp (List.replicate p.length 2048) ∧ Below w0.heap.size w0 w' ∧ Kept w w' (fun k => some k = vp.ownBlock) := by
  obtain ⟨hc, ⟨cells, t, hb, ht⟩, hR, hl⟩ := h
  have hne := Kd.R_ne hR hb (fun e => ht e.symm)
  by_cases hp : p.length = 0
  · have hp0 : p = [] := List.eq_nil_of_length_eq_zero hp
    subst hp0
    have HR := Aside0.mk hR
    have HB := Aside0.mk hB
    obtain ⟨A, c, rfl⟩ := Kd.R_slice hR
    have hc0 : w.cell? ⟨g, 0, none⟩ = some (.slice A 0 c) := hc
    clear hR hB hb hne hc
    go_enter Try.func46, Try.ntmps46
    go_wp2
    go_loopg [8] 1 (fun kq v8 w' => v8 = .int .i64 0 ∧ w' = w)
    case atStart => exact ⟨by first | rfl | simp, rfl⟩
    case round =>
      obtain ⟨rfl, rfl⟩ := hrel
      go_wp2
      first | go_end0 | ((try simp only [Exit.inBlock, Exit.then]); refine bodyPost_ret (results_none rfl _ _ _) rfl ?_)
      exact ⟨rfl, HR.out, HB.out, Kept.refl _ _⟩
  · obtain ⟨b, cap, rfl, hb0, hb1, _⟩ := Kd.R_form hR (by omega)
    have hgb : g ≠ b := fun e => hne (by subst e; rfl)
    have hgl := blk_lt hb
    have HB := Aside0.mk hB
    have HR := Aside0.mk hR
    have HL := Lib.hid hl
    have hl2 : (p.length : Int) ≤ 1000 := by omega
    have HC := Aside0.mk hc
    have HG := Aside0.mk (And.intro hgb (And.intro hgl (And.intro hb0 hb1)))
    clear hB hR hl hb ht hne hp hb0 hb1 hgl
    go_enter Try.func46, Try.ntmps46
    go_wp2
    go_loopg [8] (p.length + 1) (fun kq v8 w' => ∃ i : Nat, v8 = .int .i64 i ∧ Aside0 (i ≤ p.length ∧ kq + i = p.length + 1) ∧ Aside0 (Kd.R (Kd.int .i64) 3 w' w0.heap.size S (.slice (some ⟨b, 0, none⟩) (List.replicate i 2048 ++ p.drop i).length cap) (List.replicate i 2048 ++ p.drop i)) ∧ Aside0 (Kept w w' (fun k => some k = some b)) ∧ Aside0 (Below w0.heap.size w0 w'))
    case atStart => exact ⟨0, by first | rfl | simp, ⟨by omega, by omega⟩, ⟨by simpa using HR.out⟩, ⟨Kept.refl _ _⟩, HB⟩
    case round =>
      obtain ⟨i, rfl, HI, HRi, HKi, HBi⟩ := hrel
      have hil : (List.replicate i (2048 : Int) ++ p.drop i).length = p.length := by have := HI.out; simp; omega
      have hcr : wr.cell? ⟨g, 0, none⟩ = some (.slice (some ⟨b, 0, none⟩) p.length cap) := by
        rw [← HC.out]
        exact World.cell?_of_block (HKi.out.2 g HG.out.2.1 (fun e => hgb (Option.some.inj e)))
      by_cases hi : i < p.length
      · have hlt : (i : Int) < (p.length : Int) := by omega
        have hi0 : (0 : Int) ≤ (i : Int) := by omega
        obtain ⟨x1, x2⟩ := Kd.R_cell (0 : Int) HRi.out (i : Int) (by omega) (by rw [hil]; omega)
        rw [Int.toNat_natCast] at x1 x2
        have hput := Kd.R_put HRi.out (i : Int) (2048 : Int)
        rw [Int.toNat_natCast, rep_set p i hi] at hput
        have HPUT := Aside0.mk hput
        have HIL := Lib.hid hil
        have HLT := Aside0.mk hi
        clear hput hil hi
        go_wp2
        go_roundg (gk - 1)
        case measure => have := HI.out; omega
        case rel => exact ⟨i + 1, by first | rfl | simp, ⟨by have := HLT.out; omega, by have := HI.out; have := HLT.out; omega⟩, ⟨by have h := HPUT.out; rw [HIL.out] at h; have hl : (List.replicate (i + 1) (2048 : Int) ++ p.drop (i + 1)).length = p.length := (by have := HLT.out; simp; omega); rw [hl]; exact h.1⟩, ⟨Kept.setCell HKi.out (.inl rfl) _⟩, ⟨below_set HBi.out HG.out.2.2.1⟩⟩
      · have hge : ¬ (i : Int) < (p.length : Int) := by omega
        have hie : i = p.length := by have := HI.out; omega
        subst hie
        go_wp2
        first | go_end0 | ((try simp only [Exit.inBlock, Exit.then]); refine bodyPost_ret (results_none rfl _ _ _) rfl ?_)
        exact ⟨rfl, by have := HRi.out; rw [List.drop_length, List.append_nil] at this; simpa using this, HBi.out, HKi.out⟩
end Go.Proofs.Ytfbdenlpoidnjaa.P
-- newModels: the first probabilities.
set_option linter.unusedVariables false
set_option linter.unusedSimpArgs false
namespace Go.Proofs.Ytfbdenlpoidnjaa.P
open Go.RowKit Go.Proofs.YtfbdenlpoidnjaaW.PrintWords Go.Proofs.YtfbdenlpoidnjaaW.PrintLast Go.Proofs.YtfbdenlpoidnjaaW.PrintMore

theorem info3i : (Try.prog.info? 3).map (fun i => (i.zero, i.size, i.bytes)) = some (some (.int .i64 0), 1, 8) := by kernel_rfl
set_option maxHeartbeats 8000000 in
set_option maxRecDepth 100000 in
theorem newModels.calls (n : Nat) (w : World) (h0 : 1 ≤ n) (h1 : n ≤ 64) :
    Calls Try.prog 39 #[.int .i64 n] w fun e w' => ∃ vp : Value, e = .returned (.agg #[vp]) ∧ Kd.R (Kd.int .i64) 3 w' w.heap.size (fun _ => True) vp (List.replicate n 2048) ∧ Below w.heap.size w w' := by
  have HN := Aside0.mk (And.intro h0 h1)
  go_enter Try.func39, Try.ntmps39
  go_wp2_with (first | ((with_reducible refine gate_dst (N := 5) rfl ?_); refine Kd.R_make (Kd.int .i64) _ 3 rfl (N := 5) rfl 35 _ _ rfl (n : Int) rfl rfl Try.underlying35 (.int .i64 0) 8 info3i rfl (by decide) (by decide) (0 : Int) (ok := fun _ => True) (okp := fun _ => True) ?hz (fun _ h => h) trivial (by omega) (by simp; omega) (Below.refl _ _) (Nat.le_refl _) ?_; (case hz => rfl); intro v5 w5 hR hb hg hn; have e5 : ∃ A c, v5 = .slice A n c := (by obtain ⟨A, c, h⟩ := Kd.R_slice hR; exact ⟨A, c, by simpa using h⟩); obtain ⟨A5, c5, rfl⟩ := e5; have hR2 : Kd.R (Kd.int .i64) 3 w5 (w.heap.size + 1) (fun _ => True) (.slice A5 n c5) (List.replicate n 0) := (by simpa using hR); have HR5 := Aside0.mk hR2; have HM5 := Aside0.mk (show Mods w (w5.alloc (.cells #[.slice A5 n c5] 62)) (fun _ => True) w5.heap.size (.slice A5 n c5) (List.replicate n (0 : Int)) from ⟨(blk_cell (heap_alloc_new w5 _) 0).trans rfl, ⟨_, 62, heap_alloc_new w5 _, by decide⟩, Kd.R_lower (Kd.R_alloc hR2 _) (by simp), by have := HN.out; simp; omega⟩); have HB5 := Aside0.mk (below_alloc (below_then (below_alloc (Below.refl w.heap.size w) (.cells #[.slice none 0 0] 62)) (below_alloc (Below.refl w.heap.size w) (.cells #[.slice none 0 0] 62)).size hb) (.cells #[.slice A5 n c5] 62)); have HW5 := Aside0.mk ((hb.block w.heap.size (by simp)).trans (heap_alloc_new w (.cells #[.slice none 0 0] 62))); clear hR hb hg hn hR2) | (go_at_call 46; (with_reducible refine (restart.calls w _ (fun _ => True) w5.heap.size (.slice A5 n c5) (List.replicate n 0) HB5.out HM5.out).mono ?_); rintro e w7 ⟨rfl, hR7, hb7, hk7⟩; have hlt5 : w.heap.size < w5.heap.size := blk_lt HW5.out; have hx7 : w7.heap[w5.heap.size]? = some (.cells #[.slice A5 n c5] 62) := (hk7.2 w5.heap.size (by simp) (fun e => by have := Kd.R_lt HR5.out _ e.symm; omega)).trans (heap_alloc_new w5 _); have hy7 : w7.heap[w.heap.size]? = some (.cells #[.slice none 0 0] 62) := (hk7.2 w.heap.size (by simp; omega) (fun e => by have := Kd.R_base HR5.out _ e.symm; omega)).trans ((Below.heap_alloc w5 _ _ hlt5).trans HW5.out); have a0 : w7.cell? ⟨w5.heap.size, 0, none⟩ = some (.slice A5 n c5) := (blk_cell hx7 0).trans rfl; have b0 : w7.cell? ⟨w.heap.size, 0, none⟩ = some (.slice none 0 0) := (blk_cell hy7 0).trans rfl; have f0 := blk_frozen hy7 0; have HR7 := Aside0.mk hR7; have HB7 := Aside0.mk hb7; have HY7 := Aside0.mk hy7; clear hR7 hb7 hk7 hx7 hy7))
  exact bodyPost_ret (v := .agg #[.slice A5 n c5]) (by simp [results, Try.results39, go_sem, b0, f0]) rfl ⟨_, rfl, Kd.R_set (by simpa using HR7.out) HY7.out (by decide) 0 _, below_set HB7.out (Nat.le_refl _)⟩
end Go.Proofs.Ytfbdenlpoidnjaa.P
-- What lies behind a pointer to an encoder: its cells, its probabilities and its bytes; NewEncoder.
set_option linter.unusedVariables false
set_option linter.unusedSimpArgs false
namespace Go.Proofs.Ytfbdenlpoidnjaa.P
open Go.RowKit Go.Proofs.YtfbdenlpoidnjaaW.PrintWords Go.Proofs.YtfbdenlpoidnjaaW.PrintLast Go.Proofs.YtfbdenlpoidnjaaW.PrintMore

/-- An encoder in plain terms. -/
structure EncS where
  p : List Int
  out : List Int
  low : Int
  size : Int
  begun : Bool
/-- The blocks of the encoder at g are new since b, and in S. -/
def EncAt (b : Nat) (w : World) (S : Nat → Prop) (g : Nat) (s : EncS) : Prop :=
  ∃ vp vo : Value, w.heap[g]? = some (.cells #[vp, vo, .int .i64 s.low, .int .i64 s.size, .bool s.begun] 64) ∧ S g ∧ b ≤ g ∧ Kd.R (Kd.int .i64) 3 w b S vp s.p ∧ Kd.R (Kd.int .u8) 5 w b S vo s.out
theorem EncAt.kept {b : Nat} {w w' : World} {S T : Nat → Prop} {g : Nat} {s : EncS} (h : EncAt b w S g s) (hk : Kept w w' T) (hd : ∀ k, S k → ¬ T k) : EncAt b w' S g s := by
  obtain ⟨vp, vo, h1, h2, h3, h4, h5⟩ := h
  exact ⟨vp, vo, (hk.2 g (blk_lt h1) (hd g h2)).trans h1, h2, h3, Kd.R_step h4 (fun k hs hl => hk.2 k hl (hd k hs)), Kd.R_step h5 (fun k hs hl => hk.2 k hl (hd k hs))⟩
theorem EncAt.mono {b : Nat} {w : World} {S T : Nat → Prop} {g : Nat} {s : EncS} (h : EncAt b w S g s) (hs : ∀ k, S k → T k) : EncAt b w T g s := by
  obtain ⟨vp, vo, h1, h2, h3, h4, h5⟩ := h
  exact ⟨vp, vo, h1, hs g h2, h3, Kd.R_mono h4 hs, Kd.R_mono h5 hs⟩
theorem EncAt.lower {b b' : Nat} {w : World} {S : Nat → Prop} {g : Nat} {s : EncS} (h : EncAt b w S g s) (hb : b' ≤ b) : EncAt b' w S g s := by
  obtain ⟨vp, vo, h1, h2, h3, h4, h5⟩ := h
  exact ⟨vp, vo, h1, h2, by omega, Kd.R_lower h4 hb, Kd.R_lower h5 hb⟩
/-- Its blocks are there, and new since b. -/
theorem EncAt.bound {b : Nat} {w : World} {S : Nat → Prop} {g : Nat} {s : EncS} (h : EncAt b w S g s) : EncAt b w (fun k => S k ∧ b ≤ k ∧ k < w.heap.size) g s := by
  obtain ⟨vp, vo, h1, h2, h3, h4, h5⟩ := h
  exact ⟨vp, vo, h1, ⟨h2, h3, blk_lt h1⟩, h3, Kd.R_mono (Kd.R_bound h4) (fun k hk => ⟨hk.1, hk.2.1, hk.2.2.1⟩), Kd.R_mono (Kd.R_bound h5) (fun k hk => ⟨hk.1, hk.2.1, hk.2.2.1⟩)⟩
theorem EncAt.below {b : Nat} {w w' : World} {S : Nat → Prop} {g : Nat} {s : EncS} (h : EncAt b w S g s) (hb : Below w.heap.size w w') : EncAt b w' S g s :=
  h.kept (Kept.of_below hb (fun _ => False)) (fun _ _ h => h)
/-- A new encoder. -/
def newE (n : Nat) : EncS := ⟨List.replicate n 2048, [], 0, 4294967295, false⟩
set_option maxHeartbeats 8000000 in
set_option maxRecDepth 100000 in
theorem NewEncoder.good (n : Nat) (w : World) (h0 : 1 ≤ n) (h1 : n ≤ 64) :
    Calls Try.prog 15 #[.int .i64 n] w fun e w' => ∃ g : Nat, e = .returned (.tuple #[.pointer (some ⟨g, 0, none⟩), .int .i64 0]) ∧ EncAt w.heap.size w' (fun _ => True) g (newE n) ∧ Below w.heap.size w w' := by
  have g1 : ¬ (n : Int) < 1 := by omega
  have g2 : ¬ (64 : Int) < (n : Int) := by omega
  have HN := Aside0.mk (And.intro h0 h1)
  clear h0 h1
  go_enter Try.func15, Try.ntmps15
  go_wp2_with (go_at_call 39; (with_reducible refine (newModels.calls n _ HN.out.1 HN.out.2).mono ?_); rintro e w5 ⟨vp, rfl, hR, hb⟩; have e5 : ∃ A c, vp = .slice A n c := (by obtain ⟨A, c, h⟩ := Kd.R_slice hR; exact ⟨A, c, by simpa using h⟩); obtain ⟨A5, c5, rfl⟩ := e5; have HR := Aside0.mk hR; have HB := Aside0.mk hb; clear hR hb)
  go_ret2
  exact ⟨_, rfl, ⟨_, _, heap_alloc_new w5 _, trivial, HB.out.size, Kd.R_alloc HR.out _, Kd.R_nil _ _ _ _ _⟩, below_alloc HB.out _⟩
set_option maxHeartbeats 8000000 in
set_option maxRecDepth 100000 in
theorem NewEncoder.bad (n : Int) (w : World) (h : n < 1 ∨ 64 < n) :
    Calls Try.prog 15 #[.int .i64 n] w fun e w' => e = .returned (.tuple #[.pointer none, .int .i64 2]) ∧ Below w.heap.size w w' := by
  by_cases h1 : n < 1
  · clear h
    go_enter Try.func15, Try.ntmps15
    go_wp2
    go_ret2
    exact ⟨rfl, Below.refl _ _⟩
  · have h2 : 64 < n := by omega
    clear h
    go_enter Try.func15, Try.ntmps15
    go_wp2
    go_ret2
    exact ⟨rfl, Below.refl _ _⟩
end Go.Proofs.Ytfbdenlpoidnjaa.P
-- The small methods of models and encoders.
set_option linter.unusedVariables false
set_option linter.unusedSimpArgs false
namespace Go.Proofs.Ytfbdenlpoidnjaa.P
open Go.RowKit Go.Proofs.YtfbdenlpoidnjaaW.PrintWords Go.Proofs.YtfbdenlpoidnjaaW.PrintLast Go.Proofs.YtfbdenlpoidnjaaW.PrintMore

/-- The probability after a bit. -/
def adaptP (p bit : Int) : Int := if bit = 0 then p + (4096 - p) / 32 else p - p / 32
theorem adapt_f (p bit : Int) (h0 : 0 ≤ p) (h1 : p ≤ 4096) (hb : bit = 0 ∨ bit = 1) : Ev (fun k => arith_Adapt.f k p bit) (adaptP p bit) := by
  refine ⟨1, fun k hk => ?_⟩
  obtain ⟨k, rfl⟩ : ∃ j, k = j + 1 := ⟨k - 1, by omega⟩
  unfold arith_Adapt.f
  have d : Int.tdiv (wrap64 (4096 - p)) 32 = (4096 - p) / 32 := by
    rw [show wrap64 (4096 - p) = 4096 - p by unfold wrap64; omega, Int.tdiv_eq_ediv_of_nonneg (by omega)]
  have d2 : Int.tdiv p 32 = p / 32 := Int.tdiv_eq_ediv_of_nonneg h0
  show (if p < 0 then arith_Adapt.j0 (k + 1) p bit true else arith_Adapt.j0 (k + 1) p bit (decide (p > 4096))) = some (adaptP p bit)
  rw [if_neg (by omega), decide_eq_false (by omega), arith_Adapt.j0, if_neg (by decide), d, d2]
  unfold adaptP
  rcases hb with rfl | rfl
  · rw [if_pos rfl, if_pos rfl]
    congr 1
    unfold wrap64
    omega
  · rw [if_neg (by decide), if_pos rfl, if_neg (by decide)]
    congr 1
    unfold wrap64
    omega
theorem split_le (size x : Int) (h0 : 0 ≤ size) (h1 : 0 ≤ x) (h2 : x ≤ 4096) : 0 ≤ size / 4096 * x ∧ size / 4096 * x ≤ size := by
  have q : 0 ≤ size / 4096 := by omega
  have a := Int.mul_le_mul_of_nonneg_left h2 q
  have b := Int.mul_nonneg q h1
  exact ⟨b, by omega⟩
theorem valid.nil (w : World) : Calls Try.prog 42 #[.pointer none] w fun e w' => e = .returned (.bool false) ∧ w' = w := by
  go_enter Try.func42, Try.ntmps42
  go_wp2
  go_ret
  exact ⟨rfl, rfl⟩
theorem valid.at (w : World) (g n c : Nat) (A : Option Addr) (hc : w.cell? ⟨g, 0, none⟩ = some (.slice A n c)) (h0 : 0 < n) : Calls Try.prog 42 #[.pointer (some ⟨g, 0, none⟩)] w fun e w' => e = .returned (.bool true) ∧ w' = w := by
  have h1 : (0 : Int) < (n : Int) := by omega
  go_enter Try.func42, Try.ntmps42
  go_wp2
  go_ret
  exact ⟨rfl, rfl⟩
theorem valid.zero (w : World) (g c : Nat) (A : Option Addr) (hc : w.cell? ⟨g, 0, none⟩ = some (.slice A 0 c)) : Calls Try.prog 42 #[.pointer (some ⟨g, 0, none⟩)] w fun e w' => e = .returned (.bool false) ∧ w' = w := by
  go_enter Try.func42, Try.ntmps42
  go_wp2
  go_ret
  exact ⟨rfl, rfl⟩
theorem has.yes (w : World) (g n c : Nat) (A : Option Addr) (hc : w.cell? ⟨g, 0, none⟩ = some (.slice A n c)) (i : Int) (h0 : 0 ≤ i) (h1 : i < n) : Calls Try.prog 47 #[.pointer (some ⟨g, 0, none⟩), .int .i64 i] w fun e w' => e = .returned (.bool true) ∧ w' = w := by
  go_enter Try.func47, Try.ntmps47
  go_wp2
  go_ret
  exact ⟨rfl, rfl⟩
theorem has.no (w : World) (g n c : Nat) (A : Option Addr) (hc : w.cell? ⟨g, 0, none⟩ = some (.slice A n c)) (i : Int) (h : ¬ (0 ≤ i ∧ i < n)) : Calls Try.prog 47 #[.pointer (some ⟨g, 0, none⟩), .int .i64 i] w fun e w' => e = .returned (.bool false) ∧ w' = w := by
  by_cases h0 : 0 ≤ i
  · have h1 : ¬ i < (n : Int) := fun hh => h ⟨h0, hh⟩
    clear h
    go_enter Try.func47, Try.ntmps47
    go_wp2
    go_ret
    exact ⟨rfl, rfl⟩
  · clear h
    go_enter Try.func47, Try.ntmps47
    go_wp2
    go_ret
    exact ⟨rfl, rfl⟩
theorem split.calls (w : World) (g n c b : Nat) (hc : w.cell? ⟨g, 0, none⟩ = some (.slice (some ⟨b, 0, none⟩) n c)) (i : Nat) (x size : Int) (h1 : i < n) (hx : w.cell? ⟨b, i, none⟩ = some (.int .i64 x)) (hs0 : 0 ≤ size) (hs1 : size < 4294967296) (hx0 : 0 ≤ x) (hx1 : x ≤ 4096) :
    Calls Try.prog 48 #[.pointer (some ⟨g, 0, none⟩), .int .i64 i, .int .i64 size] w fun e w' => e = .returned (.int .i64 (size / 4096 * x)) ∧ w' = w := by
  have h2 : (0 : Int) ≤ (i : Int) := by omega
  have h3 : (i : Int) < (n : Int) := by omega
  go_enter Try.func48, Try.ntmps48
  go_wp2
  go_ret
  refine ⟨?_, rfl⟩
  have hb := split_le size x hs0 hx0 hx1
  show Ending.returned (.int .i64 (wrap64 (size / 4096 * x))) = _
  rw [show wrap64 (size / 4096 * x) = size / 4096 * x by unfold wrap64; omega]
theorem keep_other {w : World} {g b i j nd : Nat} {u v : Value} (h : g ≠ b) (hc : w.cell? ⟨g, j, none⟩ = some u) : ((w.drewN nd).setCell ⟨b, i, none⟩ v).cell? ⟨g, j, none⟩ = some u :=
  (World.cell?_setCell_other _ _ _ _ (fun e => h (by injection e with e1; exact e1.symm))).trans hc
set_option maxHeartbeats 2000000 in
theorem adapt.calls (w : World) (g n c b : Nat) (hc : w.cell? ⟨g, 0, none⟩ = some (.slice (some ⟨b, 0, none⟩) n c)) (i : Nat) (x bit : Int) (h1 : i < n) (hx : w.cell? ⟨b, i, none⟩ = some (.int .i64 x)) (hf : w.frozen? ⟨b, i, none⟩ = false) (hx0 : 0 ≤ x) (hx1 : x ≤ 4096) (hbit : bit = 0 ∨ bit = 1) (hgb : g ≠ b) :
    Calls Try.prog 49 #[.pointer (some ⟨g, 0, none⟩), .int .i64 i, .int .i64 bit] w fun e w' => e = .returned (.tuple #[]) ∧ ∃ nd, w' = (w.drewN nd).setCell ⟨b, i, none⟩ (.int .i64 (adaptP x bit)) := by
  have h2 : (0 : Int) ≤ (i : Int) := by omega
  have h3 : (i : Int) < (n : Int) := by omega
  obtain ⟨k, hk⟩ := (adapt_f x bit hx0 hx1 hbit).rounds
  have HK := Aside0.mk hk
  clear hk
  go_enter Try.func49, Try.ntmps49
  go_wp2
  go_region_with (go_at_call 11; (with_reducible refine (arith_Adapt.calls k _ _ _ _ HK.out).mono ?_); rintro e w1 ⟨rfl, ⟨n1, rfl⟩⟩)
  all_goals go_wp2
  all_goals first | go_end0 | ((try simp only [Exit.inBlock, Exit.then]); refine bodyPost_ret (results_none rfl _ _ _) rfl ?_)
  all_goals exact ⟨rfl, _, rfl⟩
end Go.Proofs.Ytfbdenlpoidnjaa.P
-- Size, Probability and Reset of an encoder, and what an encoder answers that is nil or that no function returned.
set_option linter.unusedVariables false
set_option linter.unusedSimpArgs false
namespace Go.Proofs.Ytfbdenlpoidnjaa.P
open Go.RowKit Go.Proofs.YtfbdenlpoidnjaaW.PrintWords Go.Proofs.YtfbdenlpoidnjaaW.PrintLast Go.Proofs.YtfbdenlpoidnjaaW.PrintMore

/-- A pointer to no encoder. -/
abbrev BadE (v : Value) (w : World) : Prop := Calls Try.prog 42 #[v] w fun e w' => e = .returned (.bool false) ∧ w' = w
theorem Size.bad (v : Value) (w : World) (h : BadE v w) : Calls Try.prog 28 #[v] w fun e w' => e = .returned (.int .i64 0) ∧ w' = w := by
  have H := Aside0.mk h
  clear h
  go_enter Try.func28, Try.ntmps28
  go_wp2_with (go_at_call 42; (with_reducible refine H.out.mono ?_); rintro e w1 ⟨rfl, rfl⟩)
  go_ret
  exact ⟨rfl, rfl⟩
theorem Probability.bad (v : Value) (i : Int) (w : World) (h : BadE v w) : Calls Try.prog 30 #[v, .int .i64 i] w fun e w' => e = .returned (.int .i64 0) ∧ w' = w := by
  have H := Aside0.mk h
  clear h
  go_enter Try.func30, Try.ntmps30
  go_wp2_with (go_at_call 42; (with_reducible refine H.out.mono ?_); rintro e w1 ⟨rfl, rfl⟩)
  go_ret
  exact ⟨rfl, rfl⟩
theorem Encode.bad (v : Value) (i b : Int) (w : World) (h : BadE v w) : Calls Try.prog 26 #[v, .int .i64 i, .int .i64 b] w fun e w' => e = .returned (.int .i64 6) ∧ w' = w := by
  have H := Aside0.mk h
  clear h
  go_enter Try.func26, Try.ntmps26
  go_wp2_with (go_at_call 42; (with_reducible refine H.out.mono ?_); rintro e w1 ⟨rfl, rfl⟩)
  go_ret
  exact ⟨rfl, rfl⟩
theorem Terminate.bad (v : Value) (w : World) (h : BadE v w) : Calls Try.prog 22 #[v] w fun e w' => e = .returned (.slice none 0 0) ∧ w' = w := by
  have H := Aside0.mk h
  clear h
  go_enter Try.func22, Try.ntmps22
  go_wp2_with (go_at_call 42; (with_reducible refine H.out.mono ?_); rintro e w1 ⟨rfl, rfl⟩)
  go_ret
  exact ⟨rfl, rfl⟩
theorem Reset.bad (v : Value) (w : World) (h : BadE v w) : Calls Try.prog 24 #[v] w fun e w' => e = .returned (.tuple #[]) ∧ w' = w := by
  have H := Aside0.mk h
  clear h
  go_enter Try.func24, Try.ntmps24
  go_wp2_with (go_at_call 42; (with_reducible refine H.out.mono ?_); rintro e w1 ⟨rfl, rfl⟩)
  first | go_end0 | ((try simp only [Exit.inBlock, Exit.then]); refine bodyPost_ret (results_none rfl _ _ _) rfl ?_)
  exact ⟨rfl, rfl⟩
/-- What Size answers. -/
def sizeE (s : EncS) : Int := if s.begun then (s.out.length : Int) + 4 else 0
theorem Size.good (b : Nat) (w : World) (S : Nat → Prop) (g : Nat) (s : EncS) (h : EncAt b w S g s) (hp : 0 < s.p.length) (ho : s.out.length ≤ 1000000000) : Calls Try.prog 28 #[.pointer (some ⟨g, 0, none⟩)] w fun e w' => e = .returned (.int .i64 (sizeE s)) ∧ w' = w := by
  obtain ⟨vp, vo, h1, h2, h3, h4, h5⟩ := h
  obtain ⟨A, c, rfl⟩ := Kd.R_slice h4
  obtain ⟨A2, c2, rfl⟩ := Kd.R_slice h5
  have x0 : w.cell? ⟨g, 0, none⟩ = some (.slice A s.p.length c) := (blk_cell h1 0).trans rfl
  have x1 : w.cell? ⟨g, 1, none⟩ = some (.slice A2 s.out.length c2) := (blk_cell h1 1).trans rfl
  have x4 : w.cell? ⟨g, 4, none⟩ = some (.bool s.begun) := (blk_cell h1 4).trans rfl
  have HV := Aside0.mk (valid.at w g s.p.length c A x0 hp)
  have HS : Hid (sizeE s = if s.begun then (s.out.length : Int) + 4 else 0) := Lib.hid rfl
  generalize s.begun = bg at *
  generalize s.out.length = L at *
  have hw : wrap64 ((L : Int) + 4) = (L : Int) + 4 := by unfold wrap64; omega
  clear h1 h2 h3 h4 h5
  cases bg
  all_goals
    go_enter Try.func28, Try.ntmps28
    go_wp2_with (go_at_call 42; (with_reducible refine HV.out.mono ?_); rintro e w1 ⟨rfl, rfl⟩)
    go_ret
    exact ⟨by rw [HS.out]; first | rfl | (simp [hw]; done), rfl⟩
/-- What Probability answers. -/
def probE (p : List Int) (i : Int) : Int := if 0 ≤ i ∧ i < p.length then rd p i else 0
theorem Probability.good (b : Nat) (w : World) (S : Nat → Prop) (g : Nat) (s : EncS) (i : Int) (h : EncAt b w S g s) (hp : 0 < s.p.length) : Calls Try.prog 30 #[.pointer (some ⟨g, 0, none⟩), .int .i64 i] w fun e w' => e = .returned (.int .i64 (probE s.p i)) ∧ w' = w := by
  obtain ⟨vp, vo, h1, h2, h3, h4, h5⟩ := h
  obtain ⟨bb, c, rfl, hb0, hb1, _⟩ := Kd.R_form h4 hp
  have x0 : w.cell? ⟨g, 0, none⟩ = some (.slice (some ⟨bb, 0, none⟩) s.p.length c) := (blk_cell h1 0).trans rfl
  have HV := Aside0.mk (valid.at w g s.p.length c _ x0 hp)
  have HS : Hid (probE s.p i = if 0 ≤ i ∧ i < s.p.length then rd s.p i else 0) := Lib.hid rfl
  by_cases hi : 0 ≤ i ∧ i < s.p.length
  · have HH := Aside0.mk (has.yes w g s.p.length c _ x0 i hi.1 hi.2)
    obtain ⟨y0, y1⟩ := Kd.R_cell (0 : Int) h4 i hi.1 hi.2
    have e1 : rdOf (0 : Int) s.p i = rd s.p i := rfl
    rw [e1] at y0
    rw [if_pos hi] at HS
    obtain ⟨i0, i1⟩ := hi
    generalize rd s.p i = x at *
    generalize s.p.length = L at *
    clear h1 h2 h3 h4 h5 hb0 hb1 y1
    go_enter Try.func30, Try.ntmps30
    go_wp2_with (first | (go_at_call 42; (with_reducible refine HV.out.mono ?_); rintro e w1 ⟨rfl, rfl⟩) | (go_at_call 47; (with_reducible refine HH.out.mono ?_); rintro e w2 ⟨rfl, rfl⟩))
    go_ret
    exact ⟨by rw [HS.out]; first | rfl | simp, rfl⟩
  · have HH := Aside0.mk (has.no w g s.p.length c _ x0 i hi)
    rw [if_neg hi] at HS
    generalize s.p.length = L at *
    clear h1 h2 h3 h4 h5 hb0 hb1 hi
    go_enter Try.func30, Try.ntmps30
    go_wp2_with (first | (go_at_call 42; (with_reducible refine HV.out.mono ?_); rintro e w1 ⟨rfl, rfl⟩) | (go_at_call 47; (with_reducible refine HH.out.mono ?_); rintro e w2 ⟨rfl, rfl⟩))
    go_ret
    exact ⟨by rw [HS.out]; first | rfl | simp, rfl⟩
end Go.Proofs.Ytfbdenlpoidnjaa.P
-- Reset of an encoder: the first probabilities.
set_option linter.unusedVariables false
set_option linter.unusedSimpArgs false
namespace Go.Proofs.Ytfbdenlpoidnjaa.P
open Go.RowKit Go.Proofs.YtfbdenlpoidnjaaW.PrintWords Go.Proofs.YtfbdenlpoidnjaaW.PrintLast Go.Proofs.YtfbdenlpoidnjaaW.PrintMore

theorem EncAt.restart {b : Nat} {w w' : World} {S : Nat → Prop} {g : Nat} {s : EncS} {vp vo : Value} {q : List Int} (h1 : w.heap[g]? = some (.cells #[vp, vo, .int .i64 s.low, .int .i64 s.size, .bool s.begun] 64)) (h2 : S g) (h3 : b ≤ g) (h4 : Kd.R (Kd.int .i64) 3 w b S vp s.p) (h5 : Kd.R (Kd.int .u8) 5 w b S vo s.out)
    (hR : Kd.R (Kd.int .i64) 3 w' b S vp q) (hk : Kept w w' (fun k => some k = vp.ownBlock)) : EncAt b w' S g ⟨q, s.out, s.low, s.size, s.begun⟩ := by
  have hne : some g ≠ vp.ownBlock := Kd.R_ne h4 h1 (by decide)
  have h6 := Kd.R_apartR h5 h4 (by decide)
  exact ⟨vp, vo, (hk.2 g (blk_lt h1) hne).trans h1, h2, h3, hR, Kd.R_mono (Kd.R_step h6 (fun k hs hl => hk.2 k hl hs.2)) (fun k hs => hs.1)⟩
theorem Reset.good (w0 w : World) (S : Nat → Prop) (g : Nat) (s : EncS) (hB : Below w0.heap.size w0 w) (h : EncAt w0.heap.size w S g s) (hp : 0 < s.p.length) (hp2 : s.p.length ≤ 1000) : Calls Try.prog 24 #[.pointer (some ⟨g, 0, none⟩)] w fun e w' => e = .returned (.tuple #[]) ∧ EncAt w0.heap.size w' S g ⟨List.replicate s.p.length 2048, s.out, s.low, s.size, s.begun⟩ ∧ Below w0.heap.size w0 w' ∧ Kept w w' S := by
  obtain ⟨vp, vo, h1, h2, h3, h4, h5⟩ := h
  obtain ⟨A, c, e⟩ := Kd.R_slice h4
  have x0 : w.cell? ⟨g, 0, none⟩ = some (.slice A s.p.length c) := by rw [← e]; exact (blk_cell h1 0).trans rfl
  have HV := Aside0.mk (valid.at w g s.p.length c A x0 hp)
  have HM := Aside0.mk (restart.calls w0 w S g vp s.p hB ⟨(blk_cell h1 0).trans rfl, ⟨_, 64, h1, by decide⟩, h4, hp2⟩)
  have HQ := Aside0.mk (fun (w' : World) (hR : Kd.R (Kd.int .i64) 3 w' w0.heap.size S vp (List.replicate s.p.length 2048)) (hk : Kept w w' (fun k => some k = vp.ownBlock)) => And.intro (EncAt.restart h1 h2 h3 h4 h5 hR hk) (Kept.mono hk (fun k hk => h4.1 k hk.symm)))
  generalize List.replicate s.p.length (2048 : Int) = q at *
  clear h1 h2 h3 h4 h5 hp hp2 hB e x0
  go_enter Try.func24, Try.ntmps24
  go_wp2_with (first | (go_at_call 42; (with_reducible refine HV.out.mono ?_); rintro e w1 ⟨rfl, rfl⟩) | (go_at_call 46; (with_reducible refine HM.out.mono ?_); rintro e w2 ⟨rfl, hR, hb, hk⟩))
  first | go_end0 | ((try simp only [Exit.inBlock, Exit.then]); refine bodyPost_ret (results_none rfl _ _ _) rfl ?_)
  exact ⟨rfl, (HQ.out _ hR hk).1, hb, (HQ.out _ hR hk).2⟩
end Go.Proofs.Ytfbdenlpoidnjaa.P
