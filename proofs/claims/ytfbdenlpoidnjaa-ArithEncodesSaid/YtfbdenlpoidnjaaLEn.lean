/- The law ArithEncodes, walked. -/
import Derived.Test.YtfbdenlpoidnjaaRen
import Derived.Test.YtfbdenlpoidnjaaRtm
import Derived.Test.YtfbdenlpoidnjaaAwk
import Derived.Test.YtfbdenlpoidnjaaBit
set_option linter.unusedVariables false
set_option linter.unusedSimpArgs false
namespace Go.Proofs.Ytfbdenlpoidnjaa.P
open Go.RowKit Go.Proofs.YtfbdenlpoidnjaaW.PrintWords Go.Proofs.YtfbdenlpoidnjaaW.PrintLast Go.Proofs.YtfbdenlpoidnjaaW.PrintMore

/-- The calls' bytes are bytes. -/
def ByC (l : List S48) : Prop := ∀ x ∈ l, Byt x.f3
open Classical in
noncomputable def waveletlaw11_ArithEncodes.f (a0 : Int) (l1 : List S48) : Option Bool := if ByC l1 then some true else none
theorem beq_t {a b : Int} (h : a = b) : (a == b) = true := by simpa using h
theorem beq_f {a b : Int} (h : ¬ a = b) : (a == b) = false := by simpa using h
theorem same_nil (w : World) : Calls Try.prog 21 #[.slice none 0 0, .slice none 0 0] w fun e w' => e = .returned (.bool true) ∧ Drawn0 w w' :=
  same_calls none 0 none 0 [] (by decide) w (Kd.C_nil _ _) (Nat.le_refl _) (Kd.C_nil _ _) (Nat.le_refl _)
/-- Two encoders side by side, in the same plain state. -/
def EPair (w0 w : World) (g1 g2 : Nat) (s : EncS) : Prop :=
  ∃ S1 S2 : Nat → Prop, EncAt w0.heap.size w S1 g1 s ∧ REncAt w0.heap.size w S2 g2 s ∧ (∀ k, S1 k → ¬ S2 k) ∧ (∀ k, S1 k → k < w.heap.size) ∧ (∀ k, S2 k → k < w.heap.size)
theorem EPair.step {w0 wr W0 w3 w4 : World} {S1 S2 : Nat → Prop} {g1 g2 : Nat} {s : EncS} (ha : ∀ k, S1 k → ¬ S2 k) (h1 : ∀ k, S1 k → k < wr.heap.size) (h2 : ∀ k, S2 k → k < wr.heap.size) (hW : wr.heap.size ≤ W0.heap.size) (hD : EncAt w0.heap.size w3 (fun k => S1 k ∨ W0.heap.size ≤ k) g1 s) (hk1 : W0.heap.size ≤ w3.heap.size) (hR : REncAt w0.heap.size w4 (fun k => S2 k ∨ w3.heap.size ≤ k) g2 s) (hk2 : Kept w3 w4 S2) : EPair w0 w4 g1 g2 s := by
  refine ⟨fun k => (S1 k ∨ W0.heap.size ≤ k) ∧ k < w3.heap.size, fun k => (S2 k ∨ w3.heap.size ≤ k) ∧ k < w4.heap.size, ?_, ?_, ?_, ?_, ?_⟩
  · exact (hD.bound.mono (fun k hk => ⟨hk.1, hk.2.2⟩)).kept hk2 (fun k hk h => hk.1.elim (fun h3 => ha k h3 h) (fun h3 => by have := h2 k h; omega))
  · exact hR.bound.mono (fun k hk => ⟨hk.1, hk.2.2⟩)
  · intro k hk h
    rcases h.1 with h3 | h3
    · exact hk.1.elim (fun h4 => ha k h4 h3) (fun h4 => by have := h2 k h3; omega)
    · omega
  · intro k hk
    have := hk2.1
    omega
  · exact fun k hk => hk.2
theorem EPair.below {w0 w w' : World} {g1 g2 : Nat} {s : EncS} (h : EPair w0 w g1 g2 s) (hb : Below w.heap.size w w') : EPair w0 w' g1 g2 s := by
  obtain ⟨S1, S2, h1, h2, h3, h4, h5⟩ := h
  exact ⟨S1, S2, h1.below hb, h2.below hb, h3, fun k hk => Nat.lt_of_lt_of_le (h4 k hk) hb.size, fun k hk => Nat.lt_of_lt_of_le (h5 k hk) hb.size⟩
/-- What an encoder is at any time, behind at most n calls. -/
structure ESt (s : EncS) (n : Nat) : Prop where
  ok : EncOk s
  inv : Inv s
  len : s.out.length ≤ n
theorem ESt.new (n : Nat) (h0 : 1 ≤ n) (h1 : n ≤ 64) : ESt (newE n) 0 := ⟨newE_ok n h0 h1, (newE_beg n).inv, Nat.le_refl _⟩
theorem ESt.term {s : EncS} {n : Nat} (h : ESt s n) : ESt (termE s) (n + 1) := ⟨termE_ok h.ok, (termE_beg s).inv, Nat.zero_le _⟩
theorem ESt.reset {s : EncS} {n : Nat} (h : ESt s n) : ESt (resetE s) (n + 1) := by
  refine ⟨⟨?_, ?_, ?_, h.ok.out, h.ok.low0, h.ok.low1, h.ok.size0, h.ok.size1⟩, h.inv, Nat.le_succ_of_le h.len⟩
  · show 0 < (List.replicate s.p.length (2048 : Int)).length; rw [List.length_replicate]; exact h.ok.p0
  · show (List.replicate s.p.length (2048 : Int)).length ≤ 64; rw [List.length_replicate]; exact h.ok.p1
  · intro z hz
    have := (List.mem_replicate.1 hz).2
    omega
theorem ESt.enc {s : EncS} {n i : Nat} (h : ESt s n) (hi : i < s.p.length) (bit : Int) : ESt (encE s i bit) (n + 1) := ⟨encE_ok h.ok hi bit, encE_inv h.ok h.inv hi bit, Nat.le_trans (encE_length s i bit) (Nat.succ_le_succ h.len)⟩
theorem ESt.up {s : EncS} {n : Nat} (h : ESt s n) : ESt s (n + 1) := ⟨h.ok, h.inv, Nat.le_succ_of_le h.len⟩
theorem term_len3 {s : EncS} {n : Nat} (h : ESt s n) (hn : n ≤ 300) : (termP s).length ≤ 1000000 := by
  have h1 := (term_in h.ok h.inv).2.2
  have h2 := h.len
  omega
set_option maxHeartbeats 8000000 in
set_option maxRecDepth 100000 in
theorem encodes_nil (n : Int) (A1 : Option Addr) (c1 : Nat) (l1 : List S48) (w : World) (hr1 : Kd.C k48 w A1 l1.length l1) (hc1 : l1.length ≤ c1) (hn : n < 1 ∨ 64 < n) (hf : FewOk l1)
    (hb1 : ∀ w : World, Kd.C k48 w A1 l1.length l1 → l1.length ≤ c1 → Calls Try.prog 19 #[.slice A1 l1.length c1] w fun e w' => e = .returned (.bool true) ∧ Drawn0 w w') :
    Calls Try.prog 7 #[.int .i64 n, .slice A1 l1.length c1] w fun e w' => e = .returned (.bool true) ∧ Below w.heap.size w w' := by
  have HB1 := Aside0.mk (hb1 w hr1 hc1)
  have HC := Aside0.mk hr1
  have HN := Aside0.mk hn
  have hl : (l1.length : Int) ≤ 300 := by have := hf.1; omega
  clear hr1 hc1 hn hf hb1
  go_enter Try.func7, Try.ntmps7
  go_wp2_with (first
    | (go_at_call 19; (with_reducible refine HB1.out.mono ?_); rintro e w1 ⟨rfl, ⟨m1, rfl⟩⟩)
    | (go_at_call 15; (with_reducible refine (NewEncoder.bad n _ HN.out).mono ?_); rintro e w2 ⟨rfl, hb⟩; have HB2 := Aside0.mk (below_then (pw_below_drewN (Below.refl w.heap.size w) m1) (Nat.le_refl _) hb); clear hb)
    | (go_at_call 20; (with_reducible refine (RNewEncoder.bad n _ HN.out).mono ?_); rintro e w3 ⟨rfl, hb⟩; have HB3 := Aside0.mk (below_then HB2.out HB2.out.size hb); clear hb))
  go_loopg [37] (l1.length + 1) (fun kq v37 w' => ∃ i : Nat, v37 = .int .i64 i ∧ Aside0 (i ≤ l1.length ∧ kq + i = l1.length + 1) ∧ Aside0 (Below w.heap.size w w'))
  case atStart => exact ⟨0, by first | rfl | simp, ⟨by omega, by omega⟩, HB3⟩
  case round =>
    obtain ⟨i, rfl, HI, HB⟩ := hrel
    by_cases hlt : i < l1.length
    · have hil : (i : Int) < (l1.length : Int) := by omega
      obtain ⟨ad, Ad, cd, rfl, z0, z1, z2, z3, zl, zC⟩ := at_T48 (Kd.C_below HC.out HB.out) (i : Int) (by omega) (by omega)
      rw [Int.toNat_natCast] at z0 z1 z2 z3
      generalize rd_T48 l1 (i : Int) = x at *
      obtain ⟨f0, f1, f2, dt⟩ := x
      dsimp only at z0 z1 z2 z3 zl zC
      clear zl zC
      have HI' : Aside0 (i < l1.length ∧ gk + i = l1.length + 1) := ⟨hlt, HI.out.2⟩
      by_cases k2 : f0 = 2
      · have b2 := beq_t k2
        clear k2
        go_wp2_with (first
          | (go_at_call 22; (with_reducible refine (Terminate.bad _ _ (valid.nil _)).mono ?_); rintro e w4 ⟨rfl, hw⟩; replace hw := hw.symm; subst hw)
          | (go_at_call 23; (with_reducible refine (RTerminate.nil _).mono ?_); rintro e w4 ⟨rfl, hw⟩; replace hw := hw.symm; subst hw)
          | (go_at_call 21; (with_reducible refine (same_nil _).mono ?_); rintro e w4 ⟨rfl, ⟨m4, rfl⟩⟩))
        go_region_held3 (fun W => W.cell? ⟨wr.heap.size, 1, none⟩ = some (.int .i64 f1)) (first | go_keep | assumption)
          (first
            | (go_at_call 28; (with_reducible refine (Size.bad _ _ (valid.nil _)).mono ?_); rintro e w4 ⟨rfl, hw⟩; replace hw := hw.symm; subst hw)
            | (go_at_call 29; (with_reducible refine (RSize.nil _).mono ?_); rintro e w4 ⟨rfl, hw⟩; replace hw := hw.symm; subst hw)
            | (go_at_call 30; (with_reducible refine (Probability.bad _ _ _ (valid.nil _)).mono ?_); rintro e w4 ⟨rfl, hw⟩; replace hw := hw.symm; subst hw)
            | (go_at_call 31; (with_reducible refine (RProbability.nil _ _).mono ?_); rintro e w4 ⟨rfl, hw⟩; replace hw := hw.symm; subst hw))
        go_wp2
        go_roundg (gk - 1)
        case measure => have := HI.out; omega
        case rel => exact ⟨i + 1, by first | rfl | simp, ⟨by have := HI'.out; omega, by have := HI'.out; omega⟩, ⟨by first | exact pw_below_drewN (below_alloc HB.out _) _ | exact below_drew (pw_below_drewN (below_alloc HB.out _) _) | exact pw_below_drewN (pw_below_drewN (below_alloc HB.out _) _) _⟩⟩
      · have b2 := beq_f k2
        by_cases k3 : f0 = 3
        · have b3 := beq_t k3
          clear k2 k3
          go_wp2_with (first
            | (go_at_call 24; (with_reducible refine (Reset.bad _ _ (valid.nil _)).mono ?_); rintro e w4 ⟨rfl, hw⟩; replace hw := hw.symm; subst hw)
            | (go_at_call 25; (with_reducible refine (RReset.nil _).mono ?_); rintro e w4 ⟨rfl, hw⟩; replace hw := hw.symm; subst hw))
          go_region_held3 (fun W => W.cell? ⟨wr.heap.size, 1, none⟩ = some (.int .i64 f1)) (first | go_keep | assumption)
            (first
              | (go_at_call 28; (with_reducible refine (Size.bad _ _ (valid.nil _)).mono ?_); rintro e w4 ⟨rfl, hw⟩; replace hw := hw.symm; subst hw)
              | (go_at_call 29; (with_reducible refine (RSize.nil _).mono ?_); rintro e w4 ⟨rfl, hw⟩; replace hw := hw.symm; subst hw)
              | (go_at_call 30; (with_reducible refine (Probability.bad _ _ _ (valid.nil _)).mono ?_); rintro e w4 ⟨rfl, hw⟩; replace hw := hw.symm; subst hw)
              | (go_at_call 31; (with_reducible refine (RProbability.nil _ _).mono ?_); rintro e w4 ⟨rfl, hw⟩; replace hw := hw.symm; subst hw))
          go_wp2
          go_roundg (gk - 1)
          case measure => have := HI.out; omega
          case rel => exact ⟨i + 1, by first | rfl | simp, ⟨by have := HI'.out; omega, by have := HI'.out; omega⟩, ⟨by first | exact below_alloc HB.out _ | exact below_drew (below_alloc HB.out _) | exact pw_below_drewN (below_alloc HB.out _) _⟩⟩
        · have b3 := beq_f k3
          clear k2 k3
          go_wp2
          go_region_held3 (fun W => W.cell? ⟨wr.heap.size, 1, none⟩ = some (.int .i64 f1) ∧ W.cell? ⟨wr.heap.size, 2, none⟩ = some (.int .i64 f2)) (first | go_keep | assumption)
            (first
              | (go_at_call 26; (with_reducible refine (Encode.bad _ _ _ _ (valid.nil _)).mono ?_); rintro e w4 ⟨rfl, hw⟩; replace hw := hw.symm; subst hw)
              | (go_at_call 27; (with_reducible refine (REncode.nil _ _ _).mono ?_); rintro e w4 ⟨rfl, hw⟩; replace hw := hw.symm; subst hw))
          go_wp2
          go_region_held3 (fun W => W.cell? ⟨wr.heap.size, 1, none⟩ = some (.int .i64 f1)) (first | go_keep | assumption)
            (first
              | (go_at_call 28; (with_reducible refine (Size.bad _ _ (valid.nil _)).mono ?_); rintro e w4 ⟨rfl, hw⟩; replace hw := hw.symm; subst hw)
              | (go_at_call 29; (with_reducible refine (RSize.nil _).mono ?_); rintro e w4 ⟨rfl, hw⟩; replace hw := hw.symm; subst hw)
              | (go_at_call 30; (with_reducible refine (Probability.bad _ _ _ (valid.nil _)).mono ?_); rintro e w4 ⟨rfl, hw⟩; replace hw := hw.symm; subst hw)
              | (go_at_call 31; (with_reducible refine (RProbability.nil _ _).mono ?_); rintro e w4 ⟨rfl, hw⟩; replace hw := hw.symm; subst hw))
          go_wp2
          go_roundg (gk - 1)
          case measure => have := HI.out; omega
          case rel => exact ⟨i + 1, by first | rfl | simp, ⟨by have := HI'.out; omega, by have := HI'.out; omega⟩, ⟨by first | exact below_drew (below_alloc HB.out _) | exact below_drew (below_drew (below_alloc HB.out _)) | exact pw_below_drewN (below_drew (below_alloc HB.out _)) _⟩⟩
    · have hil : ¬ (i : Int) < (l1.length : Int) := by omega
      go_wp2_with (first
        | (go_at_call 22; (with_reducible refine (Terminate.bad _ _ (valid.nil _)).mono ?_); rintro e w4 ⟨rfl, hw⟩; replace hw := hw.symm; subst hw)
        | (go_at_call 23; (with_reducible refine (RTerminate.nil _).mono ?_); rintro e w4 ⟨rfl, hw⟩; replace hw := hw.symm; subst hw)
        | (go_at_call 21; (with_reducible refine (same_nil _).mono ?_); rintro e w4 ⟨rfl, ⟨m4, rfl⟩⟩)
        | (go_at_call 13; (with_reducible refine (awake.calls _).mono ?_); rintro e W8 ⟨rfl, hb⟩; have HB8 := Aside0.mk hb; clear hb))
      go_ret
      exact ⟨rfl, below_then (pw_below_drewN HB.out m4) (pw_below_drewN HB.out m4).size HB8.out⟩
set_option maxHeartbeats 8000000 in
set_option maxRecDepth 100000 in
theorem encodes_good (n : Nat) (A1 : Option Addr) (c1 : Nat) (l1 : List S48) (w : World) (hr1 : Kd.C k48 w A1 l1.length l1) (hc1 : l1.length ≤ c1) (hn0 : 1 ≤ n) (hn1 : n ≤ 64) (hf : FewOk l1) (hby : ByC l1)
    (hb1 : ∀ w : World, Kd.C k48 w A1 l1.length l1 → l1.length ≤ c1 → Calls Try.prog 19 #[.slice A1 l1.length c1] w fun e w' => e = .returned (.bool true) ∧ Drawn0 w w') :
    Calls Try.prog 7 #[.int .i64 n, .slice A1 l1.length c1] w fun e w' => e = .returned (.bool true) ∧ Below w.heap.size w w' := by
  have HB1 := Aside0.mk (hb1 w hr1 hc1)
  have HC := Aside0.mk hr1
  have HN := Aside0.mk (And.intro hn0 hn1)
  have hl : (l1.length : Int) ≤ 300 := by have := hf.1; omega
  have HST0 := Aside0.mk (ESt.new n hn0 hn1)
  clear hr1 hc1 hn0 hn1 hf hb1 hby
  go_enter Try.func7, Try.ntmps7
  go_wp2_with (first
    | (go_at_call 19; (with_reducible refine HB1.out.mono ?_); rintro e w1 ⟨rfl, ⟨m1, rfl⟩⟩)
    | (go_at_call 15; (with_reducible refine (NewEncoder.good n _ HN.out.1 HN.out.2).mono ?_); rintro e w2 ⟨g1, rfl, hD, hb⟩; have HB2 := Aside0.mk (below_then (pw_below_drewN (Below.refl w.heap.size w) m1) (Nat.le_refl _) hb); have HD2 : Aside0 (EncAt w.heap.size w2 (fun k => k < w2.heap.size) g1 (newE n)) := ⟨hD.bound.mono (fun k hk => hk.2.2)⟩; clear hD hb)
    | (go_at_call 20; (with_reducible refine (RNewEncoder.good n _ HN.out.1 HN.out.2).mono ?_); rintro e w3 ⟨g2, rfl, hR, hb⟩; have HB3 := Aside0.mk (below_then HB2.out HB2.out.size hb); have HP3 : Aside0 (EPair w w3 g1 g2 (newE n)) := ⟨⟨fun k => k < w2.heap.size, fun k => w2.heap.size ≤ k ∧ k < w3.heap.size, HD2.out.below hb, (hR.bound.mono (fun k hk => hk.2)).lower HB2.out.size, fun k h1 h2 => Nat.lt_irrefl _ (Nat.lt_of_lt_of_le h1 h2.1), fun k hk => Nat.lt_of_lt_of_le hk hb.size, fun k hk => hk.2⟩⟩; clear hR hb))
  go_loopg [37] (l1.length + 1) (fun kq v37 w' => ∃ (i : Nat) (s : EncS), v37 = .int .i64 i ∧ Aside0 (i ≤ l1.length ∧ kq + i = l1.length + 1) ∧ Aside0 (ESt s i) ∧ Aside0 (EPair w w' g1 g2 s) ∧ Aside0 (Below w.heap.size w w'))
  case atStart => exact ⟨0, newE n, by first | rfl | simp, ⟨by omega, by omega⟩, HST0, HP3, HB3⟩
  case round =>
    obtain ⟨i, s, rfl, HI, HS, HP, HB⟩ := hrel
    obtain ⟨S1, S2, hD0, hR0, hap, hs1, hs2⟩ := HP.out
    have HAP := Aside0.mk (And.intro hap (And.intro hs1 hs2))
    have HD := Aside0.mk hD0
    have HR := Aside0.mk hR0
    have HOK := Aside0.mk HS.out.ok
    have HINV := Aside0.mk HS.out.inv
    have HI3 : Aside0 (i ≤ 300) := ⟨by have := HI.out.1; omega⟩
    have HLN : Aside0 (s.out.length ≤ 1000000) := ⟨by have h8 := HS.out.len; have h9 := HI3.out; omega⟩
    have HTL : Aside0 ((termP s).length ≤ 1000000) := ⟨term_len3 HS.out HI3.out⟩
    clear hap hs1 hs2 hD0 hR0
    by_cases hlt : i < l1.length
    · have hil : (i : Int) < (l1.length : Int) := by omega
      obtain ⟨ad, Ad, cd, rfl, z0, z1, z2, z3, zl, zC⟩ := at_T48 (Kd.C_below HC.out HB.out) (i : Int) (by omega) (by omega)
      rw [Int.toNat_natCast] at z0 z1 z2 z3
      generalize rd_T48 l1 (i : Int) = x at *
      obtain ⟨f0, f1, f2, dt⟩ := x
      dsimp only at z0 z1 z2 z3 zl zC
      clear zl zC
      have HI' : Aside0 (i < l1.length ∧ gk + i = l1.length + 1) := ⟨hlt, HI.out.2⟩
      have HIL : Aside0 (i + 1 ≤ 300) := ⟨by omega⟩
      have HW0 : Aside0 (wr.heap.size + 1 = (wr.alloc (.cells #[.int .i64 f0, .int .i64 f1, .int .i64 f2, .slice Ad dt.length cd] 48)).heap.size) := ⟨by simp⟩
      have HB0 := Aside0.mk (below_alloc HB.out (.cells #[.int .i64 f0, .int .i64 f1, .int .i64 f2, .slice Ad dt.length cd] 48))
      have HD0 := Aside0.mk (HD.out.below (below_alloc (Below.refl _ _) (.cells #[.int .i64 f0, .int .i64 f1, .int .i64 f2, .slice Ad dt.length cd] 48)))
      have HR0 := Aside0.mk (HR.out.below (below_alloc (Below.refl _ _) (.cells #[.int .i64 f0, .int .i64 f1, .int .i64 f2, .slice Ad dt.length cd] 48)))
      have HY0 : Aside0 ((wr.alloc (.cells #[.int .i64 f0, .int .i64 f1, .int .i64 f2, .slice Ad dt.length cd] 48)).heap[wr.heap.size]? = some (.cells #[.int .i64 f0, .int .i64 f1, .int .i64 f2, .slice Ad dt.length cd] 48)) := ⟨heap_alloc_new wr _⟩
      have HH1 : Aside0 (∀ k, S1 k → k < (wr.alloc (.cells #[.int .i64 f0, .int .i64 f1, .int .i64 f2, .slice Ad dt.length cd] 48)).heap.size) := ⟨fun k h => by have := HAP.out.2.1 k h; rw [← HW0.out]; omega⟩
      have HH20 : Aside0 (∀ k, S2 k → k < (wr.alloc (.cells #[.int .i64 f0, .int .i64 f1, .int .i64 f2, .slice Ad dt.length cd] 48)).heap.size) := ⟨fun k h => by have := HAP.out.2.2 k h; rw [← HW0.out]; omega⟩
      have HP1 : Aside0 (s.p.length ≤ 1000) := ⟨by have := HOK.out.p1; omega⟩
      have HP0 : Aside0 (0 < s.p.length) := ⟨HOK.out.p0⟩
      by_cases k2 : f0 = 2
      · have b2 := beq_t k2
        clear k2
        go_wp2_with (first
          | (go_at_call 22; (with_reducible refine (Terminate.good w _ S1 g1 s HB0.out HD0.out HOK.out HLN.out HH1.out).mono ?_); rintro e w4 ⟨v, rfl, hv, hE, hb, hk⟩; obtain ⟨Av, cv, ev⟩ := Kd.R_slice hv; subst ev; have HV4 := Aside0.mk hv; have HE4 := Aside0.mk hE; have HB4 := Aside0.mk hb; have HL4 : Aside0 ((wr.alloc (.cells #[.int .i64 f0, .int .i64 f1, .int .i64 f2, .slice Ad dt.length cd] 48)).heap.size ≤ w4.heap.size) := ⟨hk.1⟩; have HR4 := Aside0.mk (HR0.out.kept hk (fun k h1 h2 => HAP.out.1 k h2 h1)); have HH2 : Aside0 (∀ k, S2 k → k < w4.heap.size) := ⟨fun k h => Nat.lt_of_lt_of_le (HH20.out k h) hk.1⟩; have hy4 := (hk.2 wr.heap.size (by simp) (fun h => Nat.lt_irrefl _ (HAP.out.2.1 _ h))).trans HY0.out; have HY4 := Aside0.mk hy4; clear hy4; clear hv hE hb hk)
          | (go_at_call 23; (with_reducible refine (RTerminate.good w _ S2 g2 s HB4.out HR4.out HOK.out HINV.out HLN.out HH2.out).mono ?_); rintro e w5 ⟨v', T, rfl, hv', hE', hT, hb, hk⟩; obtain ⟨Ax, cx, ex⟩ := Kd.R_slice hv'; subst ex; have HX5 := Aside0.mk hv'; have HE5 := Aside0.mk (hE'.mono (fun k h => (hT k h).1)); have HB5 := Aside0.mk hb; have HK5 := Aside0.mk hk; have HV5 := Aside0.mk (Kd.R_step HV4.out (fun k hs hl => hk.2 k hl (fun h => (by have h8 := HH20.out k h; omega)))); have y5 : w5.cell? ⟨wr.heap.size, 1, none⟩ = some (.int .i64 f1) := (blk_cell ((hk.2 wr.heap.size (by have h9 := HL4.out; simp at h9; omega) (fun h => Nat.lt_irrefl _ (HAP.out.2.2 _ h))).trans HY4.out) 1).trans rfl; clear hv' hE' hT hb hk)
          | (go_at_call 21; (with_reducible refine (same_calls Av cv Ax cx (termP s) HTL.out _ (Kd.R_reads' HV5.out).2.2 (Kd.R_reads' HV5.out).2.1 (Kd.R_reads' HX5.out).2.2 (Kd.R_reads' HX5.out).2.1).mono ?_); rintro e w6 ⟨rfl, ⟨m6, rfl⟩⟩))

        have HEP : Aside0 (EPair w (w5.drewN m6) g1 g2 (termE s)) := ⟨(EPair.step HAP.out.1 HAP.out.2.1 HAP.out.2.2 (by rw [← HW0.out]; omega) (HE4.out.mono (fun k h => .inl h)) HL4.out HE5.out HK5.out).below (pw_below_drewN (Below.refl _ _) _)⟩
        have HSN : Aside0 (ESt (termE s) (i + 1)) := ⟨HS.out.term⟩
        obtain ⟨T1, T2, t1, t2, t3⟩ := HEP.out
        have HT1 := Aside0.mk t1
        have HT2 := Aside0.mk t2
        have HPz : Aside0 (0 < (termE s).p.length) := ⟨HSN.out.ok.p0⟩
        have HOz : Aside0 ((termE s).out.length ≤ 1000000000) := ⟨by have h8 := HSN.out.len; have h9 := HIL.out; omega⟩
        clear t1 t2 t3
        go_region_held3 (fun W => W.cell? ⟨wr.heap.size, 1, none⟩ = some (.int .i64 f1)) (first | go_keep | assumption)
          (first
            | (go_at_call 28; (with_reducible refine (Size.good w.heap.size _ T1 g1 (termE s) ?hE HPz.out HOz.out).mono ?_); (case hE => exact HT1.out); rintro e w4' ⟨rfl, hw⟩; replace hw := hw.symm; subst hw)
            | (go_at_call 29; (with_reducible refine (RSize.good w.heap.size _ T2 g2 (termE s) ?hE HPz.out HOz.out).mono ?_); (case hE => exact HT2.out); rintro e w4' ⟨rfl, hw⟩; replace hw := hw.symm; subst hw)
            | (go_at_call 30; (with_reducible refine (Probability.good w.heap.size _ T1 g1 (termE s) _ ?hE HPz.out).mono ?_); (case hE => exact HT1.out); rintro e w4' ⟨rfl, hw⟩; replace hw := hw.symm; subst hw)
            | (go_at_call 31; (with_reducible refine (RProbability.good w.heap.size _ T2 g2 (termE s) _ ?hE HPz.out).mono ?_); (case hE => exact HT2.out); rintro e w4' ⟨rfl, hw⟩; replace hw := hw.symm; subst hw))
        go_wp2
        go_roundg (gk - 1)
        case measure => have := HI.out; omega
        case rel => exact ⟨i + 1, termE s, by first | rfl | simp, ⟨by have := HI'.out; omega, by have := HI'.out; omega⟩, HSN, ⟨HEP.out.below (below_drew (Below.refl _ _))⟩, ⟨below_drew (pw_below_drewN HB5.out _)⟩⟩

      · have b2 := beq_f k2
        by_cases k3 : f0 = 3
        · have b3 := beq_t k3
          clear k2 k3
          go_wp2_with (first
            | (go_at_call 24; (with_reducible refine (Reset.good w _ S1 g1 s HB0.out HD0.out HP0.out HP1.out).mono ?_); rintro e w4 ⟨rfl, hE, hb, hk⟩; have HE4 := Aside0.mk hE; have HB4 := Aside0.mk hb; have HL4 : Aside0 ((wr.alloc (.cells #[.int .i64 f0, .int .i64 f1, .int .i64 f2, .slice Ad dt.length cd] 48)).heap.size ≤ w4.heap.size) := ⟨hk.1⟩; have HR4 := Aside0.mk (HR0.out.kept hk (fun k h1 h2 => HAP.out.1 k h2 h1)); have hy4 := (hk.2 wr.heap.size (by simp) (fun h => Nat.lt_irrefl _ (HAP.out.2.1 _ h))).trans HY0.out; have HY4 := Aside0.mk hy4; clear hy4; clear hE hb hk)
            | (go_at_call 25; (with_reducible refine (RReset.good w _ S2 g2 s HB4.out HR4.out HP1.out).mono ?_); rintro e w5 ⟨rfl, hE', hb, hk⟩; have HE5 := Aside0.mk hE'; have HB5 := Aside0.mk hb; have HK5 := Aside0.mk hk; have y5 : w5.cell? ⟨wr.heap.size, 1, none⟩ = some (.int .i64 f1) := (blk_cell ((hk.2 wr.heap.size (by have h9 := HL4.out; simp at h9; omega) (fun h => Nat.lt_irrefl _ (HAP.out.2.2 _ h))).trans HY4.out) 1).trans rfl; clear hE' hb hk))
          have HEP : Aside0 (EPair w (w5) g1 g2 (resetE s)) := ⟨EPair.step HAP.out.1 HAP.out.2.1 HAP.out.2.2 (by rw [← HW0.out]; omega) (HE4.out.mono (fun k h => .inl h)) HL4.out HE5.out HK5.out⟩
          have HSN : Aside0 (ESt (resetE s) (i + 1)) := ⟨HS.out.reset⟩
          obtain ⟨T1, T2, t1, t2, t3⟩ := HEP.out
          have HT1 := Aside0.mk t1
          have HT2 := Aside0.mk t2
          have HPz : Aside0 (0 < (resetE s).p.length) := ⟨HSN.out.ok.p0⟩
          have HOz : Aside0 ((resetE s).out.length ≤ 1000000000) := ⟨by have h8 := HSN.out.len; have h9 := HIL.out; omega⟩
          clear t1 t2 t3
          go_region_held3 (fun W => W.cell? ⟨wr.heap.size, 1, none⟩ = some (.int .i64 f1)) (first | go_keep | assumption)
            (first
              | (go_at_call 28; (with_reducible refine (Size.good w.heap.size _ T1 g1 (resetE s) ?hE HPz.out HOz.out).mono ?_); (case hE => exact HT1.out); rintro e w4' ⟨rfl, hw⟩; replace hw := hw.symm; subst hw)
              | (go_at_call 29; (with_reducible refine (RSize.good w.heap.size _ T2 g2 (resetE s) ?hE HPz.out HOz.out).mono ?_); (case hE => exact HT2.out); rintro e w4' ⟨rfl, hw⟩; replace hw := hw.symm; subst hw)
              | (go_at_call 30; (with_reducible refine (Probability.good w.heap.size _ T1 g1 (resetE s) _ ?hE HPz.out).mono ?_); (case hE => exact HT1.out); rintro e w4' ⟨rfl, hw⟩; replace hw := hw.symm; subst hw)
              | (go_at_call 31; (with_reducible refine (RProbability.good w.heap.size _ T2 g2 (resetE s) _ ?hE HPz.out).mono ?_); (case hE => exact HT2.out); rintro e w4' ⟨rfl, hw⟩; replace hw := hw.symm; subst hw))
          go_wp2
          go_roundg (gk - 1)
          case measure => have := HI.out; omega
          case rel => exact ⟨i + 1, resetE s, by first | rfl | simp, ⟨by have := HI'.out; omega, by have := HI'.out; omega⟩, HSN, ⟨HEP.out.below (below_drew (Below.refl _ _))⟩, ⟨below_drew (HB5.out)⟩⟩

        · have b3 := beq_f k3
          clear k2 k3
          have HDd := Aside0.mk (HD0.out.below (below_drew (Below.refl _ _)))
          have HRd := Aside0.mk (HR0.out.below (below_drew (Below.refl _ _)))
          have HBd := Aside0.mk (below_drew HB0.out)
          have HYd : Aside0 ((wr.alloc (.cells #[.int .i64 f0, .int .i64 f1, .int .i64 f2, .slice Ad dt.length cd] 48)).drew.heap[wr.heap.size]? = some (.cells #[.int .i64 f0, .int .i64 f1, .int .i64 f2, .slice Ad dt.length cd] 48)) := ⟨HY0.out⟩
          have HWd : Aside0 (wr.heap.size + 1 = (wr.alloc (.cells #[.int .i64 f0, .int .i64 f1, .int .i64 f2, .slice Ad dt.length cd] 48)).drew.heap.size) := ⟨HW0.out⟩
          by_cases hr : (0 ≤ f1 ∧ f1 < s.p.length) ∧ (f2 = 0 ∨ f2 = 1)
          · obtain ⟨j, rfl⟩ : ∃ j : Nat, f1 = (j : Int) := ⟨f1.toNat, by omega⟩
            have hj : j < s.p.length := by omega
            have HJ := Aside0.mk hj
            have HBI := Aside0.mk hr.2
            have HSE := Aside0.mk (HS.out.enc hj f2)
            clear hr hj
            go_wp2
            go_region_held3 (fun W => W.cell? ⟨wr.heap.size, 1, none⟩ = some (.int .i64 (j : Int)) ∧ W.cell? ⟨wr.heap.size, 2, none⟩ = some (.int .i64 f2)) (first | exact ⟨y4, y42⟩ | exact ⟨y5, y52⟩ | go_keep | assumption)
              (first
                | (go_at_call 26; (with_reducible refine (Encode.good w _ S1 g1 s j f2 HBd.out HDd.out HOK.out HJ.out HBI.out HLN.out).mono ?_); rintro e w4 ⟨rfl, hE, hb, hk⟩; have HE4 := Aside0.mk hE; have HB4 := Aside0.mk hb; have HL4 : Aside0 ((wr.alloc (.cells #[.int .i64 f0, .int .i64 (j : Int), .int .i64 f2, .slice Ad dt.length cd] 48)).drew.heap.size ≤ w4.heap.size) := ⟨hk.1⟩; have HR4 := Aside0.mk (HRd.out.kept hk (fun k h1 h2 => HAP.out.1 k h2 h1)); have hy4 := (hk.2 wr.heap.size (by simp) (fun h => Nat.lt_irrefl _ (HAP.out.2.1 _ h))).trans HYd.out; have y4 : w4.cell? ⟨wr.heap.size, 1, none⟩ = some (.int .i64 (j : Int)) := (blk_cell hy4 1).trans rfl; have y42 : w4.cell? ⟨wr.heap.size, 2, none⟩ = some (.int .i64 f2) := (blk_cell hy4 2).trans rfl; have HY4 := Aside0.mk hy4; clear hE hb hk hy4)
                | (go_at_call 27; (with_reducible refine (REncode.good w _ S2 g2 s j f2 HB4.out HR4.out HOK.out HINV.out HJ.out HBI.out HLN.out).mono ?_); rintro e w5 ⟨rfl, hE', hb, hk⟩; have HE5 := Aside0.mk hE'; have HB5 := Aside0.mk hb; have HK5 := Aside0.mk hk; have hy5 := (hk.2 wr.heap.size (by have h9 := HL4.out; simp at h9; omega) (fun h => Nat.lt_irrefl _ (HAP.out.2.2 _ h))).trans HY4.out; have y5 : w5.cell? ⟨wr.heap.size, 1, none⟩ = some (.int .i64 (j : Int)) := (blk_cell hy5 1).trans rfl; have y52 : w5.cell? ⟨wr.heap.size, 2, none⟩ = some (.int .i64 f2) := (blk_cell hy5 2).trans rfl; clear hE' hb hk hy5))
            go_wp2
            have HEP : Aside0 (EPair w (w5) g1 g2 (encE s j f2)) := ⟨EPair.step HAP.out.1 HAP.out.2.1 HAP.out.2.2 (by rw [← HWd.out]; omega) HE4.out HL4.out HE5.out HK5.out⟩
            have HSN : Aside0 (ESt (encE s j f2) (i + 1)) := ⟨HSE.out⟩
            obtain ⟨T1, T2, t1, t2, t3⟩ := HEP.out
            have HT1 := Aside0.mk t1
            have HT2 := Aside0.mk t2
            have HPz : Aside0 (0 < (encE s j f2).p.length) := ⟨HSN.out.ok.p0⟩
            have HOz : Aside0 ((encE s j f2).out.length ≤ 1000000000) := ⟨by have h8 := HSN.out.len; have h9 := HIL.out; omega⟩
            clear t1 t2 t3
            go_region_held3 (fun W => W.cell? ⟨wr.heap.size, 1, none⟩ = some (.int .i64 (j : Int))) (first | go_keep | assumption)
              (first
                | (go_at_call 28; (with_reducible refine (Size.good w.heap.size _ T1 g1 (encE s j f2) ?hE HPz.out HOz.out).mono ?_); (case hE => exact HT1.out); rintro e w4' ⟨rfl, hw⟩; replace hw := hw.symm; subst hw)
                | (go_at_call 29; (with_reducible refine (RSize.good w.heap.size _ T2 g2 (encE s j f2) ?hE HPz.out HOz.out).mono ?_); (case hE => exact HT2.out); rintro e w4' ⟨rfl, hw⟩; replace hw := hw.symm; subst hw)
                | (go_at_call 30; (with_reducible refine (Probability.good w.heap.size _ T1 g1 (encE s j f2) _ ?hE HPz.out).mono ?_); (case hE => exact HT1.out); rintro e w4' ⟨rfl, hw⟩; replace hw := hw.symm; subst hw)
                | (go_at_call 31; (with_reducible refine (RProbability.good w.heap.size _ T2 g2 (encE s j f2) _ ?hE HPz.out).mono ?_); (case hE => exact HT2.out); rintro e w4' ⟨rfl, hw⟩; replace hw := hw.symm; subst hw))
            go_wp2
            go_roundg (gk - 1)
            case measure => have := HI.out; omega
            case rel => exact ⟨i + 1, encE s j f2, by first | rfl | simp, ⟨by have := HI'.out; omega, by have := HI'.out; omega⟩, HSN, ⟨HEP.out.below (below_drew (Below.refl _ _))⟩, ⟨below_drew (HB5.out)⟩⟩

          · have HDX := Aside0.mk (Encode.range _ _ S1 g1 s f1 f2 HDd.out HP0.out hr)
            have HRX := Aside0.mk (REncode.range _ _ S2 g2 s f1 f2 HRd.out HP0.out hr)
            clear hr
            go_wp2
            go_region_held3 (fun W => W.cell? ⟨wr.heap.size, 1, none⟩ = some (.int .i64 f1) ∧ W.cell? ⟨wr.heap.size, 2, none⟩ = some (.int .i64 f2)) (first | go_keep | assumption)
              (first
                | (go_at_call 26; (with_reducible refine HDX.out.mono ?_); rintro e w4 ⟨rfl, hw⟩; replace hw := hw.symm; subst hw)
                | (go_at_call 27; (with_reducible refine HRX.out.mono ?_); rintro e w4 ⟨rfl, hw⟩; replace hw := hw.symm; subst hw))
            go_wp2
            have HEP : Aside0 (EPair w ((wr.alloc (.cells #[.int .i64 f0, .int .i64 f1, .int .i64 f2, .slice Ad dt.length cd] 48)).drew) g1 g2 (s)) := ⟨HP.out.below (below_drew (below_alloc (Below.refl _ _) (.cells #[.int .i64 f0, .int .i64 f1, .int .i64 f2, .slice Ad dt.length cd] 48)))⟩
            have HSN : Aside0 (ESt (s) (i + 1)) := ⟨HS.out.up⟩
            obtain ⟨T1, T2, t1, t2, t3⟩ := HEP.out
            have HT1 := Aside0.mk t1
            have HT2 := Aside0.mk t2
            have HPz : Aside0 (0 < (s).p.length) := ⟨HSN.out.ok.p0⟩
            have HOz : Aside0 ((s).out.length ≤ 1000000000) := ⟨by have h8 := HSN.out.len; have h9 := HIL.out; omega⟩
            clear t1 t2 t3
            go_region_held3 (fun W => W.cell? ⟨wr.heap.size, 1, none⟩ = some (.int .i64 f1)) (first | go_keep | assumption)
              (first
                | (go_at_call 28; (with_reducible refine (Size.good w.heap.size _ T1 g1 (s) ?hE HPz.out HOz.out).mono ?_); (case hE => exact HT1.out); rintro e w4' ⟨rfl, hw⟩; replace hw := hw.symm; subst hw)
                | (go_at_call 29; (with_reducible refine (RSize.good w.heap.size _ T2 g2 (s) ?hE HPz.out HOz.out).mono ?_); (case hE => exact HT2.out); rintro e w4' ⟨rfl, hw⟩; replace hw := hw.symm; subst hw)
                | (go_at_call 30; (with_reducible refine (Probability.good w.heap.size _ T1 g1 (s) _ ?hE HPz.out).mono ?_); (case hE => exact HT1.out); rintro e w4' ⟨rfl, hw⟩; replace hw := hw.symm; subst hw)
                | (go_at_call 31; (with_reducible refine (RProbability.good w.heap.size _ T2 g2 (s) _ ?hE HPz.out).mono ?_); (case hE => exact HT2.out); rintro e w4' ⟨rfl, hw⟩; replace hw := hw.symm; subst hw))
            go_wp2
            go_roundg (gk - 1)
            case measure => have := HI.out; omega
            case rel => exact ⟨i + 1, s, by first | rfl | simp, ⟨by have := HI'.out; omega, by have := HI'.out; omega⟩, HSN, ⟨HEP.out.below (below_drew (Below.refl _ _))⟩, ⟨below_drew (HBd.out)⟩⟩

    · have hil : ¬ (i : Int) < (l1.length : Int) := by omega
      have HH1 : Aside0 (∀ k, S1 k → k < wr.heap.size) := ⟨HAP.out.2.1⟩
      have HH20 : Aside0 (∀ k, S2 k → k < wr.heap.size) := ⟨HAP.out.2.2⟩
      go_wp2_with (first
        | (go_at_call 22; (with_reducible refine (Terminate.good w _ S1 g1 s HB.out HD.out HOK.out HLN.out HH1.out).mono ?_); rintro e w4 ⟨v, rfl, hv, hE, hb, hk⟩; obtain ⟨Av, cv, ev⟩ := Kd.R_slice hv; subst ev; have HV4 := Aside0.mk hv; have HE4 := Aside0.mk hE; have HB4 := Aside0.mk hb; have HL4 : Aside0 (wr.heap.size ≤ w4.heap.size) := ⟨hk.1⟩; have HR4 := Aside0.mk (HR.out.kept hk (fun k h1 h2 => HAP.out.1 k h2 h1)); have HH2 : Aside0 (∀ k, S2 k → k < w4.heap.size) := ⟨fun k h => Nat.lt_of_lt_of_le (HH20.out k h) hk.1⟩; clear hv hE hb hk)
        | (go_at_call 23; (with_reducible refine (RTerminate.good w _ S2 g2 s HB4.out HR4.out HOK.out HINV.out HLN.out HH2.out).mono ?_); rintro e w5 ⟨v', T, rfl, hv', hE', hT, hb, hk⟩; obtain ⟨Ax, cx, ex⟩ := Kd.R_slice hv'; subst ex; have HX5 := Aside0.mk hv'; have HE5 := Aside0.mk (hE'.mono (fun k h => (hT k h).1)); have HB5 := Aside0.mk hb; have HK5 := Aside0.mk hk; have HV5 := Aside0.mk (Kd.R_step HV4.out (fun k hs hl => hk.2 k hl (fun h => (by have h8 := HH20.out k h; omega)))); clear hv' hE' hT hb hk)
        | (go_at_call 21; (with_reducible refine (same_calls Av cv Ax cx (termP s) HTL.out _ (Kd.R_reads' HV5.out).2.2 (Kd.R_reads' HV5.out).2.1 (Kd.R_reads' HX5.out).2.2 (Kd.R_reads' HX5.out).2.1).mono ?_); rintro e w6 ⟨rfl, ⟨m6, rfl⟩⟩)
        | (go_at_call 13; (with_reducible refine (awake.calls _).mono ?_); rintro e W8 ⟨rfl, hb⟩; have HB8 := Aside0.mk hb; clear hb))

      go_ret
      exact ⟨rfl, below_then (pw_below_drewN HB5.out m6) (pw_below_drewN HB5.out m6).size HB8.out⟩
set_option maxHeartbeats 4000000 in
theorem waveletlaw11_ArithEncodes.calls (a0 : Int) (A1 : Option Addr) (c1 : Nat) (l1 : List S48) (r : Bool) (w : World) (hr1 : Kd.C k48 w A1 l1.length l1) (hc1 : l1.length ≤ c1) (h : waveletlaw11_ArithEncodes.f a0 l1 = some r) :
    Calls Try.prog 7 #[.int .i64 a0, .slice A1 l1.length c1] w fun e w' => e = .returned (.bool r) ∧ Below w.heap.size w w' := by
  unfold waveletlaw11_ArithEncodes.f at h
  by_cases hby : ByC l1
  · rw [if_pos hby] at h
    obtain rfl : true = r := Option.some.inj h
    clear h
    obtain ⟨r1, g1, hb1⟩ := few.calls A1 c1 l1
    cases r1
    · have HB1 := Aside0.mk (hb1 w hr1 hc1)
      clear hb1 g1 hr1 hc1 hby
      generalize l1.length = L1 at *
      go_enter Try.func7, Try.ntmps7
      go_wp2_with (first
        | (go_at_call 19; (with_reducible refine HB1.out.mono ?_); rintro e w1 ⟨rfl, ⟨m1, rfl⟩⟩)
        | (go_at_call 13; (with_reducible refine (awake.calls _).mono ?_); rintro e W8 ⟨rfl, hb⟩; have HB8 := Aside0.mk hb; clear hb))
      go_ret
      exact ⟨rfl, below_then (pw_below_drewN (Below.refl w.heap.size w) m1) (Nat.le_refl _) HB8.out⟩
    · by_cases hn : 1 ≤ a0 ∧ a0 ≤ 64
      · obtain ⟨n, rfl⟩ : ∃ n : Nat, a0 = (n : Int) := ⟨a0.toNat, by omega⟩
        exact encodes_good n A1 c1 l1 w hr1 hc1 (by omega) (by omega) (g1 rfl) hby hb1
      · exact encodes_nil a0 A1 c1 l1 w hr1 hc1 (by omega) (g1 rfl) hb1
  · rw [if_neg hby] at h
    cases h
end Go.Proofs.Ytfbdenlpoidnjaa.P
