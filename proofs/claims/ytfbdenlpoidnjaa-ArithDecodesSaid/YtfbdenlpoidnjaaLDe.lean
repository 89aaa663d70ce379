/- The law ArithDecodes, walked. -/
import Derived.Test.YtfbdenlpoidnjaaRde
import Derived.Test.YtfbdenlpoidnjaaRrs
import Derived.Test.YtfbdenlpoidnjaaAwk
import Derived.Test.YtfbdenlpoidnjaaBit
set_option linter.unusedVariables false
set_option linter.unusedSimpArgs false
namespace Go.Proofs.Ytfbdenlpoidnjaa.P
open Go.RowKit Go.Proofs.YtfbdenlpoidnjaaW.PrintWords Go.Proofs.YtfbdenlpoidnjaaW.PrintLast Go.Proofs.YtfbdenlpoidnjaaW.PrintMore

/-- The calls' bytes are bytes. -/
def ByC (l : List S48) : Prop := ∀ x ∈ l, Byt x.f3
open Classical in
noncomputable def waveletlaw11_ArithDecodes.f (a0 : Int) (l1 : List S48) : Option Bool := if ByC l1 then some true else none
theorem rdC_mem {l : List S48} {i : Nat} (h : i < l.length) : rd_T48 l (i : Int) ∈ l := by
  unfold rd_T48
  rw [Int.toNat_natCast, List.getD_eq_getElem?_getD, List.getElem?_eq_getElem h]
  exact List.getElem_mem h
theorem beq_t {a b : Int} (h : a = b) : (a == b) = true := by simpa using h
theorem beq_f {a b : Int} (h : ¬ a = b) : (a == b) = false := by simpa using h
set_option maxHeartbeats 8000000 in
set_option maxRecDepth 100000 in
theorem decodes_nil (n : Int) (A1 : Option Addr) (c1 : Nat) (l1 : List S48) (w : World) (hr1 : Kd.C k48 w A1 l1.length l1) (hc1 : l1.length ≤ c1) (hn : n < 1 ∨ 64 < n) (hf : FewOk l1)
    (hb1 : ∀ w : World, Kd.C k48 w A1 l1.length l1 → l1.length ≤ c1 → Calls Try.prog 19 #[.slice A1 l1.length c1] w fun e w' => e = .returned (.bool true) ∧ Drawn0 w w') :
    Calls Try.prog 8 #[.int .i64 n, .slice A1 l1.length c1] w fun e w' => e = .returned (.bool true) ∧ Below w.heap.size w w' := by
  have HB1 := Aside0.mk (hb1 w hr1 hc1)
  have HC := Aside0.mk hr1
  have HN := Aside0.mk hn
  have hl : (l1.length : Int) ≤ 300 := by have := hf.1; omega
  clear hr1 hc1 hn hf hb1
  go_enter Try.func8, Try.ntmps8
  go_wp2_with (first
    | (go_at_call 19; (with_reducible refine HB1.out.mono ?_); rintro e w1 ⟨rfl, ⟨m1, rfl⟩⟩)
    | (go_at_call 16; (with_reducible refine (NewDecoder.bad n _ HN.out).mono ?_); rintro e w2 ⟨rfl, hb⟩; have HB2 := Aside0.mk (below_then (pw_below_drewN (Below.refl w.heap.size w) m1) (Nat.le_refl _) hb); clear hb)
    | (go_at_call 32; (with_reducible refine (RNewDecoder.bad n _ HN.out).mono ?_); rintro e w3 ⟨rfl, hb⟩; have HB3 := Aside0.mk (below_then HB2.out HB2.out.size hb); clear hb))
  go_loopg [41] (l1.length + 1) (fun kq v41 w' => ∃ i : Nat, v41 = .int .i64 i ∧ Aside0 (i ≤ l1.length ∧ kq + i = l1.length + 1) ∧ Aside0 (Below w.heap.size w w'))
  case atStart => exact ⟨0, by first | rfl | simp, ⟨by omega, by omega⟩, HB3⟩
  case round =>
    obtain ⟨i, rfl, HI, HB⟩ := hrel
    by_cases hlt : i < l1.length
    · have hil : (i : Int) < (l1.length : Int) := by omega
      obtain ⟨ad, Ad, cd, rfl, z0, z1, z2, z3, zl, zC⟩ := at_T48 (Kd.C_below HC.out HB.out) (i : Int) (by omega) (by omega)
      rw [Int.toNat_natCast] at z0 z1 z2 z3
      generalize rd_T48 l1 (i : Int) = x at *
      obtain ⟨f0, f1, f2, dt⟩ := x
      dsimp only at z0 z1 z2 z3 zl zC
      clear zl zC
      have HI' : Aside0 (i < l1.length ∧ gk + i = l1.length + 1) := ⟨hlt, HI.out.2⟩
      by_cases k5 : f0 = 5
      · have b5 := beq_t k5
        clear k5
        go_wp2
        go_region_held3 (fun W => W.cell? ⟨wr.heap.size, 3, none⟩ = some (.slice Ad dt.length cd)) (first | go_keep | assumption)
          (first
            | (go_at_call 33; (with_reducible refine (Start.bad _ _ _ (Dvalid.nil _)).mono ?_); rintro e w4 ⟨rfl, hw⟩; replace hw := hw.symm; subst hw)
            | (go_at_call 34; (with_reducible refine (RStart.nil _ _).mono ?_); rintro e w4 ⟨rfl, hw⟩; replace hw := hw.symm; subst hw))
        go_wp2
        go_roundg (gk - 1)
        case measure => have := HI.out; omega
        case rel => exact ⟨i + 1, by first | rfl | simp, ⟨by have := HI'.out; omega, by have := HI'.out; omega⟩, ⟨by first | exact below_drew (below_alloc HB.out _) | exact pw_below_drewN (below_alloc HB.out _) _⟩⟩
      · have b5 := beq_f k5
        by_cases k3 : f0 = 3
        · have b3 := beq_t k3
          clear k5 k3
          go_wp2_with (first
            | (go_at_call 35; (with_reducible refine (DReset.bad _ _ (Dvalid.nil _)).mono ?_); rintro e w4 ⟨rfl, hw⟩; replace hw := hw.symm; subst hw)
            | (go_at_call 36; (with_reducible refine (RDReset.nil _).mono ?_); rintro e w4 ⟨rfl, hw⟩; replace hw := hw.symm; subst hw))
          go_roundg (gk - 1)
          case measure => have := HI.out; omega
          case rel => exact ⟨i + 1, by first | rfl | simp, ⟨by have := HI'.out; omega, by have := HI'.out; omega⟩, ⟨below_alloc HB.out _⟩⟩
        · have b3 := beq_f k3
          clear k5 k3
          go_wp2_with (first
            | (go_at_call 37; (with_reducible refine (Decode.bad _ _ _ (Dvalid.nil _)).mono ?_); rintro e w4 ⟨rfl, hw⟩; replace hw := hw.symm; subst hw)
            | (go_at_call 38; (with_reducible refine (RDecode.nil _ _).mono ?_); rintro e w4 ⟨rfl, hw⟩; replace hw := hw.symm; subst hw))
          go_roundg (gk - 1)
          case measure => have := HI.out; omega
          case rel => exact ⟨i + 1, by first | rfl | simp, ⟨by have := HI'.out; omega, by have := HI'.out; omega⟩, ⟨below_alloc HB.out _⟩⟩
    · have hil : ¬ (i : Int) < (l1.length : Int) := by omega
      go_wp2_with (go_at_call 13; (with_reducible refine (awake.calls _).mono ?_); rintro e W8 ⟨rfl, hb⟩; have HB8 := Aside0.mk hb; clear hb)
      go_ret
      exact ⟨rfl, below_then HB.out HB.out.size HB8.out⟩
set_option maxHeartbeats 8000000 in
set_option maxRecDepth 100000 in
theorem decodes_good (n : Nat) (A1 : Option Addr) (c1 : Nat) (l1 : List S48) (w : World) (hr1 : Kd.C k48 w A1 l1.length l1) (hc1 : l1.length ≤ c1) (hn0 : 1 ≤ n) (hn1 : n ≤ 64) (hf : FewOk l1) (hby : ByC l1)
    (hb1 : ∀ w : World, Kd.C k48 w A1 l1.length l1 → l1.length ≤ c1 → Calls Try.prog 19 #[.slice A1 l1.length c1] w fun e w' => e = .returned (.bool true) ∧ Drawn0 w w') :
    Calls Try.prog 8 #[.int .i64 n, .slice A1 l1.length c1] w fun e w' => e = .returned (.bool true) ∧ Below w.heap.size w w' := by
  have HB1 := Aside0.mk (hb1 w hr1 hc1)
  have HC := Aside0.mk hr1
  have HN := Aside0.mk (And.intro hn0 hn1)
  have HBY := Aside0.mk hby
  have HF := Aside0.mk hf
  have hl : (l1.length : Int) ≤ 300 := by have := hf.1; omega
  have HST0 := Aside0.mk (newD_st n hn0 hn1)
  clear hr1 hc1 hn0 hn1 hf hb1 hby
  go_enter Try.func8, Try.ntmps8
  go_wp2_with (first
    | (go_at_call 19; (with_reducible refine HB1.out.mono ?_); rintro e w1 ⟨rfl, ⟨m1, rfl⟩⟩)
    | (go_at_call 16; (with_reducible refine (NewDecoder.good n _ HN.out.1 HN.out.2).mono ?_); rintro e w2 ⟨g1, rfl, hD, hb⟩; have HB2 := Aside0.mk (below_then (pw_below_drewN (Below.refl w.heap.size w) m1) (Nat.le_refl _) hb); have HD2 : Aside0 (DecAt w.heap.size w2 (fun k => k < w2.heap.size) g1 (newD n)) := ⟨hD.bound.mono (fun k hk => hk.2.2)⟩; clear hD hb)
    | (go_at_call 32; (with_reducible refine (RNewDecoder.good n _ HN.out.1 HN.out.2).mono ?_); rintro e w3 ⟨g2, rfl, hR, hb⟩; have HB3 := Aside0.mk (below_then HB2.out HB2.out.size hb); have HP3 : Aside0 (DPair w w3 g1 g2 (newD n) 0) := ⟨⟨fun k => k < w2.heap.size, fun k => w2.heap.size ≤ k ∧ k < w3.heap.size, HD2.out.below hb, (hR.bound.mono (fun k hk => hk.2)).lower HB2.out.size, fun k h1 h2 => Nat.lt_irrefl _ (Nat.lt_of_lt_of_le h1 h2.1), fun k hk => Nat.lt_of_lt_of_le hk hb.size, fun k hk => hk.2⟩⟩; clear hR hb))
  go_loopg [41] (l1.length + 1) (fun kq v41 w' => ∃ (i : Nat) (s : DecS), v41 = .int .i64 i ∧ Aside0 (i ≤ l1.length ∧ kq + i = l1.length + 1) ∧ Aside0 (DSt s) ∧ Aside0 (DPair w w' g1 g2 s (i + 4)) ∧ Aside0 (Below w.heap.size w w'))
  case atStart =>
    obtain ⟨S1, S2, d1, d2, d3⟩ := HP3.out
    exact ⟨0, newD n, by first | rfl | simp, ⟨by omega, by omega⟩, HST0, ⟨S1, S2, d1, d2.up (by omega), d3⟩, HB3⟩
  case round =>
    obtain ⟨i, s, rfl, HI, HS, HP, HB⟩ := hrel
    by_cases hlt : i < l1.length
    · have hil : (i : Int) < (l1.length : Int) := by omega
      have hmem := rdC_mem hlt
      have hbx := HBY.out _ hmem
      have hlx := HF.out.2 _ hmem
      obtain ⟨ad, Ad, cd, rfl, y0, y1, y2, y3, zl, zC⟩ := at_T48 HC.out (i : Int) (by omega) (by omega)
      have z0 := pw_cell_below HB.out y0
      have z1 := pw_cell_below HB.out y1
      have z2 := pw_cell_below HB.out y2
      have z3 := pw_cell_below HB.out y3
      rw [Int.toNat_natCast] at z0 z1 z2 z3
      clear y0 y1 y2 y3
      clear hmem
      generalize rd_T48 l1 (i : Int) = x at *
      obtain ⟨f0, f1, f2, dt⟩ := x
      dsimp only at z0 z1 z2 z3 zl zC hbx hlx
      have HI' : Aside0 (i < l1.length ∧ gk + i = l1.length + 1) := ⟨hlt, HI.out.2⟩
      have HDT := Aside0.mk (And.intro hbx (And.intro hlx zl))
      have HZC := Aside0.mk zC
      obtain ⟨S1, S2, hD0, hR0, hap, hs1, hs2⟩ := HP.out
      have HAP := Aside0.mk (And.intro hap (And.intro hs1 hs2))
      have HD := Aside0.mk hD0
      have HR := Aside0.mk hR0
      have HP0 : Aside0 (0 < s.p.length) := ⟨HS.out.1.p0⟩
      have HIL : Aside0 (i ≤ 300) := ⟨by omega⟩
      clear zl zC hbx hlx hap hs1 hs2 hD0 hR0
      by_cases k5 : f0 = 5
      · have b5 := beq_t k5
        clear k5
        have HW0 : Aside0 (wr.heap.size + 1 = (wr.alloc (.cells #[.int .i64 f0, .int .i64 f1, .int .i64 f2, .slice Ad dt.length cd] 48)).drew.heap.size) := ⟨by simp⟩
        have HB0 := Aside0.mk (below_drew (below_alloc HB.out (.cells #[.int .i64 f0, .int .i64 f1, .int .i64 f2, .slice Ad dt.length cd] 48)))
        have HD0 := Aside0.mk ((HD.out.below (below_alloc (Below.refl _ _) (.cells #[.int .i64 f0, .int .i64 f1, .int .i64 f2, .slice Ad dt.length cd] 48))).below (below_drew (Below.refl _ _)))
        have HR0 := Aside0.mk ((HR.out.below (below_alloc (Below.refl _ _) (.cells #[.int .i64 f0, .int .i64 f1, .int .i64 f2, .slice Ad dt.length cd] 48))).below (below_drew (Below.refl _ _)))
        have HZ0 := Aside0.mk (Kd.C_below HZC.out HB0.out)
        have HY0 : Aside0 ((wr.alloc (.cells #[.int .i64 f0, .int .i64 f1, .int .i64 f2, .slice Ad dt.length cd] 48)).drew.heap[wr.heap.size]? = some (.cells #[.int .i64 f0, .int .i64 f1, .int .i64 f2, .slice Ad dt.length cd] 48)) := ⟨blk_drew (heap_alloc_new wr _)⟩
        go_wp2
        go_region_held3 (fun W => W.cell? ⟨wr.heap.size, 3, none⟩ = some (.slice Ad dt.length cd)) (first | go_keep | assumption)
          (first
            | (go_at_call 33; (with_reducible refine (Start.good w _ S1 g1 s Ad cd dt HB0.out HD0.out HP0.out HZ0.out HDT.out.2.2 HDT.out.1 (by have := HDT.out.2.1; omega)).mono ?_); rintro e w4 ⟨rfl, hD, hb, hk⟩; have HD4 := Aside0.mk hD; have HB4 := Aside0.mk hb; have HL4 : Aside0 (wr.heap.size + 1 ≤ w4.heap.size) := ⟨(by rw [HW0.out]; exact hk.1)⟩; have HR4 := Aside0.mk (HR0.out.kept hk (fun k h1 h2 => HAP.out.1 k h2 h1)); have hy4 : w4.heap[wr.heap.size]? = some (.cells #[.int .i64 f0, .int .i64 f1, .int .i64 f2, .slice Ad dt.length cd] 48) := (hk.2 wr.heap.size (by simp) (fun h => Nat.lt_irrefl _ (HAP.out.2.1 _ h))).trans HY0.out; have y4 : w4.cell? ⟨wr.heap.size, 3, none⟩ = some (.slice Ad dt.length cd) := (blk_cell hy4 3).trans rfl; have HZ4 := Aside0.mk (Kd.C_below HZC.out HB4.out); have HY4 := Aside0.mk hy4; clear hD hb hk hy4)
            | (go_at_call 34; (with_reducible refine (RStart.good w _ S2 g2 _ s Ad cd dt HB4.out HR4.out HP0.out HZ4.out HDT.out.2.2 HDT.out.1 (by have := HDT.out.2.1; omega)).mono ?_); rintro e w5 ⟨rfl, hR, hb, hk⟩; have HR5 := Aside0.mk hR; have HB5 := Aside0.mk hb; have HK5 := Aside0.mk hk; have y5 : w5.cell? ⟨wr.heap.size, 3, none⟩ = some (.slice Ad dt.length cd) := (blk_cell ((hk.2 wr.heap.size (by have h9 := HL4.out; omega) (fun h => Nat.lt_irrefl _ (HAP.out.2.2 _ h))).trans HY4.out) 3).trans rfl; clear hR hb hk))
        go_wp2
        go_roundg (gk - 1)
        case measure => have := HI.out; omega
        case rel => exact ⟨i + 1, startD s dt, by first | rfl | simp, ⟨by have := HI'.out; omega, by have := HI'.out; omega⟩, ⟨HS.out.start HDT.out.1 (by have := HDT.out.2.1; omega)⟩, ⟨DPair.step HAP.out.1 HAP.out.2.1 HAP.out.2.2 (by rw [← HW0.out]; omega) HD4.out (by rw [← HW0.out]; exact HL4.out) (HR5.out.up (by omega)) HK5.out⟩, HB5⟩
      · have b5 := beq_f k5
        have HW0 : Aside0 (wr.heap.size + 1 = (wr.alloc (.cells #[.int .i64 f0, .int .i64 f1, .int .i64 f2, .slice Ad dt.length cd] 48)).heap.size) := ⟨by simp⟩
        have HB0 := Aside0.mk (below_alloc HB.out (.cells #[.int .i64 f0, .int .i64 f1, .int .i64 f2, .slice Ad dt.length cd] 48))
        have HD0 := Aside0.mk (HD.out.below (below_alloc (Below.refl _ _) (.cells #[.int .i64 f0, .int .i64 f1, .int .i64 f2, .slice Ad dt.length cd] 48)))
        have HR0 := Aside0.mk (HR.out.below (below_alloc (Below.refl _ _) (.cells #[.int .i64 f0, .int .i64 f1, .int .i64 f2, .slice Ad dt.length cd] 48)))
        have HY0 : Aside0 ((wr.alloc (.cells #[.int .i64 f0, .int .i64 f1, .int .i64 f2, .slice Ad dt.length cd] 48)).heap[wr.heap.size]? = some (.cells #[.int .i64 f0, .int .i64 f1, .int .i64 f2, .slice Ad dt.length cd] 48)) := ⟨heap_alloc_new wr _⟩
        have HP1 : Aside0 (s.p.length ≤ 1000) := ⟨by have := HS.out.1.p1; omega⟩
        by_cases k3 : f0 = 3
        · have b3 := beq_t k3
          clear k5 k3
          go_wp2_with (first
            | (go_at_call 35; (with_reducible refine (DReset.good w _ S1 g1 s HB0.out HD0.out HP0.out HP1.out).mono ?_); rintro e w4 ⟨rfl, hD, hb, hk⟩; have HD4 := Aside0.mk hD; have HB4 := Aside0.mk hb; have HL4 : Aside0 (wr.heap.size + 1 ≤ w4.heap.size) := ⟨(by rw [HW0.out]; exact hk.1)⟩; have HR4 := Aside0.mk (HR0.out.kept hk (fun k h1 h2 => HAP.out.1 k h2 h1)); clear hD hb hk)
            | (go_at_call 36; (with_reducible refine (RDReset.good w _ S2 g2 _ s HB4.out HR4.out HP1.out).mono ?_); rintro e w5 ⟨rfl, hR, hb, hk⟩; have HR5 := Aside0.mk hR; have HB5 := Aside0.mk hb; have HK5 := Aside0.mk hk; clear hR hb hk))
          go_roundg (gk - 1)
          case measure => have := HI.out; omega
          case rel => exact ⟨i + 1, resetD s, by first | rfl | simp, ⟨by have := HI'.out; omega, by have := HI'.out; omega⟩, ⟨HS.out.reset⟩, ⟨DPair.step HAP.out.1 HAP.out.2.1 HAP.out.2.2 (by rw [← HW0.out]; omega) (HD4.out.mono (fun k hk => .inl hk)) (by rw [← HW0.out]; exact HL4.out) (HR5.out.up (by omega)) HK5.out⟩, HB5⟩
        · have b3 := beq_f k3
          clear k5 k3
          by_cases hst : s.started = true
          · by_cases hr : 0 ≤ f1 ∧ f1 < s.p.length
            · obtain ⟨j, rfl⟩ : ∃ j : Nat, f1 = (j : Int) := ⟨f1.toNat, by omega⟩
              have hj : j < s.p.length := by omega
              have HOK := Aside0.mk (HS.out.2 hst)
              have HSN := Aside0.mk (HS.out.dec hst hj)
              have HJ := Aside0.mk hj
              clear hr hst hj
              go_wp2_with (first
                | (go_at_call 37; (with_reducible refine (Decode.good w _ S1 g1 s j HB0.out HD0.out HOK.out HJ.out).mono ?_); rintro e w4 ⟨rfl, hD, hb, hk⟩; have HD4 := Aside0.mk hD; have HB4 := Aside0.mk hb; have HL4 : Aside0 (wr.heap.size + 1 ≤ w4.heap.size) := ⟨(by rw [HW0.out]; exact hk.1)⟩; have HR4 := Aside0.mk (HR0.out.kept hk (fun k h1 h2 => HAP.out.1 k h2 h1)); have hy4 := (hk.2 wr.heap.size (by simp) (fun h => Nat.lt_irrefl _ (HAP.out.2.1 _ h))).trans HY0.out; have y4 : w4.cell? ⟨wr.heap.size, 1, none⟩ = some (.int .i64 (j : Int)) := (blk_cell hy4 1).trans rfl; clear hD hb hk hy4)
                | (go_at_call 38; (with_reducible refine (RDecode.good w _ S2 g2 _ s j HB4.out HR4.out HOK.out HJ.out (by have := HIL.out; omega)).mono ?_); rintro e w5 ⟨rfl, hR, hb, hk⟩; have HR5 := Aside0.mk hR; have HB5 := Aside0.mk hb; have HK5 := Aside0.mk hk; clear hR hb hk))
              go_roundg (gk - 1)
              case measure => have := HI.out; omega
              case rel => exact ⟨i + 1, (decE s j).2, by first | rfl | simp, ⟨by have := HI'.out; omega, by have := HI'.out; omega⟩, HSN, ⟨DPair.step HAP.out.1 HAP.out.2.1 HAP.out.2.2 (by rw [← HW0.out]; omega) HD4.out (by rw [← HW0.out]; exact HL4.out) (HR5.out.up (by omega)) HK5.out⟩, HB5⟩
            · have HDX := Aside0.mk (Decode.range _ _ S1 g1 s f1 HD0.out HP0.out hst hr)
              have HRX := Aside0.mk (RDecode.range _ _ S2 g2 _ s f1 HR0.out hst hr)
              clear hr hst
              go_wp2_with (first
                | (go_at_call 37; (with_reducible refine HDX.out.mono ?_); rintro e w4 ⟨rfl, hw⟩; replace hw := hw.symm; subst hw)
                | (go_at_call 38; (with_reducible refine HRX.out.mono ?_); rintro e w4 ⟨rfl, hw⟩; replace hw := hw.symm; subst hw))
              go_roundg (gk - 1)
              case measure => have := HI.out; omega
              case rel =>
                obtain ⟨T1, T2, d1, d2, d3⟩ := HP.out.below (below_alloc (Below.refl _ _) (.cells #[.int .i64 f0, .int .i64 f1, .int .i64 f2, .slice Ad dt.length cd] 48))
                exact ⟨i + 1, s, by first | rfl | simp, ⟨by have := HI'.out; omega, by have := HI'.out; omega⟩, HS, ⟨T1, T2, d1, d2.up (by omega), d3⟩, HB0⟩
          · have hst' : s.started = false := by cases h : s.started <;> simp_all
            have HDX := Aside0.mk (Decode.idle _ _ S1 g1 s f1 HD0.out HP0.out hst')
            have HRX := Aside0.mk (RDecode.idle _ _ S2 g2 _ s f1 HR0.out hst')
            clear hst hst'
            go_wp2_with (first
              | (go_at_call 37; (with_reducible refine HDX.out.mono ?_); rintro e w4 ⟨rfl, hw⟩; replace hw := hw.symm; subst hw)
              | (go_at_call 38; (with_reducible refine HRX.out.mono ?_); rintro e w4 ⟨rfl, hw⟩; replace hw := hw.symm; subst hw))
            go_roundg (gk - 1)
            case measure => have := HI.out; omega
            case rel =>
              obtain ⟨T1, T2, d1, d2, d3⟩ := HP.out.below (below_alloc (Below.refl _ _) (.cells #[.int .i64 f0, .int .i64 f1, .int .i64 f2, .slice Ad dt.length cd] 48))
              exact ⟨i + 1, s, by first | rfl | simp, ⟨by have := HI'.out; omega, by have := HI'.out; omega⟩, HS, ⟨T1, T2, d1, d2.up (by omega), d3⟩, HB0⟩
    · have hil : ¬ (i : Int) < (l1.length : Int) := by omega
      go_wp2_with (go_at_call 13; (with_reducible refine (awake.calls _).mono ?_); rintro e W8 ⟨rfl, hb⟩; have HB8 := Aside0.mk hb; clear hb)
      go_ret
      exact ⟨rfl, below_then HB.out HB.out.size HB8.out⟩
set_option maxHeartbeats 4000000 in
theorem waveletlaw11_ArithDecodes.calls (a0 : Int) (A1 : Option Addr) (c1 : Nat) (l1 : List S48) (r : Bool) (w : World) (hr1 : Kd.C k48 w A1 l1.length l1) (hc1 : l1.length ≤ c1) (h : waveletlaw11_ArithDecodes.f a0 l1 = some r) :
    Calls Try.prog 8 #[.int .i64 a0, .slice A1 l1.length c1] w fun e w' => e = .returned (.bool r) ∧ Below w.heap.size w w' := by
  unfold waveletlaw11_ArithDecodes.f at h
  by_cases hby : ByC l1
  · rw [if_pos hby] at h
    obtain rfl : true = r := Option.some.inj h
    clear h
    obtain ⟨r1, g1, hb1⟩ := few.calls A1 c1 l1
    cases r1
    · have HB1 := Aside0.mk (hb1 w hr1 hc1)
      clear hb1 g1 hr1 hc1 hby
      generalize l1.length = L1 at *
      go_enter Try.func8, Try.ntmps8
      go_wp2_with (first
        | (go_at_call 19; (with_reducible refine HB1.out.mono ?_); rintro e w1 ⟨rfl, ⟨m1, rfl⟩⟩)
        | (go_at_call 13; (with_reducible refine (awake.calls _).mono ?_); rintro e W8 ⟨rfl, hb⟩; have HB8 := Aside0.mk hb; clear hb))
      go_ret
      exact ⟨rfl, below_then (pw_below_drewN (Below.refl w.heap.size w) m1) (Nat.le_refl _) HB8.out⟩
    · by_cases hn : 1 ≤ a0 ∧ a0 ≤ 64
      · obtain ⟨n, rfl⟩ : ∃ n : Nat, a0 = (n : Int) := ⟨a0.toNat, by omega⟩
        exact decodes_good n A1 c1 l1 w hr1 hc1 (by omega) (by omega) (g1 rfl) hby hb1
      · exact decodes_nil a0 A1 c1 l1 w hr1 hc1 (by omega) (g1 rfl) hb1
  · rw [if_neg hby] at h
    cases h
end Go.Proofs.Ytfbdenlpoidnjaa.P
