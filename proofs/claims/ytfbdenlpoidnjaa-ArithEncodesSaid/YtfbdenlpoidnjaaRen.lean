/- The reference's Encode, walked. -/
import Derived.Test.YtfbdenlpoidnjaaRet
import Derived.Test.YtfbdenlpoidnjaaRpu
import Derived.Test.YtfbdenlpoidnjaaRde
set_option linter.unusedVariables false
set_option linter.unusedSimpArgs false
namespace Go.Proofs.Ytfbdenlpoidnjaa.P
open Go.RowKit Go.Proofs.YtfbdenlpoidnjaaW.PrintWords Go.Proofs.YtfbdenlpoidnjaaW.PrintLast Go.Proofs.YtfbdenlpoidnjaaW.PrintMore

/-- The reference's encoder within Encode. -/
def EMidAt (w0 w : World) (S : Nat → Prop) (g bb c : Nat) (p : List Int) (bg : Bool) (dig : List Int) (size : Int) (w' : World) : Prop :=
  ∃ vl : Value, w'.heap[g]? = some (.cells #[.slice (some ⟨bb, 0, none⟩) p.length c, vl, .int .i64 size, .bool bg] 73) ∧ Kd.R (Kd.int .i64) 3 w' w0.heap.size (fun k => k = bb) (.slice (some ⟨bb, 0, none⟩) p.length c) p ∧ Kd.R (Kd.int .i64) 3 w' w0.heap.size (fun k => (S k ∨ w.heap.size ≤ k) ∧ k ≠ bb) vl dig ∧ Below w0.heap.size w0 w' ∧ Kept w w' S
theorem EMidAt.drewN {w0 w : World} {S : Nat → Prop} {g bb c : Nat} {p : List Int} {bg : Bool} {dig : List Int} {size : Int} {w' : World} (h : EMidAt w0 w S g bb c p bg dig size w') (n : Nat) : EMidAt w0 w S g bb c p bg dig size (w'.drewN n) := by
  obtain ⟨vl, h1, h2, h3, h4, h5⟩ := h
  exact ⟨vl, blk_drewN h1 n, Kd.R_drewN h2 n, Kd.R_drewN h3 n, pw_below_drewN h4 n, Kept.drewN h5 n⟩
theorem EMidAt.size {w0 w : World} {S : Nat → Prop} {g bb c : Nat} {p : List Int} {bg : Bool} {dig : List Int} {size : Int} {w' : World} (h : EMidAt w0 w S g bb c p bg dig size w') (hS : S g) (hg : w0.heap.size ≤ g) (size' : Int) : EMidAt w0 w S g bb c p bg dig size' (w'.setCell ⟨g, 2, none⟩ (.int .i64 size')) := by
  obtain ⟨vl, h1, h2, h3, h4, h5⟩ := h
  exact ⟨vl, blk_put h1 2 _ rfl, Kd.R_set h2 h1 (by decide) 2 _, Kd.R_set h3 h1 (by decide) 2 _, below_set h4 hg, Kept.setCell h5 (.inl hS) _⟩
/-- The digits' row: its form, and a store into it. -/
theorem EMidAt.row {w0 w : World} {S : Nat → Prop} {g bb c : Nat} {p : List Int} {bg : Bool} {dig : List Int} {size : Int} {w' : World} (h : EMidAt w0 w S g bb c p bg dig size w') (hd : 0 < dig.length) : ∃ bl cl, w'.heap[g]? = some (.cells #[.slice (some ⟨bb, 0, none⟩) p.length c, .slice (some ⟨bl, 0, none⟩) dig.length cl, .int .i64 size, .bool bg] 73) ∧
    (∀ i : Nat, i < dig.length → w'.cell? ⟨bl, i, none⟩ = some (.int .i64 (rd dig (i : Int))) ∧ w'.frozen? ⟨bl, i, none⟩ = false ∧ ∀ y : Int, EMidAt w0 w S g bb c p bg (dig.set i y) size (w'.setCell ⟨bl, i, none⟩ (.int .i64 y))) := by
  obtain ⟨vl, h1, h2, h3, h4, h5⟩ := h
  obtain ⟨bl, cl, rfl, hb0, hb1, cells, hcl⟩ := Kd.R_form h3 hd
  refine ⟨bl, cl, h1, fun i hi => ?_⟩
  obtain ⟨y0, y1⟩ := Kd.R_cell (0 : Int) h3 (i : Int) (by omega) (by omega)
  rw [Int.toNat_natCast] at y0 y1
  refine ⟨y0, y1, fun y => ?_⟩
  have hok := h3.1 bl rfl
  have hne : g ≠ bl := fun e => Kd.R_ne h3 h1 (by decide) (by rw [e]; rfl)
  have p3 := (Kd.R_put h3 (i : Int) y).1
  rw [Int.toNat_natCast] at p3
  have e1 : (dig.set i y).length = dig.length := List.length_set
  refine ⟨.slice (some ⟨bl, 0, none⟩) dig.length cl, blk_far h1 hne _, Kd.R_far h2 (fun k hk he => hok.2 (he.symm.trans hk)) _, p3, below_set h4 hb0, Kept.setCell h5 hok.1 _⟩
/-- The end of Encode. -/
theorem renc_done {w0 w : World} {S : Nat → Prop} {g bb c : Nat} {p : List Int} {bg : Bool} {out : List Int} {low size : Int} {wr : World} (h : EMidAt w0 w S g bb c p bg (out ++ lit4P low) size wr) (hS : S g) (hge : w0.heap.size ≤ g) (hSb : S bb) (hbb : w0.heap.size ≤ bb) (hp : 0 < p.length) (nd i : Nat) (y : Int) :
    REncAt w0.heap.size (((wr.drewN nd).setCell ⟨bb, i, none⟩ (.int .i64 y)).setCell ⟨g, 3, none⟩ (.bool true)) (fun k => S k ∨ w.heap.size ≤ k) g ⟨p.set i y, out, low, size, true⟩ ∧ Below w0.heap.size w0 (((wr.drewN nd).setCell ⟨bb, i, none⟩ (.int .i64 y)).setCell ⟨g, 3, none⟩ (.bool true)) ∧ Kept w (((wr.drewN nd).setCell ⟨bb, i, none⟩ (.int .i64 y)).setCell ⟨g, 3, none⟩ (.bool true)) S := by
  obtain ⟨vl, m1, m2, m3, m4, m5⟩ := h.drewN nd
  have hne : g ≠ bb := fun e => Kd.R_ne m2 m1 (by decide) (by rw [e]; rfl)
  have p2 := (Kd.R_put m2 (i : Int) y).1
  rw [Int.toNat_natCast] at p2
  have l2 := Kd.R_far m3 (p := ⟨bb, i, none⟩) (fun k hk => hk.2) (.int .i64 y)
  have b1 := blk_far m1 hne (p := ⟨bb, i, none⟩) (.int .i64 y)
  refine ⟨⟨_, vl, blk_put b1 3 (.bool true) rfl, .inl hS, hge, ?_, ?_⟩, below_set (below_set m4 hbb) hge, Kept.setCell (Kept.setCell m5 (.inl hSb) _) (.inl hS) _⟩
  · exact Kd.R_set (Kd.R_mono p2 (fun k hk => .inl (by rw [hk]; exact hSb))) b1 (by decide) 3 _
  · refine Kd.R_mono (Kd.R_set l2 b1 (by decide) 3 _) (fun k hk => ⟨hk.1, fun he => hk.2 ?_⟩)
    have e9 : some k = some bb := he
    exact Option.some.inj e9
theorem REncode.range (b : Nat) (w : World) (S : Nat → Prop) (g : Nat) (s : EncS) (i bit : Int) (h : REncAt b w S g s) (hp : 0 < s.p.length) (hr : ¬ ((0 ≤ i ∧ i < s.p.length) ∧ (bit = 0 ∨ bit = 1))) : Calls Try.prog 27 #[.pointer (some ⟨g, 0, none⟩), .int .i64 i, .int .i64 bit] w fun e w' => e = .returned (.int .i64 2) ∧ w' = w := by
  obtain ⟨vp, vo, h1, h2, h3, h4, h5⟩ := h
  obtain ⟨A, c, rfl⟩ := Kd.R_slice h4
  have x0 : w.cell? ⟨g, 0, none⟩ = some (.slice A s.p.length c) := (blk_cell h1 0).trans rfl
  have hp1 : ((s.p.length : Int) == 0) = false := by simp; intro e; rw [e] at hp; simp at hp
  generalize s.p.length = L at *
  clear h1 h2 h3 h4 h5
  have hcs : i < 0 ∨ ¬ i < 0 ∧ ((L : Int) ≤ i ∨ i < (L : Int) ∧ (bit < 0 ∨ ¬ bit < 0 ∧ 1 < bit)) := by omega
  clear hr hp
  rcases hcs with h | ⟨h, h2 | ⟨h2, h3 | ⟨h3, h4⟩⟩⟩
  all_goals
    go_enter Try.func27, Try.ntmps27
    go_wp2
    go_ret
    exact ⟨rfl, rfl⟩
set_option maxHeartbeats 8000000 in
set_option maxRecDepth 100000 in
theorem REncode.good (w0 w : World) (S : Nat → Prop) (g : Nat) (s : EncS) (i : Nat) (bit : Int) (hB : Below w0.heap.size w0 w) (h : REncAt w0.heap.size w S g s) (hok : EncOk s) (hinv : Inv s) (hi : i < s.p.length) (hbit : bit = 0 ∨ bit = 1) (hlen : s.out.length ≤ 1000000) : Calls Try.prog 27 #[.pointer (some ⟨g, 0, none⟩), .int .i64 i, .int .i64 bit] w fun e w' => e = .returned (.int .i64 0) ∧ REncAt w0.heap.size w' (fun k => S k ∨ w.heap.size ≤ k) g (encE s i bit) ∧ Below w0.heap.size w0 w' ∧ Kept w w' S := by
  obtain ⟨vp, vl, h1, h2, h3, h4, h5⟩ := h
  obtain ⟨bb, c, rfl, hb0, hb1, _⟩ := Kd.R_form h4 hok.p0
  have hSb := h4.1 bb rfl
  have x0 : w.cell? ⟨g, 0, none⟩ = some (.slice (some ⟨bb, 0, none⟩) s.p.length c) := (blk_cell h1 0).trans rfl
  have x2 : w.cell? ⟨g, 2, none⟩ = some (.int .i64 s.size) := (blk_cell h1 2).trans rfl
  have f2 := blk_frozen h1 2
  have hil : (i : Int) < (s.p.length : Int) := by omega
  have hi0 : (0 : Int) ≤ (i : Int) := by omega
  obtain ⟨y0, y1⟩ := Kd.R_cell (0 : Int) h4 (i : Int) (by omega) hil
  rw [Int.toNat_natCast] at y0 y1
  have e1 : rdOf (0 : Int) s.p (i : Int) = rd s.p (i : Int) := rfl
  rw [e1] at y0
  have hx := hok.p.get hi
  have hp1 : ((s.p.length : Int) == 0) = false := by have hp := hok.p0; simp; intro e; rw [e] at hp; simp at hp
  have HM0 : Aside0 (EMidAt w0 w S g bb c s.p s.begun (s.out ++ lit4P s.low) s.size w) := ⟨vl, h1, Kd.R_mono (Kd.R_tight rfl h4) (fun k hk => by have e9 : some k = some bb := hk; exact Option.some.inj e9), Kd.R_mono h5 (fun k hk => ⟨.inl hk.1, fun he => hk.2 (by rw [he]; rfl)⟩), hB, Kept.refl _ _⟩
  have HX := Aside0.mk (And.intro h2 (And.intro h3 (And.intro hSb hb0)))
  have HOK := Aside0.mk hok
  have HIN := Aside0.mk hinv
  have HI := Aside0.mk hi
  have HLEN := Aside0.mk hlen
  have hspb := split_le s.size (rd s.p (i : Int)) (by have := hok.size0; omega) (by omega) (by omega)
  have hsw : IntKind.i64.wrap (s.size / 4096 * rd s.p (i : Int)) = splitP s.size (rd s.p (i : Int)) := (i64_w _).trans (wrap64_id (by have := hok.size1; omega) (by have := hok.size1; omega))
  have hsw2 : wrap64 (s.size / 4096 * rd s.p (i : Int)) = splitP s.size (rd s.p (i : Int)) := wrap64_id (by have := hok.size1; omega) (by have := hok.size1; omega)
  have hz0 : 0 ≤ s.size := by have := hok.size0; omega
  have hz1 := hok.size1
  have hq : Int.tdiv s.size 4096 = s.size / 4096 := Int.tdiv_eq_ediv_of_nonneg hz0
  have hqw : IntKind.i64.wrap (s.size / 4096) = s.size / 4096 := (i64_w _).trans (wrap64_id (by omega) (by omega))
  have hbd := splitP_bd hok.size0 hok.size1 hx
  have hdi : decide ((i : Int) < 0) = false := decide_eq_false (by omega)
  have hdl : decide (s.p.length ≤ i) = false := decide_eq_false (by omega)
  clear h1 h2 h3 h4 h5 hok hi hB hx e1 hinv hlen hspb hSb hb0
  rcases hbit with rfl | rfl
  · have HMK := Aside0.mk (midE_ok (bit := 0) HOK.out.out HOK.out.low0 HOK.out.low1 HOK.out.size0 HOK.out.size1 (HOK.out.p.get HI.out))
    have HMD := Aside0.mk (midE_num HOK.out HIN.out (bit := 0) (HOK.out.p.get HI.out))
    have HME : Aside0 (midE s.out s.low s.size (rd s.p (i : Int)) 0 = (s.out, s.low, splitP s.size (rd s.p (i : Int)))) := ⟨by unfold midE; rw [if_pos rfl]⟩
    go_enter Try.func27, Try.ntmps27
    go_wp2
    go_quiet (fail)
    go_wp2
    clear x0 x2 f2 y0 y1 hbd hz0 hz1 hq hqw hsw hsw2
    go_loopg [] 2 (fun kq w' => ∃ t : List Int × Int × Int, Aside0 (MidOk t ∧ rnE t = rnE (midE s.out s.low s.size (rd s.p (i : Int)) 0) ∧ (t.2.2 < 16777216 → 2 ≤ kq) ∧ 1 ≤ kq ∧ t.1.length + kq ≤ 1000002) ∧ Aside0 (EMidAt w0 w S g bb c s.p s.begun (t.1 ++ lit4P t.2.1) t.2.2 w'))
    case atStart => exact ⟨midE s.out s.low s.size (rd s.p (i : Int)) 0, ⟨HMK.out, rfl, fun _ => by omega, by omega, by have := HLEN.out; rw [HMD.out.2.2]; omega⟩, ⟨by rw [HME.out]; exact (HM0.out.drewN _).size HX.out.1 HX.out.2.1 _⟩⟩
    case round =>
      obtain ⟨⟨out, low, size⟩, HI2, HMt⟩ := hrel
      have HI3 := Aside0.mk (And.intro HI2.out.1 (And.intro HI2.out.2.2.1 HI2.out.2.2.2))
      have HI4 : Aside0 (∀ t', rnE t' = rnE (out, low, size) → rnE t' = rnE (midE s.out s.low s.size (rd s.p (i : Int)) 0)) := ⟨fun t' h => h.trans HI2.out.2.1⟩
      have HDone : Aside0 (rnE (out, low, size) = (out, low, size) → encE s i 0 = ⟨s.p.set i (adaptP (rd s.p (i : Int)) 0), out, low, size, true⟩) := ⟨fun h => by unfold encE; rw [← HI2.out.2.1, h]⟩
      have HMz := HMt.out
      obtain ⟨vl2, m1, m2, m3, m4, m5⟩ := HMz
      obtain ⟨A5, c5, e5⟩ := Kd.R_slice m3
      subst e5
      have c0 : wr.cell? ⟨g, 0, none⟩ = some (.slice (some ⟨bb, 0, none⟩) s.p.length c) := (blk_cell m1 0).trans rfl
      have c1 : wr.cell? ⟨g, 1, none⟩ = some (.slice A5 (out ++ lit4P low).length c5) := (blk_cell m1 1).trans rfl
      have c2 : wr.cell? ⟨g, 2, none⟩ = some (.int .i64 size) := (blk_cell m1 2).trans rfl
      have c3 : wr.cell? ⟨g, 3, none⟩ = some (.bool s.begun) := (blk_cell m1 3).trans rfl
      have k1 := blk_frozen m1 1
      have k2 := blk_frozen m1 2
      have k3 := blk_frozen m1 3
      have HMM := Aside0.mk (And.intro m1 (And.intro m2 (And.intro m3 (And.intro m4 m5))))
      by_cases hlt : size < 16777216
      · have HLT := Aside0.mk hlt
        have sa : 65536 ≤ size := HI3.out.1.size0
        have HQ := Aside0.mk (rnE_step HI3.out.1 hlt)
        have HSH := Aside0.mk (lit4_shift out HI3.out.1.low0 HI3.out.1.low1)
        have HDL : Aside0 ((out ++ lit4P low).length ≤ 1000006) := ⟨by rw [List.length_append]; have h9 := HI3.out.2.2.2; have h8 : (out, low, size).1.length = out.length := rfl; have h7 : (lit4P low).length = 4 := rfl; omega⟩
        clear m1 m2 m3 m4 m5
        generalize out ++ lit4P low = dg at *
        go_wp2_with ((with_reducible refine gate_builtin (b := .append) (xs := #[.tmp 104, .tmp 105]) rfl ?_); at_builtin; refine Kd.R_append (Kd.int .i64) (w0 := w0) w0.heap.size rfl (.tmp 104) (.tmp 105) 35 3 (.int .i64 0) 8 rfl Try.underlying35 info3 rfl (by decide) (by omega) (.slice A5 dg.length c5) dg 0 [.int .i64 0] (fun k => (S k ∨ w.heap.size ≤ k) ∧ k ≠ bb) (fun _ => False) rfl rfl rfl (fun _ hk => hk.elim) (fun k hk => ⟨.inr (Nat.le_trans HMM.out.2.2.2.2.1 hk), fun he => (by have h8 := Kd.R_lt HMM.out.2.1 bb rfl; omega)⟩) HMM.out.2.2.1 HMM.out.2.2.2.1 HMM.out.2.2.2.1.size (by have := HDL.out; omega) ?_; intro v1 w1 hR1 hb1 hg1 hat1; have BK := blk_grown HMM.out.1 hg1 (Kd.R_ne HMM.out.2.2.1 HMM.out.1 (by decide)); obtain ⟨A6, c6, e6⟩ := Kd.R_slice hR1; have e7 : v1 = .slice A6 (dg.length + 1) c6 := (by rw [e6, List.length_append]; rfl); clear e6; subst e7; have d1 : w1.cell? ⟨g, 1, none⟩ = some (.slice A5 dg.length c5) := (blk_cell BK 1).trans rfl; have d2 : w1.cell? ⟨g, 2, none⟩ = some (.int .i64 size) := (blk_cell BK 2).trans rfl; have g1 := blk_frozen BK 1; have g2 := blk_frozen BK 2; have HN := Aside0.mk (And.intro BK (And.intro hR1 (And.intro hb1 hg1))); clear BK hR1 hb1 hg1 hat1)
        go_roundg (gk - 1)
        case measure => have := HI3.out.2.2; omega
        case rel =>
          have b1 := blk_put HN.out.1 1 (.slice A6 (dg.length + 1) c6) rfl
          have b2 := blk_put b1 2 (.int .i64 (256 * size)) rfl
          have pp := Kd.R_grown HMM.out.2.1 HN.out.2.2.2 (fun k hk he => (HMM.out.2.2.1.1 k he.symm).2 hk)
          have kk := Kept.of_grown HN.out.2.2.2 HMM.out.2.2.2.2 (fun k hk => (HMM.out.2.2.1.1 k hk).1)
          refine ⟨(out ++ [low / 16777216], low * 256 % 4294967296, size * 256), ⟨HQ.out.2.1, HI4.out _ HQ.out.2.2.1, fun h => absurd h (Int.not_lt.2 HQ.out.2.2.2), ?_, ?_⟩, ⟨?_⟩⟩
          · have := HI3.out.2.1 HLT.out; omega
          · have h9 := HI3.out.2.2.2; have h8 := HI3.out.2.1 HLT.out; have h7 : (out, low, size).1.length = out.length := rfl; rw [h7] at h9; show (out ++ [low / 16777216]).length + (gk - 1) ≤ 1000002; rw [List.length_append, List.length_singleton]; omega
          · show EMidAt w0 w S g bb c s.p s.begun ((out ++ [low / 16777216]) ++ lit4P (low * 256 % 4294967296)) (size * 256) _
            rw [← HSH.out, Int.mul_comm size 256]
            exact ⟨_, b2, Kd.R_set (Kd.R_set pp HN.out.1 (by decide) 1 _) b1 (by decide) 2 _, Kd.R_set (Kd.R_set HN.out.2.1 HN.out.1 (by decide) 1 _) b1 (by decide) 2 _, below_set (below_set HN.out.2.2.1 HX.out.2.1) HX.out.2.1, Kept.setCell (Kept.setCell kk (.inl HX.out.1) _) (.inl HX.out.1) _⟩
      · obtain ⟨z0, z1⟩ := Kd.R_cell (0 : Int) m2 (i : Int) (by omega) hil
        rw [Int.toNat_natCast] at z0 z1
        have hx := HOK.out.p.get HI.out
        obtain ⟨ka, hka⟩ := radapt_f (rd s.p (i : Int)) 0 (by omega) (by omega) (by omega)
        have HKA := Aside0.mk hka
        have HNL := Aside0.mk hlt
        have z2 : wr.cell? ⟨bb, i, none⟩ = some (.int .i64 (rd s.p (i : Int))) := z0
        have hgb : g ≠ bb := fun e => Kd.R_ne m2 m1 (by decide) (by rw [e]; rfl)
        have q3 : ∀ (n : Nat) (y : Value), ((wr.drewN n).setCell ⟨bb, i, none⟩ y).cell? ⟨g, 3, none⟩ = some (.bool s.begun) := fun n y => (World.cell?_setCell_other _ _ _ _ (by simp [hgb])).trans c3
        clear c1 k1 k2 m1 m2 m3 m4 m5 hka hx z0
        go_wp2
        go_region_with (go_at_call 12; (with_reducible refine (waveletref11_Adapt.calls ka _ _ _ _ HKA.out).mono ?_); rintro e w1 ⟨rfl, ⟨n1, rfl⟩⟩)
        all_goals go_wp2
        all_goals go_ret
        all_goals
          rw [HDone.out (by unfold rnE; rw [if_neg (show ¬ size < 16777216 by have h8 := HNL.out; omega)])]
          exact ⟨rfl, renc_done HMt.out HX.out.1 HX.out.2.1 HX.out.2.2.1 HX.out.2.2.2 HOK.out.p0 _ i _⟩
  · have HMK := Aside0.mk (midE_ok (bit := 1) HOK.out.out HOK.out.low0 HOK.out.low1 HOK.out.size0 HOK.out.size1 (HOK.out.p.get HI.out))
    have HMD := Aside0.mk (midE_num HOK.out HIN.out (bit := 1) (HOK.out.p.get HI.out))
    have HME : Aside0 ((midE s.out s.low s.size (rd s.p (i : Int)) 1).2.2 = s.size - splitP s.size (rd s.p (i : Int))) := ⟨HMD.out.2.1⟩
    have HTG := Aside0.mk (add_mid HOK.out HIN.out (HOK.out.p.get HI.out))
    have HBD : Aside0 (Byt (s.out ++ lit4P s.low) ∧ (s.out ++ lit4P s.low).length ≤ 1000004 ∧ 4 ≤ (s.out ++ lit4P s.low).length) := ⟨byt_app HOK.out.out (lit4_byt HOK.out.low0 HOK.out.low1), by rw [List.length_append]; have h9 := HLEN.out; show _ + 4 ≤ _; omega, by rw [List.length_append]; show 4 ≤ _ + 4; omega⟩
    have hw2 : wrap64 (s.size - splitP s.size (rd s.p (i : Int))) = s.size - splitP s.size (rd s.p (i : Int)) := wrap64_id (by omega) (by omega)
    obtain ⟨bl, cl, l1, lrow⟩ := HM0.out.row (by have := HBD.out.2.2; omega)
    have x1 : w.cell? ⟨g, 1, none⟩ = some (.slice (some ⟨bl, 0, none⟩) (s.out ++ lit4P s.low).length cl) := (blk_cell l1 1).trans rfl
    have hb32 : splitP s.size (rd s.p (i : Int)) ≤ 4294967295 := by omega
    have hb00 : 0 ≤ splitP s.size (rd s.p (i : Int)) := by omega
    clear lrow l1
    generalize s.out ++ lit4P s.low = dg at *
    have hdl1 : (dg.length : Int) ≤ 1000004 := by have := HBD.out.2.1; omega
    have hdl4 : 4 ≤ (dg.length : Int) := by have := HBD.out.2.2; omega
    have HB32 := Aside0.mk (And.intro hb00 hb32)
    go_enter Try.func27, Try.ntmps27
    go_wp2
    go_quiet (fail)
    go_wp2
    clear x0 x1 x2 f2 y0 y1 hbd hz0 hz1 hq hqw hsw hsw2 hw2
    generalize splitP s.size (rd s.p (i : Int)) = sp at *
    go_loopg [7, 8] (dg.length + 1) (fun kq v7 v8 w' => ∃ (a z : List Int) (b iv : Int), v7 = .int .i64 b ∧ v8 = .int .i64 iv ∧ Aside0 (iv = (a.length : Int) - 1 ∧ kq = a.length + 1 ∧ (addR a b).reverse ++ z = (addR dg.reverse sp).reverse ∧ Byt a ∧ 0 ≤ b ∧ b ≤ 4294967295 ∧ a.length ≤ 1000004) ∧ Aside0 (EMidAt w0 w S g bb c s.p s.begun (a.reverse ++ z) (s.size - sp) w'))
    case atStart => exact ⟨dg.reverse, [], sp, (dg.length : Int) - 1, rfl, rfl, ⟨by rw [List.length_reverse], by rw [List.length_reverse], by rw [List.append_nil], byt_rev HBD.out.1, HB32.out.1, HB32.out.2, by rw [List.length_reverse]; exact HBD.out.2.1⟩, ⟨by rw [List.reverse_reverse, List.append_nil]; exact (HM0.out.drewN _).size HX.out.1 HX.out.2.1 _⟩⟩
    case round =>
      obtain ⟨a, z, b, iv, rfl, rfl, HA, HEM⟩ := hrel
      cases a with
      | nil =>
        obtain rfl : iv = -1 := HA.out.1
        have HEX : Aside0 (EMidAt w0 w S g bb c s.p s.begun ((midE s.out s.low s.size (rd s.p (i : Int)) 1).1 ++ lit4P (midE s.out s.low s.size (rd s.p (i : Int)) 1).2.1) ((midE s.out s.low s.size (rd s.p (i : Int)) 1).2.2) wr) := ⟨by rw [← HTG.out, ← HA.out.2.2.1, HME.out]; exact HEM.out⟩
        clear HA HEM
        go_wp2
        go_loopg [] 2 (fun kq w' => ∃ t : List Int × Int × Int, Aside0 (MidOk t ∧ rnE t = rnE (midE s.out s.low s.size (rd s.p (i : Int)) 1) ∧ (t.2.2 < 16777216 → 2 ≤ kq) ∧ 1 ≤ kq ∧ t.1.length + kq ≤ 1000002) ∧ Aside0 (EMidAt w0 w S g bb c s.p s.begun (t.1 ++ lit4P t.2.1) t.2.2 w'))
        case atStart => exact ⟨midE s.out s.low s.size (rd s.p (i : Int)) 1, ⟨HMK.out, rfl, fun _ => by omega, by omega, by have := HLEN.out; rw [HMD.out.2.2]; omega⟩, ⟨HEX.out⟩⟩
        case round =>
          obtain ⟨⟨out, low, size⟩, HI2, HMt⟩ := hrel
          have HI3 := Aside0.mk (And.intro HI2.out.1 (And.intro HI2.out.2.2.1 HI2.out.2.2.2))
          have HI4 : Aside0 (∀ t', rnE t' = rnE (out, low, size) → rnE t' = rnE (midE s.out s.low s.size (rd s.p (i : Int)) 1)) := ⟨fun t' h => h.trans HI2.out.2.1⟩
          have HDone : Aside0 (rnE (out, low, size) = (out, low, size) → encE s i 1 = ⟨s.p.set i (adaptP (rd s.p (i : Int)) 1), out, low, size, true⟩) := ⟨fun h => by unfold encE; rw [← HI2.out.2.1, h]⟩
          have HMz := HMt.out
          obtain ⟨vl2, m1, m2, m3, m4, m5⟩ := HMz
          obtain ⟨A5, c5, e5⟩ := Kd.R_slice m3
          subst e5
          have c0 : wr.cell? ⟨g, 0, none⟩ = some (.slice (some ⟨bb, 0, none⟩) s.p.length c) := (blk_cell m1 0).trans rfl
          have c1 : wr.cell? ⟨g, 1, none⟩ = some (.slice A5 (out ++ lit4P low).length c5) := (blk_cell m1 1).trans rfl
          have c2 : wr.cell? ⟨g, 2, none⟩ = some (.int .i64 size) := (blk_cell m1 2).trans rfl
          have c3 : wr.cell? ⟨g, 3, none⟩ = some (.bool s.begun) := (blk_cell m1 3).trans rfl
          have k1 := blk_frozen m1 1
          have k2 := blk_frozen m1 2
          have k3 := blk_frozen m1 3
          have HMM := Aside0.mk (And.intro m1 (And.intro m2 (And.intro m3 (And.intro m4 m5))))
          by_cases hlt : size < 16777216
          · have HLT := Aside0.mk hlt
            have sa : 65536 ≤ size := HI3.out.1.size0
            have HQ := Aside0.mk (rnE_step HI3.out.1 hlt)
            have HSH := Aside0.mk (lit4_shift out HI3.out.1.low0 HI3.out.1.low1)
            have HDL : Aside0 ((out ++ lit4P low).length ≤ 1000006) := ⟨by rw [List.length_append]; have h9 := HI3.out.2.2.2; have h8 : (out, low, size).1.length = out.length := rfl; have h7 : (lit4P low).length = 4 := rfl; omega⟩
            clear m1 m2 m3 m4 m5
            generalize out ++ lit4P low = dg at *
            go_wp2_with ((with_reducible refine gate_builtin (b := .append) (xs := #[.tmp 104, .tmp 105]) rfl ?_); at_builtin; refine Kd.R_append (Kd.int .i64) (w0 := w0) w0.heap.size rfl (.tmp 104) (.tmp 105) 35 3 (.int .i64 0) 8 rfl Try.underlying35 info3 rfl (by decide) (by omega) (.slice A5 dg.length c5) dg 0 [.int .i64 0] (fun k => (S k ∨ w.heap.size ≤ k) ∧ k ≠ bb) (fun _ => False) rfl rfl rfl (fun _ hk => hk.elim) (fun k hk => ⟨.inr (Nat.le_trans HMM.out.2.2.2.2.1 hk), fun he => (by have h8 := Kd.R_lt HMM.out.2.1 bb rfl; omega)⟩) HMM.out.2.2.1 HMM.out.2.2.2.1 HMM.out.2.2.2.1.size (by have := HDL.out; omega) ?_; intro v1 w1 hR1 hb1 hg1 hat1; have BK := blk_grown HMM.out.1 hg1 (Kd.R_ne HMM.out.2.2.1 HMM.out.1 (by decide)); obtain ⟨A6, c6, e6⟩ := Kd.R_slice hR1; have e7 : v1 = .slice A6 (dg.length + 1) c6 := (by rw [e6, List.length_append]; rfl); clear e6; subst e7; have d1 : w1.cell? ⟨g, 1, none⟩ = some (.slice A5 dg.length c5) := (blk_cell BK 1).trans rfl; have d2 : w1.cell? ⟨g, 2, none⟩ = some (.int .i64 size) := (blk_cell BK 2).trans rfl; have g1 := blk_frozen BK 1; have g2 := blk_frozen BK 2; have HN := Aside0.mk (And.intro BK (And.intro hR1 (And.intro hb1 hg1))); clear BK hR1 hb1 hg1 hat1)
            go_roundg (gk - 1)
            case measure => have := HI3.out.2.2; omega
            case rel =>
              have b1 := blk_put HN.out.1 1 (.slice A6 (dg.length + 1) c6) rfl
              have b2 := blk_put b1 2 (.int .i64 (256 * size)) rfl
              have pp := Kd.R_grown HMM.out.2.1 HN.out.2.2.2 (fun k hk he => (HMM.out.2.2.1.1 k he.symm).2 hk)
              have kk := Kept.of_grown HN.out.2.2.2 HMM.out.2.2.2.2 (fun k hk => (HMM.out.2.2.1.1 k hk).1)
              refine ⟨(out ++ [low / 16777216], low * 256 % 4294967296, size * 256), ⟨HQ.out.2.1, HI4.out _ HQ.out.2.2.1, fun h => absurd h (Int.not_lt.2 HQ.out.2.2.2), ?_, ?_⟩, ⟨?_⟩⟩
              · have := HI3.out.2.1 HLT.out; omega
              · have h9 := HI3.out.2.2.2; have h8 := HI3.out.2.1 HLT.out; have h7 : (out, low, size).1.length = out.length := rfl; rw [h7] at h9; show (out ++ [low / 16777216]).length + (gk - 1) ≤ 1000002; rw [List.length_append, List.length_singleton]; omega
              · show EMidAt w0 w S g bb c s.p s.begun ((out ++ [low / 16777216]) ++ lit4P (low * 256 % 4294967296)) (size * 256) _
                rw [← HSH.out, Int.mul_comm size 256]
                exact ⟨_, b2, Kd.R_set (Kd.R_set pp HN.out.1 (by decide) 1 _) b1 (by decide) 2 _, Kd.R_set (Kd.R_set HN.out.2.1 HN.out.1 (by decide) 1 _) b1 (by decide) 2 _, below_set (below_set HN.out.2.2.1 HX.out.2.1) HX.out.2.1, Kept.setCell (Kept.setCell kk (.inl HX.out.1) _) (.inl HX.out.1) _⟩
          · obtain ⟨z0, z1⟩ := Kd.R_cell (0 : Int) m2 (i : Int) (by omega) hil
            rw [Int.toNat_natCast] at z0 z1
            have hx := HOK.out.p.get HI.out
            obtain ⟨ka, hka⟩ := radapt_f (rd s.p (i : Int)) 1 (by omega) (by omega) (by omega)
            have HKA := Aside0.mk hka
            have HNL := Aside0.mk hlt
            have z2 : wr.cell? ⟨bb, i, none⟩ = some (.int .i64 (rd s.p (i : Int))) := z0
            have hgb : g ≠ bb := fun e => Kd.R_ne m2 m1 (by decide) (by rw [e]; rfl)
            have q3 : ∀ (n : Nat) (y : Value), ((wr.drewN n).setCell ⟨bb, i, none⟩ y).cell? ⟨g, 3, none⟩ = some (.bool s.begun) := fun n y => (World.cell?_setCell_other _ _ _ _ (by simp [hgb])).trans c3
            clear c1 k1 k2 m1 m2 m3 m4 m5 hka hx z0
            go_wp2
            go_region_with (go_at_call 12; (with_reducible refine (waveletref11_Adapt.calls ka _ _ _ _ HKA.out).mono ?_); rintro e w1 ⟨rfl, ⟨n1, rfl⟩⟩)
            all_goals go_wp2
            all_goals go_ret
            all_goals
              rw [HDone.out (by unfold rnE; rw [if_neg (show ¬ size < 16777216 by have h8 := HNL.out; omega)])]
              exact ⟨rfl, renc_done HMt.out HX.out.1 HX.out.2.1 HX.out.2.2.1 HX.out.2.2.2 HOK.out.p0 _ i _⟩

      | cons x r =>
        obtain rfl : iv = (r.length : Int) := by have h9 := HA.out.1; rw [List.length_cons] at h9; omega
        have hxb := HA.out.2.2.2.1 x List.mem_cons_self
        have hb0' := HA.out.2.2.2.2.1
        have hb1' := HA.out.2.2.2.2.2.1
        have hrl : (r.length : Int) ≤ 1000004 := by have h9 := HA.out.2.2.2.2.2.2; rw [List.length_cons] at h9; omega
        have hdl2 : ((x :: r).reverse ++ z).length = r.length + 1 + z.length := by rw [List.length_append, List.length_reverse, List.length_cons]
        have hrev : (x :: r).reverse ++ z = r.reverse ++ x :: z := by rw [List.reverse_cons, List.append_assoc]; rfl
        obtain ⟨bl2, cl2, l1, lrow⟩ := HEM.out.row (by rw [hdl2]; omega)
        obtain ⟨q0, q1, q2⟩ := lrow r.length (by rw [hdl2]; omega)
        rw [hrev, rd_mid] at q0
        have q2' := Aside0.mk (fun y : Int => by have h9 := q2 y; rw [hrev, set_mid] at h9; exact h9)
        have c1 : wr.cell? ⟨g, 1, none⟩ = some (.slice (some ⟨bl2, 0, none⟩) ((x :: r).reverse ++ z).length cl2) := (blk_cell l1 1).trans rfl
        rw [hdl2] at c1
        have hrr : (r.length : Int) < ((r.length + 1 + z.length : Nat) : Int) := by omega
        have hr0 : (0 : Int) ≤ (r.length : Int) := by omega
        obtain ⟨hx0, hx1⟩ := hxb
        have HAD : Aside0 ((addR r ((b + x) / 256)).reverse ++ (b + x) % 256 :: z = (addR dg.reverse sp).reverse) := ⟨by rw [← HA.out.2.2.1, addR, List.reverse_cons, List.append_assoc]; rfl⟩
        have HAB : Aside0 (Byt r ∧ gk = r.length + 1 + 1) := ⟨fun y hy => HA.out.2.2.2.1 y (List.mem_cons_of_mem _ hy), HA.out.2.1⟩
        clear q2 lrow l1 hdl2 hrev HA HEM
        generalize r.length + 1 + z.length = DLn at *
        go_wp2
        go_roundg (gk - 1)
        case measure => have := HAB.out.2; omega
        case rel => exact ⟨r, (b + x) % 256 :: z, (b + x) / 256, (r.length : Int) - 1, rfl, by first | rfl | simp, ⟨rfl, by have := HAB.out.2; omega, HAD.out, HAB.out.1, by omega, by omega, by omega⟩, ⟨q2'.out _⟩⟩
end Go.Proofs.Ytfbdenlpoidnjaa.P
