/- The reference's Decode and Reset, walked. -/
import Derived.Test.YtfbdenlpoidnjaaRst
import Derived.Deep.RegionLaw
set_option linter.unusedVariables false
set_option linter.unusedSimpArgs false
namespace Go.Proofs.Ytfbdenlpoidnjaa.P
open Go.RowKit Go.Proofs.YtfbdenlpoidnjaaW.PrintWords Go.Proofs.YtfbdenlpoidnjaaW.PrintLast Go.Proofs.YtfbdenlpoidnjaaW.PrintMore

theorem radapt_f (p bit : Int) (h0 : 0 ≤ p) (h1 : p ≤ 4096) (hb : bit = 0 ∨ bit = 1) : ∃ k, waveletref11_Adapt.f k p bit = some (adaptP p bit) := by
  obtain ⟨k, hk⟩ := (adapt_f p bit h0 h1 hb).rounds
  cases k with
  | zero =>
    exfalso
    unfold arith_Adapt.f at hk
    simp only [arith_Adapt.j0] at hk
    split at hk <;> cases hk
  | succ j => exact ⟨j + 1, hk⟩
theorem RDecode.idle (b : Nat) (w : World) (S : Nat → Prop) (g n : Nat) (s : DecS) (i : Int) (h : RDecAt b w S g s n) (hs : s.started = false) : Calls Try.prog 38 #[.pointer (some ⟨g, 0, none⟩), .int .i64 i] w fun e w' => e = .returned (.tuple #[.int .i64 0, .int .i64 6]) ∧ w' = w := by
  obtain ⟨vp, vo, ra, h1, h2, h3, h4, h5, h6⟩ := h
  rw [hs] at h1
  have x5 : w.cell? ⟨g, 5, none⟩ = some (.bool false) := (blk_cell h1 5).trans rfl
  clear h1 h2 h3 h4 h5 h6 hs
  go_enter Try.func38, Try.ntmps38
  go_wp2
  go_ret2
  exact ⟨rfl, rfl⟩
theorem RDecode.range (b : Nat) (w : World) (S : Nat → Prop) (g n : Nat) (s : DecS) (i : Int) (h : RDecAt b w S g s n) (hs : s.started = true) (hr : ¬ (0 ≤ i ∧ i < s.p.length)) : Calls Try.prog 38 #[.pointer (some ⟨g, 0, none⟩), .int .i64 i] w fun e w' => e = .returned (.tuple #[.int .i64 0, .int .i64 2]) ∧ w' = w := by
  obtain ⟨vp, vo, ra, h1, h2, h3, h4, h5, h6⟩ := h
  obtain ⟨A, c, rfl⟩ := Kd.R_slice h4
  rw [hs] at h1
  have x0 : w.cell? ⟨g, 0, none⟩ = some (.slice A s.p.length c) := (blk_cell h1 0).trans rfl
  have x5 : w.cell? ⟨g, 5, none⟩ = some (.bool true) := (blk_cell h1 5).trans rfl
  generalize s.p.length = L at *
  clear h1 h2 h3 h4 h5 h6 hs
  by_cases h0 : i < 0
  · clear hr
    go_enter Try.func38, Try.ntmps38
    go_wp2
    go_ret2
    exact ⟨rfl, rfl⟩
  · have h1 : (L : Int) ≤ i := by omega
    clear hr
    go_enter Try.func38, Try.ntmps38
    go_wp2
    go_ret2
    exact ⟨rfl, rfl⟩
/-- The reference's decoder between the split and the end of Decode. -/
def RMidAt (w0 w : World) (S : Nat → Prop) (g : Nat) (vp vo : Value) (p data : List Int) (t : Nat × Int × Int) (w' : World) : Prop :=
  w'.heap[g]? = some (.cells #[vp, vo, .int .i64 (t.1 : Int), .int .i64 t.2.1, .int .i64 t.2.2, .bool true] 83) ∧ Kd.R (Kd.int .i64) 3 w' w0.heap.size (fun k => S k ∨ w.heap.size ≤ k) vp p ∧ Kd.R (Kd.int .u8) 5 w' w0.heap.size (fun k => S k ∨ w.heap.size ≤ k) vo data ∧ Below w0.heap.size w0 w' ∧ Kept w w' S
theorem RMidAt.drewN {w0 w : World} {S : Nat → Prop} {g : Nat} {vp vo : Value} {p data : List Int} {t : Nat × Int × Int} {w' : World} (h : RMidAt w0 w S g vp vo p data t w') (n : Nat) : RMidAt w0 w S g vp vo p data t (w'.drewN n) :=
  ⟨blk_drewN h.1 n, Kd.R_drewN h.2.1 n, Kd.R_drewN h.2.2.1 n, pw_below_drewN h.2.2.2.1 n, Kept.drewN h.2.2.2.2 n⟩
theorem RMidAt.set {w0 w : World} {S : Nat → Prop} {g : Nat} {vp vo : Value} {p data : List Int} {t t' : Nat × Int × Int} {w' : World} (h : RMidAt w0 w S g vp vo p data t w') (hS : S g) (hg : w0.heap.size ≤ g) (o : Nat) (v : Value) (hc : (#[vp, vo, .int .i64 (t.1 : Int), .int .i64 t.2.1, .int .i64 t.2.2, .bool true] : Array Value).set! o v = #[vp, vo, .int .i64 (t'.1 : Int), .int .i64 t'.2.1, .int .i64 t'.2.2, .bool true]) : RMidAt w0 w S g vp vo p data t' (w'.setCell ⟨g, o, none⟩ v) :=
  ⟨blk_put h.1 o v hc, Kd.R_set h.2.1 h.1 (by decide) o _, Kd.R_set h.2.2.1 h.1 (by decide) o _, below_set h.2.2.2.1 hg, Kept.setCell h.2.2.2.2 (.inl hS) _⟩
theorem rdec_done {w0 w : World} {S : Nat → Prop} {g bb c : Nat} {vo : Value} {p data : List Int} {t : Nat × Int × Int} {wr : World} (h : RMidAt w0 w S g (.slice (some ⟨bb, 0, none⟩) p.length c) vo p data t wr) (hS : S g) (hge : w0.heap.size ≤ g) (hbb : w0.heap.size ≤ bb) (hp : 0 < p.length) (nd i : Nat) (y : Int) (n : Nat) (hn : t.1 ≤ n) :
    RDecAt w0.heap.size ((wr.drewN nd).setCell ⟨bb, i, none⟩ (.int .i64 y)) (fun k => S k ∨ w.heap.size ≤ k) g ⟨p.set i y, data, ((min t.1 data.length : Nat) : Int), t.2.1, t.2.2, true⟩ n ∧ Below w0.heap.size w0 ((wr.drewN nd).setCell ⟨bb, i, none⟩ (.int .i64 y)) ∧ Kept w ((wr.drewN nd).setCell ⟨bb, i, none⟩ (.int .i64 y)) S := by
  obtain ⟨m1, m2, m3, m4, m5⟩ := h.drewN nd
  have hne : g ≠ bb := fun e => Kd.R_ne m2 m1 (by decide) (by rw [e]; rfl)
  obtain ⟨gg, cc, ee, _, _, cells, hcells⟩ := Kd.R_form m2 hp
  injection ee with ea
  injection ea with ea
  injection ea with ea
  subst ea
  have p2 := (Kd.R_put m2 (i : Int) y).1
  rw [Int.toNat_natCast] at p2
  refine ⟨⟨_, vo, t.1, blk_far m1 hne _, .inl hS, hge, ?_, Kd.R_set m3 hcells (by decide) i _, rfl, hn⟩, below_set m4 hbb, Kept.setCell m5 (m2.1 bb rfl) _⟩
  exact p2
set_option maxHeartbeats 8000000 in
set_option maxRecDepth 100000 in
theorem RDecode.good (w0 w : World) (S : Nat → Prop) (g n : Nat) (s : DecS) (i : Nat) (hB : Below w0.heap.size w0 w) (h : RDecAt w0.heap.size w S g s n) (hok : DecOk s) (hi : i < s.p.length) (hn : n ≤ 1000000) : Calls Try.prog 38 #[.pointer (some ⟨g, 0, none⟩), .int .i64 i] w fun e w' => e = .returned (.tuple #[.int .i64 (decE s i).1, .int .i64 0]) ∧ RDecAt w0.heap.size w' (fun k => S k ∨ w.heap.size ≤ k) g (decE s i).2 (n + 1) ∧ Below w0.heap.size w0 w' ∧ Kept w w' S := by
  obtain ⟨vp, vo, an, h1, h2, h3, h4, h5, han, hann⟩ := h
  have hst := hok.started
  have hal : min an s.data.length ≤ s.data.length := Nat.min_le_right _ _
  obtain ⟨bb, c, rfl, hb0, hb1, _⟩ := Kd.R_form h4 hok.p0
  have x0 : w.cell? ⟨g, 0, none⟩ = some (.slice (some ⟨bb, 0, none⟩) s.p.length c) := (blk_cell h1 0).trans rfl
  have x3 : w.cell? ⟨g, 3, none⟩ = some (.int .i64 s.value) := (blk_cell h1 3).trans rfl
  have x4 : w.cell? ⟨g, 4, none⟩ = some (.int .i64 s.size) := (blk_cell h1 4).trans rfl
  have x5 : w.cell? ⟨g, 5, none⟩ = some (.bool true) := by rw [← hst]; exact (blk_cell h1 5).trans rfl
  have f3 := blk_frozen h1 3
  have f4 := blk_frozen h1 4
  have hil : (i : Int) < (s.p.length : Int) := by omega
  have hi0 : (0 : Int) ≤ (i : Int) := by omega
  obtain ⟨y0, y1⟩ := Kd.R_cell (0 : Int) h4 (i : Int) (by omega) hil
  rw [Int.toNat_natCast] at y0 y1
  have e1 : rdOf (0 : Int) s.p (i : Int) = rd s.p (i : Int) := rfl
  rw [e1] at y0
  have hx := hok.p.get hi
  have HM0 : Aside0 (RMidAt w0 w S g (.slice (some ⟨bb, 0, none⟩) s.p.length c) vo s.p s.data (an, s.value, s.size) w) := ⟨by rw [← hst]; exact h1, Kd.R_mono (ok' := fun k => S k ∨ w.heap.size ≤ k) h4 (fun _ hk => .inl hk), Kd.R_mono (ok' := fun k => S k ∨ w.heap.size ≤ k) h5 (fun _ hk => .inl hk), hB, Kept.refl _ _⟩
  have HX := Aside0.mk (And.intro h2 (And.intro h3 hb0))
  have HOK := Aside0.mk hok
  have HI := Aside0.mk hi
  have HAN := Aside0.mk (And.intro hann hn)
  have hsp : s.size / 4096 * rd s.p (i : Int) = splitP s.size (rd s.p (i : Int)) := rfl
  have hspb := split_le s.size (rd s.p (i : Int)) (by have := hok.size0; omega) (by omega) (by omega)
  have hsw : IntKind.i64.wrap (s.size / 4096 * rd s.p (i : Int)) = splitP s.size (rd s.p (i : Int)) := (i64_w _).trans (wrap64_id (by have := hok.size1; omega) (by have := hok.size1; omega))
  have hsw2 : wrap64 (s.size / 4096 * rd s.p (i : Int)) = splitP s.size (rd s.p (i : Int)) := wrap64_id (by have := hok.size1; omega) (by have := hok.size1; omega)
  have HDE : Aside0 (∀ m t, midD s.value s.size (rd s.p (i : Int)) = m → rnD s.data (min an s.data.length, m.2.1, m.2.2) = t → decE s i = (m.1, ⟨s.p.set i (adaptP (rd s.p (i : Int)) m.1), s.data, (t.1 : Int), t.2.1, t.2.2, true⟩)) := ⟨by rintro m t rfl rfl; unfold decE; rw [han, Int.toNat_natCast]⟩
  have hv0 := hok.v0
  have hv1 := hok.v1
  have hz1 := hok.size1
  have hz0 : 0 ≤ s.size := by have := hok.size0; omega
  have hbd := splitP_bd hok.size0 hok.size1 hx
  have hq : Int.tdiv s.size 4096 = s.size / 4096 := Int.tdiv_eq_ediv_of_nonneg hz0
  have hqw : IntKind.i64.wrap (s.size / 4096) = s.size / 4096 := (i64_w _).trans (wrap64_id (by omega) (by omega))
  have HMK := Aside0.mk (midD_ok (x := rd s.p (i : Int)) hal hok.v0 hok.v1 hok.size0 hok.size1 hx)
  clear h1 h2 h3 h4 h5 hok hi hB hx e1 han hst hann hn hal hspb
  have hdi : decide ((i : Int) < 0) = false := decide_eq_false (by omega)
  have hdl : decide (s.p.length ≤ i) = false := decide_eq_false (by have := HI.out; omega)
  by_cases hc : s.value < splitP s.size (rd s.p (i : Int))
  · have HMD : Aside0 (midD s.value s.size (rd s.p (i : Int)) = (0, s.value, splitP s.size (rd s.p (i : Int)))) := ⟨by unfold midD; rw [if_pos hc]⟩
    rw [HMD.out] at HMK
    have hw1 : wrap64 (s.value - splitP s.size (rd s.p (i : Int))) = s.value - splitP s.size (rd s.p (i : Int)) := wrap64_id (by omega) (by omega)
    have hw2 : wrap64 (s.size - splitP s.size (rd s.p (i : Int))) = s.size - splitP s.size (rd s.p (i : Int)) := wrap64_id (by omega) (by omega)
    have HRN : Aside0 (∀ t, rnD s.data (min an s.data.length, s.value, splitP s.size (rd s.p (i : Int))) = t → decE s i = (0, ⟨s.p.set i (adaptP (rd s.p (i : Int)) 0), s.data, (t.1 : Int), t.2.1, t.2.2, true⟩)) := ⟨fun t ht => HDE.out _ t HMD.out ht⟩
    go_enter Try.func38, Try.ntmps38
    go_wp2
    go_quiet (fail)
    go_wp2
    clear x0 x3 x4 x5 f3 f4 y0 y1 hsp hw1 hw2 hc hbd hv0 hv1 hz1 hz0 hq hqw hsw hsw2
    go_loopg [] 2 (fun kq w' => ∃ (a : Nat) (v size : Int), Aside0 (DMid s.data (min a s.data.length, v, size) ∧ rnD s.data (min a s.data.length, v, size) = rnD s.data (min an s.data.length, s.value, splitP s.size (rd s.p (i : Int))) ∧ (size < 16777216 → 2 ≤ kq) ∧ 1 ≤ kq ∧ a + kq ≤ n + 2) ∧ Aside0 (RMidAt w0 w S g (.slice (some ⟨bb, 0, none⟩) s.p.length c) vo s.p s.data (a, v, size) w'))
    case atStart => exact ⟨an, s.value, splitP s.size (rd s.p (i : Int)), ⟨HMK.out, rfl, fun _ => by omega, by omega, by have := HAN.out; omega⟩, ⟨(HM0.out.drewN _).set HX.out.1 HX.out.2.1 4 _ rfl⟩⟩
    case round =>
      obtain ⟨a, v, size, HI2, HMt⟩ := hrel
      have HDone : Aside0 (rnD s.data (min a s.data.length, v, size) = (min a s.data.length, v, size) → decE s i = (0, ⟨s.p.set i (adaptP (rd s.p (i : Int)) 0), s.data, ((min a s.data.length : Nat) : Int), v, size, true⟩)) := ⟨fun h => HRN.out _ (HI2.out.2.1.symm.trans h)⟩
      have HI3 := Aside0.mk (And.intro HI2.out.1 (And.intro HI2.out.2.2.1 HI2.out.2.2.2))
      have HI4 : Aside0 (∀ t', rnD s.data t' = rnD s.data (min a s.data.length, v, size) → rnD s.data t' = rnD s.data (min an s.data.length, s.value, splitP s.size (rd s.p (i : Int)))) := ⟨fun t' h => h.trans HI2.out.2.1⟩
      have HBYL : Aside0 (Byt s.data ∧ s.data.length ≤ 1000000) := ⟨HOK.out.data, HOK.out.len⟩
      generalize s.data = data at *
      have c0 : wr.cell? ⟨g, 0, none⟩ = some (.slice (some ⟨bb, 0, none⟩) s.p.length c) := (blk_cell HMt.out.1 0).trans rfl
      have c2 : wr.cell? ⟨g, 2, none⟩ = some (.int .i64 a) := (blk_cell HMt.out.1 2).trans rfl
      have c3 : wr.cell? ⟨g, 3, none⟩ = some (.int .i64 v) := (blk_cell HMt.out.1 3).trans rfl
      have c4 : wr.cell? ⟨g, 4, none⟩ = some (.int .i64 size) := (blk_cell HMt.out.1 4).trans rfl
      have k2 := blk_frozen HMt.out.1 2
      have k3 := blk_frozen HMt.out.1 3
      have k4 := blk_frozen HMt.out.1 4
      obtain ⟨Ad, cd, ed⟩ := Kd.R_slice HMt.out.2.2.1
      by_cases hlt : size < 16777216
      · have HLT := Aside0.mk hlt
        have va : 0 ≤ v := HI3.out.1.v0
        have vb : v < 16777216 := by have h9 := HI3.out.1.v1; have h8 : (min a data.length, v, size).2.1 = v := rfl; have h7 : (min a data.length, v, size).2.2 = size := rfl; rw [h8, h7] at h9; omega
        have sa : 65536 ≤ size := HI3.out.1.size0
        have HQ := Aside0.mk (rnD_step HBYL.out.1 HI3.out.1 hlt)
        have hn0 := nextP_bd HBYL.out.1 a
        rw [nextA_mn, nextP_mn, Int.mul_comm v 256, Int.mul_comm size 256] at HQ
        subst ed
        have c1 : wr.cell? ⟨g, 1, none⟩ = some (.slice Ad data.length cd) := (blk_cell HMt.out.1 1).trans rfl
        have HAB : Aside0 (a ≤ 2000000) := ⟨by have := HAN.out; have := HI3.out.2.2.2; omega⟩
        have HDN : Aside0 (∀ W : World, W.cell? ⟨g, 1, none⟩ = some (.slice Ad data.length cd) → W.cell? ⟨g, 2, none⟩ = some (.int .i64 a) → W.frozen? ⟨g, 2, none⟩ = false → (∀ x ad, a < data.length → Ad = some ad → wr.cell? (ad.add a) = some (.int .u8 x) → W.cell? (ad.add a) = some (.int .u8 x)) → Calls Try.prog 52 #[.pointer (some ⟨g, 0, none⟩)] W fun e w' => e = .returned (.int .i64 (nextP data a)) ∧ ∃ n1 n2, w' = ((W.drewN n1).setCell ⟨g, 2, none⟩ (.int .i64 ((a : Int) + 1))).drewN n2) := ⟨by
          intro W e1 e2 e3 e4
          by_cases ha : a < data.length
          · obtain ⟨bd, cd', ed', hbd0, hbd1, _⟩ := Kd.R_form HMt.out.2.2.1 (by omega)
            injection ed' with ed1 _ ed3
            subst ed1
            subst ed3
            obtain ⟨y0, y1⟩ := Kd.R_cell (0 : Int) HMt.out.2.2.1 (a : Int) (by omega) (by omega)
            rw [Int.toNat_natCast] at y0 y1
            have hx := HBYL.out.1 (rd data (a : Int)) (rd_mem ha)
            have hne : bd ≠ g := fun e => Kd.R_ne HMt.out.2.2.1 HMt.out.1 (by decide) (by rw [e]; rfl)
            have eP : nextP data a = rd data (a : Int) := by unfold nextP; rw [if_pos ha]
            rw [eP]
            exact Rnext.more W g ⟨bd, 0, none⟩ data.length cd a (rd data (a : Int)) e1 e2 e3 ha HBYL.out.2 hne (by rw [add0]) (e4 _ _ ha rfl (by rw [add0]; exact y0)) hx.1 hx.2
          · have eP : nextP data a = 0 := by unfold nextP; rw [if_neg ha]
            rw [eP]
            exact Rnext.done W g Ad data.length cd a e1 e2 e3 ha HAB.out⟩
        generalize nextP data a = nx at *
        have d3 : ∀ m n, (((wr.drewN m).setCell ⟨g, 2, none⟩ (.int .i64 ((a : Int) + 1))).drewN n).cell? ⟨g, 3, none⟩ = some (.int .i64 v) := fun m n => (World.cell?_setCell_other _ _ _ _ (by simp)).trans c3
        obtain ⟨hn1, hn2⟩ := hn0
        go_wp2
        go_region_with (go_at_call 52; (with_reducible refine (HDN.out _ ?qa ?qb ?qc ?qd).mono ?_); (case qa => exact c1); (case qb => exact c2); (case qc => exact k2); (case qd => exact fun x ad _ _ h => h); rintro e w2 ⟨rfl, n1, n2, rfl⟩)
        all_goals go_wp2
        all_goals go_roundg (gk - 1)
        case' measure => have := HI3.out.2.2; omega
        all_goals first | (have := HI3.out.2.2; omega) | skip
        all_goals
          refine ⟨a + 1, 256 * v + nx, 256 * size, ⟨HQ.out.1, HI4.out _ HQ.out.2.1, fun h => absurd h (Int.not_lt.2 HQ.out.2.2), ?_, ?_⟩, ⟨?_⟩⟩
          · have := HI3.out.2.1 HLT.out; omega
          · have := HI3.out.2.2.2; have := HI3.out.2.1 HLT.out; omega
          · exact (((((HMt.out.drewN _).set (t' := (a + 1, v, size)) HX.out.1 HX.out.2.1 2 _ rfl).drewN _).set (t' := (a + 1, 256 * v + nx, size)) HX.out.1 HX.out.2.1 3 _ rfl).set (t' := (a + 1, 256 * v + nx, 256 * size)) HX.out.1 HX.out.2.1 4 _ rfl)
      · obtain ⟨z0, z1⟩ := Kd.R_cell (0 : Int) HMt.out.2.1 (i : Int) (by omega) hil
        rw [Int.toNat_natCast] at z0 z1
        have hx := HOK.out.p.get HI.out
        obtain ⟨ka, hka⟩ := radapt_f (rd s.p (i : Int)) 0 (by omega) (by omega) (by omega)
        have HKA := Aside0.mk hka
        have HNL := Aside0.mk hlt
        have z2 : wr.cell? ⟨bb, i, none⟩ = some (.int .i64 (rd s.p (i : Int))) := z0
        clear c2 c3 k2 k3 k4 ed hka hx z0
        go_wp2
        go_region_with (go_at_call 12; (with_reducible refine (waveletref11_Adapt.calls ka _ _ _ _ HKA.out).mono ?_); rintro e w1 ⟨rfl, ⟨n1, rfl⟩⟩)
        all_goals go_wp2
        all_goals go_ret2
        all_goals
          rw [HDone.out (by unfold rnD; rw [if_neg (show ¬ size < 16777216 by have h8 := HNL.out; omega)])]
          exact ⟨rfl, rdec_done HMt.out HX.out.1 HX.out.2.1 HX.out.2.2 HOK.out.p0 _ i _ (n + 1) (by have h9 := HI3.out.2.2; show a ≤ n + 1; omega)⟩
  · have HMD : Aside0 (midD s.value s.size (rd s.p (i : Int)) = (1, s.value - splitP s.size (rd s.p (i : Int)), s.size - splitP s.size (rd s.p (i : Int)))) := ⟨by unfold midD; rw [if_neg hc]⟩
    rw [HMD.out] at HMK
    have hw1 : wrap64 (s.value - splitP s.size (rd s.p (i : Int))) = s.value - splitP s.size (rd s.p (i : Int)) := wrap64_id (by omega) (by omega)
    have hw2 : wrap64 (s.size - splitP s.size (rd s.p (i : Int))) = s.size - splitP s.size (rd s.p (i : Int)) := wrap64_id (by omega) (by omega)
    have HRN : Aside0 (∀ t, rnD s.data (min an s.data.length, s.value - splitP s.size (rd s.p (i : Int)), s.size - splitP s.size (rd s.p (i : Int))) = t → decE s i = (1, ⟨s.p.set i (adaptP (rd s.p (i : Int)) 1), s.data, (t.1 : Int), t.2.1, t.2.2, true⟩)) := ⟨fun t ht => HDE.out _ t HMD.out ht⟩
    go_enter Try.func38, Try.ntmps38
    go_wp2
    go_quiet (fail)
    go_wp2
    clear x0 x3 x4 x5 f3 f4 y0 y1 hsp hw1 hw2 hc hbd hv0 hv1 hz1 hz0 hq hqw hsw hsw2
    go_loopg [] 2 (fun kq w' => ∃ (a : Nat) (v size : Int), Aside0 (DMid s.data (min a s.data.length, v, size) ∧ rnD s.data (min a s.data.length, v, size) = rnD s.data (min an s.data.length, s.value - splitP s.size (rd s.p (i : Int)), s.size - splitP s.size (rd s.p (i : Int))) ∧ (size < 16777216 → 2 ≤ kq) ∧ 1 ≤ kq ∧ a + kq ≤ n + 2) ∧ Aside0 (RMidAt w0 w S g (.slice (some ⟨bb, 0, none⟩) s.p.length c) vo s.p s.data (a, v, size) w'))
    case atStart => exact ⟨an, s.value - splitP s.size (rd s.p (i : Int)), s.size - splitP s.size (rd s.p (i : Int)), ⟨HMK.out, rfl, fun _ => by omega, by omega, by have := HAN.out; omega⟩, ⟨((HM0.out.drewN _).set (t' := (an, s.value - splitP s.size (rd s.p (i : Int)), s.size)) HX.out.1 HX.out.2.1 3 _ rfl).set HX.out.1 HX.out.2.1 4 _ rfl⟩⟩
    case round =>
      obtain ⟨a, v, size, HI2, HMt⟩ := hrel
      have HDone : Aside0 (rnD s.data (min a s.data.length, v, size) = (min a s.data.length, v, size) → decE s i = (1, ⟨s.p.set i (adaptP (rd s.p (i : Int)) 1), s.data, ((min a s.data.length : Nat) : Int), v, size, true⟩)) := ⟨fun h => HRN.out _ (HI2.out.2.1.symm.trans h)⟩
      have HI3 := Aside0.mk (And.intro HI2.out.1 (And.intro HI2.out.2.2.1 HI2.out.2.2.2))
      have HI4 : Aside0 (∀ t', rnD s.data t' = rnD s.data (min a s.data.length, v, size) → rnD s.data t' = rnD s.data (min an s.data.length, s.value - splitP s.size (rd s.p (i : Int)), s.size - splitP s.size (rd s.p (i : Int)))) := ⟨fun t' h => h.trans HI2.out.2.1⟩
      have HBYL : Aside0 (Byt s.data ∧ s.data.length ≤ 1000000) := ⟨HOK.out.data, HOK.out.len⟩
      generalize s.data = data at *
      have c0 : wr.cell? ⟨g, 0, none⟩ = some (.slice (some ⟨bb, 0, none⟩) s.p.length c) := (blk_cell HMt.out.1 0).trans rfl
      have c2 : wr.cell? ⟨g, 2, none⟩ = some (.int .i64 a) := (blk_cell HMt.out.1 2).trans rfl
      have c3 : wr.cell? ⟨g, 3, none⟩ = some (.int .i64 v) := (blk_cell HMt.out.1 3).trans rfl
      have c4 : wr.cell? ⟨g, 4, none⟩ = some (.int .i64 size) := (blk_cell HMt.out.1 4).trans rfl
      have k2 := blk_frozen HMt.out.1 2
      have k3 := blk_frozen HMt.out.1 3
      have k4 := blk_frozen HMt.out.1 4
      obtain ⟨Ad, cd, ed⟩ := Kd.R_slice HMt.out.2.2.1
      by_cases hlt : size < 16777216
      · have HLT := Aside0.mk hlt
        have va : 0 ≤ v := HI3.out.1.v0
        have vb : v < 16777216 := by have h9 := HI3.out.1.v1; have h8 : (min a data.length, v, size).2.1 = v := rfl; have h7 : (min a data.length, v, size).2.2 = size := rfl; rw [h8, h7] at h9; omega
        have sa : 65536 ≤ size := HI3.out.1.size0
        have HQ := Aside0.mk (rnD_step HBYL.out.1 HI3.out.1 hlt)
        have hn0 := nextP_bd HBYL.out.1 a
        rw [nextA_mn, nextP_mn, Int.mul_comm v 256, Int.mul_comm size 256] at HQ
        subst ed
        have c1 : wr.cell? ⟨g, 1, none⟩ = some (.slice Ad data.length cd) := (blk_cell HMt.out.1 1).trans rfl
        have HAB : Aside0 (a ≤ 2000000) := ⟨by have := HAN.out; have := HI3.out.2.2.2; omega⟩
        have HDN : Aside0 (∀ W : World, W.cell? ⟨g, 1, none⟩ = some (.slice Ad data.length cd) → W.cell? ⟨g, 2, none⟩ = some (.int .i64 a) → W.frozen? ⟨g, 2, none⟩ = false → (∀ x ad, a < data.length → Ad = some ad → wr.cell? (ad.add a) = some (.int .u8 x) → W.cell? (ad.add a) = some (.int .u8 x)) → Calls Try.prog 52 #[.pointer (some ⟨g, 0, none⟩)] W fun e w' => e = .returned (.int .i64 (nextP data a)) ∧ ∃ n1 n2, w' = ((W.drewN n1).setCell ⟨g, 2, none⟩ (.int .i64 ((a : Int) + 1))).drewN n2) := ⟨by
          intro W e1 e2 e3 e4
          by_cases ha : a < data.length
          · obtain ⟨bd, cd', ed', hbd0, hbd1, _⟩ := Kd.R_form HMt.out.2.2.1 (by omega)
            injection ed' with ed1 _ ed3
            subst ed1
            subst ed3
            obtain ⟨y0, y1⟩ := Kd.R_cell (0 : Int) HMt.out.2.2.1 (a : Int) (by omega) (by omega)
            rw [Int.toNat_natCast] at y0 y1
            have hx := HBYL.out.1 (rd data (a : Int)) (rd_mem ha)
            have hne : bd ≠ g := fun e => Kd.R_ne HMt.out.2.2.1 HMt.out.1 (by decide) (by rw [e]; rfl)
            have eP : nextP data a = rd data (a : Int) := by unfold nextP; rw [if_pos ha]
            rw [eP]
            exact Rnext.more W g ⟨bd, 0, none⟩ data.length cd a (rd data (a : Int)) e1 e2 e3 ha HBYL.out.2 hne (by rw [add0]) (e4 _ _ ha rfl (by rw [add0]; exact y0)) hx.1 hx.2
          · have eP : nextP data a = 0 := by unfold nextP; rw [if_neg ha]
            rw [eP]
            exact Rnext.done W g Ad data.length cd a e1 e2 e3 ha HAB.out⟩
        generalize nextP data a = nx at *
        have d3 : ∀ m n, (((wr.drewN m).setCell ⟨g, 2, none⟩ (.int .i64 ((a : Int) + 1))).drewN n).cell? ⟨g, 3, none⟩ = some (.int .i64 v) := fun m n => (World.cell?_setCell_other _ _ _ _ (by simp)).trans c3
        obtain ⟨hn1, hn2⟩ := hn0
        go_wp2
        go_region_with (go_at_call 52; (with_reducible refine (HDN.out _ ?qa ?qb ?qc ?qd).mono ?_); (case qa => exact c1); (case qb => exact c2); (case qc => exact k2); (case qd => exact fun x ad _ _ h => h); rintro e w2 ⟨rfl, n1, n2, rfl⟩)
        all_goals go_wp2
        all_goals go_roundg (gk - 1)
        case' measure => have := HI3.out.2.2; omega
        all_goals first | (have := HI3.out.2.2; omega) | skip
        all_goals
          refine ⟨a + 1, 256 * v + nx, 256 * size, ⟨HQ.out.1, HI4.out _ HQ.out.2.1, fun h => absurd h (Int.not_lt.2 HQ.out.2.2), ?_, ?_⟩, ⟨?_⟩⟩
          · have := HI3.out.2.1 HLT.out; omega
          · have := HI3.out.2.2.2; have := HI3.out.2.1 HLT.out; omega
          · exact (((((HMt.out.drewN _).set (t' := (a + 1, v, size)) HX.out.1 HX.out.2.1 2 _ rfl).drewN _).set (t' := (a + 1, 256 * v + nx, size)) HX.out.1 HX.out.2.1 3 _ rfl).set (t' := (a + 1, 256 * v + nx, 256 * size)) HX.out.1 HX.out.2.1 4 _ rfl)
      · obtain ⟨z0, z1⟩ := Kd.R_cell (0 : Int) HMt.out.2.1 (i : Int) (by omega) hil
        rw [Int.toNat_natCast] at z0 z1
        have hx := HOK.out.p.get HI.out
        obtain ⟨ka, hka⟩ := radapt_f (rd s.p (i : Int)) 1 (by omega) (by omega) (by omega)
        have HKA := Aside0.mk hka
        have HNL := Aside0.mk hlt
        have z2 : wr.cell? ⟨bb, i, none⟩ = some (.int .i64 (rd s.p (i : Int))) := z0
        clear c2 c3 k2 k3 k4 ed hka hx z0
        go_wp2
        go_region_with (go_at_call 12; (with_reducible refine (waveletref11_Adapt.calls ka _ _ _ _ HKA.out).mono ?_); rintro e w1 ⟨rfl, ⟨n1, rfl⟩⟩)
        all_goals go_wp2
        all_goals go_ret2
        all_goals
          rw [HDone.out (by unfold rnD; rw [if_neg (show ¬ size < 16777216 by have h8 := HNL.out; omega)])]
          exact ⟨rfl, rdec_done HMt.out HX.out.1 HX.out.2.1 HX.out.2.2 HOK.out.p0 _ i _ (n + 1) (by have h9 := HI3.out.2.2; show a ≤ n + 1; omega)⟩
end Go.Proofs.Ytfbdenlpoidnjaa.P
