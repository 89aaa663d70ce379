/- Decode, walked. -/
import Derived.Test.YtfbdenlpoidnjaaSta
import Derived.Deep.RegionLaw
set_option linter.unusedVariables false
set_option linter.unusedSimpArgs false
namespace Go.Proofs.Ytfbdenlpoidnjaa.P
open Go.RowKit Go.Proofs.YtfbdenlpoidnjaaW.PrintWords Go.Proofs.YtfbdenlpoidnjaaW.PrintLast Go.Proofs.YtfbdenlpoidnjaaW.PrintMore

theorem Decode.idle (b : Nat) (w : World) (S : Nat → Prop) (g : Nat) (s : DecS) (i : Int) (h : DecAt b w S g s) (hp : 0 < s.p.length) (hs : s.started = false) : Calls Try.prog 37 #[.pointer (some ⟨g, 0, none⟩), .int .i64 i] w fun e w' => e = .returned (.tuple #[.int .i64 0, .int .i64 6]) ∧ w' = w := by
  obtain ⟨vp, vo, h1, h2, h3, h4, h5⟩ := h
  obtain ⟨A, c, rfl⟩ := Kd.R_slice h4
  rw [hs] at h1
  have x0 : w.cell? ⟨g, 0, none⟩ = some (.slice A s.p.length c) := (blk_cell h1 0).trans rfl
  have x5 : w.cell? ⟨g, 5, none⟩ = some (.bool false) := (blk_cell h1 5).trans rfl
  have HV := Aside0.mk (Dvalid.at w g s.p.length c _ x0 hp)
  generalize s.p.length = L at *
  clear h1 h2 h3 h4 h5 hs hp
  go_enter Try.func37, Try.ntmps37
  go_wp2_with (first | (go_at_call 50; (with_reducible refine HV.out.mono ?_); rintro e w1 ⟨rfl, rfl⟩))
  go_ret2
  exact ⟨rfl, rfl⟩
theorem Decode.range (b : Nat) (w : World) (S : Nat → Prop) (g : Nat) (s : DecS) (i : Int) (h : DecAt b w S g s) (hp : 0 < s.p.length) (hs : s.started = true) (hr : ¬ (0 ≤ i ∧ i < s.p.length)) : Calls Try.prog 37 #[.pointer (some ⟨g, 0, none⟩), .int .i64 i] w fun e w' => e = .returned (.tuple #[.int .i64 0, .int .i64 2]) ∧ w' = w := by
  obtain ⟨vp, vo, h1, h2, h3, h4, h5⟩ := h
  obtain ⟨A, c, rfl⟩ := Kd.R_slice h4
  rw [hs] at h1
  have x0 : w.cell? ⟨g, 0, none⟩ = some (.slice A s.p.length c) := (blk_cell h1 0).trans rfl
  have x5 : w.cell? ⟨g, 5, none⟩ = some (.bool true) := (blk_cell h1 5).trans rfl
  have HV := Aside0.mk (Dvalid.at w g s.p.length c _ x0 hp)
  have HH := Aside0.mk (has.no w g s.p.length c _ x0 i hr)
  generalize s.p.length = L at *
  clear h1 h2 h3 h4 h5 hs hp hr
  go_enter Try.func37, Try.ntmps37
  go_wp2_with (first | (go_at_call 50; (with_reducible refine HV.out.mono ?_); rintro e w1 ⟨rfl, rfl⟩) | (go_at_call 47; (with_reducible refine HH.out.mono ?_); rintro e w2 ⟨rfl, rfl⟩))
  go_ret2
  exact ⟨rfl, rfl⟩
/-- The decoder between the split and the end of Decode. -/
def DMidAt (w0 w : World) (S : Nat → Prop) (g : Nat) (vp vo : Value) (p data : List Int) (t : Nat × Int × Int) (w' : World) : Prop :=
  w'.heap[g]? = some (.cells #[vp, vo, .int .i64 (t.1 : Int), .int .i64 t.2.1, .int .i64 t.2.2, .bool true] 66) ∧ Kd.R (Kd.int .i64) 3 w' w0.heap.size (fun k => S k ∨ w.heap.size ≤ k) vp p ∧ Kd.R (Kd.int .u8) 5 w' w0.heap.size (fun k => S k ∨ w.heap.size ≤ k) vo data ∧ Below w0.heap.size w0 w' ∧ Kept w w' S
theorem DMidAt.drewN {w0 w : World} {S : Nat → Prop} {g : Nat} {vp vo : Value} {p data : List Int} {t : Nat × Int × Int} {w' : World} (h : DMidAt w0 w S g vp vo p data t w') (n : Nat) : DMidAt w0 w S g vp vo p data t (w'.drewN n) :=
  ⟨blk_drewN h.1 n, Kd.R_drewN h.2.1 n, Kd.R_drewN h.2.2.1 n, pw_below_drewN h.2.2.2.1 n, Kept.drewN h.2.2.2.2 n⟩
theorem DMidAt.set {w0 w : World} {S : Nat → Prop} {g : Nat} {vp vo : Value} {p data : List Int} {t t' : Nat × Int × Int} {w' : World} (h : DMidAt w0 w S g vp vo p data t w') (hS : S g) (hg : w0.heap.size ≤ g) (o : Nat) (v : Value) (hc : (#[vp, vo, .int .i64 (t.1 : Int), .int .i64 t.2.1, .int .i64 t.2.2, .bool true] : Array Value).set! o v = #[vp, vo, .int .i64 (t'.1 : Int), .int .i64 t'.2.1, .int .i64 t'.2.2, .bool true]) : DMidAt w0 w S g vp vo p data t' (w'.setCell ⟨g, o, none⟩ v) :=
  ⟨blk_put h.1 o v hc, Kd.R_set h.2.1 h.1 (by decide) o _, Kd.R_set h.2.2.1 h.1 (by decide) o _, below_set h.2.2.2.1 hg, Kept.setCell h.2.2.2.2 (.inl hS) _⟩
/-- The end of Decode. -/
theorem dec_done {w0 w : World} {S : Nat → Prop} {g bb c : Nat} {vo : Value} {p data : List Int} {t : Nat × Int × Int} {wr : World} (h : DMidAt w0 w S g (.slice (some ⟨bb, 0, none⟩) p.length c) vo p data t wr) (hS : S g) (hge : w0.heap.size ≤ g) (hbb : w0.heap.size ≤ bb) (hp : 0 < p.length) (nd i : Nat) (y : Int) :
    DecAt w0.heap.size ((wr.drewN nd).setCell ⟨bb, i, none⟩ (.int .i64 y)) (fun k => S k ∨ w.heap.size ≤ k) g ⟨p.set i y, data, (t.1 : Int), t.2.1, t.2.2, true⟩ ∧ Below w0.heap.size w0 ((wr.drewN nd).setCell ⟨bb, i, none⟩ (.int .i64 y)) ∧ Kept w ((wr.drewN nd).setCell ⟨bb, i, none⟩ (.int .i64 y)) S := by
  obtain ⟨m1, m2, m3, m4, m5⟩ := h.drewN nd
  have hne : g ≠ bb := fun e => Kd.R_ne m2 m1 (by decide) (by rw [e]; rfl)
  obtain ⟨gg, cc, ee, _, _, cells, hcells⟩ := Kd.R_form m2 hp
  injection ee with ea
  injection ea with ea
  injection ea with ea
  subst ea
  have p2 := (Kd.R_put m2 (i : Int) y).1
  rw [Int.toNat_natCast] at p2
  refine ⟨⟨_, vo, blk_far m1 hne _, .inl hS, hge, ?_, Kd.R_set m3 hcells (by decide) i _⟩, below_set m4 hbb, Kept.setCell m5 (m2.1 bb rfl) _⟩
  exact p2
set_option maxHeartbeats 8000000 in
set_option maxRecDepth 100000 in
/-- A bit is decoded. -/
theorem Decode.good (w0 w : World) (S : Nat → Prop) (g : Nat) (s : DecS) (i : Nat) (hB : Below w0.heap.size w0 w) (h : DecAt w0.heap.size w S g s) (hok : DecOk s) (hi : i < s.p.length) : Calls Try.prog 37 #[.pointer (some ⟨g, 0, none⟩), .int .i64 i] w fun e w' => e = .returned (.tuple #[.int .i64 (decE s i).1, .int .i64 0]) ∧ DecAt w0.heap.size w' (fun k => S k ∨ w.heap.size ≤ k) g (decE s i).2 ∧ Below w0.heap.size w0 w' ∧ Kept w w' S := by
  obtain ⟨vp, vo, h1, h2, h3, h4, h5⟩ := h
  obtain ⟨an, han⟩ : ∃ a : Nat, s.at_ = (a : Int) := ⟨s.at_.toNat, by have := hok.at0; omega⟩
  have hst := hok.started
  have hal : an ≤ s.data.length := by have := hok.at1; omega
  obtain ⟨bb, c, rfl, hb0, hb1, _⟩ := Kd.R_form h4 hok.p0
  have x0 : w.cell? ⟨g, 0, none⟩ = some (.slice (some ⟨bb, 0, none⟩) s.p.length c) := (blk_cell h1 0).trans rfl
  have x3 : w.cell? ⟨g, 3, none⟩ = some (.int .i64 s.value) := (blk_cell h1 3).trans rfl
  have x4 : w.cell? ⟨g, 4, none⟩ = some (.int .i64 s.size) := (blk_cell h1 4).trans rfl
  have x5 : w.cell? ⟨g, 5, none⟩ = some (.bool true) := by rw [← hst]; exact (blk_cell h1 5).trans rfl
  have f3 := blk_frozen h1 3
  have f4 := blk_frozen h1 4
  have hil : (i : Int) < (s.p.length : Int) := by omega
  obtain ⟨y0, y1⟩ := Kd.R_cell (0 : Int) h4 (i : Int) (by omega) hil
  rw [Int.toNat_natCast] at y0 y1
  have e1 : rdOf (0 : Int) s.p (i : Int) = rd s.p (i : Int) := rfl
  rw [e1] at y0
  have hx := hok.p.get hi
  have HV := Aside0.mk (Dvalid.at w g s.p.length c _ x0 hok.p0)
  have HH := Aside0.mk (has.yes w g s.p.length c _ x0 (i : Int) (by omega) hil)
  have HSP := Aside0.mk (fun W (h0 : W.cell? ⟨g, 0, none⟩ = some (.slice (some ⟨bb, 0, none⟩) s.p.length c)) (hy : W.cell? ⟨bb, i, none⟩ = some (.int .i64 (rd s.p (i : Int)))) => split.calls W g s.p.length c bb h0 i (rd s.p (i : Int)) s.size hi hy (by have := hok.size0; omega) (by have := hok.size1; omega) (by omega) (by omega))
  have HM0 : Aside0 (DMidAt w0 w S g (.slice (some ⟨bb, 0, none⟩) s.p.length c) vo s.p s.data (an, s.value, s.size) w) := ⟨by rw [← han, ← hst]; exact h1, Kd.R_mono (ok' := fun k => S k ∨ w.heap.size ≤ k) h4 (fun _ hk => .inl hk), Kd.R_mono (ok' := fun k => S k ∨ w.heap.size ≤ k) h5 (fun _ hk => .inl hk), hB, Kept.refl _ _⟩
  have HX := Aside0.mk (And.intro h2 (And.intro h3 hb0))
  have HOK := Aside0.mk hok
  have HI := Aside0.mk hi
  have hsp : s.size / 4096 * rd s.p (i : Int) = splitP s.size (rd s.p (i : Int)) := rfl
  have HDE : Aside0 (∀ m t, midD s.value s.size (rd s.p (i : Int)) = m → rnD s.data (an, m.2.1, m.2.2) = t → decE s i = (m.1, ⟨s.p.set i (adaptP (rd s.p (i : Int)) m.1), s.data, (t.1 : Int), t.2.1, t.2.2, true⟩)) := ⟨by rintro m t rfl rfl; unfold decE; rw [han, Int.toNat_natCast]⟩
  have hv0 := hok.v0
  have hv1 := hok.v1
  have hz1 := hok.size1
  have hbd := splitP_bd hok.size0 hok.size1 hx
  have HMK := Aside0.mk (midD_ok (x := rd s.p (i : Int)) hal hok.v0 hok.v1 hok.size0 hok.size1 hx)
  clear h1 h2 h3 h4 h5 hok hi hB hx e1 han hst
  by_cases hc : s.value < splitP s.size (rd s.p (i : Int))
  · have HMD : Aside0 (midD s.value s.size (rd s.p (i : Int)) = (0, s.value, splitP s.size (rd s.p (i : Int)))) := ⟨by unfold midD; rw [if_pos hc]⟩
    rw [HMD.out] at HMK
    have hw1 : wrap64 (s.value - splitP s.size (rd s.p (i : Int))) = s.value - splitP s.size (rd s.p (i : Int)) := wrap64_id (by omega) (by omega)
    have hw2 : wrap64 (s.size - splitP s.size (rd s.p (i : Int))) = s.size - splitP s.size (rd s.p (i : Int)) := wrap64_id (by omega) (by omega)
    go_enter Try.func37, Try.ntmps37
    go_wp2_with (first | (go_at_call 50; (with_reducible refine HV.out.mono ?_); rintro e w1 ⟨rfl, hw⟩; replace hw := hw.symm; subst hw) | (go_at_call 47; (with_reducible refine HH.out.mono ?_); rintro e w2 ⟨rfl, hw⟩; replace hw := hw.symm; subst hw))
    go_region_held3 (fun W => W.cell? ⟨g, 4, none⟩ = some (.int .i64 s.size)) (first | go_keep | assumption)
      ((go_at_call 48; (with_reducible refine (HSP.out _ ?qa ?qb).mono ?_); (case qa => exact x0); (case qb => exact y0); rintro e w3 ⟨rfl, hw⟩; replace hw := hw.symm; subst hw))
    go_wp2
    have HMS : Aside0 (∀ W n, DMidAt w0 w S g (.slice (some ⟨bb, 0, none⟩) s.p.length c) vo s.p s.data (an, s.value, s.size) W → DMidAt w0 w S g (.slice (some ⟨bb, 0, none⟩) s.p.length c) vo s.p s.data (an, s.value, splitP s.size (rd s.p (i : Int))) ((W.drewN n).setCell ⟨g, 4, none⟩ (.int .i64 (splitP s.size (rd s.p (i : Int)))))) := ⟨fun W n h => ((h.drewN n).set HX.out.1 HX.out.2.1 4 _ rfl)⟩
    have HRN : Aside0 (∀ t, rnD s.data (an, s.value, splitP s.size (rd s.p (i : Int))) = t → decE s i = (0, ⟨s.p.set i (adaptP (rd s.p (i : Int)) 0), s.data, (t.1 : Int), t.2.1, t.2.2, true⟩)) := ⟨fun t ht => HDE.out _ t HMD.out ht⟩
    clear x0 x3 x4 x5 f3 f4 y0 y1 hsp hw1 hw2 hc hbd hv0 hv1 hz1 hal
    go_loopg [] 2 (fun kq w' => ∃ (a : Nat) (v size : Int), Aside0 (DMid s.data (a, v, size) ∧ rnD s.data (a, v, size) = rnD s.data (an, s.value, splitP s.size (rd s.p (i : Int))) ∧ (size < 16777216 → 2 ≤ kq) ∧ 1 ≤ kq) ∧ Aside0 (DMidAt w0 w S g (.slice (some ⟨bb, 0, none⟩) s.p.length c) vo s.p s.data (a, v, size) w'))
    case atStart => exact ⟨an, s.value, splitP s.size (rd s.p (i : Int)), ⟨HMK.out, rfl, fun _ => by omega, by omega⟩, ⟨HMS.out _ 1 HM0.out⟩⟩
    case round =>
      obtain ⟨a, v, size, HI2, HMt⟩ := hrel
      have HDone : Aside0 (rnD s.data (a, v, size) = (a, v, size) → decE s i = (0, ⟨s.p.set i (adaptP (rd s.p (i : Int)) 0), s.data, (a : Int), v, size, true⟩)) := ⟨fun h => HRN.out _ (HI2.out.2.1.symm.trans h)⟩
      have HI3 := Aside0.mk (And.intro HI2.out.1 (And.intro HI2.out.2.2.1 HI2.out.2.2.2))
      have HI4 : Aside0 (∀ t', rnD s.data t' = rnD s.data (a, v, size) → rnD s.data t' = rnD s.data (an, s.value, splitP s.size (rd s.p (i : Int)))) := ⟨fun t' h => h.trans HI2.out.2.1⟩
      have HBYL : Aside0 (Byt s.data ∧ s.data.length ≤ 1000000) := ⟨HOK.out.data, HOK.out.len⟩
      generalize s.data = data at *
      have c0 : wr.cell? ⟨g, 0, none⟩ = some (.slice (some ⟨bb, 0, none⟩) s.p.length c) := (blk_cell HMt.out.1 0).trans rfl
      have c2 : wr.cell? ⟨g, 2, none⟩ = some (.int .i64 a) := (blk_cell HMt.out.1 2).trans rfl
      have c3 : wr.cell? ⟨g, 3, none⟩ = some (.int .i64 v) := (blk_cell HMt.out.1 3).trans rfl
      have c4 : wr.cell? ⟨g, 4, none⟩ = some (.int .i64 size) := (blk_cell HMt.out.1 4).trans rfl
      have k2 := blk_frozen HMt.out.1 2
      have k3 := blk_frozen HMt.out.1 3
      have k4 := blk_frozen HMt.out.1 4
      obtain ⟨Ad, cd, ed⟩ := Kd.R_slice HMt.out.2.2.1
      by_cases hlt : size < 16777216
      · have HLT := Aside0.mk hlt
        have HBY : Aside0 (Byt data ∧ data.length ≤ 1000000) := HBYL
        have va := HI3.out.1.v0
        have vb : v < 16777216 := by have h9 := HI3.out.1.v1; have h8 : (a, v, size).2.1 = v := rfl; have h7 : (a, v, size).2.2 = size := rfl; rw [h8, h7] at h9; omega
        have va : 0 ≤ v := HI3.out.1.v0
        have sa : 65536 ≤ size := HI3.out.1.size0
        have HQ := Aside0.mk (rnD_step HBY.out.1 HI3.out.1 hlt)
        by_cases ha : a < data.length
        · obtain ⟨bd, cd, ed2, hbd0, hbd1, _⟩ := Kd.R_form HMt.out.2.2.1 (by omega)
          subst ed2
          have c1 : wr.cell? ⟨g, 1, none⟩ = some (.slice (some ⟨bd, 0, none⟩) data.length cd) := (blk_cell HMt.out.1 1).trans rfl
          obtain ⟨z0, z1⟩ := Kd.R_cell (0 : Int) HMt.out.2.2.1 (a : Int) (by omega) (by omega)
          rw [Int.toNat_natCast] at z0 z1
          have hx := HBY.out.1 (rd data (a : Int)) (rd_mem ha)
          have hne : bd ≠ g := fun e => Kd.R_ne HMt.out.2.2.1 HMt.out.1 (by decide) (by rw [e]; rfl)
          have HDN := Aside0.mk (fun W (e1 : W.cell? ⟨g, 1, none⟩ = some (.slice (some ⟨bd, 0, none⟩) data.length cd)) (e2 : W.cell? ⟨g, 2, none⟩ = some (.int .i64 a)) (e3 : W.frozen? ⟨g, 2, none⟩ = false) (e4 : W.cell? ⟨bd, a, none⟩ = some (.int .u8 (rd data (a : Int)))) => Dnext.more W g ⟨bd, 0, none⟩ data.length cd a (rd data (a : Int)) e1 e2 e3 ha HBY.out.2 hne (by rw [add0]) (by rw [add0]; exact e4) hx.1 hx.2)
          have d3 : ∀ m n, (((wr.drewN m).setCell ⟨g, 2, none⟩ (.int .i64 ((a : Int) + 1))).drewN n).cell? ⟨g, 3, none⟩ = some (.int .i64 v) := fun m n => (World.cell?_setCell_other _ _ _ _ (by simp)).trans c3
          have eN : nextA data a = a + 1 := by unfold nextA; rw [if_pos ha]
          have eP : nextP data a = rd data (a : Int) := by unfold nextP; rw [if_pos ha]
          rw [eN, eP] at HQ
          clear eN eP ha ed
          go_wp2
          go_region_with (go_at_call 51; (with_reducible refine (HDN.out _ ?qa ?qb ?qc ?qd).mono ?_); (case qa => exact c1); (case qb => exact c2); (case qc => exact k2); (case qd => exact z0); rintro e w2 ⟨rfl, n1, n2, rfl⟩)
          all_goals go_wp2
          all_goals go_roundg (gk - 1)
          case' measure => have := HI3.out.2.2; omega
          all_goals first | (have := HI3.out.2.2; omega) | skip
          all_goals
            refine ⟨a + 1, v * 256 + rd data (a : Int), size * 256, ⟨HQ.out.1, HI4.out _ HQ.out.2.1, fun h => absurd h (Int.not_lt.2 HQ.out.2.2), ?_⟩, ⟨?_⟩⟩
            · have := HI3.out.2.1 HLT.out; omega
            · exact (((((HMt.out.drewN _).set (t' := (a + 1, v, size)) HX.out.1 HX.out.2.1 2 _ rfl).drewN _).set (t' := (a + 1, v * 256 + rd data (a : Int), size)) HX.out.1 HX.out.2.1 3 _ rfl).set (t' := (a + 1, v * 256 + rd data (a : Int), size * 256)) HX.out.1 HX.out.2.1 4 _ rfl)
        · subst ed
          have c1 : wr.cell? ⟨g, 1, none⟩ = some (.slice Ad data.length cd) := (blk_cell HMt.out.1 1).trans rfl
          have HDN := Aside0.mk (fun W (e1 : W.cell? ⟨g, 1, none⟩ = some (.slice Ad data.length cd)) (e2 : W.cell? ⟨g, 2, none⟩ = some (.int .i64 a)) => Dnext.done W g Ad data.length cd a e1 e2 ha)
          have eN : nextA data a = a := by unfold nextA; rw [if_neg ha]
          have eP : nextP data a = 0 := by unfold nextP; rw [if_neg ha]
          rw [eN, eP, Int.add_zero] at HQ
          clear eN eP ha
          go_wp2
          go_region_with (go_at_call 51; (with_reducible refine (HDN.out _ ?qa ?qb).mono ?_); (case qa => exact c1); (case qb => exact c2); rintro e w2 ⟨rfl, n1, rfl⟩)
          all_goals go_wp2
          all_goals go_roundg (gk - 1)
          case' measure => have := HI3.out.2.2; omega
          all_goals first | (have := HI3.out.2.2; omega) | skip
          all_goals
            refine ⟨a, v * 256, size * 256, ⟨HQ.out.1, HI4.out _ HQ.out.2.1, fun h => absurd h (Int.not_lt.2 HQ.out.2.2), ?_⟩, ⟨?_⟩⟩
            · have := HI3.out.2.1 HLT.out; omega
            · exact (((HMt.out.drewN _).set (t' := (a, v * 256, size)) HX.out.1 HX.out.2.1 3 _ rfl).set (t' := (a, v * 256, size * 256)) HX.out.1 HX.out.2.1 4 _ rfl)
      · obtain ⟨z0, z1⟩ := Kd.R_cell (0 : Int) HMt.out.2.1 (i : Int) (by omega) hil
        rw [Int.toNat_natCast] at z0 z1
        have hgb : g ≠ bb := fun e => Kd.R_ne HMt.out.2.1 HMt.out.1 (by decide) (by rw [e]; rfl)
        have HAD := Aside0.mk (adapt.calls wr g s.p.length c bb c0 i (rd s.p (i : Int)) 0 HI.out z0 z1 (by have h9 := HOK.out.p.get HI.out; omega) (by have h9 := HOK.out.p.get HI.out; omega) (by omega) hgb)
        have HNL := Aside0.mk hlt
        clear z0 z1 c0 c2 c3 k2 k3 k4 ed
        go_wp2_with (go_at_call 49; (with_reducible refine HAD.out.mono ?_); rintro e w9 ⟨rfl, ⟨nd, rfl⟩⟩)
        go_ret2
        rw [HDone.out (by unfold rnD; rw [if_neg (show ¬ size < 16777216 by have h8 := HNL.out; omega)])]
        exact ⟨rfl, dec_done HMt.out HX.out.1 HX.out.2.1 HX.out.2.2 HOK.out.p0 nd i _⟩
  · have HMD : Aside0 (midD s.value s.size (rd s.p (i : Int)) = (1, s.value - splitP s.size (rd s.p (i : Int)), s.size - splitP s.size (rd s.p (i : Int)))) := ⟨by unfold midD; rw [if_neg hc]⟩
    rw [HMD.out] at HMK
    have hw1 : wrap64 (s.value - splitP s.size (rd s.p (i : Int))) = s.value - splitP s.size (rd s.p (i : Int)) := wrap64_id (by omega) (by omega)
    have hw2 : wrap64 (s.size - splitP s.size (rd s.p (i : Int))) = s.size - splitP s.size (rd s.p (i : Int)) := wrap64_id (by omega) (by omega)
    go_enter Try.func37, Try.ntmps37
    go_wp2_with (first | (go_at_call 50; (with_reducible refine HV.out.mono ?_); rintro e w1 ⟨rfl, hw⟩; replace hw := hw.symm; subst hw) | (go_at_call 47; (with_reducible refine HH.out.mono ?_); rintro e w2 ⟨rfl, hw⟩; replace hw := hw.symm; subst hw))
    go_region_held3 (fun W => W.cell? ⟨g, 4, none⟩ = some (.int .i64 s.size)) (first | go_keep | assumption)
      ((go_at_call 48; (with_reducible refine (HSP.out _ ?qa ?qb).mono ?_); (case qa => exact x0); (case qb => exact y0); rintro e w3 ⟨rfl, hw⟩; replace hw := hw.symm; subst hw))
    go_wp2
    have HMS : Aside0 (∀ W n, DMidAt w0 w S g (.slice (some ⟨bb, 0, none⟩) s.p.length c) vo s.p s.data (an, s.value, s.size) W → DMidAt w0 w S g (.slice (some ⟨bb, 0, none⟩) s.p.length c) vo s.p s.data (an, s.value - splitP s.size (rd s.p (i : Int)), s.size - splitP s.size (rd s.p (i : Int))) (((W.drewN n).setCell ⟨g, 3, none⟩ (.int .i64 (s.value - splitP s.size (rd s.p (i : Int))))).setCell ⟨g, 4, none⟩ (.int .i64 (s.size - splitP s.size (rd s.p (i : Int)))))) := ⟨fun W n h => (((h.drewN n).set (t' := (an, s.value - splitP s.size (rd s.p (i : Int)), s.size)) HX.out.1 HX.out.2.1 3 _ rfl).set HX.out.1 HX.out.2.1 4 _ rfl)⟩
    have HRN : Aside0 (∀ t, rnD s.data (an, s.value - splitP s.size (rd s.p (i : Int)), s.size - splitP s.size (rd s.p (i : Int))) = t → decE s i = (1, ⟨s.p.set i (adaptP (rd s.p (i : Int)) 1), s.data, (t.1 : Int), t.2.1, t.2.2, true⟩)) := ⟨fun t ht => HDE.out _ t HMD.out ht⟩
    clear x0 x3 x4 x5 f3 f4 y0 y1 hsp hw1 hw2 hc hbd hv0 hv1 hz1 hal
    go_loopg [] 2 (fun kq w' => ∃ (a : Nat) (v size : Int), Aside0 (DMid s.data (a, v, size) ∧ rnD s.data (a, v, size) = rnD s.data (an, s.value - splitP s.size (rd s.p (i : Int)), s.size - splitP s.size (rd s.p (i : Int))) ∧ (size < 16777216 → 2 ≤ kq) ∧ 1 ≤ kq) ∧ Aside0 (DMidAt w0 w S g (.slice (some ⟨bb, 0, none⟩) s.p.length c) vo s.p s.data (a, v, size) w'))
    case atStart => exact ⟨an, s.value - splitP s.size (rd s.p (i : Int)), s.size - splitP s.size (rd s.p (i : Int)), ⟨HMK.out, rfl, fun _ => by omega, by omega⟩, ⟨HMS.out _ 1 HM0.out⟩⟩
    case round =>
      obtain ⟨a, v, size, HI2, HMt⟩ := hrel
      have HDone : Aside0 (rnD s.data (a, v, size) = (a, v, size) → decE s i = (1, ⟨s.p.set i (adaptP (rd s.p (i : Int)) 1), s.data, (a : Int), v, size, true⟩)) := ⟨fun h => HRN.out _ (HI2.out.2.1.symm.trans h)⟩
      have HI3 := Aside0.mk (And.intro HI2.out.1 (And.intro HI2.out.2.2.1 HI2.out.2.2.2))
      have HI4 : Aside0 (∀ t', rnD s.data t' = rnD s.data (a, v, size) → rnD s.data t' = rnD s.data (an, s.value - splitP s.size (rd s.p (i : Int)), s.size - splitP s.size (rd s.p (i : Int)))) := ⟨fun t' h => h.trans HI2.out.2.1⟩
      have HBYL : Aside0 (Byt s.data ∧ s.data.length ≤ 1000000) := ⟨HOK.out.data, HOK.out.len⟩
      generalize s.data = data at *
      have c0 : wr.cell? ⟨g, 0, none⟩ = some (.slice (some ⟨bb, 0, none⟩) s.p.length c) := (blk_cell HMt.out.1 0).trans rfl
      have c2 : wr.cell? ⟨g, 2, none⟩ = some (.int .i64 a) := (blk_cell HMt.out.1 2).trans rfl
      have c3 : wr.cell? ⟨g, 3, none⟩ = some (.int .i64 v) := (blk_cell HMt.out.1 3).trans rfl
      have c4 : wr.cell? ⟨g, 4, none⟩ = some (.int .i64 size) := (blk_cell HMt.out.1 4).trans rfl
      have k2 := blk_frozen HMt.out.1 2
      have k3 := blk_frozen HMt.out.1 3
      have k4 := blk_frozen HMt.out.1 4
      obtain ⟨Ad, cd, ed⟩ := Kd.R_slice HMt.out.2.2.1
      by_cases hlt : size < 16777216
      · have HLT := Aside0.mk hlt
        have HBY : Aside0 (Byt data ∧ data.length ≤ 1000000) := HBYL
        have va := HI3.out.1.v0
        have vb : v < 16777216 := by have h9 := HI3.out.1.v1; have h8 : (a, v, size).2.1 = v := rfl; have h7 : (a, v, size).2.2 = size := rfl; rw [h8, h7] at h9; omega
        have va : 0 ≤ v := HI3.out.1.v0
        have sa : 65536 ≤ size := HI3.out.1.size0
        have HQ := Aside0.mk (rnD_step HBY.out.1 HI3.out.1 hlt)
        by_cases ha : a < data.length
        · obtain ⟨bd, cd, ed2, hbd0, hbd1, _⟩ := Kd.R_form HMt.out.2.2.1 (by omega)
          subst ed2
          have c1 : wr.cell? ⟨g, 1, none⟩ = some (.slice (some ⟨bd, 0, none⟩) data.length cd) := (blk_cell HMt.out.1 1).trans rfl
          obtain ⟨z0, z1⟩ := Kd.R_cell (0 : Int) HMt.out.2.2.1 (a : Int) (by omega) (by omega)
          rw [Int.toNat_natCast] at z0 z1
          have hx := HBY.out.1 (rd data (a : Int)) (rd_mem ha)
          have hne : bd ≠ g := fun e => Kd.R_ne HMt.out.2.2.1 HMt.out.1 (by decide) (by rw [e]; rfl)
          have HDN := Aside0.mk (fun W (e1 : W.cell? ⟨g, 1, none⟩ = some (.slice (some ⟨bd, 0, none⟩) data.length cd)) (e2 : W.cell? ⟨g, 2, none⟩ = some (.int .i64 a)) (e3 : W.frozen? ⟨g, 2, none⟩ = false) (e4 : W.cell? ⟨bd, a, none⟩ = some (.int .u8 (rd data (a : Int)))) => Dnext.more W g ⟨bd, 0, none⟩ data.length cd a (rd data (a : Int)) e1 e2 e3 ha HBY.out.2 hne (by rw [add0]) (by rw [add0]; exact e4) hx.1 hx.2)
          have d3 : ∀ m n, (((wr.drewN m).setCell ⟨g, 2, none⟩ (.int .i64 ((a : Int) + 1))).drewN n).cell? ⟨g, 3, none⟩ = some (.int .i64 v) := fun m n => (World.cell?_setCell_other _ _ _ _ (by simp)).trans c3
          have eN : nextA data a = a + 1 := by unfold nextA; rw [if_pos ha]
          have eP : nextP data a = rd data (a : Int) := by unfold nextP; rw [if_pos ha]
          rw [eN, eP] at HQ
          clear eN eP ha ed
          go_wp2
          go_region_with (go_at_call 51; (with_reducible refine (HDN.out _ ?qa ?qb ?qc ?qd).mono ?_); (case qa => exact c1); (case qb => exact c2); (case qc => exact k2); (case qd => exact z0); rintro e w2 ⟨rfl, n1, n2, rfl⟩)
          all_goals go_wp2
          all_goals go_roundg (gk - 1)
          case' measure => have := HI3.out.2.2; omega
          all_goals first | (have := HI3.out.2.2; omega) | skip
          all_goals
            refine ⟨a + 1, v * 256 + rd data (a : Int), size * 256, ⟨HQ.out.1, HI4.out _ HQ.out.2.1, fun h => absurd h (Int.not_lt.2 HQ.out.2.2), ?_⟩, ⟨?_⟩⟩
            · have := HI3.out.2.1 HLT.out; omega
            · exact (((((HMt.out.drewN _).set (t' := (a + 1, v, size)) HX.out.1 HX.out.2.1 2 _ rfl).drewN _).set (t' := (a + 1, v * 256 + rd data (a : Int), size)) HX.out.1 HX.out.2.1 3 _ rfl).set (t' := (a + 1, v * 256 + rd data (a : Int), size * 256)) HX.out.1 HX.out.2.1 4 _ rfl)
        · subst ed
          have c1 : wr.cell? ⟨g, 1, none⟩ = some (.slice Ad data.length cd) := (blk_cell HMt.out.1 1).trans rfl
          have HDN := Aside0.mk (fun W (e1 : W.cell? ⟨g, 1, none⟩ = some (.slice Ad data.length cd)) (e2 : W.cell? ⟨g, 2, none⟩ = some (.int .i64 a)) => Dnext.done W g Ad data.length cd a e1 e2 ha)
          have eN : nextA data a = a := by unfold nextA; rw [if_neg ha]
          have eP : nextP data a = 0 := by unfold nextP; rw [if_neg ha]
          rw [eN, eP, Int.add_zero] at HQ
          clear eN eP ha
          go_wp2
          go_region_with (go_at_call 51; (with_reducible refine (HDN.out _ ?qa ?qb).mono ?_); (case qa => exact c1); (case qb => exact c2); rintro e w2 ⟨rfl, n1, rfl⟩)
          all_goals go_wp2
          all_goals go_roundg (gk - 1)
          case' measure => have := HI3.out.2.2; omega
          all_goals first | (have := HI3.out.2.2; omega) | skip
          all_goals
            refine ⟨a, v * 256, size * 256, ⟨HQ.out.1, HI4.out _ HQ.out.2.1, fun h => absurd h (Int.not_lt.2 HQ.out.2.2), ?_⟩, ⟨?_⟩⟩
            · have := HI3.out.2.1 HLT.out; omega
            · exact (((HMt.out.drewN _).set (t' := (a, v * 256, size)) HX.out.1 HX.out.2.1 3 _ rfl).set (t' := (a, v * 256, size * 256)) HX.out.1 HX.out.2.1 4 _ rfl)
      · obtain ⟨z0, z1⟩ := Kd.R_cell (0 : Int) HMt.out.2.1 (i : Int) (by omega) hil
        rw [Int.toNat_natCast] at z0 z1
        have hgb : g ≠ bb := fun e => Kd.R_ne HMt.out.2.1 HMt.out.1 (by decide) (by rw [e]; rfl)
        have HAD := Aside0.mk (adapt.calls wr g s.p.length c bb c0 i (rd s.p (i : Int)) 1 HI.out z0 z1 (by have h9 := HOK.out.p.get HI.out; omega) (by have h9 := HOK.out.p.get HI.out; omega) (by omega) hgb)
        have HNL := Aside0.mk hlt
        clear z0 z1 c0 c2 c3 k2 k3 k4 ed
        go_wp2_with (go_at_call 49; (with_reducible refine HAD.out.mono ?_); rintro e w9 ⟨rfl, ⟨nd, rfl⟩⟩)
        go_ret2
        rw [HDone.out (by unfold rnD; rw [if_neg (show ¬ size < 16777216 by have h8 := HNL.out; omega)])]
        exact ⟨rfl, dec_done HMt.out HX.out.1 HX.out.2.1 HX.out.2.2 HOK.out.p0 nd i _⟩
end Go.Proofs.Ytfbdenlpoidnjaa.P
