/- The reference's Start, walked. -/
import Derived.Test.YtfbdenlpoidnjaaRdt
set_option linter.unusedVariables false
set_option linter.unusedSimpArgs false
namespace Go.Proofs.Ytfbdenlpoidnjaa.P
open Go.RowKit Go.Proofs.YtfbdenlpoidnjaaW.PrintWords Go.Proofs.YtfbdenlpoidnjaaW.PrintLast Go.Proofs.YtfbdenlpoidnjaaW.PrintMore

theorem nextP_mn (b : List Int) (m : Nat) : nextP b (min m b.length) = nextP b m := by
  by_cases h : m ≤ b.length
  · rw [Nat.min_eq_left h]
  · rw [Nat.min_eq_right (by omega)]
    unfold nextP
    rw [if_neg (by omega), if_neg (by omega)]
theorem nextA_mn (b : List Int) (m : Nat) : nextA b (min m b.length) = min (m + 1) b.length := by
  unfold nextA
  split <;> omega
theorem rstart_end {w0 w wr : World} {S : Nat → Prop} {g : Nat} {vp vo : Value} {p data : List Int} {a v size : Int} {st : Bool} (h1 : wr.heap[g]? = some (.cells #[vp, vo, .int .i64 a, .int .i64 v, .int .i64 size, .bool st] 83)) (h4 : Kd.R (Kd.int .i64) 3 wr w0.heap.size (fun k => S k ∨ w.heap.size ≤ k) vp p) (h5 : Kd.R (Kd.int .u8) 5 wr w0.heap.size (fun k => S k ∨ w.heap.size ≤ k) vo data) (hB : Below w0.heap.size w0 wr) (hK : Kept w wr S) (hS : S g) (hg : w0.heap.size ≤ g) (v' size' : Int) (st' : Bool) (ra n : Nat) (ha : a = ra) (hn : ra ≤ n) (at_ : Int) (hat : at_ = ((min ra data.length : Nat) : Int)) :
    RDecAt w0.heap.size (((wr.setCell ⟨g, 3, none⟩ (.int .i64 v')).setCell ⟨g, 4, none⟩ (.int .i64 size')).setCell ⟨g, 5, none⟩ (.bool st')) (fun k => S k ∨ w.heap.size ≤ k) g ⟨p, data, at_, v', size', st'⟩ n ∧ Below w0.heap.size w0 (((wr.setCell ⟨g, 3, none⟩ (.int .i64 v')).setCell ⟨g, 4, none⟩ (.int .i64 size')).setCell ⟨g, 5, none⟩ (.bool st')) ∧ Kept w (((wr.setCell ⟨g, 3, none⟩ (.int .i64 v')).setCell ⟨g, 4, none⟩ (.int .i64 size')).setCell ⟨g, 5, none⟩ (.bool st')) S := by
  subst ha
  have b1 := blk_put h1 3 (.int .i64 v') rfl
  have b2 := blk_put b1 4 (.int .i64 size') rfl
  have b3 := blk_put b2 5 (.bool st') rfl
  exact ⟨⟨vp, vo, ra, b3, .inl hS, hg, Kd.R_set (Kd.R_set (Kd.R_set h4 h1 (by decide) 3 _) b1 (by decide) 4 _) b2 (by decide) 5 _, Kd.R_set (Kd.R_set (Kd.R_set h5 h1 (by decide) 3 _) b1 (by decide) 4 _) b2 (by decide) 5 _, hat, hn⟩, below_set (below_set (below_set hB hg) hg) hg, Kept.setCell (Kept.setCell (Kept.setCell hK (.inl hS) _) (.inl hS) _) (.inl hS) _⟩
attribute [local go_sem] min2_int min_two
set_option maxHeartbeats 8000000 in
set_option maxRecDepth 100000 in
theorem RStart.good (w0 w : World) (S : Nat → Prop) (g n : Nat) (s : DecS) (A : Option Addr) (c : Nat) (data : List Int) (hB : Below w0.heap.size w0 w) (h : RDecAt w0.heap.size w S g s n) (hp : 0 < s.p.length) (hD : (Kd.int .u8).C w A data.length data) (hc : data.length ≤ c) (hby : Byt data) (hl : data.length ≤ 1000000) : Calls Try.prog 34 #[.pointer (some ⟨g, 0, none⟩), .slice A data.length c] w fun e w' => e = .returned (.int .i64 0) ∧ RDecAt w0.heap.size w' (fun k => S k ∨ w.heap.size ≤ k) g (startD s data) 4 ∧ Below w0.heap.size w0 w' ∧ Kept w w' S := by
  obtain ⟨vp, vo, ra, h1, h2, h3, h4, h5, h6⟩ := h
  obtain ⟨Ap, cp, rfl⟩ := Kd.R_slice h4
  have x0 : w.cell? ⟨g, 0, none⟩ = some (.slice Ap s.p.length cp) := (blk_cell h1 0).trans rfl
  have hp1 : ((s.p.length : Int) == 0) = false := by simp; intro e; rw [e] at hp; simp at hp
  have HX := Aside0.mk (And.intro h1 (And.intro h2 (And.intro h3 (And.intro (Kd.R_mono (ok' := fun k => S k ∨ w.heap.size ≤ k) h4 (fun _ hk => .inl hk)) (Kd.R_mono (ok' := fun k => S k ∨ w.heap.size ≤ k) h5 (fun _ hk => .inl hk))))))
  have HBl := Aside0.mk hB
  have HD := Aside0.mk hD
  have HL := Aside0.mk hl
  have HBY := Aside0.mk hby
  clear h1 h2 h3 h4 h5 h6 hB hD hl hby hp
  go_enter Try.func34, Try.ntmps34
  go_wp2_with (first
    | ((with_reducible refine gate_dst (N := 19) rfl ?_); refine Kd.R_lit (Kd.int .u8) (w0 := w0) w0.heap.size 5 ?hg (N := 19) ?hd (xs := ([] : List Int)) (inner := []) (ok := fun k => w.heap.size ≤ k) (okp := fun k => w.heap.size ≤ k) ?hr ?hp (fun _ hk => hk) (Nat.le_refl _) HBl.out HBl.out.size (by simp) ?_; (case hd => rfl); (case hg => rfl); (case hr => first | (go_simp; done) | (go_simp; rfl)); (case hp => exact (Reps.none _ _)); intro v19 w9 ho hb hg_ hnew_; have HO9 := Aside0.mk ho; have HB9 := Aside0.mk hb; have HG9 := Aside0.mk hg_; clear ho hb hg_ hnew_)
    | ((with_reducible refine gate_builtin (b := .append) (xs := #[.tmp 19, .tmp 20]) rfl ?_); at_builtin; refine Kd.R_append_rows (Kd.int .u8) (w0 := w0) w0.heap.size rfl (.tmp 19) (.tmp 20) 34 5 (.int .u8 0) 1 rfl Try.underlying34 info5 rfl (by decide) (by decide) v19 [] data _ _ _ (fun k => w.heap.size ≤ k) (fun _ => False) rfl rfl HO9.out (Kd.C_below HD.out (by exact ⟨HG9.out.os, HG9.out.tape, HG9.out.output, HG9.out.size, fun k hk => HG9.out.block k hk (by simp)⟩)) (fun _ _ h => h) (fun _ h => h.elim) (fun k h => Nat.le_trans HG9.out.size h) HB9.out HB9.out.size (by have := HL.out; simp; omega) ?_; intro v1 w1 hR1 hb1 hg1 hat1; obtain ⟨A6, c6, e6⟩ := Kd.R_slice hR1; have e7 : v1 = .slice A6 data.length c6 := (by simpa using e6); clear e6; subst e7; have BK := blk_grown (blk_grown HX.out.1 HG9.out (by simp)) hg1 (fun he => Nat.lt_irrefl _ (Nat.lt_of_lt_of_le (blk_lt HX.out.1) (HO9.out.1 g he.symm))); have d1 : w1.cell? ⟨g, 1, none⟩ = some vo := (blk_cell BK 1).trans rfl; have d2 : w1.cell? ⟨g, 2, none⟩ = some (.int .i64 ra) := (blk_cell BK 2).trans rfl; have d3 : w1.cell? ⟨g, 3, none⟩ = some (.int .i64 s.value) := (blk_cell BK 3).trans rfl; have k1 := blk_frozen BK 1; have k2 := blk_frozen BK 2; have k3 := blk_frozen BK 3; have HN := Aside0.mk (And.intro BK (And.intro hR1 (And.intro hb1 hg1))); clear BK hR1 hb1 hg1 hat1))
  go_loopg [5] 5 (fun kq v5 w' => ∃ (i : Nat) (v : Int), v5 = .int .i64 i ∧ Aside0 (i ≤ 4 ∧ kq + i = 5 ∧ 0 ≤ v ∧ v < 256 ^ i ∧ pullP data (4 - i) (min i data.length) v = pullP data 4 0 0) ∧ Aside0 (w'.heap[g]? = some (.cells #[.slice Ap s.p.length cp, .slice A6 data.length c6, .int .i64 i, .int .i64 v, .int .i64 s.size, .bool s.started] 83)) ∧ Aside0 (Kd.R (Kd.int .i64) 3 w' w0.heap.size (fun k => S k ∨ w.heap.size ≤ k) (.slice Ap s.p.length cp) s.p) ∧ Aside0 (Kd.R (Kd.int .u8) 5 w' w0.heap.size (fun k => S k ∨ w.heap.size ≤ k) (.slice A6 data.length c6) data) ∧ Aside0 (Below w0.heap.size w0 w') ∧ Aside0 (Kept w w' S))
  case atStart =>
    have b1 := blk_put HN.out.1 1 (.slice A6 data.length c6) rfl
    have b2 := blk_put b1 2 (.int .i64 0) rfl
    have b3 := blk_put b2 3 (.int .i64 0) rfl
    have p1 : Kd.R (Kd.int .i64) 3 w1 w0.heap.size (fun k => S k ∨ w.heap.size ≤ k) (.slice Ap s.p.length cp) s.p := Kd.R_mono (Kd.R_grown (Kd.R_grown (Kd.R_bound HX.out.2.2.2.1) HG9.out (fun k _ => by simp)) HN.out.2.2.2 (fun k hk he => by have h8 := HO9.out.1 k he.symm; have h9 := hk.2.2.1; omega)) (fun k hk => hk.1)
    have o1 : Kd.R (Kd.int .u8) 5 w1 w0.heap.size (fun k => S k ∨ w.heap.size ≤ k) (.slice A6 data.length c6) data := Kd.R_mono HN.out.2.1 (fun k hk => .inr hk)
    have kk : Kept w w1 S := Kept.of_grown HN.out.2.2.2 (Kept.of_grown HG9.out (Kept.refl w S) (fun k hk => by simp at hk)) (fun k hk => .inr (HO9.out.1 k hk))
    exact ⟨0, 0, by first | rfl | simp, ⟨by omega, by omega, by omega, by decide, by rw [Nat.zero_min]⟩, ⟨b3⟩, ⟨Kd.R_set (Kd.R_set (Kd.R_set p1 HN.out.1 (by decide) 1 _) b1 (by decide) 2 _) b2 (by decide) 3 _⟩, ⟨Kd.R_set (Kd.R_set (Kd.R_set o1 HN.out.1 (by decide) 1 _) b1 (by decide) 2 _) b2 (by decide) 3 _⟩, ⟨below_set (below_set (below_set HN.out.2.2.1 HX.out.2.2.1) HX.out.2.2.1) HX.out.2.2.1⟩, ⟨Kept.setCell (Kept.setCell (Kept.setCell kk (.inl HX.out.2.1) _) (.inl HX.out.2.1) _) (.inl HX.out.2.1) _⟩⟩
  case round =>
    obtain ⟨i, v, rfl, HI, HB1, HP1, HO1, HBB, HKK⟩ := hrel
    have c3 : wr.cell? ⟨g, 3, none⟩ = some (.int .i64 v) := (blk_cell HB1.out 3).trans rfl
    have c2 : wr.cell? ⟨g, 2, none⟩ = some (.int .i64 i) := (blk_cell HB1.out 2).trans rfl
    have c1 : wr.cell? ⟨g, 1, none⟩ = some (.slice A6 data.length c6) := (blk_cell HB1.out 1).trans rfl
    have k3 := blk_frozen HB1.out 3
    have k2 := blk_frozen HB1.out 2
    have k4 := blk_frozen HB1.out 4
    have k5 := blk_frozen HB1.out 5
    have c4 : wr.cell? ⟨g, 4, none⟩ = some (.int .i64 s.size) := (blk_cell HB1.out 4).trans rfl
    have c5 : wr.cell? ⟨g, 5, none⟩ = some (.bool s.started) := (blk_cell HB1.out 5).trans rfl
    by_cases h4 : i < 4
    · have g4 : (i : Int) < 4 := by omega
      have v0 := HI.out.2.2.1
      have vb : v < 16777216 := by
        have h9 := HI.out.2.2.2.1
        have := pow256_le (i := i) (j := 3) (by omega)
        have e3 : (256 : Int) ^ 3 = 16777216 := by decide
        omega
      have hn0 := nextP_bd HBY.out i
      have HQ : Aside0 (pullP data (4 - (i + 1)) (min (i + 1) data.length) (256 * v + nextP data i) = pullP data 4 0 0) := ⟨by rw [← HI.out.2.2.2.2, show 4 - i = (4 - (i + 1)) + 1 by omega, pullP, nextA_mn, nextP_mn, Int.mul_comm 256 v]⟩
      have HV2 : Aside0 (256 * v + nextP data i < 256 ^ (i + 1)) := ⟨by have h9 := HI.out.2.2.2.1; rw [Int.pow_succ]; omega⟩
      have HV0 : Aside0 (0 ≤ 256 * v + nextP data i) := ⟨by omega⟩
      have HDN : Aside0 (∀ W : World, W.cell? ⟨g, 1, none⟩ = some (.slice A6 data.length c6) → W.cell? ⟨g, 2, none⟩ = some (.int .i64 i) → W.frozen? ⟨g, 2, none⟩ = false → (∀ x ad, i < data.length → A6 = some ad → wr.cell? (ad.add i) = some (.int .u8 x) → W.cell? (ad.add i) = some (.int .u8 x)) → Calls Try.prog 52 #[.pointer (some ⟨g, 0, none⟩)] W fun e w' => e = .returned (.int .i64 (nextP data i)) ∧ ∃ n1 n2, w' = ((W.drewN n1).setCell ⟨g, 2, none⟩ (.int .i64 ((i : Int) + 1))).drewN n2) := ⟨by
        intro W e1 e2 e3 e4
        by_cases ha : i < data.length
        · obtain ⟨bd, cd, ed, hbd0, hbd1, _⟩ := Kd.R_form HO1.out (by omega)
          injection ed with ed1 _ ed3
          subst ed1
          obtain ⟨y0, y1⟩ := Kd.R_cell (0 : Int) (by rw [ed3] at HO1; exact HO1.out) (i : Int) (by omega) (by omega)
          rw [Int.toNat_natCast] at y0 y1
          have hx := HBY.out (rd data (i : Int)) (rd_mem ha)
          have hne : bd ≠ g := fun e => Kd.R_ne HO1.out HB1.out (by decide) (by rw [e]; rfl)
          have eP : nextP data i = rd data (i : Int) := by unfold nextP; rw [if_pos ha]
          rw [eP]
          exact Rnext.more W g ⟨bd, 0, none⟩ data.length c6 i (rd data (i : Int)) e1 e2 e3 ha HL.out hne (by rw [add0]) (e4 _ _ ha rfl (by rw [add0]; exact y0)) hx.1 hx.2
        · have eP : nextP data i = 0 := by unfold nextP; rw [if_neg ha]
          rw [eP]
          exact Rnext.done W g A6 data.length c6 i e1 e2 e3 ha (by omega)⟩
      generalize nextP data i = nx at *
      have d3 : ∀ m n, (((wr.drewN m).setCell ⟨g, 2, none⟩ (.int .i64 ((i : Int) + 1))).drewN n).cell? ⟨g, 3, none⟩ = some (.int .i64 v) := fun m n => (World.cell?_setCell_other _ _ _ _ (by simp)).trans c3
      obtain ⟨hn1, hn2⟩ := hn0
      go_wp2
      go_region_with (go_at_call 52; (with_reducible refine (HDN.out _ ?qa ?qb ?qc ?qd).mono ?_); (case qa => exact c1); (case qb => exact c2); (case qc => exact k2); (case qd => exact fun x ad _ _ h => h); rintro e w2 ⟨rfl, n1, n2, rfl⟩)
      all_goals go_wp2
      all_goals go_roundg (gk - 1)
      case' measure => have := HI.out; omega
      all_goals first | (have := HI.out; omega) | skip
      all_goals
        have b0 := blk_drewN HB1.out (1 + n1)
        have b1 := blk_put b0 2 (.int .i64 ((i : Int) + 1)) rfl
        have b2 := blk_drewN b1 n2
        have b3 := blk_put b2 3 (.int .i64 (256 * v + nx)) rfl
        refine ⟨i + 1, 256 * v + nx, by first | rfl | simp, ⟨by omega, by have := HI.out; omega, HV0.out, HV2.out, HQ.out⟩, ⟨b3⟩, ⟨Kd.R_set (Kd.R_drewN (Kd.R_set (Kd.R_drewN HP1.out _) b0 (by decide) 2 _) n2) b2 (by decide) 3 _⟩, ⟨Kd.R_set (Kd.R_drewN (Kd.R_set (Kd.R_drewN HO1.out _) b0 (by decide) 2 _) n2) b2 (by decide) 3 _⟩, ⟨below_set (pw_below_drewN (below_set (pw_below_drewN HBB.out _) HX.out.2.2.1) _) HX.out.2.2.1⟩, ⟨Kept.setCell (Kept.drewN (Kept.setCell (Kept.drewN HKK.out _) (.inl HX.out.2.1) _) _) (.inl HX.out.2.1) _⟩⟩
    · have g4 : ¬ (i : Int) < 4 := by omega
      have hi4 : i = 4 := by have := HI.out.1; omega
      have he : pullP data 0 (min 4 data.length) v = pullP data 4 0 0 := by have h9 := HI.out.2.2.2.2; rw [hi4] at h9; exact h9
      have hmin : startD s data = ⟨s.p, data, ((min i data.length : Nat) : Int), min v 4294967294, 4294967295, true⟩ := by
        show (⟨s.p, data, (((pullP data 4 0 0).1 : Nat) : Int), min (pullP data 4 0 0).2 4294967294, 4294967295, true⟩ : DecS) = _
        rw [← he, hi4]
        rfl
      have HM := Lib.hid hmin
      have HI4 := Lib.hid hi4
      clear he hmin hi4
      go_wp2
      all_goals go_ret
      all_goals
        refine ⟨rfl, ?_⟩
        rw [HM.out]
      · rw [show min v 4294967294 = 4294967294 by omega]
        exact rstart_end HB1.out HP1.out HO1.out HBB.out HKK.out HX.out.2.1 HX.out.2.2.1 _ _ _ i 4 rfl (by have := HI4.out; omega) _ rfl
      · rw [show min v 4294967294 = v by omega]
        exact rstart_end HB1.out HP1.out HO1.out HBB.out HKK.out HX.out.2.1 HX.out.2.2.1 _ _ _ i 4 rfl (by have := HI4.out; omega) _ rfl
end Go.Proofs.Ytfbdenlpoidnjaa.P
