/- Start, walked. -/
import Derived.Test.YtfbdenlpoidnjaaSpu
import Derived.Test.YtfbdenlpoidnjaaEnc
set_option linter.unusedVariables false
set_option linter.unusedSimpArgs false
namespace Go.Proofs.Ytfbdenlpoidnjaa.P
open Go.RowKit Go.Proofs.YtfbdenlpoidnjaaW.PrintWords Go.Proofs.YtfbdenlpoidnjaaW.PrintLast Go.Proofs.YtfbdenlpoidnjaaW.PrintMore

theorem rd_mem {l : List Int} {a : Nat} (h : a < l.length) : rd l (a : Int) ∈ l := by
  unfold rd
  rw [Int.toNat_natCast, List.getD_eq_getElem?_getD, List.getElem?_eq_getElem h]
  exact List.getElem_mem h
theorem add0 (b a : Nat) : (⟨b, 0, none⟩ : Addr).add a = ⟨b, a, none⟩ := by
  by_cases h : a = 0 <;> simp [Addr.add, h]
theorem pow256_le {i j : Nat} (h : i ≤ j) : (256 : Int) ^ i ≤ 256 ^ j := by
  have e : ∀ k : Nat, (256 : Int) ^ k = ((256 ^ k : Nat) : Int) := fun k => by simp
  rw [e, e]
  exact Int.ofNat_le.2 (Nat.pow_le_pow_right (by decide) h)
theorem start_end {w0 w wr : World} {S : Nat → Prop} {g : Nat} {vp vo : Value} {p data : List Int} {a v size : Int} {st : Bool} (h1 : wr.heap[g]? = some (.cells #[vp, vo, .int .i64 a, .int .i64 v, .int .i64 size, .bool st] 66)) (h4 : Kd.R (Kd.int .i64) 3 wr w0.heap.size (fun k => S k ∨ w.heap.size ≤ k) vp p) (h5 : Kd.R (Kd.int .u8) 5 wr w0.heap.size (fun k => S k ∨ w.heap.size ≤ k) vo data) (hB : Below w0.heap.size w0 wr) (hK : Kept w wr S) (hS : S g) (hg : w0.heap.size ≤ g) (v' size' : Int) (st' : Bool) :
    DecAt w0.heap.size (((wr.setCell ⟨g, 3, none⟩ (.int .i64 v')).setCell ⟨g, 4, none⟩ (.int .i64 size')).setCell ⟨g, 5, none⟩ (.bool st')) (fun k => S k ∨ w.heap.size ≤ k) g ⟨p, data, a, v', size', st'⟩ ∧ Below w0.heap.size w0 (((wr.setCell ⟨g, 3, none⟩ (.int .i64 v')).setCell ⟨g, 4, none⟩ (.int .i64 size')).setCell ⟨g, 5, none⟩ (.bool st')) ∧ Kept w (((wr.setCell ⟨g, 3, none⟩ (.int .i64 v')).setCell ⟨g, 4, none⟩ (.int .i64 size')).setCell ⟨g, 5, none⟩ (.bool st')) S := by
  have b1 := blk_put h1 3 (.int .i64 v') rfl
  have b2 := blk_put b1 4 (.int .i64 size') rfl
  have b3 := blk_put b2 5 (.bool st') rfl
  exact ⟨⟨vp, vo, b3, .inl hS, hg, Kd.R_set (Kd.R_set (Kd.R_set h4 h1 (by decide) 3 _) b1 (by decide) 4 _) b2 (by decide) 5 _, Kd.R_set (Kd.R_set (Kd.R_set h5 h1 (by decide) 3 _) b1 (by decide) 4 _) b2 (by decide) 5 _⟩, below_set (below_set (below_set hB hg) hg) hg, Kept.setCell (Kept.setCell (Kept.setCell hK (.inl hS) _) (.inl hS) _) (.inl hS) _⟩
attribute [local go_sem] min2_int min_two
set_option maxHeartbeats 8000000 in
set_option maxRecDepth 100000 in
theorem Start.good (w0 w : World) (S : Nat → Prop) (g : Nat) (s : DecS) (A : Option Addr) (c : Nat) (data : List Int) (hB : Below w0.heap.size w0 w) (h : DecAt w0.heap.size w S g s) (hp : 0 < s.p.length) (hD : (Kd.int .u8).C w A data.length data) (hc : data.length ≤ c) (hby : Byt data) (hl : data.length ≤ 1000000) : Calls Try.prog 33 #[.pointer (some ⟨g, 0, none⟩), .slice A data.length c] w fun e w' => e = .returned (.int .i64 0) ∧ DecAt w0.heap.size w' (fun k => S k ∨ w.heap.size ≤ k) g (startD s data) ∧ Below w0.heap.size w0 w' ∧ Kept w w' S := by
  obtain ⟨vp, vo, h1, h2, h3, h4, h5⟩ := h
  obtain ⟨Ap, cp, rfl⟩ := Kd.R_slice h4
  have x0 : w.cell? ⟨g, 0, none⟩ = some (.slice Ap s.p.length cp) := (blk_cell h1 0).trans rfl
  have HV := Aside0.mk (Dvalid.at w g s.p.length cp _ x0 hp)
  have HX := Aside0.mk (And.intro h1 (And.intro h2 (And.intro h3 (And.intro (Kd.R_mono (ok' := fun k => S k ∨ w.heap.size ≤ k) h4 (fun _ hk => .inl hk)) (Kd.R_mono (ok' := fun k => S k ∨ w.heap.size ≤ k) h5 (fun _ hk => .inl hk))))))
  have HBl := Aside0.mk hB
  have HD := Aside0.mk hD
  have HL := Aside0.mk hl
  have HBY := Aside0.mk hby
  clear h1 h2 h3 h4 h5 hB hD hl hby hp
  go_enter Try.func33, Try.ntmps33
  go_wp2_with (first | (go_at_call 50; (with_reducible refine HV.out.mono ?_); rintro e w1 ⟨rfl, hw⟩; replace hw := hw.symm; subst hw) | ((with_reducible refine gate_dst (N := 12) rfl ?_); refine Kd.R_append_rows (Kd.int .u8) (w0 := w0) w0.heap.size rfl (.const (.slice none 0 0)) (.tmp 11) 34 5 (.int .u8 0) 1 rfl Try.underlying34 info5 rfl (by decide) (by decide) (.slice none 0 0) [] data _ _ _ (fun k => w.heap.size ≤ k) (fun _ => False) rfl rfl (Kd.R_nil _ _ _ _ _) HD.out (fun _ _ h => h) (fun _ h => h.elim) (fun _ h => h) HBl.out HBl.out.size (by have := HL.out; simp; omega) ?_; intro v1 w1 hR1 hb1 hg1 hat1; obtain ⟨A6, c6, e6⟩ := Kd.R_slice hR1; have e7 : v1 = .slice A6 data.length c6 := (by simpa using e6); clear e6; subst e7; have BK := blk_grown HX.out.1 hg1 (by simp [Value.ownBlock]); have d1 : w1.cell? ⟨g, 1, none⟩ = some vo := (blk_cell BK 1).trans rfl; have d2 : w1.cell? ⟨g, 2, none⟩ = some (.int .i64 s.at_) := (blk_cell BK 2).trans rfl; have d3 : w1.cell? ⟨g, 3, none⟩ = some (.int .i64 s.value) := (blk_cell BK 3).trans rfl; have k1 := blk_frozen BK 1; have k2 := blk_frozen BK 2; have k3 := blk_frozen BK 3; have HN := Aside0.mk (And.intro BK (And.intro hR1 (And.intro hb1 hg1))); clear BK hR1 hb1 hg1 hat1))
  go_loopg [19] 5 (fun kq v19 w' => ∃ (i a : Nat) (v : Int), v19 = .int .i64 i ∧ Aside0 (i ≤ 4 ∧ kq + i = 5 ∧ a ≤ data.length ∧ 0 ≤ v ∧ v < 256 ^ i ∧ pullP data (4 - i) a v = pullP data 4 0 0) ∧ Aside0 (w'.heap[g]? = some (.cells #[.slice Ap s.p.length cp, .slice A6 data.length c6, .int .i64 a, .int .i64 v, .int .i64 s.size, .bool s.started] 66)) ∧ Aside0 (Kd.R (Kd.int .i64) 3 w' w0.heap.size (fun k => S k ∨ w.heap.size ≤ k) (.slice Ap s.p.length cp) s.p) ∧ Aside0 (Kd.R (Kd.int .u8) 5 w' w0.heap.size (fun k => S k ∨ w.heap.size ≤ k) (.slice A6 data.length c6) data) ∧ Aside0 (Below w0.heap.size w0 w') ∧ Aside0 (Kept w w' S))
  case atStart =>
    have b1 := blk_put HN.out.1 1 (.slice A6 data.length c6) rfl
    have b2 := blk_put b1 2 (.int .i64 0) rfl
    have b3 := blk_put b2 3 (.int .i64 0) rfl
    have p1 := Kd.R_grown HX.out.2.2.2.1 HN.out.2.2.2 (fun k _ => by simp [Value.ownBlock])
    have o1 : Kd.R (Kd.int .u8) 5 w1 w0.heap.size (fun k => S k ∨ w.heap.size ≤ k) (.slice A6 data.length c6) data := Kd.R_mono HN.out.2.1 (fun k hk => .inr hk)
    have kk : Kept w w1 S := Kept.of_grown HN.out.2.2.2 (Kept.refl w S) (fun k hk => by simp [Value.ownBlock] at hk)
    exact ⟨0, 0, 0, by first | rfl | simp, ⟨by omega, by omega, by omega, by omega, by decide, rfl⟩, ⟨b3⟩, ⟨Kd.R_set (Kd.R_set (Kd.R_set p1 HN.out.1 (by decide) 1 _) b1 (by decide) 2 _) b2 (by decide) 3 _⟩, ⟨Kd.R_set (Kd.R_set (Kd.R_set o1 HN.out.1 (by decide) 1 _) b1 (by decide) 2 _) b2 (by decide) 3 _⟩, ⟨below_set (below_set (below_set HN.out.2.2.1 HX.out.2.2.1) HX.out.2.2.1) HX.out.2.2.1⟩, ⟨Kept.setCell (Kept.setCell (Kept.setCell kk (.inl HX.out.2.1) _) (.inl HX.out.2.1) _) (.inl HX.out.2.1) _⟩⟩
  case round =>
    obtain ⟨i, a, v, rfl, HI, HB1, HP1, HO1, HBB, HKK⟩ := hrel
    have c3 : wr.cell? ⟨g, 3, none⟩ = some (.int .i64 v) := (blk_cell HB1.out 3).trans rfl
    have c2 : wr.cell? ⟨g, 2, none⟩ = some (.int .i64 a) := (blk_cell HB1.out 2).trans rfl
    have c1 : wr.cell? ⟨g, 1, none⟩ = some (.slice A6 data.length c6) := (blk_cell HB1.out 1).trans rfl
    have k3 := blk_frozen HB1.out 3
    have k2 := blk_frozen HB1.out 2
    have k4 := blk_frozen HB1.out 4
    have k5 := blk_frozen HB1.out 5
    have c4 : wr.cell? ⟨g, 4, none⟩ = some (.int .i64 s.size) := (blk_cell HB1.out 4).trans rfl
    have c5 : wr.cell? ⟨g, 5, none⟩ = some (.bool s.started) := (blk_cell HB1.out 5).trans rfl
    by_cases h4 : i < 4
    · have g4 : (i : Int) < 4 := by omega
      have v0 := HI.out.2.2.2.1
      have vb : v < 16777216 := by
        have h9 := HI.out.2.2.2.2.1
        have := pow256_le (i := i) (j := 3) (by omega)
        have e3 : (256 : Int) ^ 3 = 16777216 := by decide
        omega
      by_cases ha : a < data.length
      · obtain ⟨bd, cd, ed, hbd0, hbd1, _⟩ := Kd.R_form HO1.out (by omega)
        injection ed with ed1 _ ed3
        subst ed1
        subst ed3
        obtain ⟨y0, y1⟩ := Kd.R_cell (0 : Int) HO1.out (a : Int) (by omega) (by omega)
        rw [Int.toNat_natCast] at y0 y1
        have hx := HBY.out (rd data (a : Int)) (rd_mem ha)
        have hne : bd ≠ g := fun e => Kd.R_ne HO1.out HB1.out (by decide) (by rw [e]; rfl)
        have HDN := Aside0.mk (fun W (e1 : W.cell? ⟨g, 1, none⟩ = some (.slice (some ⟨bd, 0, none⟩) data.length c6)) (e2 : W.cell? ⟨g, 2, none⟩ = some (.int .i64 a)) (e3 : W.frozen? ⟨g, 2, none⟩ = false) (e4 : W.cell? ⟨bd, a, none⟩ = some (.int .u8 (rd data (a : Int)))) => Dnext.more W g ⟨bd, 0, none⟩ data.length c6 a (rd data (a : Int)) e1 e2 e3 ha HL.out hne (by rw [add0]) (by rw [add0]; exact e4) hx.1 hx.2)
        have d3 : ∀ m n, (((wr.drewN m).setCell ⟨g, 2, none⟩ (.int .i64 ((a : Int) + 1))).drewN n).cell? ⟨g, 3, none⟩ = some (.int .i64 v) := fun m n => (World.cell?_setCell_other _ _ _ _ (by simp)).trans c3
        have HQ : Aside0 (pullP data (4 - (i + 1)) (a + 1) (v * 256 + rd data (a : Int)) = pullP data 4 0 0) := ⟨by rw [← HI.out.2.2.2.2.2, show 4 - i = (4 - (i + 1)) + 1 by omega, pullP, show nextA data a = a + 1 by unfold nextA; rw [if_pos ha], show nextP data a = rd data (a : Int) by unfold nextP; rw [if_pos ha]]⟩
        have HV2 : Aside0 (v * 256 + rd data (a : Int) < 256 ^ (i + 1)) := ⟨by have h9 := HI.out.2.2.2.2.1; rw [Int.pow_succ]; omega⟩
        have HV0 : Aside0 (0 ≤ v * 256 + rd data (a : Int)) := ⟨by omega⟩
        go_wp2
        go_region_with (go_at_call 51; (with_reducible refine (HDN.out _ ?qa ?qb ?qc ?qd).mono ?_); (case qa => exact c1); (case qb => exact c2); (case qc => exact k2); (case qd => exact y0); rintro e w2 ⟨rfl, n1, n2, rfl⟩)
        all_goals go_wp2
        all_goals go_roundg (gk - 1)
        case' measure => have := HI.out; omega
        all_goals first | (have := HI.out; omega) | skip
        all_goals
          have b0 := blk_drewN HB1.out (1 + n1)
          have b1 := blk_put b0 2 (.int .i64 ((a : Int) + 1)) rfl
          have b2 := blk_drewN b1 n2
          have b3 := blk_put b2 3 (.int .i64 (v * 256 + rd data (a : Int))) rfl
          refine ⟨i + 1, a + 1, v * 256 + rd data (a : Int), by first | rfl | simp, ⟨by omega, by have := HI.out; omega, by omega, HV0.out, HV2.out, HQ.out⟩, ⟨b3⟩, ⟨Kd.R_set (Kd.R_drewN (Kd.R_set (Kd.R_drewN HP1.out _) b0 (by decide) 2 _) n2) b2 (by decide) 3 _⟩, ⟨Kd.R_set (Kd.R_drewN (Kd.R_set (Kd.R_drewN HO1.out _) b0 (by decide) 2 _) n2) b2 (by decide) 3 _⟩, ⟨below_set (pw_below_drewN (below_set (pw_below_drewN HBB.out _) HX.out.2.2.1) _) HX.out.2.2.1⟩, ⟨Kept.setCell (Kept.drewN (Kept.setCell (Kept.drewN HKK.out _) (.inl HX.out.2.1) _) _) (.inl HX.out.2.1) _⟩⟩
      · have HDN := Aside0.mk (fun W (e1 : W.cell? ⟨g, 1, none⟩ = some (.slice A6 data.length c6)) (e2 : W.cell? ⟨g, 2, none⟩ = some (.int .i64 a)) => Dnext.done W g A6 data.length c6 a e1 e2 ha)
        have HQ : Aside0 (pullP data (4 - (i + 1)) a (v * 256) = pullP data 4 0 0) := ⟨by rw [← HI.out.2.2.2.2.2, show 4 - i = (4 - (i + 1)) + 1 by omega, pullP, show nextA data a = a by unfold nextA; rw [if_neg ha], show nextP data a = 0 by unfold nextP; rw [if_neg ha], Int.add_zero]⟩
        have HV2 : Aside0 (v * 256 < 256 ^ (i + 1)) := ⟨by have h9 := HI.out.2.2.2.2.1; rw [Int.pow_succ]; omega⟩
        have HV0 : Aside0 (0 ≤ v * 256) := ⟨by omega⟩
        go_wp2
        go_region_with (go_at_call 51; (with_reducible refine (HDN.out _ ?qa ?qb).mono ?_); (case qa => exact c1); (case qb => exact c2); rintro e w2 ⟨rfl, n1, rfl⟩)
        all_goals go_wp2
        all_goals go_roundg (gk - 1)
        case' measure => have := HI.out; omega
        all_goals first | (have := HI.out; omega) | skip
        all_goals
          have b0 := blk_drewN HB1.out (1 + n1)
          have b1 := blk_put b0 3 (.int .i64 (v * 256)) rfl
          refine ⟨i + 1, a, v * 256, by first | rfl | simp, ⟨by omega, by have := HI.out; omega, HI.out.2.2.1, HV0.out, HV2.out, HQ.out⟩, ⟨b1⟩, ⟨Kd.R_set (Kd.R_drewN HP1.out _) b0 (by decide) 3 _⟩, ⟨Kd.R_set (Kd.R_drewN HO1.out _) b0 (by decide) 3 _⟩, ⟨below_set (pw_below_drewN HBB.out _) HX.out.2.2.1⟩, ⟨Kept.setCell (Kept.drewN HKK.out _) (.inl HX.out.2.1) _⟩⟩
    · have g4 : ¬ (i : Int) < 4 := by omega
      have he : pullP data 0 a v = pullP data 4 0 0 := by rw [← HI.out.2.2.2.2.2, show 4 - i = 0 by have := HI.out.1; omega]
      have hmin : startD s data = ⟨s.p, data, (a : Int), min v 4294967294, 4294967295, true⟩ := by
        show (⟨s.p, data, (((pullP data 4 0 0).1 : Nat) : Int), min (pullP data 4 0 0).2 4294967294, 4294967295, true⟩ : DecS) = _
        rw [← he]
        rfl
      have HM := Lib.hid hmin
      clear he hmin
      go_wp2
      all_goals go_ret
      all_goals
        refine ⟨rfl, ?_⟩
        rw [HM.out]
      · rw [show min v 4294967294 = 4294967294 by omega]
        exact start_end HB1.out HP1.out HO1.out HBB.out HKK.out HX.out.2.1 HX.out.2.2.1 _ _ _
      · rw [show min v 4294967294 = v by omega]
        exact start_end HB1.out HP1.out HO1.out HBB.out HKK.out HX.out.2.1 HX.out.2.2.1 _ _ _
end Go.Proofs.Ytfbdenlpoidnjaa.P
