/- The law HullBest: for every curve and price its walk ends in 'true': Best is a point of the hull that costs least, and each point of the hull is Best for the slope behind it. -/
import Derived.Test.YtgijikbekckanaaPuX
import Derived.Test.YtgijikbekckanaaPuV
import Derived.Test.YtgijikbekckanaaPx11
import Derived.Test.YtgijikbekckanaaHul
import Derived.Deep.RegionHeld3
import Derived.Deep.DrawnRows
import Derived.LoopTactic
import Derived.WalkSpells
import Derived.Outline
import Derived.Lib.Hide
set_option linter.unusedVariables false
set_option linter.unusedSimpArgs false
namespace Go.Proofs.Ytgijikbekckanaa.P
open Go.RowKit Go.Proofs.YtgijikbekckanaaW.PrintWords Go.Proofs.YtgijikbekckanaaW.PrintLast Go.Proofs.YtgijikbekckanaaW.PrintMore
attribute [local go_sem] max2_int min2_int max_two min_two

/-! ### plain -/
theorem bestL_fst {rs ds : List Int} {d r : Int} : ∀ (m i b : Nat), i + m = rs.length → b < rs.length → (∀ q, q < i → cst rs ds d r b ≤ cst rs ds d r q) → (∀ q, q < b → cst rs ds d r b < cst rs ds d r q) → b ≤ i → Fst rs ds d r (bestL d r rs ds m i b)
  | 0, i, b, hi, hb, h1, h2, h3 => ⟨hb, fun q hq => h1 q (by omega), h2⟩
  | m + 1, i, b, hi, hb, h1, h2, h3 => by
    simp only [bestL]
    have e : ∀ j, costP d r rs ds j = cst rs ds d r j := fun _ => rfl
    rw [e, e]
    by_cases hc : cst rs ds d r i < cst rs ds d r b
    · rw [if_pos hc]
      refine bestL_fst m (i + 1) i (by omega) (by omega) (fun q hq => ?_) (fun q hq => ?_) (by omega)
      · rcases Nat.lt_or_ge q i with g | g
        · have := h1 q g; omega
        · obtain rfl : q = i := by omega
          omega
      · have := h1 q hq; omega
    · rw [if_neg hc]
      refine bestL_fst m (i + 1) b (by omega) hb (fun q hq => ?_) h2 (by omega)
      rcases Nat.lt_or_ge q i with g | g
      · exact h1 q g
      · obtain rfl : q = i := by omega
        omega
theorem best_fst {rs ds : List Int} (hV : Vld rs ds) {d r : Int} (hp : okPrice d r) : ∃ b : Nat, bestP rs ds d r = (b : Int) ∧ Fst rs ds d r b := by
  unfold bestP
  rw [if_pos ⟨decide_eq_true hV, hp⟩]
  refine ⟨_, rfl, bestL_fst _ _ _ (by omega) (by have := hV.2.1; omega) (fun q hq => by omega) (fun q hq => by omega) (by omega)⟩
theorem in_loop {l : List Int} {x : Int} (hl : l.length ≤ 1000000) : ∀ (m i : Nat), i + m = l.length → x ∈ l.drop i → Ev (fun k => waveletlaw20_in.l0 k l x (i : Int)) true
  | 0, i, hi, hx => by
    rw [List.drop_eq_nil_of_le (by omega)] at hx
    cases hx
  | m + 1, i, hi, hx => by
    have hlt : i < l.length := by omega
    by_cases he : el l i = x
    · exact Ev.step (fun k => by simp only [waveletlaw20_in.l0, rd_el]; rw [if_pos (by omega), if_pos (by omega), if_pos he]) (Ev.now _)
    · refine Ev.step (fun k => by simp only [waveletlaw20_in.l0, rd_el]; rw [if_pos (by omega), if_pos (by omega), if_neg he, wrap_id (by omega) (by omega)]; rfl) (in_loop hl m (i + 1) (by omega) ?_)
      rw [List.drop_eq_getElem_cons hlt] at hx
      rcases List.mem_cons.1 hx with h | h
      · exact absurd (show el l i = x by rw [h]; simp [el, List.getD_eq_getElem?_getD, hlt]) he
      · exact h
theorem in_ev {l : List Int} {x : Int} (hl : l.length ≤ 1000000) (hx : x ∈ l) : Ev (fun k => waveletlaw20_in.f k l x) true :=
  Ev.congr (fun k => by simp only [waveletlaw20_in.f]; rfl) (in_loop hl l.length 0 (by omega) (by simpa using hx))

/-! ### the walk -/
/-- What of a curve and of its hull's points lies in memory at a world. -/
structure Laid (w W : World) (A0 : Option Addr) (c0 : Nat) (rs : List Int) (A1 : Option Addr) (c1 : Nat) (ds : List Int) (bB g L : Nat) : Prop where
  bx0 : W.cell? ⟨bB, 0, none⟩ = some (.slice A0 rs.length c0)
  bx1 : W.cell? ⟨bB, 1, none⟩ = some (.slice A1 ds.length c1)
  row : ∀ j, j < L → W.cell? ⟨g, j, none⟩ = some (.int .i64 (el (pointsP rs ds) j))
  low : Below w.heap.size w W
theorem Laid.go {w W W' : World} {A0 : Option Addr} {c0 : Nat} {rs : List Int} {A1 : Option Addr} {c1 : Nat} {ds : List Int} {bB g L : Nat} (h : Laid w W A0 c0 rs A1 c1 ds bB g L) (hb : Below W.heap.size W W') : Laid w W' A0 c0 rs A1 c1 ds bB g L :=
  ⟨pw_cell_below hb h.bx0, pw_cell_below hb h.bx1, fun j hj => pw_cell_below hb (h.row j hj), below_then h.low h.low.size hb⟩
theorem row_at {w : World} {base : Nat} {v : Value} {ps : List Int} (h : Kd.R (Kd.int .i64) 3 w base (fun _ => True) v ps) (hn : 0 < ps.length) :
    ∃ (g cap : Nat), v = .slice (some ⟨g, 0, none⟩) ps.length cap ∧ (∀ j, j < ps.length → w.cell? ⟨g, j, none⟩ = some (.int .i64 (el ps j))) ∧ ps.length ≤ cap ∧ Kd.C (Kd.int .i64) w (some ⟨g, 0, none⟩) ps.length ps := by
  have ho := Kd.own_of_R h
  obtain ⟨A, c, e0, _, hC⟩ := Kd.R_reads h
  rcases ho.2 with ⟨_, h0⟩ | ⟨g, cap, cur, he, hb, hh, hnc, hcm, hcs, ht⟩
  · omega
  · refine ⟨g, cap, he, fun j hj => (blk_cell hh j).trans ?_, hnc, ?_⟩
    rotate_left
    · rw [he] at e0
      injection e0 with e1
      rw [e1]
      exact hC
    have e : (cur.toList.take (ps.length * 1))[j]? = (encs (Value.int .i64) ps)[j]? := by rw [ht]
    rw [List.getElem?_take, if_pos (by omega)] at e
    rw [← Array.getElem?_toList, e]
    simp [encs, el, List.getD_eq_getElem?_getD, hj]
theorem drew_then {w W : World} {n : Nat} (hb : Below (w.drewN n).heap.size (w.drewN n) W) : Below w.heap.size w W :=
  below_then (pw_below_drewN (Below.refl _ _) n) (Nat.le_of_eq (by simp)) hb
theorem points_pos {rs ds : List Int} (hV : Vld rs ds) : 0 < (pointsP rs ds).length := by
  have := (points_chn hV).head.1
  exact this
set_option maxRecDepth 1000000 in
set_option maxHeartbeats 4000000 in
theorem hbest_yes (A0 : Option Addr) (c0 : Nat) (rs : List Int) (A1 : Option Addr) (c1 : Nat) (ds : List Int) (d r : Int) (w : World) (hV : Vld rs ds) (hp : okPrice d r)
    (hr : Kd.C (Kd.int .i64) w A0 rs.length rs) (hc0 : rs.length ≤ c0) (hd : Kd.C (Kd.int .i64) w A1 ds.length ds) (hc1 : ds.length ≤ c1) :
    Calls Try.prog 9 #[.agg #[.slice A0 rs.length c0, .slice A1 ds.length c1], .int .i64 d, .int .i64 r] w fun e w' => e = .returned (.bool true) ∧ Below w.heap.size w w' := by
  obtain ⟨kv, hkv⟩ := (rvalid_ev rs ds).rounds
  rw [show validB rs ds = true from decide_eq_true hV] at hkv
  obtain ⟨kx, hkx⟩ := example_ok.rounds
  obtain ⟨b, hb, hF⟩ := best_fst hV hp
  obtain ⟨kb, hkb⟩ := (best_ev rs ds d r).rounds
  rw [hb] at hkb
  obtain ⟨ki, hki⟩ := (in_ev (l := pointsP rs ds) (by have := points_len rs ds; omega) (fst_points hV hp.2.2.1 hp.1 hF)).rounds
  obtain ⟨p1, p2, p3, p4⟩ := hp
  have HKV := Lib.hid hkv
  have HKX := Lib.hid hkx
  have HKB := Lib.hid hkb
  have HKI := Lib.hid hki
  have HF := Aside0.mk hF
  have HV := Lib.hid hV
  have HR := Lib.hid hr
  have HD := Lib.hid hd
  have hb0 : (0 : Int) ≤ (b : Int) := by omega
  have hbn : (b : Int) < (rs.length : Int) := by have := hF.1; omega
  have hn : rs.length ≤ 179 := hV.2.2.1
  have hld : ds.length = rs.length := hV.1.symm
  have HLD := Lib.hid hld
  have D1 := decide_eq_false (show ¬ d < 0 by omega)
  have D2 := decide_eq_false (show ¬ 70368744177664 < d by omega)
  have D3 := decide_eq_false (show ¬ r < 1 by omega)
  have D4 := decide_eq_false (show ¬ 65535 < r by omega)
  have D5 := decide_eq_false (show ¬ (b : Int) < 0 by omega)
  have D6 := decide_eq_false (show ¬ (rs.length : Int) ≤ (b : Int) by omega)
  have D7 := decide_eq_false (show ¬ rs.length ≤ b by omega)
  have hu24 := Try.underlying24
  clear hkv hkx hkb hki hF hV hr hd hb hld
  go_enter Try.func9, Try.ntmps9
  go_wp2_with (first
    | (go_at_call 13; (with_reducible refine (waveletref20_Valid.calls kv _ _ rs _ _ ds true _ ?h1 hc0 ?h3 hc1 HKV.out).mono ?_); (case h1 => exact Kd.C_below HR.out (below_alloc (Below.refl _ _) _)); (case h3 => exact Kd.C_below HD.out (below_alloc (Below.refl _ _) _)); rintro e w1 ⟨rfl, hb1⟩;
        have HB1 := Aside0.mk (below_then (below_alloc (Below.refl _ _) _) (by simp) hb1);
        have BK1 := Aside0.mk (show w1.heap[w.heap.size]? = some (.cells #[.slice A0 rs.length c0, .slice A1 ds.length c1] 24 (0, 0)) from (hb1.block w.heap.size (by simp)).trans (heap_alloc_new w _));
        have bx0 := (blk_cell BK1.out 0).trans rfl;
        have bx1 : w1.cell? ⟨w.heap.size, 1, none⟩ = some (.slice A1 ds.length c1) := (blk_cell BK1.out 1).trans rfl;
        clear hb1)
    | (go_at_call 17; (with_reducible refine (hull_Points.calls _ _ rs _ _ ds (pointsP rs ds) _ ?h1 hc0 ?h3 hc1 rfl).mono ?_); (case h1 => exact Kd.C_below HR.out HB1.out); (case h3 => exact Kd.C_below HD.out HB1.out); rintro e w2 ⟨v2, rfl, hR2, hb2⟩; obtain ⟨g, cap, rfl, hrow, hcap, hC2⟩ := row_at hR2 (points_pos HV.out);
        have HL := Aside0.mk (show Laid w w2 A0 c0 rs A1 c1 ds w.heap.size g (pointsP rs ds).length from ⟨pw_cell_below hb2 bx0, pw_cell_below hb2 bx1, hrow, below_then HB1.out HB1.out.size hb2⟩);
        have HC2 := Aside0.mk hC2; have bx0 := HL.out.bx0; have bx1 := HL.out.bx1; clear hb2 hR2 hrow HB1 BK1 hC2)
    | (go_at_call 19; (with_reducible refine (hull_Best.calls kb _ _ rs _ _ ds _ _ b _ ?h1 hc0 ?h3 hc1 HKB.out).mono ?_); (case h1 => exact Kd.C_below HR.out HL.out.low); (case h3 => exact Kd.C_below HD.out HL.out.low); rintro e w3 ⟨rfl, hb3⟩;
        have HL3 := Aside0.mk (HL.out.go hb3); have HC3 := Aside0.mk (Kd.C_below HC2.out hb3); clear bx0 bx1; have bx0 := HL3.out.bx0; have bx1 := HL3.out.bx1; clear hb3 HL HC2)
    | (go_at_call 21; (with_reducible refine (waveletlaw20_in.calls ki _ _ (pointsP rs ds) _ true _ ?h1 hcap HKI.out).mono ?_); (case h1 => exact HC3.out); rintro e w4 ⟨rfl, hb4⟩; have HL4 := Aside0.mk (HL3.out.go hb4.below); clear bx0 bx1; have bx0 := HL4.out.bx0; have bx1 := HL4.out.bx1; clear hb4 HL3 HC3))
  clear D1 D2 D3 D4 D5 D6 D7 bx0 bx1
  obtain ⟨a0, rfl, hc0'⟩ := c_cells HR.out (by omega)
  obtain ⟨a1, rfl, hc1'⟩ := c_cells HD.out (by have := HLD.out; omega)
  have HC0 := Aside0.mk hc0'
  have HC1 := Aside0.mk hc1'
  clear hc0' hc1'
  go_loopg [9] (rs.length + 1) (fun kq v9 w' => ∃ i : Nat, v9 = .int .i64 i ∧ Aside0 (i ≤ rs.length ∧ kq + i = rs.length + 1) ∧ Aside0 (Laid w w' (some a0) c0 rs (some a1) c1 ds w.heap.size g (pointsP rs ds).length))
  case atStart => exact ⟨0, by first | rfl | simp, ⟨by omega, by omega⟩, HL4⟩
  case round =>
    obtain ⟨i, rfl, HI, HL⟩ := hrel
    clear HL4
    have bx0 := HL.out.bx0
    have bx1 := HL.out.bx1
    by_cases hi : i < rs.length
    · have hid : (i : Int) < (ds.length : Int) := by have := HLD.out; omega
      have hir : (i : Int) < (rs.length : Int) := by omega
      have hbd : (b : Int) < (ds.length : Int) := by have := HLD.out; omega
      have hi0 : (0 : Int) ≤ (i : Int) := by omega
      have m0 := pw_cell_below HL.out.low (HC0.out i hi)
      have m1 := pw_cell_below HL.out.low (HC1.out i (by have := HLD.out; omega))
      have m2 := pw_cell_below HL.out.low (HC0.out b (by omega))
      have m3 := pw_cell_below HL.out.low (HC1.out b (by have := HLD.out; omega))
      have hle : r * el ds b + d * el rs b ≤ r * el ds i + d * el rs i := HF.out.2.1 i hi
      have c1 := cost_bd HV.out (d := d) (r := r) ⟨p1, p2, p3, p4⟩ hi
      have c2 := cost_bd HV.out (d := d) (r := r) ⟨p1, p2, p3, p4⟩ (show b < rs.length by omega)
      generalize el ds i = y1 at *
      generalize el rs i = x1 at *
      generalize el ds b = y0 at *
      generalize el rs b = x0 at *
      have w1 : IntKind.i64.wrap (r * y1) = r * y1 := by rw [IntKind.wrap_i64]; omega
      have w2 : IntKind.i64.wrap (r * y0) = r * y0 := by rw [IntKind.wrap_i64]; omega
      have w3 : IntKind.i64.wrap (d * x1) = d * x1 := by rw [IntKind.wrap_i64]; omega
      have w4 : IntKind.i64.wrap (d * x0) = d * x0 := by rw [IntKind.wrap_i64]; omega
      have w5 : IntKind.i64.wrap (r * y1 + d * x1) = r * y1 + d * x1 := by rw [IntKind.wrap_i64]; omega
      have w6 : IntKind.i64.wrap (r * y0 + d * x0) = r * y0 + d * x0 := by rw [IntKind.wrap_i64]; omega
      have w7 : decide (r * y1 + d * x1 < r * y0 + d * x0) = false := decide_eq_false (by omega)
      have hn179 : (i : Int) ≤ 200 := by omega
      clear c1 c2
      go_wp2
      go_quiet (fail)
      go_wp2
      go_roundg (gk - 1)
      case measure => have := HI.out; omega
      case rel => exact ⟨i + 1, by first | rfl | simp, ⟨by have := HI.out; omega, by have := HI.out; omega⟩, ⟨HL.out.go (pw_below_drewN (Below.refl _ _) _)⟩⟩
    · have hi' : ¬ (i : Int) < (rs.length : Int) := by omega
      have HII := Lib.hid hi
      clear hi
      obtain ⟨L, hL⟩ : ∃ L, L = (pointsP rs ds).length := ⟨_, rfl⟩
      have hLn : L ≤ 180 := by rw [hL]; exact points_len rs ds
      have hL0 : 1 ≤ L := by rw [hL]; have := points_pos HV.out; omega
      rw [← hL] at HL hcap ⊢
      have HLL := Lib.hid hL
      clear hL
      go_wp2
      obtain ⟨go, rfl⟩ : ∃ go : Nat, go = gk := ⟨_, rfl⟩
      go_loopg [10, 11, 12] (L + 1) (fun kq v10 v11 v12 w' => ∃ j : Nat, v10 = .int .i64 j ∧ Aside0 (j < L ∧ kq + j = L + 1) ∧ Aside0 (Laid w w' (some a0) c0 rs (some a1) c1 ds w.heap.size g L))
      case atStart => exact ⟨0, by first | rfl | simp, ⟨by omega, by omega⟩, HL⟩
      case round =>
        obtain ⟨j, rfl, HJ, HLj⟩ := hrel
        clear HL HI
        have bx0 := HLj.out.bx0
        have bx1 := HLj.out.bx1
        have hj0 : (0 : Int) ≤ (j : Int) := by omega
        have hj2 : (j : Int) ≤ 200 := by have := HJ.out; omega
        by_cases hj : j + 1 < L
        · obtain ⟨p, e1, hpn, hA, hcs⟩ := points_at HV.out j (by rw [← HLL.out]; omega)
          obtain ⟨m, e2, hN⟩ : ∃ m : Nat, el (pointsP rs ds) (j + 1) = (m : Int) ∧ Nxt rs ds p m := by
            rcases hcs with ⟨h, _⟩ | ⟨_, h⟩
            · rw [← HLL.out] at h; omega
            · exact h
          have r1 := HLj.out.row j (by omega)
          have r2 := HLj.out.row (j + 1) hj
          rw [e1] at r1
          rw [e2] at r2
          have hlt := hN.lt
          have hmn := hN.len
          have m0 := pw_cell_below HLj.out.low (HC0.out p hpn)
          have m1 := pw_cell_below HLj.out.low (HC1.out p (by have := HLD.out; omega))
          have m2 := pw_cell_below HLj.out.low (HC0.out m hmn)
          have m3 := pw_cell_below HLj.out.low (HC1.out m (by have := HLD.out; omega))
          have hrg := nxt_ranged HV.out hN
          have hf1 := hrg.1.1
          have hf2 := hrg.1.2.1
          have hf3 := hrg.1.2.2.1
          have hf4 := hrg.1.2.2.2
          have hbest : 1 ≤ rse rs p m → ∃ k, hull_Best.f k rs ds (fl ds p m) (rse rs p m) = some (p : Int) := fun h => by
            obtain ⟨b', h1, h2⟩ := best_fst HV.out (d := fl ds p m) (r := rse rs p m) ⟨hf1, hf2, h, hf4⟩
            obtain ⟨k, hk⟩ := (best_ev rs ds (fl ds p m) (rse rs p m)).rounds
            rw [h1, ← (fst_step HV.out hA hN h).uniq h2] at hk
            exact ⟨k, hk⟩
          simp only [fl, rse] at hf1 hf2 hf3 hf4 hbest
          have hA0 : (0 : Int) ≤ (p : Int) := by omega
          have hA1 : (0 : Int) ≤ (m : Int) := by omega
          have hA2 : (p : Int) < (rs.length : Int) := by omega
          have hA3 : (m : Int) < (rs.length : Int) := by omega
          have hA4 : (p : Int) < (ds.length : Int) := by have := HLD.out; omega
          have hA5 : (m : Int) < (ds.length : Int) := by have := HLD.out; omega
          have hjL : (j : Int) < (L : Int) := by omega
          have hjL1 : (j : Int) + 1 < (L : Int) := by omega
          have hjN : IntKind.i64.wrap ((j : Int) + 1) = (j : Int) + 1 := by rw [IntKind.wrap_i64]; omega
          have HN := Aside0.mk hN
          have HAA := Aside0.mk hA
          have HBT := Aside0.mk hbest
          have HE := Aside0.mk (And.intro e1 e2)
          have T1 := decide_eq_false (show ¬ (p : Int) < 0 by omega)
          have T2 := decide_eq_false (show ¬ (rs.length : Int) ≤ (m : Int) by omega)
          have T3 := decide_eq_false (show ¬ (m : Int) ≤ (p : Int) by omega)
          have T4 := decide_eq_false (show ¬ rs.length ≤ m by omega)
          have T5 := decide_eq_false (show ¬ m ≤ p by omega)
          have HRX := Aside0.mk (And.intro (And.intro m0 m1) (And.intro m2 m3))
          have hjt : ((j : Int) + 1).toNat = j + 1 := by omega
          clear hN hA hbest e1 e2 hcs hrg hlt hmn hpn
          generalize el ds p = y1 at *
          generalize el rs p = x1 at *
          generalize el ds m = y0 at *
          generalize el rs m = x0 at *
          by_cases hs : 1 ≤ x0 - x1
          · obtain ⟨k, hk⟩ := HBT.out hs
            have HK := Lib.hid hk
            have Z1 := decide_eq_true (show 0 < x0 - x1 by omega)
            have Z2 := decide_eq_true (show x1 < x0 by omega)
            clear hk
            go_wp2
            go_quiet (fail)
            go_wp2
            go_quiet (fail)
            go_wp2
            have HLW := Aside0.mk (pw_below_drewN (HLj.out.low))
            go_region_held3 (fun W => W.cell? ⟨w.heap.size, 0, none⟩ = some (.slice (some a0) rs.length c0) ∧ W.cell? ⟨w.heap.size, 1, none⟩ = some (.slice (some a1) ds.length c1) ∧ W.cell? ⟨g, j, none⟩ = some (.int .i64 (p : Int))) (first | go_keep | assumption)
              ((go_at_call 19; (with_reducible refine (hull_Best.calls k _ _ rs _ _ ds _ _ p _ ?_ hc0 ?_ hc1 HK.out).mono ?_); (exact Kd.C_below HR.out (HLW.out _)); (exact Kd.C_below HD.out (HLW.out _)); rintro e w5 ⟨rfl, hb5⟩; have hw5 := drew_then hb5; have s0 := pw_cell_below hw5 bx0; have s1 := pw_cell_below hw5 bx1; have s2 := pw_cell_below hw5 r1; have HL5 := Aside0.mk (HLj.out.go hw5); clear hb5 hw5))
            go_wp2
            go_roundg (gk - 1)
            case measure => have := HJ.out; omega
            case rel => exact ⟨j + 1, by first | rfl | simp, ⟨by have := HJ.out; omega, by have := HJ.out; omega⟩, HL5⟩
          · have Z1 := decide_eq_false (show ¬ 0 < x0 - x1 by omega)
            have Z2 := decide_eq_false (show ¬ x1 < x0 by omega)
            clear HBT
            go_wp2
            go_quiet (fail)
            go_wp2
            go_quiet (fail)
            go_wp2
            go_quiet (fail)
            go_wp2
            go_roundg (gk - 1)
            case measure => have := HJ.out; omega
            case rel => exact ⟨j + 1, by first | rfl | simp, ⟨by have := HJ.out; omega, by have := HJ.out; omega⟩, ⟨HLj.out.go (pw_below_drewN (Below.refl _ _) _)⟩⟩
        · obtain ⟨p, e1, hpn, hA, hcs⟩ := points_at HV.out j (by rw [← HLL.out]; exact HJ.out.1)
          have hjL := HJ.out.1
          have hN : Lst rs ds p := by
            rcases hcs with ⟨_, h⟩ | ⟨h, _⟩
            · exact h
            · rw [← HLL.out] at h; omega
          have r1 := HLj.out.row j hjL
          rw [e1] at r1
          have hbest : ∃ k, hull_Best.f k rs ds 0 1 = some (p : Int) := by
            obtain ⟨b', h1, h2⟩ := best_fst HV.out (d := 0) (r := 1) ⟨by omega, by omega, by omega, by omega⟩
            obtain ⟨k, hk⟩ := (best_ev rs ds 0 1).rounds
            rw [h1, ← (fst_last HV.out hpn hA hN).uniq h2] at hk
            exact ⟨k, hk⟩
          obtain ⟨k, hk⟩ := hbest
          have HK := Lib.hid hk
          have hjN : IntKind.i64.wrap ((L : Int) - 1) = (L : Int) - 1 := by rw [IntKind.wrap_i64]; omega
          have hjc : (1 : Int) ≤ (L : Int) := by omega
          have hjc0 : (0 : Int) ≤ (L : Int) - 1 := by omega
          have hjc1 : (L : Int) - 1 < (L : Int) := by omega
          have hjn : ((L : Int) - 1).toNat = j := by omega
          have hjn2 : L - 1 = j := by omega
          have HLW := Aside0.mk (pw_below_drewN (HLj.out.low))
          clear hk e1 hpn hA hN hcs hj
          go_wp2
          go_region_held3 (fun W => W.cell? ⟨w.heap.size, 0, none⟩ = some (.slice (some a0) rs.length c0) ∧ W.cell? ⟨w.heap.size, 1, none⟩ = some (.slice (some a1) ds.length c1) ∧ W.cell? ⟨g, j, none⟩ = some (.int .i64 (p : Int))) (first | go_keep | assumption)
            (first | (go_at_call 19; (with_reducible refine (hull_Best.calls k _ _ rs _ _ ds _ _ p _ ?_ hc0 ?_ hc1 HK.out).mono ?_); (exact Kd.C_below HR.out (HLW.out 1)); (exact Kd.C_below HD.out (HLW.out 1)); rintro e w5 ⟨rfl, hb5⟩; have hw5 := drew_then (n := 1) hb5; have s0 := pw_cell_below hw5 bx0; have s1 := pw_cell_below hw5 bx1; have s2 := pw_cell_below hw5 r1; have HL5 := Aside0.mk (HLj.out.go hw5); clear hb5 hw5) | (go_at_call 11; (with_reducible refine (waveletlaw20_exampleHolds.calls kx true _ HKX.out).mono ?_); rintro e w6 ⟨rfl, hb6⟩; have t0 := pw_cell_below hb6 s0; have t1 := pw_cell_below hb6 s1; have t2 := pw_cell_below hb6 s2; have HL6 := Aside0.mk (HL5.out.go hb6); clear hb6))
          go_wp2
          go_ret
          exact ⟨rfl, HL6.out.low⟩
set_option maxRecDepth 1000000 in
set_option maxHeartbeats 4000000 in
theorem hbest_no (A0 : Option Addr) (c0 : Nat) (rs : List Int) (A1 : Option Addr) (c1 : Nat) (ds : List Int) (d r : Int) (w : World) (hN : ¬ (Vld rs ds ∧ okPrice d r))
    (hr : Kd.C (Kd.int .i64) w A0 rs.length rs) (hc0 : rs.length ≤ c0) (hd : Kd.C (Kd.int .i64) w A1 ds.length ds) (hc1 : ds.length ≤ c1) :
    Calls Try.prog 9 #[.agg #[.slice A0 rs.length c0, .slice A1 ds.length c1], .int .i64 d, .int .i64 r] w fun e w' => e = .returned (.bool true) ∧ Below w.heap.size w w' := by
  obtain ⟨kv, hkv⟩ := (rvalid_ev rs ds).rounds
  obtain ⟨kx, hkx⟩ := example_ok.rounds
  have HKX := Lib.hid hkx
  have HR := Lib.hid hr
  have HD := Lib.hid hd
  have hu24 := Try.underlying24
  have hv : validB rs ds = false ∨ (validB rs ds = true ∧ (d < 0 ∨ (0 ≤ d ∧ 70368744177664 < d) ∨ (0 ≤ d ∧ d ≤ 70368744177664 ∧ r < 1) ∨ (0 ≤ d ∧ d ≤ 70368744177664 ∧ 1 ≤ r ∧ 65535 < r))) := by
    by_cases hV : Vld rs ds
    · refine .inr ⟨decide_eq_true hV, ?_⟩
      have : ¬ okPrice d r := fun h => hN ⟨hV, h⟩
      unfold okPrice at this
      omega
    · exact .inl (decide_eq_false hV)
  clear hkx hr hd hN
  rcases hv with hv | ⟨hv, h | ⟨h, h2⟩ | ⟨h, h2, h3⟩ | ⟨h, h2, h3, h4⟩⟩
  all_goals
    rw [hv] at hkv
    have HKV := Lib.hid hkv
    clear hkv hv
    (try have D1 := decide_eq_false (show ¬ d < 0 by omega))
    (try have D2 := decide_eq_false (show ¬ 70368744177664 < d by omega))
    (try have D3 := decide_eq_false (show ¬ r < 1 by omega))
    go_enter Try.func9, Try.ntmps9
    go_wp2_with (first
      | (go_at_call 13; (with_reducible refine (waveletref20_Valid.calls kv _ _ rs _ _ ds _ _ ?h1 hc0 ?h3 hc1 HKV.out).mono ?_); (case h1 => exact Kd.C_below HR.out (below_alloc (Below.refl _ _) _)); (case h3 => exact Kd.C_below HD.out (below_alloc (Below.refl _ _) _)); rintro e w1 ⟨rfl, hb1⟩;
          have HB1 := Aside0.mk (below_then (below_alloc (Below.refl _ _) _) (by simp) hb1); clear hb1)
      | (go_at_call 11; (with_reducible refine (waveletlaw20_exampleHolds.calls kx true _ HKX.out).mono ?_); rintro e w6 ⟨rfl, hb6⟩; have HB6 := Aside0.mk (below_then HB1.out HB1.out.size hb6); clear hb6))
    go_ret
    exact ⟨rfl, HB6.out⟩
def waveletlaw20_HullBest.f (l0_0 : List Int) (l0_1 : List Int) (a1 : Int) (a2 : Int) : Option Bool := some true
theorem waveletlaw20_HullBest.calls (A0_0 : Option Addr) (c0_0 : Nat) (l0_0 : List Int) (A0_1 : Option Addr) (c0_1 : Nat) (l0_1 : List Int) (a1 : Int) (a2 : Int) (r : Bool) (w : World) (hr0_0 : Kd.C (Kd.int .i64) w A0_0 l0_0.length l0_0) (hc0_0 : l0_0.length ≤ c0_0) (hr0_1 : Kd.C (Kd.int .i64) w A0_1 l0_1.length l0_1) (hc0_1 : l0_1.length ≤ c0_1) (h : waveletlaw20_HullBest.f l0_0 l0_1 a1 a2 = some r) :
    Calls Try.prog 9 #[.agg #[.slice A0_0 l0_0.length c0_0, .slice A0_1 l0_1.length c0_1], .int .i64 a1, .int .i64 a2] w fun e w' => e = .returned (.bool r) ∧ Below w.heap.size w w' := by
  obtain rfl : true = r := Option.some.inj h
  by_cases hN : Vld l0_0 l0_1 ∧ okPrice a1 a2
  · exact hbest_yes A0_0 c0_0 l0_0 A0_1 c0_1 l0_1 a1 a2 w hN.1 hN.2 hr0_0 hc0_0 hr0_1 hc0_1
  · exact hbest_no A0_0 c0_0 l0_0 A0_1 c0_1 l0_1 a1 a2 w hN hr0_0 hc0_0 hr0_1 hc0_1
end Go.Proofs.Ytgijikbekckanaa.P
