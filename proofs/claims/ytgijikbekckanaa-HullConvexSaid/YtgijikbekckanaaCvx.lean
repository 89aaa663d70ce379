/- The law HullConvex: for every curve its walk ends in 'true': the hull's indices, rates, distortions and slopes are ordered, no point lies below it, and its last point has the least distortion. -/
import Derived.Test.YtgijikbekckanaaBst
set_option linter.unusedVariables false
set_option linter.unusedSimpArgs false
namespace Go.Proofs.Ytgijikbekckanaa.P
open Go.RowKit Go.Proofs.YtgijikbekckanaaW.PrintWords Go.Proofs.YtgijikbekckanaaW.PrintLast Go.Proofs.YtgijikbekckanaaW.PrintMore
attribute [local go_sem] max2_int min2_int max_two min_two

/-- A call that leaves memory alone, behind a first quiet region. -/
theorem still_call {P : Program} {f : FuncId} {args : Array Value} {v : Value} (h : ∀ W, Calls P f args W fun e w' => e = .returned v ∧ w' = W) (w : World) (a n : Nat) :
    Calls P f args (w.drewN (a + n)) fun e w'' => e = .returned v ∧ ∃ m, w'' = w.drewN (a + m) :=
  (h (w.drewN (a + n))).mono fun _ _ ⟨he, hm⟩ => ⟨he, n, hm⟩
theorem points_first {rs ds : List Int} (hV : Vld rs ds) : el (pointsP rs ds) 0 = 0 := (points_chn hV).head.2
/-- Places along the hull. -/
theorem points_lt {rs ds : List Int} (hV : Vld rs ds) {k : Nat} (hk : k + 1 < (pointsP rs ds).length) : ∃ p m : Nat, el (pointsP rs ds) k = (p : Int) ∧ el (pointsP rs ds) (k + 1) = (m : Int) ∧ Ahead rs ds p ∧ Nxt rs ds p m := by
  obtain ⟨p, e1, hpn, hA, hcs⟩ := points_at hV k (by omega)
  rcases hcs with ⟨h, _⟩ | ⟨_, m, h1, h2⟩
  · omega
  · exact ⟨p, m, e1, h1, hA, h2⟩

set_option maxRecDepth 1000000 in
set_option maxHeartbeats 8000000 in
theorem convex_yes (A0 : Option Addr) (c0 : Nat) (rs : List Int) (A1 : Option Addr) (c1 : Nat) (ds : List Int) (w : World) (hV : Vld rs ds)
    (hr : Kd.C (Kd.int .i64) w A0 rs.length rs) (hc0 : rs.length ≤ c0) (hd : Kd.C (Kd.int .i64) w A1 ds.length ds) (hc1 : ds.length ≤ c1) :
    Calls Try.prog 8 #[.agg #[.slice A0 rs.length c0, .slice A1 ds.length c1]] w fun e w' => e = .returned (.bool true) ∧ Below w.heap.size w w' := by
  obtain ⟨kv, hkv⟩ := (rvalid_ev rs ds).rounds
  rw [show validB rs ds = true from decide_eq_true hV] at hkv
  obtain ⟨kx, hkx⟩ := example_ok.rounds
  have HKV := Lib.hid hkv
  have HKX := Lib.hid hkx
  have HV := Lib.hid hV
  have HR := Lib.hid hr
  have HD := Lib.hid hd
  have hn : rs.length ≤ 179 := hV.2.2.1
  have hn0 : 1 ≤ rs.length := hV.2.1
  have hld : ds.length = rs.length := hV.1.symm
  have HLD := Lib.hid hld
  have hpp := points_pos hV
  have hp180 := points_len rs ds
  have hu24 := Try.underlying24
  have P0 := decide_eq_false (show ¬ (pointsP rs ds).length = 0 by omega)
  have P1 : ((pointsP rs ds).length == 0) = false := by simp; exact List.ne_nil_of_length_pos hpp
  have P2 : (((pointsP rs ds).length : Int) == 0) = false := by rw [beq_eq_false_iff_ne]; omega
  have hpi : (0 : Int) < ((pointsP rs ds).length : Int) := by omega
  have HP := Aside0.mk hpp
  clear hkv hkx hV hr hd hld hpp
  go_enter Try.func8, Try.ntmps8
  go_wp2_with (first | (go_at_call 13; (with_reducible refine (waveletref20_Valid.calls kv _ _ rs _ _ ds true _ ?h1 hc0 ?h3 hc1 HKV.out).mono ?_); (case h1 => exact Kd.C_below HR.out (below_alloc (Below.refl _ _) _)); (case h3 => exact Kd.C_below HD.out (below_alloc (Below.refl _ _) _)); rintro e w1 ⟨rfl, hb1⟩; have HB1 := Aside0.mk (below_then (below_alloc (Below.refl _ _) _) (by simp) hb1); have BK1 := Aside0.mk (show w1.heap[w.heap.size]? = some (.cells #[.slice A0 rs.length c0, .slice A1 ds.length c1] 24 (0, 0)) from (hb1.block w.heap.size (by simp)).trans (heap_alloc_new w _)); have bx0 := (blk_cell BK1.out 0).trans rfl; have bx1 : w1.cell? ⟨w.heap.size, 1, none⟩ = some (.slice A1 ds.length c1) := (blk_cell BK1.out 1).trans rfl; clear hb1) | (go_at_call 17; (with_reducible refine (hull_Points.calls _ _ rs _ _ ds (pointsP rs ds) _ ?h1 hc0 ?h3 hc1 rfl).mono ?_); (case h1 => exact Kd.C_below HR.out HB1.out); (case h3 => exact Kd.C_below HD.out HB1.out); rintro e w2 ⟨v2, rfl, hR2, hb2⟩; obtain ⟨g, cap, rfl, hrow, hcap, hC2⟩ := row_at hR2 HP.out; have HL := Aside0.mk (show Laid w w2 A0 c0 rs A1 c1 ds w.heap.size g (pointsP rs ds).length from ⟨pw_cell_below hb2 bx0, pw_cell_below hb2 bx1, hrow, below_then HB1.out HB1.out.size hb2⟩); have r0 : w2.cell? ⟨g, 0, none⟩ = some (.int .i64 0) := (hrow 0 HP.out).trans (by rw [points_first HV.out]); clear bx0 bx1; have bx0 := HL.out.bx0; have bx1 := HL.out.bx1; clear hb2 hR2 hrow HB1 BK1 hC2))
  clear P0 P1 P2 bx0 bx1 r0 hpi
  obtain ⟨a0, rfl, hc0'⟩ := c_cells HR.out (by omega)
  obtain ⟨a1, rfl, hc1'⟩ := c_cells HD.out (by have := HLD.out; omega)
  have HC0 := Aside0.mk hc0'
  have HC1 := Aside0.mk hc1'
  clear hc0' hc1'
  obtain ⟨L, hL⟩ : ∃ L, L = (pointsP rs ds).length := ⟨_, rfl⟩
  have hL0 : 1 ≤ L := by rw [hL]; have := points_pos HV.out; omega
  rw [← hL] at HL hcap hp180 HP ⊢
  have HLL := Lib.hid hL
  clear hL
  go_loopg [4] (L + 1) (fun kq v4 w' => ∃ i : Nat, v4 = .int .i64 i ∧ Aside0 (i ≤ L ∧ kq + i = L + 1) ∧ Aside0 (Laid w w' (some a0) c0 rs (some a1) c1 ds w.heap.size g L))
  case atStart => exact ⟨0, by first | rfl | simp, ⟨by omega, by omega⟩, HL⟩
  case round =>
    obtain ⟨i, rfl, HI, HLi⟩ := hrel
    clear HL
    have bx0 := HLi.out.bx0
    have bx1 := HLi.out.bx1
    have hi2 : (i : Int) ≤ 200 := by have := HI.out; omega
    have hi0 : (0 : Int) ≤ (i : Int) := by omega
    by_cases hi : i < L
    · have hir : (i : Int) < (L : Int) := by omega
      obtain ⟨p, e1, hpn, hA, hcs⟩ := points_at HV.out i (by rw [← HLL.out]; exact hi)
      have r1 := HLi.out.row i hi
      rw [e1] at r1
      have T1 := decide_eq_false (show ¬ (p : Int) < 0 by omega)
      have T2 := decide_eq_false (show ¬ (rs.length : Int) ≤ (p : Int) by omega)
      have T3 := decide_eq_false (show ¬ rs.length ≤ p by omega)
      clear hA hcs
      rcases Nat.eq_zero_or_pos i with h0 | h0
      · have T4 := decide_eq_false (show ¬ (0 : Int) < (i : Int) by omega)
        have T5 := decide_eq_false (show ¬ 0 < i by omega)
        have H0 := Lib.hid h0
        clear h0 e1 hpn
        go_wp2
        go_quiet (fail)
        go_wp2
        go_roundg (gk - 1)
        case measure => have := HI.out; omega
        case rel => exact ⟨i + 1, by first | rfl | simp, ⟨by have := HI.out; omega, by have := HI.out; omega⟩, ⟨HLi.out.go (pw_below_drewN (Below.refl _ _) _)⟩⟩
      · obtain ⟨q, hq⟩ : ∃ q, i = q + 1 := ⟨i - 1, by omega⟩
        obtain ⟨p0, p1, f1, f2, _, hN⟩ := points_lt HV.out (k := q) (by rw [← HLL.out]; omega)
        rw [← hq, e1] at f2
        have hlt := hN.lt
        have r2 := HLi.out.row q (by omega)
        rw [f1] at r2
        have T4 := decide_eq_true (show (0 : Int) < (i : Int) by omega)
        have T5 := decide_eq_true (show 0 < i by omega)
        have T6 := decide_eq_false (show ¬ (p : Int) ≤ (p0 : Int) by omega)
        have T7 := decide_eq_false (show ¬ p ≤ p0 by omega)
        have hw : IntKind.i64.wrap ((i : Int) - 1) = (i : Int) - 1 := by rw [IntKind.wrap_i64]; omega
        have hw0 : (0 : Int) ≤ (i : Int) - 1 := by omega
        have hw1 : (1 : Int) ≤ (i : Int) := by omega
        have hw2 : (i : Int) - 1 < (L : Int) := by omega
        have hw3 : ((i : Int) - 1).toNat = q := by omega
        have hw4 : i - 1 = q := by omega
        clear h0 e1 f1 f2 hN hlt hq hpn
        go_wp2
        go_quiet (fail)
        go_wp2
        go_roundg (gk - 1)
        case measure => have := HI.out; omega
        case rel => exact ⟨i + 1, by first | rfl | simp, ⟨by have := HI.out; omega, by have := HI.out; omega⟩, ⟨HLi.out.go (pw_below_drewN (Below.refl _ _) _)⟩⟩
    · have hi' : ¬ (i : Int) < (L : Int) := by omega
      have HII := Lib.hid hi
      clear hi
      go_wp2
      obtain ⟨go, rfl⟩ : ∃ go : Nat, go = gk := ⟨_, rfl⟩
      go_loopg [5, 6, 7, 8, 9, 10] (L + 1) (fun kq v5 v6 v7 v8 v9 v10 w' => ∃ j : Nat, v5 = .int .i64 j ∧ Aside0 (j < L ∧ kq + j = L + 1) ∧ Aside0 (Laid w w' (some a0) c0 rs (some a1) c1 ds w.heap.size g L))
      case atStart => exact ⟨0, by first | rfl | simp, ⟨by omega, by omega⟩, HLi⟩
      case round =>
        obtain ⟨j, rfl, HJ, HLj⟩ := hrel
        obtain ⟨go2, rfl⟩ : ∃ go2 : Nat, go2 = gk := ⟨_, rfl⟩
        clear HLi HI bx0 bx1
        have bx0 := HLj.out.bx0
        have bx1 := HLj.out.bx1
        have hj0 : (0 : Int) ≤ (j : Int) := by omega
        have hj2 : (j : Int) ≤ 200 := by have := HJ.out; omega
        by_cases hj : j + 1 < L
        · obtain ⟨p, m, e1, e2, hA, hN⟩ := points_lt HV.out (k := j) (by rw [← HLL.out]; exact hj)
          have r1 := HLj.out.row j (by omega)
          have r2 := HLj.out.row (j + 1) hj
          rw [e1] at r1
          rw [e2] at r2
          have hlt := hN.lt
          have hmn := hN.len
          have hpn : p < rs.length := by omega
          have m0 := pw_cell_below HLj.out.low (HC0.out p hpn)
          have m1 := pw_cell_below HLj.out.low (HC1.out p (by have := HLD.out; omega))
          have m2 := pw_cell_below HLj.out.low (HC0.out m hmn)
          have m3 := pw_cell_below HLj.out.low (HC1.out m (by have := HLD.out; omega))
          have hrg := nxt_ranged HV.out hN
          have hf1 := hrg.1.1
          have hf2 := hrg.1.2.1
          have hf3 := hrg.1.2.2.1
          have hf4 := hrg.1.2.2.2
          have hf5 := hrg.2
          simp only [fl, rse] at hf1 hf2 hf3 hf4 hf5
          have hbel : ∀ k, k < rs.length → el rs p ≤ el rs k → el ds k < el ds p → stP (el ds p - el ds k) (el rs k - el rs p) (el ds p - el ds m) (el rs m - el rs p) ≤ 0 := fun k hk h1 h2 => none_below HV.out hA hN hk h1 h2
          have hprev : ∀ q o : Nat, j = q + 1 → el (pointsP rs ds) q = (o : Int) → stP (el ds o - el ds p) (el rs p - el rs o) (el ds p - el ds m) (el rs m - el rs p) = 1 ∧ o < rs.length := fun q o hq ho => by
            obtain ⟨p0, p1, f1, f2, _, hM⟩ := points_lt HV.out (k := q) (by rw [← HLL.out]; omega)
            rw [← hq, e1] at f2
            rw [ho] at f1
            obtain rfl : o = p0 := by omega
            obtain rfl : p = p1 := by omega
            exact ⟨slopes_fall HV.out hM hN, by have := hM.len; have := hM.lt; omega⟩
          have HBEL := Aside0.mk hbel
          have hA0 : (0 : Int) ≤ (p : Int) := by omega
          have hA1 : (0 : Int) ≤ (m : Int) := by omega
          have hA2 : (p : Int) < (rs.length : Int) := by omega
          have hA3 : (m : Int) < (rs.length : Int) := by omega
          have hA4 : (p : Int) < (ds.length : Int) := by have := HLD.out; omega
          have hA5 : (m : Int) < (ds.length : Int) := by have := HLD.out; omega
          have hjL : (j : Int) < (L : Int) := by omega
          have hjL1 : (j : Int) + 1 < (L : Int) := by omega
          have hjN : IntKind.i64.wrap ((j : Int) + 1) = (j : Int) + 1 := by rw [IntKind.wrap_i64]; omega
          have hjt : ((j : Int) + 1).toNat = j + 1 := by omega
          have HN := Aside0.mk hN
          have HAA := Aside0.mk hA
          have HPN := Aside0.mk hpn
          have T1 := decide_eq_false (show ¬ el ds p - el ds m ≤ 0 by omega)
          have T2 := decide_eq_false (show ¬ el ds p ≤ el ds m by omega)
          have hWD : IntKind.i64.wrap (el ds p - el ds m) = el ds p - el ds m := by rw [IntKind.wrap_i64]; omega
          have hWR : IntKind.i64.wrap (el rs m - el rs p) = el rs m - el rs p := by rw [IntKind.wrap_i64]; omega
          have HPV := Aside0.mk hprev
          clear hN hA hbel hprev e1 e2 hrg hlt hmn hpn
          obtain ⟨y1, hy1⟩ : ∃ y, y = el ds p := ⟨_, rfl⟩
          obtain ⟨x1, hx1⟩ : ∃ y, y = el rs p := ⟨_, rfl⟩
          obtain ⟨y0, hy0⟩ : ∃ y, y = el ds m := ⟨_, rfl⟩
          obtain ⟨x0, hx0⟩ : ∃ y, y = el rs m := ⟨_, rfl⟩
          rw [← hy1] at m1 hf1 hf2 hf5 T1 T2 hWD HBEL HPV
          rw [← hx1] at m0 hf3 hf4 hWR HBEL HPV
          rw [← hy0] at m3 hf1 hf2 hf5 T1 T2 hWD HBEL HPV
          rw [← hx0] at m2 hf3 hf4 hWR HBEL HPV
          have HY1 := Lib.hid hy1
          have HX1 := Lib.hid hx1
          have HY0 := Lib.hid hy0
          have HX0 := Lib.hid hx0
          clear hy1 hx1 hy0 hx0
          rcases Nat.eq_zero_or_pos j with h0 | h0
          case' inl =>
            have T4 := decide_eq_false (show ¬ (0 : Int) < (j : Int) by omega)
            have T5 := decide_eq_false (show ¬ 0 < j by omega)
            have H0 := Lib.hid h0
            clear h0
            go_wp2
            go_quiet (fail)
            go_wp2
            go_quiet (fail)
            go_wp2
            go_quiet (fail)
            go_wp2
          case' inr =>
            obtain ⟨q, hq⟩ : ∃ q, j = q + 1 := ⟨j - 1, by omega⟩
            obtain ⟨o, _, f1, _⟩ := points_lt HV.out (k := q) (by rw [← HLL.out]; omega)
            obtain ⟨hst, hon⟩ := HPV.out q o hq f1
            have r3 := HLj.out.row q (by omega)
            rw [f1] at r3
            have n0 := pw_cell_below HLj.out.low (HC0.out o hon)
            have n1 := pw_cell_below HLj.out.low (HC1.out o (by have := HLD.out; omega))
            have do1 := HV.out.dist hon
            have ro1 := HV.out.rate hon
            have dp1 : 0 ≤ y1 ∧ y1 ≤ 70368744177664 := by rw [HY1.out]; exact HV.out.dist HPN.out
            have rp1 : 0 ≤ x1 ∧ x1 ≤ 65535 := by rw [HX1.out]; exact HV.out.rate HPN.out
            generalize el ds o = yo at *
            generalize el rs o = xo at *
            have hW1 : IntKind.i64.wrap (yo - y1) = yo - y1 := by rw [IntKind.wrap_i64]; omega
            have hW2 : IntKind.i64.wrap (x1 - xo) = x1 - xo := by rw [IntKind.wrap_i64]; omega
            have T8 : (stP (yo - y1) (x1 - xo) (y1 - y0) (x0 - x1) != 1) = false := by rw [hst]; rfl
            have hO0 : (0 : Int) ≤ (o : Int) := by omega
            have hO1 : (o : Int) < (rs.length : Int) := by omega
            have hO2 : (o : Int) < (ds.length : Int) := by have := HLD.out; omega
            have T4 := decide_eq_true (show (0 : Int) < (j : Int) by omega)
            have T5 := decide_eq_true (show 0 < j by omega)
            have hw : IntKind.i64.wrap ((j : Int) - 1) = (j : Int) - 1 := by rw [IntKind.wrap_i64]; omega
            have hw0 : (0 : Int) ≤ (j : Int) - 1 := by omega
            have hw1 : (1 : Int) ≤ (j : Int) := by omega
            have hw2 : (j : Int) - 1 < (L : Int) := by omega
            have hw3 : ((j : Int) - 1).toNat = q := by omega
            have hw4 : j - 1 = q := by omega
            clear hst hq f1 do1 ro1 dp1 rp1 h0 hon
            go_wp2
            go_quiet (fail)
            go_wp2
            go_quiet (fail)
            go_wp2
            go_quiet ((go_at_call 14; exact still_call (fun W => steeper_quiet _ _ _ _ W) _ _ _))
            go_wp2
          all_goals
            have hdp : y1 = el ds p := HY1.out
            go_loopg [10] (rs.length + 1) (fun kq v10 w' => ∃ k : Nat, v10 = .int .i64 k ∧ Aside0 (k ≤ rs.length ∧ kq + k = rs.length + 1) ∧ Aside0 (Laid w w' (some a0) c0 rs (some a1) c1 ds w.heap.size g L))
            case atStart => exact ⟨0, by first | rfl | simp, ⟨by omega, by omega⟩, ⟨HLj.out.go (pw_below_drewN (pw_below_drewN (pw_below_drewN (Below.refl _ _) _) _) _)⟩⟩
            case round =>
              obtain ⟨k, rfl, HK, HLk⟩ := hrel
              have HDP := Lib.hid hdp
              clear hdp
              have bx0k := HLk.out.bx0
              have bx1k := HLk.out.bx1
              have hk0 : (0 : Int) ≤ (k : Int) := by omega
              have hk2 : (k : Int) ≤ 200 := by have := HK.out; omega
              by_cases hk : k < rs.length
              · have hkr : (k : Int) < (rs.length : Int) := by omega
                have hkd : (k : Int) < (ds.length : Int) := by have := HLD.out; omega
                have k0 := pw_cell_below HLk.out.low (HC0.out k hk)
                have k1 := pw_cell_below HLk.out.low (HC1.out k (by have := HLD.out; omega))
                have k2 := pw_cell_below HLk.out.low (HC0.out p HPN.out)
                have k3 := pw_cell_below HLk.out.low (HC1.out p (by have := HLD.out; have := HPN.out; omega))
                have k4 := pw_cell_below HLk.out.low (HC0.out m (by omega))
                rw [← HX1.out] at k2
                rw [← HY1.out] at k3
                rw [← HX0.out] at k4
                have hb := HBEL.out k hk
                have dk1 := HV.out.dist hk
                have rk1 := HV.out.rate hk
                have dp1 : 0 ≤ y1 ∧ y1 ≤ 70368744177664 := by rw [HY1.out]; exact HV.out.dist HPN.out
                have rp1 : 0 ≤ x1 ∧ x1 ≤ 65535 := by rw [HX1.out]; exact HV.out.rate HPN.out
                generalize el ds k = yk at *
                generalize el rs k = xk at *
                have hV1 : IntKind.i64.wrap (y1 - yk) = y1 - yk := by rw [IntKind.wrap_i64]; omega
                have hV2 : IntKind.i64.wrap (xk - x1) = xk - x1 := by rw [IntKind.wrap_i64]; omega
                rcases (show xk < x1 ∨ (x1 ≤ xk ∧ x0 < xk) ∨ (x1 ≤ xk ∧ xk ≤ x0 ∧ y1 ≤ yk) ∨ (x1 ≤ xk ∧ xk ≤ x0 ∧ yk < y1) by omega) with h | ⟨h, h2⟩ | ⟨h, h2, h3⟩ | ⟨h, h2, h3⟩
                case inl =>
                 as_aux_lemma =>
                  have S1 := decide_eq_false (show ¬ x1 ≤ xk by omega)
                  clear hb dk1 rk1 dp1 rp1
                  go_wp2
                  go_quiet (fail)
                  go_wp2
                  go_roundg (gk - 1)
                  case measure => have := HK.out; omega
                  case rel => exact ⟨k + 1, by first | rfl | simp, ⟨by have := HK.out; omega, by have := HK.out; omega⟩, ⟨HLk.out.go (pw_below_drewN (Below.refl _ _) _)⟩⟩
                case inr.inl =>
                 as_aux_lemma =>
                  have S1 := decide_eq_true h
                  have S2 := decide_eq_false (show ¬ xk ≤ x0 by omega)
                  clear hb dk1 rk1 dp1 rp1
                  go_wp2
                  go_quiet (fail)
                  go_wp2
                  go_roundg (gk - 1)
                  case measure => have := HK.out; omega
                  case rel => exact ⟨k + 1, by first | rfl | simp, ⟨by have := HK.out; omega, by have := HK.out; omega⟩, ⟨HLk.out.go (pw_below_drewN (Below.refl _ _) _)⟩⟩
                case inr.inr.inl =>
                 as_aux_lemma =>
                  have S1 := decide_eq_true h
                  have S2 := decide_eq_true h2
                  have S3 := decide_eq_false (show ¬ yk < y1 by omega)
                  clear hb dk1 rk1 dp1 rp1
                  go_wp2
                  go_quiet (fail)
                  go_wp2
                  go_roundg (gk - 1)
                  case measure => have := HK.out; omega
                  case rel => exact ⟨k + 1, by first | rfl | simp, ⟨by have := HK.out; omega, by have := HK.out; omega⟩, ⟨HLk.out.go (pw_below_drewN (Below.refl _ _) _)⟩⟩
                case inr.inr.inr =>
                 as_aux_lemma =>
                  have S1 := decide_eq_true h
                  have S2 := decide_eq_true h2
                  have S3 := decide_eq_true h3
                  have hst := hb h h3
                  have S4 := decide_eq_false (show ¬ 0 < stP (y1 - yk) (xk - x1) (y1 - y0) (x0 - x1) by omega)
                  clear hb hst dk1 rk1 dp1 rp1
                  go_wp2
                  go_quiet ((go_at_call 14; exact Calls.quiet_of_same (steeper_quiet _ _ _ _ _)))
                  go_wp2
                  go_roundg (gk - 1)
                  case measure => have := HK.out; omega
                  case rel => exact ⟨k + 1, by first | rfl | simp, ⟨by have := HK.out; omega, by have := HK.out; omega⟩, ⟨HLk.out.go (pw_below_drewN (Below.refl _ _) _)⟩⟩
              · have hk' : ¬ (k : Int) < (rs.length : Int) := by omega
                have HKK := Lib.hid hk
                clear hk
                go_wp2
                go_roundg (go2 - 1)
                case measure => have := HJ.out; omega
                case rel => exact ⟨j + 1, by first | rfl | simp, ⟨by have := HJ.out; omega, by have := HJ.out; omega⟩, HLk⟩
        · as_aux_lemma =>
          have hjL : j < L := HJ.out.1
          obtain ⟨p, e1, hpn, hA, hcs⟩ := points_at HV.out j (by rw [← HLL.out]; exact hjL)
          have hN : Lst rs ds p := by
            rcases hcs with ⟨_, h⟩ | ⟨h, _⟩
            · exact h
            · rw [← HLL.out] at h; omega
          have r1 := HLj.out.row j hjL
          rw [e1] at r1
          have m1 := pw_cell_below HLj.out.low (HC1.out p (by have := HLD.out; omega))
          have hlst : ∀ k, k < rs.length → el ds p ≤ el ds k := fun k hk => lst_least HV.out hpn hA hN hk
          have HLS := Aside0.mk hlst
          have hA0 : (0 : Int) ≤ (p : Int) := by omega
          have hA4 : (p : Int) < (ds.length : Int) := by have := HLD.out; omega
          have hjN : IntKind.i64.wrap ((L : Int) - 1) = (L : Int) - 1 := by rw [IntKind.wrap_i64]; omega
          have hjc : (1 : Int) ≤ (L : Int) := by omega
          have hjc0 : (0 : Int) ≤ (L : Int) - 1 := by omega
          have hjc1 : (L : Int) - 1 < (L : Int) := by omega
          have hjn : ((L : Int) - 1).toNat = j := by omega
          have hjn2 : L - 1 = j := by omega
          have hj3 : ¬ (j : Int) + 1 < (L : Int) := by omega
          clear e1 hpn hA hN hcs hj hlst
          generalize el ds p = y1 at *
          go_wp2
          go_quiet (fail)
          go_wp2
          clear hjn hjn2 hjN
          go_loopg [12] (rs.length + 1) (fun kq v12 w' => ∃ k : Nat, v12 = .int .i64 k ∧ Aside0 (k ≤ rs.length ∧ kq + k = rs.length + 1) ∧ Aside0 (Laid w w' (some a0) c0 rs (some a1) c1 ds w.heap.size g L))
          case atStart => exact ⟨0, by first | rfl | simp, ⟨by omega, by omega⟩, ⟨HLj.out.go (pw_below_drewN (Below.refl _ _) _)⟩⟩
          case round =>
            obtain ⟨k, rfl, HK, HLk⟩ := hrel
            have bx0k := HLk.out.bx0
            have bx1k := HLk.out.bx1
            have hk0 : (0 : Int) ≤ (k : Int) := by omega
            have hk2 : (k : Int) ≤ 200 := by have := HK.out; omega
            by_cases hk : k < rs.length
            · have hkd : (k : Int) < (ds.length : Int) := by have := HLD.out; omega
              have k1 := pw_cell_below HLk.out.low (HC1.out k (by have := HLD.out; omega))
              have hb := HLS.out k hk
              generalize el ds k = yk at *
              have S1 := decide_eq_false (show ¬ yk < y1 by omega)
              clear hb
              go_wp2
              go_roundg (gk - 1)
              case measure => have := HK.out; omega
              case rel => exact ⟨k + 1, by first | rfl | simp, ⟨by have := HK.out; omega, by have := HK.out; omega⟩, HLk⟩
            · have hk' : ¬ (k : Int) < (ds.length : Int) := by have := HLD.out; omega
              have HKK := Lib.hid hk
              clear hk
              go_wp2_with (go_at_call 11; (with_reducible refine (waveletlaw20_exampleHolds.calls kx true _ HKX.out).mono ?_); rintro e w6 ⟨rfl, hb6⟩; have HB6 := Aside0.mk (below_then HLk.out.low HLk.out.low.size hb6); clear hb6)
              go_ret
              exact ⟨rfl, HB6.out⟩
set_option maxRecDepth 1000000 in
set_option maxHeartbeats 4000000 in
theorem convex_no (A0 : Option Addr) (c0 : Nat) (rs : List Int) (A1 : Option Addr) (c1 : Nat) (ds : List Int) (w : World) (hV : ¬ Vld rs ds)
    (hr : Kd.C (Kd.int .i64) w A0 rs.length rs) (hc0 : rs.length ≤ c0) (hd : Kd.C (Kd.int .i64) w A1 ds.length ds) (hc1 : ds.length ≤ c1) :
    Calls Try.prog 8 #[.agg #[.slice A0 rs.length c0, .slice A1 ds.length c1]] w fun e w' => e = .returned (.bool true) ∧ Below w.heap.size w w' := by
  obtain ⟨kv, hkv⟩ := (rvalid_ev rs ds).rounds
  rw [show validB rs ds = false from decide_eq_false hV] at hkv
  obtain ⟨kx, hkx⟩ := example_ok.rounds
  have HKV := Lib.hid hkv
  have HKX := Lib.hid hkx
  have HR := Lib.hid hr
  have HD := Lib.hid hd
  have hu24 := Try.underlying24
  clear hkv hkx hr hd hV
  go_enter Try.func8, Try.ntmps8
  go_wp2_with (first | (go_at_call 13; (with_reducible refine (waveletref20_Valid.calls kv _ _ rs _ _ ds _ _ ?h1 hc0 ?h3 hc1 HKV.out).mono ?_); (case h1 => exact Kd.C_below HR.out (below_alloc (Below.refl _ _) _)); (case h3 => exact Kd.C_below HD.out (below_alloc (Below.refl _ _) _)); rintro e w1 ⟨rfl, hb1⟩; have HB1 := Aside0.mk (below_then (below_alloc (Below.refl _ _) _) (by simp) hb1); clear hb1) | (go_at_call 11; (with_reducible refine (waveletlaw20_exampleHolds.calls kx true _ HKX.out).mono ?_); rintro e w6 ⟨rfl, hb6⟩; have HB6 := Aside0.mk (below_then HB1.out HB1.out.size hb6); clear hb6))
  go_ret
  exact ⟨rfl, HB6.out⟩
def waveletlaw20_HullConvex.f (l0_0 : List Int) (l0_1 : List Int) : Option Bool := some true
theorem waveletlaw20_HullConvex.calls (A0_0 : Option Addr) (c0_0 : Nat) (l0_0 : List Int) (A0_1 : Option Addr) (c0_1 : Nat) (l0_1 : List Int) (r : Bool) (w : World) (hr0_0 : Kd.C (Kd.int .i64) w A0_0 l0_0.length l0_0) (hc0_0 : l0_0.length ≤ c0_0) (hr0_1 : Kd.C (Kd.int .i64) w A0_1 l0_1.length l0_1) (hc0_1 : l0_1.length ≤ c0_1) (h : waveletlaw20_HullConvex.f l0_0 l0_1 = some r) :
    Calls Try.prog 8 #[.agg #[.slice A0_0 l0_0.length c0_0, .slice A0_1 l0_1.length c0_1]] w fun e w' => e = .returned (.bool r) ∧ Below w.heap.size w w' := by
  obtain rfl : true = r := Option.some.inj h
  by_cases hN : Vld l0_0 l0_1
  · exact convex_yes A0_0 c0_0 l0_0 A0_1 c0_1 l0_1 w hN hr0_0 hc0_0 hr0_1 hc0_1
  · exact convex_no A0_0 c0_0 l0_0 A0_1 c0_1 l0_1 w hN hr0_0 hc0_0 hr0_1 hc0_1
end Go.Proofs.Ytgijikbekckanaa.P
