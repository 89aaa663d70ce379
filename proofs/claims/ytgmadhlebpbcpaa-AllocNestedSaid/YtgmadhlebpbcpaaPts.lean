/- (Written by wip/gen/hull2alloc.py from wip/hull/Pts.lean.) -/
/- What hull.Points answers: for every curve, the list of the points that the search finds, in plain numbers. -/
import Derived.Test.YtgmadhlebpbcpaaPtb
import Derived.LoopTactic
import Derived.WalkSpells
import Derived.Outline
import Derived.Lib.Hide
set_option linter.unusedVariables false
set_option linter.unusedSimpArgs false
namespace Go.Proofs.Ytgmadhlebpbcpaa.P
open Go.RowKit Go.Proofs.YtgmadhlebpbcpaaW.PrintWords Go.Proofs.YtgmadhlebpbcpaaW.PrintLast Go.Proofs.YtgmadhlebpbcpaaW.PrintMore
attribute [local go_sem] max2_int min2_int max_two min_two

/-- The list so far, its last point, and what is still to come. -/
def PInv (rs ds : List Int) (l : List Int) (i kq : Nat) : Prop := i < rs.length ∧ l.length ≤ i + 1 ∧ ∃ (pre : List Int) (f : Nat), l = pre ++ [(i : Int)] ∧ pre ++ chainP rs ds f i = chainP rs ds rs.length 0 ∧ rs.length ≤ f + i ∧ kq = f + 1

set_option maxRecDepth 1000000 in
set_option maxHeartbeats 4000000 in
theorem points_walk (A0 : Option Addr) (c0 : Nat) (rs : List Int) (A1 : Option Addr) (c1 : Nat) (ds : List Int) (w : World) (hV : Vld rs ds)
    (hr : Kd.C (Kd.int .i64) w A0 rs.length rs) (hc0 : rs.length ≤ c0) (hd : Kd.C (Kd.int .i64) w A1 ds.length ds) (hc1 : ds.length ≤ c1) :
    Calls Try.prog 27 #[.agg #[.slice A0 rs.length c0, .slice A1 ds.length c1]] w fun e w' => ∃ v0_ : Value, e = .returned v0_ ∧ Kd.R (Kd.int .i64) 3 w' w.heap.size (fun _ => True) v0_ (chainP rs ds rs.length 0) ∧ Below w.heap.size w w' := by
  obtain ⟨k, hk⟩ := (valid_ev rs ds).rounds
  rw [show validB rs ds = true from decide_eq_true hV] at hk
  have HK := Lib.hid hk
  have HV := Lib.hid hV
  have HR := Lib.hid hr
  have HD := Lib.hid hd
  clear hk hV hr hd
  have hu37 := Try.underlying37
  go_enter Try.func27, Try.ntmps27
  go_wp2_with (go_at_call 26; (with_reducible refine (hull_Valid.calls k _ _ rs _ _ ds true _ ?h1 ?h2 ?h3 ?h4 HK.out).mono ?_); (case h1 => exact Kd.C_below HR.out (below_alloc (Below.refl _ _) _)); (case h2 => exact hc0); (case h3 => exact Kd.C_below HD.out (below_alloc (Below.refl _ _) _)); (case h4 => exact hc1); rintro e w1 ⟨rfl, hb1⟩)
  have HB0 := Aside0.mk (below_then (below_alloc (Below.refl _ _) _) (by simp) hb1)
  have hsz : w.heap.size < w1.heap.size := by have := hb1.size; simp at this; omega
  have BK := Aside0.mk (show w1.heap[w.heap.size]? = some (.cells #[.slice A0 rs.length c0, .slice A1 ds.length c1] 37 (0, 0)) from (hb1.block w.heap.size (by simp)).trans (heap_alloc_new w _))
  clear hb1
  go_loopg [3] (rs.length + 1) (fun kq v3 w' => ∃ (l : List Int) (i : Nat), Aside0 (PInv rs ds l i kq) ∧ Aside0 (Kd.R (Kd.int .i64) 3 w' w.heap.size (fun _ => True) v3 l) ∧ Aside0 (w'.heap[w.heap.size]? = some (.cells #[.slice A0 rs.length c0, .slice A1 ds.length c1] 37 (0, 0))) ∧ Aside0 (Below w.heap.size w w'))
  case atStart =>
    refine ⟨[0], 0, ⟨⟨by have := HV.out.2.1; omega, by simp, [], rs.length, rfl, rfl, by omega, rfl⟩⟩, ⟨?_⟩, ⟨(heap_alloc_old w1 _ hsz).trans BK.out⟩, ⟨below_alloc HB0.out _⟩⟩
    exact Kd.R_of_own (h1 := fun _ => rfl) ⟨rfl, .inr ⟨w1.heap.size, 1, #[.int .i64 0], rfl, by omega, heap_alloc_new w1 _, by simp, by simp [maxLen], rfl, rfl⟩⟩ (fun _ _ => trivial)
  case round =>
    obtain ⟨l, i, HP, HO, HX, HB⟩ := hrel
    obtain ⟨go, rfl⟩ : ∃ go : Nat, go = gk := ⟨_, rfl⟩
    clear HB0 BK hsz
    obtain ⟨m, hm⟩ : ∃ m, l.length = m + 1 := by
      obtain ⟨_, _, pre, f, rfl, _⟩ := HP.out
      exact ⟨pre.length, by simp⟩
    have hown := Kd.own_of_R HO.out
    obtain ⟨g, cap, hv3, _, _⟩ := hown.form (by omega)
    have hcell : wr.cell? ⟨g, m, none⟩ = some (.int .i64 (i : Int)) := by
      have := hown.cells (g := g) (by rw [hv3]; rfl) m (.int .i64 (i : Int)) (by
        obtain ⟨_, _, pre, f, rfl, _⟩ := HP.out
        simp at hm
        subst hm
        simp [encs])
      rw [add_plain] at this
      exact this
    obtain rfl : u3 = .slice (some ⟨g, 0, none⟩) (m + 1) cap := by rw [hv3, hm]
    have HO1 := Aside0.mk hown
    have HM := Lib.hid hm
    have hgl : g < wr.heap.size := own_lt hown g rfl
    have hm1 : (m : Int) + 1 ≤ 200 := by
      have := HP.out.1; have := HP.out.2.1; have := HV.out.2.2.1; omega
    have hi1 : (i : Int) ≤ 200 := by
      have := HP.out.1; have := HV.out.2.2.1; omega
    clear hown hv3 hm
    have hi : i < rs.length := HP.out.1
    have hn := HV.out.2.2.1
    have hld := HV.out.1
    obtain ⟨a0, rfl, h0⟩ := c_cells HR.out (by omega)
    obtain ⟨a1, rfl, h1⟩ := c_cells HD.out (by omega)
    have H1 := Aside0.mk h1
    clear h0 h1
    have HLD := Lib.hid hld
    have hlt8 : (i : Int) < (ds.length : Int) := by omega
    clear hld
    go_wp2
    obtain ⟨wo, rfl⟩ : ∃ wo : World, wo = wr := ⟨_, rfl⟩
    go_loopg [7] (rs.length) (fun kq v7 w' => ∃ (j : Nat) (nx : Int), v7 = .int .i64 j ∧ Aside0 (scanP rs ds i (rs.length - j) j nx = nextP rs ds i ∧ i < j ∧ j ≤ rs.length ∧ kq + j = rs.length + (i + 1) ∧ -1 ≤ nx ∧ nx < (j : Int)) ∧
      Aside0 (w'.heap[wo.heap.size]? = some (.cells #[.int .i64 (i : Int)] 3 (0, 0))) ∧ Aside0 (w'.heap[wo.heap.size + 1]? = some (.cells #[.int .i64 nx] 3 (0, 0))) ∧
      Aside0 (w'.ownsRow w.heap.size 3 1 (.slice (some ⟨g, 0, none⟩) (m + 1) cap) l.length (encs (Value.int .i64) l)) ∧
      Aside0 (w'.heap[w.heap.size]? = some (.cells #[.slice (some a0) rs.length c0, .slice (some a1) ds.length c1] 37 (0, 0))) ∧ Aside0 (Below w.heap.size w w'))
    case atStart =>
      refine ⟨i + 1, -1, by first | rfl | simp, ⟨rfl, by omega, by omega, by omega, by omega, by omega⟩, ⟨?_⟩, ⟨?_⟩, ⟨(HO1.out.alloc _).alloc _⟩, ⟨?_⟩, ⟨below_alloc (below_alloc HB.out _) _⟩⟩
      · rw [heap_alloc_old _ _ (by simp)]; exact heap_alloc_new wo _
      · have := heap_alloc_new (wo.alloc (.cells #[.int .i64 (i : Int)] 3)) (.cells #[.int .i64 (-1)] 3)
        simpa using this
      · rw [heap_alloc_old _ _ (by have := blk_lt HX.out; simp; omega), heap_alloc_old _ _ (blk_lt HX.out)]; exact HX.out
    case round =>
      obtain ⟨j, nx, rfl, HS, HI, HN, HO2, HX2, HB2⟩ := hrel
      clear HO HO1 HX hcell
      have hwo : w.heap.size < wo.heap.size := by have := HB.out.size; have := hgl; have := own_base HO2.out g rfl; omega
      clear HB
      have kx0 := (blk_cell HX2.out 0).trans rfl
      have kx1 : wr.cell? ⟨w.heap.size, 1, none⟩ = some (.slice (some a1) ds.length c1) := (blk_cell HX2.out 1).trans rfl
      have ki : wr.cell? ⟨wo.heap.size, 0, none⟩ = some (.int .i64 (i : Int)) := (blk_cell HI.out 0).trans rfl
      have kn : wr.cell? ⟨wo.heap.size + 1, 0, none⟩ = some (.int .i64 nx) := (blk_cell HN.out 0).trans rfl
      have kf := blk_frozen HN.out 0
      clear kx0
      by_cases hj : j < rs.length
      · have hjd : j < ds.length := by have := HLD.out; omega
        have hid : i < ds.length := by have := HLD.out; omega
        have kj := pw_cell_below HB2.out (H1.out j hjd)
        have kii := pw_cell_below HB2.out (H1.out i hid)
        have hlj : (j : Int) < (ds.length : Int) := by omega
        have hbb : ∀ n, Calls Try.prog 33 #[.int .i64 (j : Int), .pointer (some ⟨wo.heap.size + 1, 0, none⟩), .pointer (some ⟨w.heap.size, 0, none⟩), .pointer (some ⟨wo.heap.size, 0, none⟩)] (wr.drewN n) fun e w' => e = .returned (.bool (betterP rs ds i j nx)) ∧ ∃ q, w' = (wr.drewN n).drewN q := by
          intro n
          by_cases hneg : nx < 0
          · exact better_none i j _ _ _ nx rs ds (wr.drewN n) hneg (by simpa using kn)
          · obtain ⟨q, rfl⟩ : ∃ q : Nat, nx = (q : Int) := ⟨nx.toNat, by omega⟩
            have hs := HS.out
            have hb' : Below w.heap.size w (wr.drewN n) := pw_below_drewN HB2.out n
            exact better_calls (some a0) c0 rs (some a1) c1 ds i j q _ _ _ (wr.drewN n) HV.out hi hj (by omega) (Kd.C_below HR.out hb') (Kd.C_below HD.out hb') (by simpa using kn) (by simpa using (blk_cell HX2.out 0).trans rfl) (by simpa using kx1) (by simpa using ki)
        have HBB := Lib.hid hbb
        have hj2 : (j : Int) ≤ 200 := by omega
        have HS2 : Hid (scanP rs ds i (rs.length - (j + 1)) (j + 1) (if (decide (el ds j < el ds i) && betterP rs ds i j nx) = true then (j : Int) else nx) = nextP rs ds i) := by
          have hs := HS.out.1
          rw [show rs.length - j = (rs.length - (j + 1)) + 1 by omega] at hs
          exact Lib.hid hs
        have HHJ := Lib.hid hj
        have HHI := Lib.hid hi
        clear hbb hid hjd
        by_cases hy : el ds j < el ds i
        · generalize hbv : betterP rs ds i j nx = bv at *
          cases bv with
          | true =>
            have hif : (if (decide (el ds j < el ds i) && true) = true then (j : Int) else nx) = (j : Int) := by simp [hy]
            rw [hif] at HS2
            clear hif hbv
            have HY := Lib.hid hy
            generalize el ds j = y1 at *
            generalize el ds i = y0 at *
            go_wp2
            go_quiet ((go_at_call 33; exact Calls.quiet_of (HBB.out _)))
            go_wp2
            go_roundg (gk - 1)
            case measure => have := HS.out; have := HHJ.out; omega
            case rel =>
              have hs := HS.out
              have hjj := HHJ.out
              refine ⟨j + 1, (j : Int), by first | rfl | simp, ⟨HS2.out, by omega, by omega, by omega, by omega, by omega⟩, ⟨?_⟩, ⟨?_⟩, ⟨?_⟩, ⟨?_⟩, ⟨?_⟩⟩
              · exact blk_far HI.out (by simp) _
              · exact blk_set HN.out 0 _
              · exact own_setCell HO2.out (by simp [Value.ownBlock]; omega) _
              · exact blk_far HX2.out (by simp; omega) _
              · exact below_set (pw_below_drewN HB2.out _) (by omega)
          | false =>
            have hif : (if (decide (el ds j < el ds i) && false) = true then (j : Int) else nx) = nx := by simp
            rw [hif] at HS2
            clear hif hbv
            have HY := Lib.hid hy
            generalize el ds j = y1 at *
            generalize el ds i = y0 at *
            go_wp2
            go_quiet ((go_at_call 33; exact Calls.quiet_of (HBB.out _)))
            go_wp2
            go_roundg (gk - 1)
            case measure => have := HS.out; have := HHJ.out; omega
            case rel =>
              have hs := HS.out
              have hjj := HHJ.out
              exact ⟨j + 1, nx, by first | rfl | simp, ⟨HS2.out, by omega, by omega, by omega, by omega, by omega⟩, ⟨HI.out⟩, ⟨HN.out⟩, ⟨HO2.out⟩, ⟨HX2.out⟩, ⟨pw_below_drewN HB2.out _⟩⟩
        · have hif : (if (decide (el ds j < el ds i) && betterP rs ds i j nx) = true then (j : Int) else nx) = nx := by simp [hy]
          rw [hif] at HS2
          have hyd : decide (el ds j < el ds i) = false := decide_eq_false hy
          clear hif HBB hy
          generalize el ds j = y1 at *
          generalize el ds i = y0 at *
          go_wp2
          go_quiet (fail)
          go_wp2
          go_roundg (gk - 1)
          case measure => have := HS.out; have := HHJ.out; omega
          case rel =>
            have hs := HS.out
            have hjj := HHJ.out
            exact ⟨j + 1, nx, by first | rfl | simp, ⟨HS2.out, by omega, by omega, by omega, by omega, by omega⟩, ⟨HI.out⟩, ⟨HN.out⟩, ⟨HO2.out⟩, ⟨HX2.out⟩, ⟨pw_below_drewN HB2.out _⟩⟩
      · have hnj : ¬ (j : Int) < (ds.length : Int) := by have := HLD.out; omega
        have hnx : nx = nextP rs ds i := by
          have hs := HS.out.1
          rw [show rs.length - j = 0 by omega] at hs
          exact hs
        have HNX := Lib.hid hnx
        have hjn := Lib.hid hj
        have hb := next_bound rs ds i hi
        clear hnx hj
        by_cases hneg : nx < 0
        · clear hb
          go_wp2
          go_ret
          obtain ⟨_, _, pre, f, hl, hch, hf, _⟩ := HP.out
          have hfin : l = chainP rs ds rs.length 0 := by
            rw [← hch, hl]
            obtain ⟨f, rfl⟩ : ∃ q, f = q + 1 := ⟨f - 1, by omega⟩
            simp only [chainP]
            rw [← HNX.out, if_pos hneg]
          refine ⟨_, rfl, ?_, HB2.out⟩
          rw [← hfin]
          exact Kd.R_of_own (h1 := fun _ => rfl) HO2.out (fun _ _ => trivial)
        · have hnx1 : nx ≤ 200 := by rw [← HNX.out] at hb; omega
          have hnx0 : 0 ≤ nx := by omega
          have HBN := Lib.hid hb
          have HOR := Aside0.mk (show Kd.R (Kd.int .i64) 3 wr w.heap.size (fun _ => True) (.slice (some ⟨g, 0, none⟩) (m + 1) cap) l from Kd.R_of_own (h1 := fun _ => rfl) (by have := HO2.out; rw [HM.out] at this ⊢; exact this) (fun _ _ => trivial))
          clear hb
          go_wp2_with ((with_reducible refine gate_builtin (b := .append) (xs := #[.tmp 48, .tmp 50]) rfl ?_); at_builtin; refine Kd.R_append (Kd.int .i64) (w0 := w) w.heap.size rfl (.tmp 48) (.tmp 50) 23 3 (.int .i64 0) 8 rfl Try.underlying23 info3 rfl (by decide) (by omega) _ l nx [.int .i64 nx] (fun _ => True) (fun _ => False) rfl rfl ?aP (fun _ hk => hk.elim) ?aF ?aO ?aB ?aS ?aL ?_; (case aP => exact rfl); (case aF => exact fun _ _ => trivial); (case aO => exact HOR.out); (case aB => exact HB2.out); (case aS => exact below_size HB2.out); (case aL => have := HM.out; omega); intro v9 w9 ho hb9 hg9 hat9)
          go_roundg (go - 1)
          case measure => obtain ⟨_, _, _, f, _, _, _, hgk⟩ := HP.out; omega
          case rel =>
            obtain ⟨_, hll, pre, f, hl, hch, hf, hgk⟩ := HP.out
            have hbn := HBN.out
            have hx := HNX.out
            rw [← hx] at hbn
            obtain ⟨f, rfl⟩ : ∃ q, f = q + 1 := ⟨f - 1, by omega⟩
            refine ⟨l ++ [nx], nx.toNat, ⟨⟨by omega, by simp; omega, l, f, by rw [Int.toNat_of_nonneg hnx0], ?_, by omega, by omega⟩⟩, ⟨ho⟩, ⟨?_⟩, ⟨hb9⟩⟩
            · rw [← hch, hl]
              simp only [chainP]
              rw [← hx, if_neg (by omega), List.append_assoc]
              rfl
            · exact (hg9.block _ (blk_lt HX2.out) (own_ne HO2.out HX2.out (by decide))).trans HX2.out

theorem hull_Points.calls (A0_0 : Option Addr) (c0_0 : Nat) (l0_0 : List Int) (A0_1 : Option Addr) (c0_1 : Nat) (l0_1 : List Int) (r : List Int) (w : World) (hr0_0 : Kd.C (Kd.int .i64) w A0_0 l0_0.length l0_0) (hc0_0 : l0_0.length ≤ c0_0) (hr0_1 : Kd.C (Kd.int .i64) w A0_1 l0_1.length l0_1) (hc0_1 : l0_1.length ≤ c0_1) (h : hull_Points.f l0_0 l0_1 = some r) :
    Calls Try.prog 27 #[.agg #[.slice A0_0 l0_0.length c0_0, .slice A0_1 l0_1.length c0_1]] w fun e w' => ∃ v0_ : Value, e = .returned (v0_) ∧ Kd.R (Kd.int .i64) 3 w' w.heap.size (fun _ => True) v0_ r ∧ Below w.heap.size w w' := by
  have hr : pointsP l0_0 l0_1 = r := Option.some.inj h
  subst hr
  unfold pointsP
  by_cases hV : Vld l0_0 l0_1
  · rw [if_pos (show validB l0_0 l0_1 = true from decide_eq_true hV)]
    exact points_walk A0_0 c0_0 l0_0 A0_1 c0_1 l0_1 w hV hr0_0 hc0_0 hr0_1 hc0_1
  · rw [if_neg (by rw [show validB l0_0 l0_1 = false from decide_eq_false hV]; simp)]
    obtain ⟨k, hk⟩ := (valid_ev l0_0 l0_1).rounds
    rw [show validB l0_0 l0_1 = false from decide_eq_false hV] at hk
    have HK := Lib.hid hk
    have HR := Lib.hid hr0_0
    have HD := Lib.hid hr0_1
    clear hk hV hr0_0 hr0_1 h
    have hu37 := Try.underlying37
    go_enter Try.func27, Try.ntmps27
    go_wp2_with (go_at_call 26; (with_reducible refine (hull_Valid.calls k _ _ l0_0 _ _ l0_1 false _ ?h1 ?h2 ?h3 ?h4 HK.out).mono ?_); (case h1 => exact Kd.C_below HR.out (below_alloc (Below.refl _ _) _)); (case h2 => exact hc0_0); (case h3 => exact Kd.C_below HD.out (below_alloc (Below.refl _ _) _)); (case h4 => exact hc0_1); rintro e w1 ⟨rfl, hb1⟩)
    go_ret
    exact ⟨_, rfl, Kd.R_nil _ _ _ _ _, below_then (below_alloc (Below.refl _ _) _) (by simp) hb1⟩
end Go.Proofs.Ytgmadhlebpbcpaa.P
