/- The reference's steps of layer 21: what it answers for valid curves, in plain numbers: the insertion sort of the steps. -/
import Derived.Test.YtgmadhlebpbcpaaRow
import Derived.Test.YtgmadhlebpbcpaaPuB
import Derived.Test.YtgmadhlebpbcpaaHul
import Derived.Test.YtgmadhlebpbcpaaCmq
import Derived.Laws.NewBlocks
set_option linter.unusedVariables false
set_option linter.unusedSimpArgs false
namespace Go.Proofs.Ytgmadhlebpbcpaa.P
open Go.RowKit Go.Proofs.YtgmadhlebpbcpaaW.PrintWords Go.Proofs.YtgmadhlebpbcpaaW.PrintLast Go.Proofs.YtgmadhlebpbcpaaW.PrintMore
attribute [local go_sem] max2_int min2_int max_two min_two

/-! ### plain -/
/-- A step as the reference keeps it. -/
def toR (x : S54) : S51 := ⟨x.f2, x.f3, x.f0, x.f1⟩
def waveletref21_steps.f (l0 : List S37) : Option (List S51) := if allV l0 then some ((isortP (stepsP 0 l0)).map toR) else none
theorem rd51_map (x : List S54) (i : Nat) : rd_T51 (x.map toR) (i : Int) = toR (x.getD i z54) := by
  unfold rd_T51
  rw [Int.toNat_natCast, List.getD_eq_getElem?_getD, List.getD_eq_getElem?_getD, List.getElem?_map]
  cases x[i]? <;> rfl
/-- The steps of a curve's points from place k on. -/
def tailC (i : Nat) (c : S37) (ps : List Int) (k : Nat) : List S54 := stepsC i c (el ps (k - 1)) (ps.drop k)
theorem chn_up {rs ds : List Int} {i : Nat} {l : List Int} (h : Chn rs ds i l) : ∀ k, k + 1 < l.length → el l k ≠ el l (k + 1) := by
  induction h with
  | last i h =>
    intro k hk
    simp at hk
  | cons i m l h t ih =>
    intro k hk
    cases k with
    | zero =>
      have e := t.head.2
      have := h.lt
      simp only [el, List.getD_cons_zero, List.getD_cons_succ] at e ⊢
      omega
    | succ k =>
      have := ih k (by simpa using hk)
      simpa [el] using this
theorem points_up {rs ds : List Int} (hV : Vld rs ds) {k : Nat} (hk : k + 1 < (pointsP rs ds).length) : el (pointsP rs ds) (k + 1) ≠ el (pointsP rs ds) k :=
  (chn_up (points_chn hV) k hk).symm
theorem tailC_step {i : Nat} {c : S37} (hV : Vld c.f0 c.f1) {k : Nat} (h1 : 1 ≤ k) (hk : k < (pointsP c.f0 c.f1).length) :
    tailC i c (pointsP c.f0 c.f1) k = stepP i c (el (pointsP c.f0 c.f1) (k - 1)) (el (pointsP c.f0 c.f1) k) :: tailC i c (pointsP c.f0 c.f1) (k + 1) := by
  unfold tailC
  have e : el (pointsP c.f0 c.f1) k = (pointsP c.f0 c.f1)[k] := by simp [el, List.getD_eq_getElem?_getD, hk]
  rw [List.drop_eq_getElem_cons hk]
  have hne := points_up hV (k := k - 1) (by omega)
  rw [show k - 1 + 1 = k by omega] at hne
  simp only [stepsC]
  rw [← e, if_neg hne]
  rfl
theorem tailC_one {i : Nat} {c : S37} (hV : Vld c.f0 c.f1) : tailC i c (pointsP c.f0 c.f1) 1 = stepsC i c 0 (pointsP c.f0 c.f1) := by
  have h := (points_chn hV).head
  obtain ⟨a, l, hl⟩ : ∃ a l, pointsP c.f0 c.f1 = a :: l := by
    cases hp : pointsP c.f0 c.f1 with
    | nil => rw [hp] at h; simp at h
    | cons a l => exact ⟨a, l, rfl⟩
  rw [hl] at h ⊢
  have ha : a = 0 := by simpa [el] using h.2
  subst ha
  simp [tailC, stepsC, el]
theorem tailC_end (i : Nat) (c : S37) (ps : List Int) (k : Nat) (h : ps.length ≤ k) : tailC i c ps k = [] := by
  unfold tailC
  rw [List.drop_eq_nil_of_le h]
  rfl
theorem place_le (x : List S54) (y : S54) : ∀ n, placeP x y n ≤ n
  | 0 => Nat.le_refl _
  | n + 1 => by
    unfold placeP
    split
    · have := place_le x y n; omega
    · exact Nat.le_refl _

theorem info51a : (Try.prog.info? 51).map (fun i => (i.zero, i.size, i.bytes)) = some (some (.agg #[.int .i64 0, .int .i64 0, .int .i64 0, .int .i64 0]), 4, 32) := by kernel_rfl
theorem new_cell (w : World) (T : TypeId) : ∀ (n : Nat) (cs : Array Value) (i : Nat), ((w.drewN n).alloc (.cells cs T)).cell? ⟨w.heap.size, i, none⟩ = cs[i]? := fun n cs i => by
  have h := heap_alloc_new (w.drewN n) (.cells cs T)
  rw [show (w.drewN n).heap.size = w.heap.size by simp] at h
  exact blk_cell h i
theorem new_frozen (w : World) (T : TypeId) : ∀ (n : Nat) (cs : Array Value) (i : Nat), ((w.drewN n).alloc (.cells cs T)).frozen? ⟨w.heap.size, i, none⟩ = false := fun n cs i => by
  have h := heap_alloc_new (w.drewN n) (.cells cs T)
  rw [show (w.drewN n).heap.size = w.heap.size by simp] at h
  exact blk_frozen h i
theorem new_set (w : World) (T : TypeId) : ∀ (n : Nat) (cs : Array Value) (i : Nat) (v : Value), ((w.drewN n).alloc (.cells cs T)).setCell ⟨w.heap.size, i, none⟩ v = (w.drewN n).alloc (.cells (cs.setIfInBounds i v) T) := fun n cs i v => by
  exact World.setCell_alloc_at _ _ _ _ _ (by simp)
set_option maxRecDepth 1000000 in
set_option maxHeartbeats 8000000 in
theorem waveletref21_steps.calls (A0 : Option Addr) (c0 : Nat) (l0 : List S37) (r : List S51) (w : World) (hr0 : Kd.C k37 w A0 l0.length l0) (hc0 : l0.length ≤ c0) (h : waveletref21_steps.f l0 = some r) :
    Calls Try.prog 25 #[.slice A0 l0.length c0] w fun e w' => ∃ v0_ : Value, e = .returned (v0_) ∧ Kd.R k51 51 w' w.heap.size (fun _ => True) v0_ r ∧ Below w.heap.size w w' := by
  unfold waveletref21_steps.f at h
  by_cases hv : allV l0
  · rw [if_pos hv] at h
    obtain rfl := Option.some.inj h
    have HV := Lib.hid hv
    have HR := Lib.hid hr0
    have hn : (l0.length : Int) ≤ 65536 := by have := hv.1; omega
    have hu37 := Try.underlying37
    have hu51 := Try.underlying51
    clear h hv hr0
    go_enter Try.func25, Try.ntmps25
    go_wp2
    go_loopg [3, 14] (l0.length + 1) (fun kq v3 v14 w' => ∃ (i : Nat) (o : List S54), v14 = .int .i64 i ∧ Aside0 (i ≤ l0.length ∧ kq + i = l0.length + 1 ∧ o.length ≤ 180 * i ∧ o ++ stepsP i (l0.drop i) = stepsP 0 l0) ∧ Aside0 (Kd.R k51 51 w' w.heap.size (fun _ => True) v3 ((isortP o).map toR)) ∧ Aside0 (Below w.heap.size w w'))
    case atStart =>
      exact ⟨0, [], by first | rfl | simp, ⟨by omega, by omega, by simp, by simp⟩, ⟨Kd.R_nil _ _ _ _ _⟩, ⟨Below.refl _ _⟩⟩
    case round =>
      obtain ⟨i, o, rfl, HI, HO, HB⟩ := hrel
      obtain ⟨go, rfl⟩ : ∃ go : Nat, go = gk := ⟨_, rfl⟩
      by_cases hi : i < l0.length
      · have hi' : (i : Int) < (l0.length : Int) := by omega
        have hi0 : (0 : Int) ≤ (i : Int) := by omega
        have hi2 : (i : Int) ≤ 65536 := by omega
        obtain ⟨ad, a0, k0, a1, k1, rfl, hx0, hx1, hk0, hC0, hk1, hC1⟩ := at_T37 HR.out i hi0 hi'
        rw [Int.toNat_natCast] at hx0 hx1
        replace hx0 := pw_cell_below HB.out hx0
        replace hx1 := pw_cell_below HB.out hx1
        obtain ⟨c, hc⟩ : ∃ c, c = rd_T37 l0 (i : Int) := ⟨_, rfl⟩
        rw [← hc] at hx0 hx1 hk0 hC0 hk1 hC1
        have hcv : Vld c.f0 c.f1 := HV.out.2 c (by rw [hc]; unfold rd_T37; rw [Int.toNat_natCast, List.getD_eq_getElem?_getD, List.getElem?_eq_getElem hi]; exact List.getElem_mem hi)
        have hdr : l0.drop i = c :: l0.drop (i + 1) := by rw [hc, List.drop_eq_getElem_cons hi]; unfold rd_T37; simp [List.getD_eq_getElem?_getD, hi]
        have HC := Lib.hid hc
        have HCV := Lib.hid hcv
        have HDR := Lib.hid hdr
        have HC0 := Lib.hid hC0
        have HC1 := Lib.hid hC1
        have HK0 := Lib.hid hk0
        have HK1 := Lib.hid hk1
        obtain ⟨kp, hkp⟩ := (rpoints_ev c.f0 c.f1).rounds
        have HKP := Lib.hid hkp
        clear hc hcv hdr hC0 hC1 hk0 hk1 hkp
        go_wp2_with (go_at_call 31; (with_reducible refine (waveletref20_Points.calls kp a0 k0 c.f0 a1 k1 c.f1 (pointsP c.f0 c.f1) _ ?p1 HK0.out ?p2 HK1.out HKP.out).mono ?_); (case p1 => exact Kd.C_below HC0.out (below_alloc HB.out _)); (case p2 => exact Kd.C_below HC1.out (below_alloc HB.out _)); rintro e w2 ⟨v17, rfl, hR17, hB17⟩; obtain ⟨g17, cap17, cur17, rfl, hblk17, hrow17, hn17⟩ := row_of hR17 (points_ne _ _ HCV.out))
        have HBK := Aside0.mk (show w2.heap[wr.heap.size]? = some (.cells #[.slice a0 c.f0.length k0, .slice a1 c.f1.length k1] 37 (0, 0)) from (hB17.block wr.heap.size (by simp)).trans (heap_alloc_new wr _))
        have HO2 := Aside0.mk (Kd.R_below (Kd.R_alloc HO.out (.cells #[.slice a0 c.f0.length k0, .slice a1 c.f1.length k1] 37)) hB17)
        have HB2 := Aside0.mk (below_step (below_alloc HB.out (.cells #[.slice a0 c.f0.length k0, .slice a1 c.f1.length k1] 37)) hB17)
        have HBL := Aside0.mk hblk17
        have HRW := Lib.hid hrow17
        obtain ⟨ps, hps⟩ : ∃ ps, ps = pointsP c.f0 c.f1 := ⟨_, rfl⟩
        rw [← hps] at hn17 HRW ⊢
        obtain ⟨bB, hbB⟩ : ∃ b, b = wr.heap.size := ⟨_, rfl⟩
        rw [← hbB] at HBK ⊢
        have HPS := Lib.hid hps
        have HBBQ := Lib.hid hbB
        have hps1 : 1 ≤ ps.length := by rw [hps]; exact points_ne _ _ HCV.out
        have hps2 : ps.length ≤ 180 := by rw [hps]; exact (points_in HCV.out).1
        have HP1 := Aside0.mk (And.intro hps1 hps2)
        clear hR17 hB17 hblk17 hrow17 HO HB hps hbB hx0 hx1 hps1 hps2
        go_loopg [3, 7] (ps.length) (fun kq v3 v7 w' => ∃ (j : Nat) (o' : List S54), v7 = .int .i64 j ∧ Aside0 (1 ≤ j ∧ j ≤ ps.length ∧ kq + j = ps.length + 1 ∧ o'.length + 1 ≤ 180 * i + j ∧ o' ++ (tailC i c ps j ++ stepsP (i + 1) (l0.drop (i + 1))) = stepsP 0 l0) ∧ Aside0 (Kd.R k51 51 w' w.heap.size (fun _ => True) v3 ((isortP o').map toR)) ∧ Aside0 (w'.heap[bB]? = some (.cells #[.slice a0 c.f0.length k0, .slice a1 c.f1.length k1] 37 (0, 0))) ∧ Aside0 (w'.heap[g17]? = some (.cells cur17 3 (0, 0))) ∧ Aside0 (Below w.heap.size w w'))
        case atStart =>
          refine ⟨1, o, by first | rfl | simp, ⟨by omega, HP1.out.1, by have := HP1.out; omega, by have := HI.out.2.2.1; omega, ?_⟩, HO2, HBK, HBL, HB2⟩
          have := HI.out.2.2.2
          rw [HDR.out] at this
          rw [← this, HPS.out, tailC_one HCV.out]
          rfl
        case round =>
          obtain ⟨j, o', rfl, HJ, HO3, HBK3, HBL3, HB3⟩ := hrel
          obtain ⟨go2, rfl⟩ : ∃ go2 : Nat, go2 = gk := ⟨_, rfl⟩
          clear HO2 HBK HBL HB2
          by_cases hj : j < ps.length
          · have hj' : (j : Int) < (ps.length : Int) := by omega
            have hj1 : 1 ≤ j := HJ.out.1
            obtain ⟨A3, c3, hu3, hc3, hR3⟩ := Kd.R_reads HO3.out
            obtain ⟨x, hx⟩ : ∃ x, x = isortP o' := ⟨_, rfl⟩
            obtain ⟨n, hnx⟩ : ∃ n, n = x.length := ⟨_, rfl⟩
            rw [List.length_map, ← hx, ← hnx] at hu3 hc3 hR3
            rw [← hx] at HO3
            obtain rfl := hu3
            have hno : n = o'.length := by rw [hnx, hx, isort_len]
            have hnb : (n : Int) ≤ 100000000 := by have := HJ.out.2.2.2.1; have := HI.out; have := HV.out.1; have := HP1.out; omega
            have HX := Lib.hid hx
            have HNX := Lib.hid hnx
            have HNO := Lib.hid hno
            have HR3 := Lib.hid hR3
            have HC3 := Lib.hid hc3
            clear hx hnx hno hR3 hc3
            have k17 := (blk_cell HBL3.out j).trans (HRW.out j hj)
            have k18 := (blk_cell HBL3.out (j - 1)).trans (HRW.out (j - 1) (by omega))
            have hpin := points_in HCV.out
            have mem : ∀ q, q < ps.length → 0 ≤ el ps q ∧ el ps q < c.f0.length := fun q hq => hpin.2 (el ps q) (by rw [← HPS.out]; simp [el, List.getD_eq_getElem?_getD, hq])
            obtain ⟨t, hte⟩ : ∃ t : Nat, (t : Int) = el ps j := ⟨(el ps j).toNat, by have := mem j hj; omega⟩
            obtain ⟨f, hfe⟩ : ∃ t : Nat, (t : Int) = el ps (j - 1) := ⟨(el ps (j - 1)).toNat, by have := mem (j - 1) (by omega); omega⟩
            have htl : t < c.f0.length := by have := mem j hj; omega
            have hfl : f < c.f0.length := by have := mem (j - 1) (by omega); omega
            rw [← hte] at k17
            rw [← hfe] at k18
            have htc : tailC i c ps j = stepP i c (f : Int) (t : Int) :: tailC i c ps (j + 1) := by
              have := tailC_step (i := i) HCV.out hj1 (by rw [← HPS.out]; exact hj)
              rw [← HPS.out, ← hte, ← hfe] at this
              exact this
            have hjj : (j : Int) ≤ 200 := by have := HP1.out.2; omega
            obtain ⟨b0, rfl, hc0'⟩ := c_cells HC0.out (by have := HCV.out.2.1; omega)
            obtain ⟨b1, rfl, hc1'⟩ := c_cells HC1.out (by have := HCV.out.2.1; have := HCV.out.1; omega)
            have hld : c.f0.length = c.f1.length := HCV.out.1
            have m0 := hc0' f hfl
            have m1 := hc0' t htl
            have m2 := hc1' f (by omega)
            have m3 := hc1' t (by omega)
            have d0 := HCV.out.rate hfl
            have d1 := HCV.out.rate htl
            have d2 := HCV.out.dist hfl
            have d3 := HCV.out.dist htl
            have hfi : (f : Int) < (c.f0.length : Int) := by omega
            have hti : (t : Int) < (c.f0.length : Int) := by omega
            have hfj : (f : Int) < (c.f1.length : Int) := by omega
            have htj : (t : Int) < (c.f1.length : Int) := by omega
            have hf0 : (0 : Int) ≤ (f : Int) := by omega
            have ht0 : (0 : Int) ≤ (t : Int) := by omega
            obtain ⟨x0, hx0⟩ : ∃ x, x = el c.f0 f := ⟨_, rfl⟩
            obtain ⟨x1, hx1⟩ : ∃ x, x = el c.f0 t := ⟨_, rfl⟩
            obtain ⟨y0, hy0⟩ : ∃ x, x = el c.f1 f := ⟨_, rfl⟩
            obtain ⟨y1, hy1⟩ : ∃ x, x = el c.f1 t := ⟨_, rfl⟩
            rw [← hx0] at m0 d0
            rw [← hx1] at m1 d1
            rw [← hy0] at m2 d2
            rw [← hy1] at m3 d3
            have hst : stepP i c (f : Int) (t : Int) = ⟨(i : Int), (t : Int), y0 - y1, x1 - x0⟩ := by unfold stepP; rw [Int.toNat_natCast, Int.toNat_natCast, hx0, hx1, hy0, hy1]
            rw [hst] at htc
            obtain ⟨s, hs⟩ : ∃ s : S54, s = ⟨(i : Int), (t : Int), y0 - y1, x1 - x0⟩ := ⟨_, rfl⟩
            rw [← hs] at htc
            have HTC := Lib.hid htc
            have HS := Lib.hid hs
            have q0 := (blk_cell HBK3.out 0).trans rfl
            have q1 : wr.cell? ⟨bB, 1, none⟩ = some (.slice (some b1) c.f1.length k1) := (blk_cell HBK3.out 1).trans rfl
            have Q0 : wr.cell? ⟨bB, 0, none⟩ = some (.slice (some b0) c.f0.length k0) := q0
            clear q0
            replace m0 := pw_cell_below HB3.out m0
            replace m1 := pw_cell_below HB3.out m1
            replace m2 := pw_cell_below HB3.out m2
            replace m3 := pw_cell_below HB3.out m3
            have hw1 : IntKind.i64.wrap (y0 - y1) = y0 - y1 := by rw [IntKind.wrap_i64]; omega
            have hw2 : IntKind.i64.wrap (x1 - x0) = x1 - x0 := by rw [IntKind.wrap_i64]; omega
            have hw : IntKind.i64.wrap ((j : Int) - 1) = (j : Int) - 1 := by rw [IntKind.wrap_i64]; omega
            have hwa : (0 : Int) ≤ (j : Int) - 1 := by omega
            have hwb : (1 : Int) ≤ (j : Int) := by omega
            have hwc : (j : Int) - 1 < (ps.length : Int) := by omega
            have hwd : ((j : Int) - 1).toNat = j - 1 := by omega
            have hj0 : (0 : Int) ≤ (j : Int) := by omega
            have HJJ := Lib.hid hj
            have NC := new_cell wr 51
            have NF := new_frozen wr 51
            have NS := new_set wr 51
            have N0 := World.new_ne wr _ Q0
            have N1 := World.new_ne wr _ m0
            have N2 := World.new_ne wr _ m1
            have N3 := World.new_ne wr _ m2
            have N4 := World.new_ne wr _ m3
            clear hpin mem hte hfe htl hfl htc hst hs hx0 hx1 hy0 hy1 hld hc0' hc1' hj hj1
            go_wp2
            go_quiet (fail)
            go_wp2
            go_region_held3 (fun W => W.cell? ⟨bB, 0, none⟩ = some (.slice (some b0) c.f0.length k0) ∧ W.cell? ⟨bB, 1, none⟩ = some (.slice (some b1) c.f1.length k1) ∧ W.cell? (b0.add f) = some (.int .i64 x0) ∧ W.cell? (b0.add t) = some (.int .i64 x1) ∧ W.cell? (b1.add f) = some (.int .i64 y0) ∧ W.cell? (b1.add t) = some (.int .i64 y1)) (first | go_keep | assumption) (fail)
            have hsr : Rg s := by
              refine rg_steps l0 0 HV.out.2 s ?_
              have h := HJ.out.2.2.2.2
              rw [← h, HTC.out]
              simp
            have hxr : ∀ z ∈ x, Rg z := by
              intro z hz
              rw [HX.out] at hz
              refine rg_steps l0 0 HV.out.2 z ?_
              rw [← HJ.out.2.2.2.2]
              exact List.mem_append_left _ (isort_mem hz)
            have hsd : Srtd x := by
              rw [HX.out]
              refine srtd_of (prs_isort fun z hz => ?_)
              refine rg_steps l0 0 HV.out.2 z ?_
              rw [← HJ.out.2.2.2.2]
              exact List.mem_append_left _ hz
            have hins := place_ins hsr x hxr hsd
            rw [← HNX.out] at hins
            have HINS := Lib.hid hins
            clear hsr hxr hsd hins
            obtain ⟨bS, hbS⟩ : ∃ b, b = wr.heap.size := ⟨_, rfl⟩
            have GO : ∀ k cs, Aside0 (Kd.R k51 51 ((wr.drewN k).alloc (.cells cs 51)) w.heap.size (fun _ => True) (.slice A3 n c3) (x.map toR)) := fun k cs => ⟨Kd.R_alloc (Kd.R_drewN HO3.out k) _⟩
            have GK : ∀ k cs, Aside0 (((wr.drewN k).alloc (.cells cs 51)).heap[bB]? = some (.cells #[.slice (some b0) c.f0.length k0, .slice (some b1) c.f1.length k1] 37 (0, 0))) := fun k cs => ⟨blk_alloc (blk_drewN HBK3.out k) _⟩
            have GL : ∀ k cs, Aside0 (((wr.drewN k).alloc (.cells cs 51)).heap[g17]? = some (.cells cur17 3 (0, 0))) := fun k cs => ⟨blk_alloc (blk_drewN HBL3.out k) _⟩
            have GB : ∀ k cs, Aside0 (Below w.heap.size w ((wr.drewN k).alloc (.cells cs 51))) := fun k cs => ⟨below_alloc (pw_below_drewN HB3.out k) _⟩
            have GS : ∀ k cs, Aside0 (((wr.drewN k).alloc (.cells cs 51)).heap[bS]? = some (.cells cs 51 (0, 0))) := fun k cs => ⟨by have h := heap_alloc_new (wr.drewN k) (.cells cs 51); rw [show (wr.drewN k).heap.size = bS by simp [hbS]] at h; exact h⟩
            have GO' := Aside0.mk GO
            have GK' := Aside0.mk GK
            have GL' := Aside0.mk GL
            have GB' := Aside0.mk GB
            have GS' := Aside0.mk GS
            have HNE := Aside0.mk (show some bS ≠ (Value.slice A3 n c3).ownBlock by rw [hbS]; exact own_ne_new (Kd.R_own HO3.out).choose_spec 0)
            clear GO GK GL GB GS NC NF NS N0 N1 N2 N3 N4 Q0 q1 m0 m1 m2 m3 k17 k18 hw1 hw2 d0 d1 d2 d3 hw hwa hwb hwc hwd hfi hti hfj htj
            go_wp2
            rw [← hbS]
            have HBS := Lib.hid hbS
            clear hbS
            go_loopg [11] (n + 1) (fun kq v11 w' => ∃ q : Nat, v11 = .int .i64 q ∧ Aside0 (q ≤ n ∧ kq = q + 1 ∧ placeP x s n = placeP x s q) ∧ Aside0 (w'.heap[bS]? = some (.cells #[.int .i64 (y0 - y1), .int .i64 (x1 - x0), .int .i64 (i : Int), .int .i64 (t : Int)] 51 (0, 0))) ∧ Aside0 (Kd.R k51 51 w' w.heap.size (fun _ => True) (.slice A3 n c3) (x.map toR)) ∧ Aside0 (w'.heap[bB]? = some (.cells #[.slice (some b0) c.f0.length k0, .slice (some b1) c.f1.length k1] 37 (0, 0))) ∧ Aside0 (w'.heap[g17]? = some (.cells cur17 3 (0, 0))) ∧ Aside0 (Below w.heap.size w w'))
            case atStart => exact ⟨n, rfl, ⟨Nat.le_refl _, rfl, rfl⟩, GS'.out _ _, GO'.out _ _, GK'.out _ _, GL'.out _ _, GB'.out _ _⟩
            case round =>
              obtain ⟨q, rfl, HQ, HS4, HO4, HBK4, HBL4, HB4⟩ := hrel
              clear GS' GO' GK' GL' GB'
              have sd : wr.cell? ⟨bS, 0, none⟩ = some (.int .i64 (y0 - y1)) := (blk_cell HS4.out 0).trans rfl
              have sr : wr.cell? ⟨bS, 1, none⟩ = some (.int .i64 (x1 - x0)) := (blk_cell HS4.out 1).trans rfl
              have hqn : q ≤ n := HQ.out.1
              have hqb : (q : Int) ≤ 100000000 := by omega
              have hq0 : (0 : Int) ≤ (q : Int) := by omega
              have hcs : q = 0 ∨ ∃ q', q = q' + 1 := by cases q with | zero => exact .inl rfl | succ q => exact .inr ⟨q, rfl⟩
              have HCS := Lib.hid hcs
              clear hcs
              rcases HCS.out with hz | ⟨q', hq'⟩
              case' inl =>
                have Z1 := decide_eq_false (show ¬ (0 : Int) < (q : Int) by omega)
                have Z2 := decide_eq_false (show ¬ 0 < q by omega)
                have hpos : placeP x s n = q := by have := HQ.out.2.2; rw [hz] at this; rw [this, hz]; rfl
                have HPOS := Lib.hid hpos
                have HZ := Lib.hid hz
                clear hpos hz
                go_wp2
                go_quiet (fail)
                go_wp2_with ((with_reducible refine gate_builtin (b := .append) (xs := #[.tmp 87, .tmp 89]) rfl ?_); at_builtin; refine Kd.R_append k51 (w0 := w) w.heap.size rfl (.tmp 87) (.tmp 89) 48 51 _ 32 rfl Try.underlying48 info51a rfl (by decide) (by omega) _ (x.map toR) z51 _ (fun _ => True) (fun _ => False) rfl rfl (k51_mkM _ _ _ z51) (fun _ hk => hk.elim) (fun _ _ => trivial) (Kd.R_drewN HO4.out _) (pw_below_drewN HB4.out _) (below_size (pw_below_drewN HB4.out _)) ?aL ?_; (case aL => have := HNX.out; simp; omega); intro v9 w9 hO9 hB9 hg9 hat9)
              case' inr =>
                have hC4 := R_C HO4.out
                obtain ⟨ad3, rfl, e0', e1', _, _⟩ := at_T51 hC4 (q' : Int) (by omega) (by omega)
                rw [rd51_map, Int.toNat_natCast] at e0' e1'
                obtain ⟨y, hy⟩ : ∃ y, y = x.getD q' z54 := ⟨_, rfl⟩
                rw [← hy] at e0' e1'
                have e0 : wr.cell? (ad3.add (q' * 4)) = some (.int .i64 y.f2) := e0'
                have e1 : wr.cell? ⟨(ad3.add (q' * 4)).block, (ad3.add (q' * 4)).off + 1, none⟩ = some (.int .i64 y.f3) := e1'
                have hlp : lessP s y = decide (0 < stP (y0 - y1) (x1 - x0) y.f2 y.f3) := by rw [HS.out]; rfl
                have hpl : placeP x s q = if lessP s y = true then placeP x s q' else q' + 1 := by rw [hq', hy]; rfl
                have Z1 := decide_eq_true (show (0 : Int) < (q : Int) by omega)
                have Z2 := decide_eq_true (show 0 < q by omega)
                have hw : IntKind.i64.wrap ((q : Int) - 1) = (q : Int) - 1 := by rw [IntKind.wrap_i64]; omega
                have hwa : (0 : Int) ≤ (q : Int) - 1 := by omega
                have hwb : (1 : Int) ≤ (q : Int) := by omega
                have hwc : (q : Int) - 1 < (n : Int) := by omega
                have hwd : ((q : Int) - 1).toNat = q' := by omega
                have hwe : q - 1 = q' := by omega
                have HYY := Lib.hid hy
                have HQ' := Lib.hid hq'
                clear hy hq' hC4 e0' e1'
                by_cases hl : 0 < stP (y0 - y1) (x1 - x0) y.f2 y.f3
                case pos =>
                  have Z3 := decide_eq_true hl
                  rw [hlp, Z3, if_pos rfl] at hpl
                  have HPL := Lib.hid hpl
                  clear hl hlp hpl
                  go_wp2
                  go_quiet ((go_at_call 32; exact Calls.quiet_of_same (rsteeper_quiet _ _ _ _ _)))
                  go_wp2
                  go_roundg (gk - 1)
                  case measure => have := HQ.out; have := HQ'.out; omega
                  case rel => exact ⟨q', by go_num, ⟨by have := HQ.out; have := HQ'.out; omega, by have := HQ.out; have := HQ'.out; omega, by rw [HQ.out.2.2, HPL.out]⟩, ⟨blk_drewN HS4.out _⟩, ⟨Kd.R_drewN HO4.out _⟩, ⟨blk_drewN HBK4.out _⟩, ⟨blk_drewN HBL4.out _⟩, ⟨pw_below_drewN HB4.out _⟩⟩
                case' neg =>
                  have Z3 := decide_eq_false hl
                  rw [hlp, Z3, if_neg (by simp)] at hpl
                  have hpos : placeP x s n = q := by rw [HQ.out.2.2, hpl, HQ'.out]
                  have HPOS := Lib.hid hpos
                  clear hl hlp hpl hpos
                  go_wp2
                  go_quiet ((go_at_call 32; exact Calls.quiet_of_same (rsteeper_quiet _ _ _ _ _)))
                  go_wp2_with ((with_reducible refine gate_builtin (b := .append) (xs := #[.tmp 87, .tmp 89]) rfl ?_); at_builtin; refine Kd.R_append k51 (w0 := w) w.heap.size rfl (.tmp 87) (.tmp 89) 48 51 _ 32 rfl Try.underlying48 info51a rfl (by decide) (by omega) _ (x.map toR) z51 _ (fun _ => True) (fun _ => False) rfl rfl (k51_mkM _ _ _ z51) (fun _ hk => hk.elim) (fun _ _ => trivial) (Kd.R_drewN HO4.out _) (pw_below_drewN HB4.out _) (below_size (pw_below_drewN HB4.out _)) ?aL ?_; (case aL => have := HNX.out; simp; omega); intro v9 w9 hO9 hB9 hg9 hat9)
              all_goals
                obtain ⟨g, cap, cur, hv9, hb9, hbg, hncap, hcm, hsz, htk⟩ := row51 hO9 (by simp)
                have hml : (x.map toR).length = n := by rw [List.length_map, HNX.out]
                have hlen : (x.map toR ++ [z51]).length = n + 1 := by rw [List.length_append, hml]; rfl
                rw [hlen] at hv9 hncap htk
                obtain rfl := hv9
                have hBK9 := Aside0.mk (blk_grown (blk_drewN HBK4.out _) hg9 (own_ne (Kd.R_own HO4.out).choose_spec HBK4.out (by decide)))
                have hBL9 := Aside0.mk (blk_grown (blk_drewN HBL4.out _) hg9 (own_ne (Kd.R_own HO4.out).choose_spec HBL4.out (by decide)))
                have hS9 := Aside0.mk (blk_grown (blk_drewN HS4.out _) hg9 HNE.out)
                have hgS : bS ≠ g := by
                  rcases hat9 with h | ⟨b, h, hb⟩
                  · intro e
                    exact HNE.out ((show some bS = (Value.slice (some ⟨g, 0, none⟩) (n + 1) cap).ownBlock by rw [e]; rfl).trans h)
                  · have e : g = b := by simpa [Value.ownBlock] using h
                    have := blk_lt HS4.out
                    simp at hb
                    omega
                have hgB : bB ≠ g := blk_ne hBK9.out hb9 (by decide)
                have hgL : g17 ≠ g := blk_ne hBL9.out hb9 (by decide)
                have HGS := Aside0.mk (And.intro hgS (And.intro hgB hgL))
                obtain ⟨i0, hi0, hiz0, hsz0, hib0⟩ := info_parts info51a
                have hcut1 := cut_from (P := Try.prog) 48 51 .i64 Try.underlying48 hi0 4 hsz0 (some ⟨g, 0, none⟩) (n + 1) cap ((q : Int) + 1) (by omega) (by omega)
                have hcut2 := cut_from (P := Try.prog) 48 51 .i64 Try.underlying48 hi0 4 hsz0 (some ⟨g, 0, none⟩) (n + 1) cap (q : Int) (by omega) (by omega)
                rw [show ((q : Int) + 1).toNat = q + 1 by omega] at hcut1
                rw [Int.toNat_natCast] at hcut2
                have hD1 : q < n → (if cap = q + 1 then some (⟨g, 0, none⟩ : Addr) else Option.map (fun x : Addr => x.add ((q + 1) * 4)) (some ⟨g, 0, none⟩)) = some ⟨g, (q + 1) * 4, none⟩ := fun h => by rw [if_neg (by omega)]; rw [Option.map_some, add_plain]
                have hD2 : q < n → (if cap = q then some (⟨g, 0, none⟩ : Addr) else Option.map (fun x : Addr => x.add (q * 4)) (some ⟨g, 0, none⟩)) = some ⟨g, q * 4, none⟩ := fun h => by rw [if_neg (by omega)]; rw [Option.map_some, add_plain]
                generalize (if cap = q + 1 then some (⟨g, 0, none⟩ : Addr) else Option.map (fun x : Addr => x.add ((q + 1) * 4)) (some ⟨g, 0, none⟩)) = D1 at *
                generalize (if cap = q then some (⟨g, 0, none⟩ : Addr) else Option.map (fun x : Addr => x.add (q * 4)) (some ⟨g, 0, none⟩)) = D2 at *
                rw [show n + 1 - (q + 1) = n - q by omega] at hcut1
                have HD1 := Aside0.mk hD1
                have HD2 := Aside0.mk hD2
                have hsh := shift_cells (cur := cur.toList) (L := x.map toR) (z := z51) (p := q) (by rw [hml]; exact hqn) (by rw [hml]; exact htk) (by rw [hml, Array.length_toList, hsz]; omega) _ rfl
                rw [hml] at hsh
                obtain ⟨hs1, hs2, hs3⟩ := hsh
                have HSH := Aside0.mk (And.intro hs1 (And.intro hs2 hs3))
                have HMX := Aside0.mk (And.intro hsz (And.intro hncap (And.intro hcm hbg)))
                have HML := Lib.hid hml
                have hb0 : (0 : Int) ≤ (q : Int) + 1 := by omega
                have hb1 : (q : Int) + 1 ≤ (n : Int) + 1 := by omega
                have hb2 : (q : Int) + 1 ≤ (cap : Int) := by omega
                have hb3 : (q : Int) ≤ (n : Int) + 1 := by omega
                have hb4 : (q : Int) ≤ (cap : Int) := by omega
                have hb5 : (q : Int) < (n : Int) + 1 := by omega
                have hbw : IntKind.i64.wrap ((q : Int) + 1) = (q : Int) + 1 := by rw [IntKind.wrap_i64]; omega
                have HB9 := Aside0.mk hb9
                have hBd := below_drew1 hB9
                clear hml hlen hb9 hbg hncap hcm hsz htk hg9 hat9 hO9 hgS hgB hgL hD1 hD2 hs1 hs2 hs3 hi0 hiz0 hsz0 hib0 sd sr
                go_region_held3 (fun W => Below w.heap.size w W) (first | go_keep | assumption)
                  ((refine step_shift rfl (.tmp 94) (.tmp 97) 48 48 rfl 51 Try.underlying48 4 (by kernel_rfl) g q n cap D1 D2 hqn rfl rfl HD1.out HD2.out cur 51 (blk_drew HB9.out) (by have := HMX.out; omega) _ rfl (by rw [HSH.out.1]; exact encL_one _) w.heap.size w hBd HMX.out.2.2.2 ?_; intro v10 w10 hb10 hB10 hf10))
                have hS10 : w10.heap[bS]? = some (.cells #[.int .i64 (y0 - y1), .int .i64 (x1 - x0), .int .i64 (i : Int), .int .i64 (t : Int)] 51 (0, 0)) := (hf10 bS HGS.out.1).trans (blk_drew hS9.out)
                have hBK10 := Aside0.mk ((hf10 bB HGS.out.2.1).trans (blk_drew hBK9.out))
                have hBL10 := Aside0.mk ((hf10 g17 HGS.out.2.2).trans (blk_drew hBL9.out))
                obtain ⟨M, hM⟩ : ∃ M, M = (x.map toR ++ [z51]).take (q + 1) ++ (x.map toR).drop q := ⟨_, rfl⟩
                have hMl : M.length = n + 1 := by rw [hM]; simp [HML.out]; have := HNX.out; omega
                obtain ⟨C, hC⟩ : ∃ C, C = (cur.toList.take ((q + 1) * 4) ++ (cur.toList.drop (q * 4)).take ((n - q) * 4) ++ cur.toList.drop ((q + 1) * 4 + ((cur.toList.drop (q * 4)).take ((n - q) * 4)).length)).toArray := ⟨_, rfl⟩
                have hb10' := hb10.out
                rw [← hC] at hb10'
                have hCs : C.size = cap * 4 := by rw [hC, List.size_toArray, HSH.out.2.2, Array.length_toList]; exact HMX.out.1
                have hCt : C.toList.take ((n + 1) * 4) = encL M := by rw [hC, hM]; exact HSH.out.2.1
                have hR10 := row51_back (base := w.heap.size) hb10' HMX.out.2.2.2 (by rw [hMl]; exact HMX.out.2.1) HMX.out.2.2.1 hCs (by rw [hMl]; exact hCt)
                rw [hMl] at hR10
                have hset : M.set q (toR s) = (isortP (o' ++ [s])).map toR := by
                  rw [hM, shift_set (by rw [HML.out]; exact hqn), isort_snoc, ← HX.out, HINS.out, HPOS.out]
                  simp
                have HR10 := Aside0.mk hR10
                have HSET := Lib.hid hset
                have t0 : w10.cell? ⟨bS, 0, none⟩ = some (.int .i64 (y0 - y1)) := (blk_cell hS10 0).trans rfl
                have t1 : w10.cell? ⟨bS, 1, none⟩ = some (.int .i64 (x1 - x0)) := (blk_cell hS10 1).trans rfl
                have t2 : w10.cell? ⟨bS, 2, none⟩ = some (.int .i64 (i : Int)) := (blk_cell hS10 2).trans rfl
                have t3 : w10.cell? ⟨bS, 3, none⟩ = some (.int .i64 (t : Int)) := (blk_cell hS10 3).trans rfl
                have HSg := Aside0.mk hS10
                have hcc : ∀ j u, ((C.toList.drop (q * 4)).take 4)[j]? = some u → w10.cell? ⟨g, q * 4 + j, none⟩ = some u := fun j u hj => by
                  have hj4 : j < 4 := by
                    have := (List.getElem?_eq_some_iff.1 hj).1
                    rw [List.length_take] at this
                    omega
                  rw [List.getElem?_take, if_pos hj4, List.getElem?_drop] at hj
                  exact (blk_cell hb10' _).trans (by simpa using hj)
                have hcl : ((C.toList.drop (q * 4)).take 4).length = 4 := by
                  have := HMX.out.2.1
                  rw [List.length_take, List.length_drop, Array.length_toList, hCs]
                  omega
                have HCC := Aside0.mk (And.intro hcc hcl)
                have hMM : ∀ cc : List Value, cc.length = 4 → k51.M w10 w.heap.size (fun _ => False) (toR s) (cc.take 0 ++ [.int .i64 (y0 - y1), .int .i64 (x1 - x0), .int .i64 (i : Int), .int .i64 (t : Int)] ++ cc.drop (0 + [Value.int .i64 (y0 - y1), .int .i64 (x1 - x0), .int .i64 (i : Int), .int .i64 (t : Int)].length)) := fun cc hcc4 => by
                  rw [List.take_zero, List.nil_append, List.drop_eq_nil_of_le (by rw [hcc4]; exact Nat.le_refl 4), List.append_nil, HS.out]
                  exact k51_mkM _ _ _ (toR ⟨(i : Int), (t : Int), y0 - y1, x1 - x0⟩)
                have HMM := Aside0.mk hMM
                clear hMM
                have HB10 := Aside0.mk hB10
                clear hb10 hb10' hCs hCt hR10 hset hM hMl hC hS10 hcc hcl hf10 hcut1 hcut2 hBd hB10
                go_wp2_with ((with_reducible refine gate_ (.store 51 (.tmp 102) (.tmp 101)) rfl ?_); go_must (refine Kd.R_store k51 (w0 := w) w.heap.size rfl rfl 51 (.tmp 102) (.tmp 101) rfl 51 (q : Int) 0 M (toR s) _ [.int .i64 (y0 - y1), .int .i64 (x1 - x0), .int .i64 (i : Int), .int .i64 (t : Int)] _ (fun _ => True) (fun _ => False) rfl (by rw [Int.toNat_natCast]; rfl) rfl rfl (by kernel_rfl) (by intro v hv; simp at hv; rcases hv with rfl | rfl | rfl | rfl <;> rfl) HR10.out (by omega) (by omega) HCC.out.2 (by rw [Int.toNat_natCast]; exact HCC.out.1) (Nat.le_refl 4) (HMM.out _ HCC.out.2) (fun _ hk => hk.elim) HB10.out ?_); intro w11 hO11 hB11 hg11)
                rw [Int.toNat_natCast] at hO11
                rw [HSET.out] at hO11
                go_roundg (go2 - 1)
                case measure => have := HJ.out; have := HJJ.out; omega
                case rel =>
                  refine ⟨j + 1, o' ++ [s], by first | rfl | simp, ⟨by omega, by have := HJJ.out; omega, by have := HJ.out; have := HJJ.out; omega, by have := HJ.out; simp; omega, ?_⟩, ⟨hO11⟩, ⟨blk_grown hBK10.out hg11 (by have := HGS.out.2.1; simpa using this)⟩, ⟨blk_grown hBL10.out hg11 (by have := HGS.out.2.2; simpa using this)⟩, ⟨hB11⟩⟩
                  rw [← HJ.out.2.2.2.2, HTC.out]
                  simp
          · have hj' : ¬ (j : Int) < (ps.length : Int) := by omega
            have HJJ := Lib.hid hj
            clear hj
            go_wp2
            go_roundg (go - 1)
            case measure => have := HI.out; omega
            case rel =>
              have e := HJ.out
              have := HJJ.out
              refine ⟨i + 1, o', by first | rfl | simp, ⟨by omega, by have := HI.out; omega, ?_, ?_⟩, HO3, HB3⟩
              · have h1 := e.2.2.2.1
                have h2 := HP1.out.2
                omega
              · have h := e.2.2.2.2
                rw [tailC_end _ _ _ _ (by omega)] at h
                simpa using h
      · have hi' : ¬ (i : Int) < (l0.length : Int) := by omega
        have hol : o = stepsP 0 l0 := by
          have h := HI.out.2.2.2
          rw [List.drop_eq_nil_of_le (by omega)] at h
          simpa [stepsP] using h
        have HOL := Lib.hid hol
        clear hi hol
        go_wp2
        go_ret
        rw [← HOL.out]
        exact ⟨_, rfl, HO.out, HB.out⟩
  · rw [if_neg hv] at h
    cases h
end Go.Proofs.Ytgmadhlebpbcpaa.P
