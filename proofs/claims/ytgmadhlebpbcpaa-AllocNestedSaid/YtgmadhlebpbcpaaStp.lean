/- alloc.steps: what it answers for valid curves, in plain numbers. -/
import Derived.Test.YtgmadhlebpbcpaaSrt
set_option linter.unusedVariables false
set_option linter.unusedSimpArgs false
namespace Go.Proofs.Ytgmadhlebpbcpaa.P
open Go.RowKit Go.Proofs.YtgmadhlebpbcpaaW.PrintWords Go.Proofs.YtgmadhlebpbcpaaW.PrintLast Go.Proofs.YtgmadhlebpbcpaaW.PrintMore
attribute [local go_sem] max2_int min2_int max_two min_two

/-- The step of curve i from one point to another. -/
def stepP (i : Nat) (c : S37) (fr t : Int) : S54 := ⟨(i : Int), t, el c.f1 fr.toNat - el c.f1 t.toNat, el c.f0 t.toNat - el c.f0 fr.toNat⟩
def stepsC (i : Nat) (c : S37) : Int → List Int → List S54
  | _, [] => []
  | fr, t :: ps => (if t = fr then [] else [stepP i c fr t]) ++ stepsC i c t ps
def stepsP : Nat → List S37 → List S54
  | _, [] => []
  | i, c :: cs => stepsC i c 0 (pointsP c.f0 c.f1) ++ stepsP (i + 1) cs
def allV (l : List S37) : Prop := l.length ≤ 65536 ∧ ∀ c ∈ l, Vld c.f0 c.f1
instance (l : List S37) : Decidable (allV l) := by unfold allV; infer_instance
def alloc_steps.f (l0 : List S37) : Option (List S54) := if allV l0 then some (sortP (stepsP 0 l0).length (stepsP 0 l0)) else none

theorem chain_len (rs ds : List Int) : ∀ (f i : Nat), i < rs.length → (chainP rs ds f i).length ≤ f + 1 ∧ ∀ p ∈ chainP rs ds f i, 0 ≤ p ∧ p < rs.length
  | 0, i, hi => by
    simp only [chainP, List.length_cons, List.length_nil, List.mem_singleton, forall_eq]
    omega
  | f + 1, i, hi => by
    simp only [chainP, List.length_cons, List.mem_cons, forall_eq_or_imp]
    have hb := next_bound rs ds i hi
    by_cases hn : nextP rs ds i < 0
    · rw [if_pos hn]
      simp
      omega
    · rw [if_neg hn]
      have ih := chain_len rs ds f (nextP rs ds i).toNat (by omega)
      refine ⟨by omega, ⟨by omega, by omega⟩, ih.2⟩
theorem points_in {rs ds : List Int} (h : Vld rs ds) : (pointsP rs ds).length ≤ 180 ∧ ∀ p ∈ pointsP rs ds, 0 ≤ p ∧ p < rs.length := by
  unfold pointsP
  rw [if_pos (show validB rs ds = true from decide_eq_true h)]
  have := chain_len rs ds rs.length 0 (by have := h.2.1; omega)
  have hl := h.2.2.1
  exact ⟨by omega, this.2⟩
theorem stepsC_len (i : Nat) (c : S37) : ∀ (ps : List Int) (fr : Int), (stepsC i c fr ps).length ≤ ps.length
  | [], _ => by simp [stepsC]
  | t :: ps, fr => by
    have := stepsC_len i c ps t
    simp only [stepsC, List.length_append, List.length_cons]
    split <;> simp <;> omega
theorem stepsP_len : ∀ (cs : List S37) (i : Nat), (∀ c ∈ cs, Vld c.f0 c.f1) → (stepsP i cs).length ≤ 180 * cs.length
  | [], _, _ => by simp [stepsP]
  | c :: cs, i, h => by
    have h1 := stepsP_len cs (i + 1) (fun d hd => h d (List.mem_cons_of_mem _ hd))
    have h2 := stepsC_len i c (pointsP c.f0 c.f1) 0
    have h3 := (points_in (h c List.mem_cons_self)).1
    simp only [stepsP, List.length_append, List.length_cons]
    omega

theorem R_append_held2 {P : Program} {ops : Array Oper} {o : Oper} {a : Act} {Q : Exit → Act → World → Prop} {Kc : Act → World → Prop} {E : Prop} {α : Type} (d : Kd α) {w0 W : World} (base : Nat) (hgd : o.guard = none) (s x : Operand) (t e : TypeId) (z : Value) (bytes : Nat)
    (ho : o.op = .call { callee := .builtin .append, args := #[s, x], argTypes := #[t, t] })
    (ht : P.underlying t = some (.slice e)) (hinfo : (P.info? e).map (fun i => (i.zero, i.size, i.bytes)) = some (some z, d.sz, bytes)) (hz : z.cells.size = d.sz) (hs0 : 0 < d.sz) (hb0 : 0 < bytes)
    (v : Value) (xs : List α) (p : α) (cs : List Value) (hs : a.eval s = v) (hx : a.eval x = .slice (some ⟨W.heap.size, 0, none⟩) 1 1) (hp : d.M W base (fun _ => False) p cs)
    (HO : d.R e W base (fun _ => True) v xs) (HB : Below base w0 W) (hbase : base ≤ W.heap.size) (hl : (xs.length + 1) * bytes ≤ 140737488355328)
    (h : ∀ v1 w1, d.R e w1 base (fun _ => True) v1 (xs ++ [p]) → Below base w0 w1 → W.grownBy w1 v.ownBlock → Kc (a.put o.dst v1) w1) :
    if Region.wanted o (yielded ops a.tmps) = true then Oper.wp P o a (W.alloc (.cells cs.toArray e)) Kc Q else E := by
  have hw : Region.wanted o (yielded ops a.tmps) = true := by simp [Region.wanted, hgd]
  have g := Kd.R_append_step d (ops := ops) (o := o) (a := a) (Q := Q) (Kc := Kc) (w0 := w0) (W := W) base hw s x t e z bytes ho ht hinfo hz hs0 hb0 v xs p cs (fun _ => True) (fun _ => False) hs hx hp (fun _ hk => hk.elim) (fun _ _ => trivial) HO HB hbase hl (fun v1 w1 h1 h2 h3 _ => h v1 w1 h1 h2 h3)
  rw [if_pos hw] at g ⊢
  exact g
theorem points_ne (rs ds : List Int) (h : Vld rs ds) : 0 < (pointsP rs ds).length := by
  unfold pointsP
  rw [if_pos (show validB rs ds = true from decide_eq_true h)]
  cases rs.length <;> simp [chainP]
/-- A row of whole numbers of the call's own that is not empty: its block, and what lies there. -/
theorem row_of {w : World} {base : Nat} {v : Value} {ps : List Int} (h : Kd.R (Kd.int .i64) 3 w base (fun _ => True) v ps) (hn : 0 < ps.length) :
    ∃ (g cap : Nat) (cur : Array Value), v = .slice (some ⟨g, 0, none⟩) ps.length cap ∧ w.heap[g]? = some (.cells cur 3 (0, 0)) ∧ (∀ j, j < ps.length → cur[j]? = some (.int .i64 (el ps j))) ∧ ps.length ≤ cap := by
  have ho := Kd.own_of_R h
  rcases ho.2 with ⟨_, h0⟩ | ⟨g, cap, cur, he, hb, hh, hnc, hcm, hcs, ht⟩
  · omega
  · refine ⟨g, cap, cur, he, hh, fun j hj => ?_, hnc⟩
    have e : (cur.toList.take (ps.length * 1))[j]? = (encs (Value.int .i64) ps)[j]? := by rw [ht]
    rw [List.getElem?_take, if_pos (by omega)] at e
    rw [← Array.getElem?_toList, e]
    simp [encs, el, List.getD_eq_getElem?_getD, hj]

set_option maxRecDepth 1000000 in
set_option maxHeartbeats 4000000 in
theorem alloc_steps.calls (A0 : Option Addr) (c0 : Nat) (l0 : List S37) (r : List S54) (w : World) (hr0 : Kd.C k37 w A0 l0.length l0) (hc0 : l0.length ≤ c0) (h : alloc_steps.f l0 = some r) :
    Calls Try.prog 22 #[.slice A0 l0.length c0] w fun e w' => ∃ v0_ : Value, e = .returned (v0_) ∧ Kd.R k54 54 w' w.heap.size (fun _ => True) v0_ r ∧ Below w.heap.size w w' := by
  unfold alloc_steps.f at h
  by_cases hv : allV l0
  · rw [if_pos hv] at h
    obtain rfl := Option.some.inj h
    have HV := Lib.hid hv
    have HR := Lib.hid hr0
    have hn : (l0.length : Int) ≤ 65536 := by have := hv.1; omega
    have hu37 := Try.underlying37
    clear h hv hr0
    go_enter Try.func22, Try.ntmps22
    go_wp2
    go_loopg [3, 11] (l0.length + 1) (fun kq v3 v11 w' => ∃ (i : Nat) (o : List S54), v11 = .int .i64 i ∧ Aside0 (i ≤ l0.length ∧ kq + i = l0.length + 1 ∧ o.length ≤ 180 * i ∧ o ++ stepsP i (l0.drop i) = stepsP 0 l0) ∧ Aside0 (Kd.R k54 54 w' w.heap.size (fun _ => True) v3 o) ∧ Aside0 (Below w.heap.size w w'))
    case atStart =>
      exact ⟨0, [], by first | rfl | simp, ⟨by omega, by omega, by simp, by simp⟩, ⟨Kd.R_nil _ _ _ _ _⟩, ⟨Below.refl _ _⟩⟩
    case round =>
      obtain ⟨i, o, rfl, HI, HO, HB⟩ := hrel
      obtain ⟨go, rfl⟩ : ∃ go : Nat, go = gk := ⟨_, rfl⟩
      by_cases hi : i < l0.length
      · have hi' : (i : Int) < (l0.length : Int) := by omega
        have hi0 : (0 : Int) ≤ (i : Int) := by omega
        have hi2 : (i : Int) ≤ 65536 := by omega
        obtain ⟨ad, a0, k0, a1, k1, rfl, hx0, hx1, hk0, hC0, hk1, hC1⟩ := at_T37 HR.out i hi0 hi'
        rw [Int.toNat_natCast] at hx0 hx1
        replace hx0 := pw_cell_below HB.out hx0
        replace hx1 := pw_cell_below HB.out hx1
        obtain ⟨c, hc⟩ : ∃ c, c = rd_T37 l0 (i : Int) := ⟨_, rfl⟩
        rw [← hc] at hx0 hx1 hk0 hC0 hk1 hC1
        have hcv : Vld c.f0 c.f1 := HV.out.2 c (by rw [hc]; unfold rd_T37; rw [Int.toNat_natCast, List.getD_eq_getElem?_getD, List.getElem?_eq_getElem hi]; exact List.getElem_mem hi)
        have hdr : l0.drop i = c :: l0.drop (i + 1) := by rw [hc, List.drop_eq_getElem_cons hi]; unfold rd_T37; simp [List.getD_eq_getElem?_getD, hi]
        have HC := Lib.hid hc
        have HCV := Lib.hid hcv
        have HDR := Lib.hid hdr
        have HC0 := Lib.hid hC0
        have HC1 := Lib.hid hC1
        have HK0 := Lib.hid hk0
        have HK1 := Lib.hid hk1
        clear hc hcv hdr hC0 hC1 hk0 hk1
        go_wp2_with (go_at_call 27; (with_reducible refine (hull_Points.calls a0 k0 c.f0 a1 k1 c.f1 (pointsP c.f0 c.f1) _ ?p1 HK0.out ?p2 HK1.out rfl).mono ?_); (case p1 => exact Kd.C_below HC0.out (below_alloc HB.out _)); (case p2 => exact Kd.C_below HC1.out (below_alloc HB.out _)); rintro e w2 ⟨v17, rfl, hR17, hB17⟩; obtain ⟨g17, cap17, cur17, rfl, hblk17, hrow17, hn17⟩ := row_of hR17 (points_ne _ _ HCV.out))
        have HBK := Aside0.mk (show w2.heap[wr.heap.size]? = some (.cells #[.slice a0 c.f0.length k0, .slice a1 c.f1.length k1] 37 (0, 0)) from (hB17.block wr.heap.size (by simp)).trans (heap_alloc_new wr _))
        have HO2 := Aside0.mk (Kd.R_below (Kd.R_alloc HO.out (.cells #[.slice a0 c.f0.length k0, .slice a1 c.f1.length k1] 37)) hB17)
        have HB2 := Aside0.mk (below_step (below_alloc HB.out (.cells #[.slice a0 c.f0.length k0, .slice a1 c.f1.length k1] 37)) hB17)
        have HBL := Aside0.mk hblk17
        have HRW := Lib.hid hrow17
        obtain ⟨ps, hps⟩ : ∃ ps, ps = pointsP c.f0 c.f1 := ⟨_, rfl⟩
        rw [← hps] at hn17 HRW ⊢
        obtain ⟨bB, hbB⟩ : ∃ b, b = wr.heap.size := ⟨_, rfl⟩
        rw [← hbB] at HBK ⊢
        have HPS := Lib.hid hps
        have HBBQ := Lib.hid hbB
        clear hR17 hB17 hblk17 hrow17 HO HB hps hbB hx0 hx1
        go_loopg [3, 6, 8, 19] (ps.length + 1) (fun kq v3 v6 v8 v19 w' => ∃ (j f : Nat) (o' : List S54), v19 = .int .i64 j ∧ v6 = .int .i64 f ∧ Aside0 (j ≤ ps.length ∧ kq + j = ps.length + 1 ∧ f < c.f0.length ∧ o'.length ≤ 180 * i + j ∧ o' ++ (stepsC i c f (ps.drop j) ++ stepsP (i + 1) (l0.drop (i + 1))) = stepsP 0 l0) ∧ Aside0 (Kd.R k54 54 w' w.heap.size (fun _ => True) v3 o') ∧ Aside0 (w'.heap[bB]? = some (.cells #[.slice a0 c.f0.length k0, .slice a1 c.f1.length k1] 37 (0, 0))) ∧ Aside0 (w'.heap[g17]? = some (.cells cur17 3 (0, 0))) ∧ Aside0 (Below w.heap.size w w'))
        case atStart =>
          refine ⟨0, 0, o, by first | rfl | simp, by first | rfl | simp, ⟨by omega, by omega, by have := HCV.out.2.1; omega, by have := HI.out.2.2.1; omega, ?_⟩, HO2, HBK, HBL, HB2⟩
          have := HI.out.2.2.2
          rw [HDR.out] at this
          rw [← this, List.drop_zero, HPS.out]
          rfl
        case round =>
          obtain ⟨j, f, o', rfl, rfl, HJ, HO3, HBK3, HBL3, HB3⟩ := hrel
          clear HO2 HBK HBL HB2
          by_cases hj : j < ps.length
          · have hj' : (j : Int) < (ps.length : Int) := by omega
            have k17 := (blk_cell HBL3.out j).trans (HRW.out j hj)
            have hpin := points_in HCV.out
            have ht := hpin.2 (el ps j) (by rw [← HPS.out]; simp [el, List.getD_eq_getElem?_getD, hj])
            obtain ⟨t, hte⟩ : ∃ t : Nat, (t : Int) = el ps j := ⟨(el ps j).toNat, by omega⟩
            rw [← hte] at k17 ht
            have hjj : (j : Int) ≤ 200 := by have := hpin.1; rw [← HPS.out] at this; omega
            have hdj : ps.drop j = (t : Int) :: ps.drop (j + 1) := by rw [List.drop_eq_getElem_cons hj, hte]; simp [el, List.getD_eq_getElem?_getD, hj]
            have HDJ := Lib.hid hdj
            have HTE := Lib.hid hte
            have htl : t < c.f0.length := by omega
            have HTL := Lib.hid htl
            have HJJ := Lib.hid hj
            clear hpin ht hdj hte htl
            by_cases htf : t = f
            · subst htf
              go_wp2
              go_roundg (gk - 1)
              case measure => have := HJ.out; have := HJJ.out; omega
              case rel => exact ⟨j + 1, t, o', by first | rfl | simp, rfl, ⟨by have := HJJ.out; omega, by have := HJ.out; have := HJJ.out; omega, HTL.out, by have := HJ.out; omega, by have := HJ.out.2.2.2.2; rw [HDJ.out] at this; simpa [stepsC] using this⟩, HO3, HBK3, HBL3, HB3⟩
            · have hz : ((t : Int) == (f : Int)) = false := by simp; omega
              obtain ⟨b0, rfl, hc0'⟩ := c_cells HC0.out (by have := HCV.out.2.1; omega)
              obtain ⟨b1, rfl, hc1'⟩ := c_cells HC1.out (by have := HCV.out.2.1; have := HCV.out.1; omega)
              have hfl : f < c.f0.length := HJ.out.2.2.1
              have htl : t < c.f0.length := HTL.out
              have hld : c.f0.length = c.f1.length := HCV.out.1
              have m0 := hc0' f hfl
              have m1 := hc0' t htl
              have m2 := hc1' f (by omega)
              have m3 := hc1' t (by omega)
              have d0 := HCV.out.rate hfl
              have d1 := HCV.out.rate htl
              have d2 := HCV.out.dist hfl
              have d3 := HCV.out.dist htl
              have hfi : (f : Int) < (c.f0.length : Int) := by omega
              have hti : (t : Int) < (c.f0.length : Int) := by omega
              have hfj : (f : Int) < (c.f1.length : Int) := by omega
              have htj : (t : Int) < (c.f1.length : Int) := by omega
              have hf0 : (0 : Int) ≤ (f : Int) := by omega
              have ht0 : (0 : Int) ≤ (t : Int) := by omega
              obtain ⟨x0, hx0⟩ : ∃ x, x = el c.f0 f := ⟨_, rfl⟩
              obtain ⟨x1, hx1⟩ : ∃ x, x = el c.f0 t := ⟨_, rfl⟩
              obtain ⟨y0, hy0⟩ : ∃ x, x = el c.f1 f := ⟨_, rfl⟩
              obtain ⟨y1, hy1⟩ : ∃ x, x = el c.f1 t := ⟨_, rfl⟩
              rw [← hx0] at m0 d0
              rw [← hx1] at m1 d1
              rw [← hy0] at m2 d2
              rw [← hy1] at m3 d3
              have hst : stepP i c (f : Int) (t : Int) = ⟨(i : Int), (t : Int), y0 - y1, x1 - x0⟩ := by unfold stepP; rw [Int.toNat_natCast, Int.toNat_natCast, hx0, hx1, hy0, hy1]
              have HST := Lib.hid hst
              have M := Aside0.mk (And.intro m0 (And.intro m1 (And.intro m2 m3)))
              have q0 := (blk_cell HBK3.out 0).trans rfl
              have q1 : wr.cell? ⟨bB, 1, none⟩ = some (.slice (some b1) c.f1.length k1) := (blk_cell HBK3.out 1).trans rfl
              have Q0 : wr.cell? ⟨bB, 0, none⟩ = some (.slice (some b0) c.f0.length k0) := q0
              clear q0
              replace m0 := pw_cell_below HB3.out m0
              replace m1 := pw_cell_below HB3.out m1
              replace m2 := pw_cell_below HB3.out m2
              replace m3 := pw_cell_below HB3.out m3
              have hll : (o'.length + 1) * 32 ≤ 140737488355328 := by have := HJ.out.2.2.2.1; omega
              have HLL := Lib.hid hll
              have HTF := Lib.hid htf
              have hw1 : IntKind.i64.wrap (y0 - y1) = y0 - y1 := by rw [IntKind.wrap_i64]; omega
              have hw2 : IntKind.i64.wrap (x1 - x0) = x1 - x0 := by rw [IntKind.wrap_i64]; omega
              have hzn : ((t : Int) != (f : Int)) = true := by simp; omega
              clear hll hst hx0 hx1 hy0 hy1 hfl htl hld hc0' hc1' htf
              go_wp2
              go_region_held3 (fun W => W.cell? ⟨bB, 0, none⟩ = some (.slice (some b0) c.f0.length k0) ∧ W.cell? ⟨bB, 1, none⟩ = some (.slice (some b1) c.f1.length k1) ∧ W.cell? (b0.add f) = some (.int .i64 x0) ∧ W.cell? (b0.add t) = some (.int .i64 x1) ∧ W.cell? (b1.add f) = some (.int .i64 y0) ∧ W.cell? (b1.add t) = some (.int .i64 y1)) (first | go_keep | assumption)
                ((refine R_append_held2 k54 (w0 := w) w.heap.size rfl (.tmp 26) (.tmp 52) 44 54 _ 32 rfl Try.underlying44 info54a rfl (by decide) (by omega) u3 o' ⟨(i : Int), (t : Int), y0 - y1, x1 - x0⟩ _ rfl rfl (k54_mkM _ _ _ ⟨(i : Int), (t : Int), y0 - y1, x1 - x0⟩) (Kd.R_drew HO3.out) (below_drew1 HB3.out) (below_drew1 HB3.out).size HLL.out ?_; intro v3 w3 hO4 hB4 hg4; have hBK4 := blk_grown (blk_drew HBK3.out) hg4 (own_ne (Kd.R_own HO3.out).choose_spec HBK3.out (by decide)); have hBL4 := blk_grown (blk_drew HBL3.out) hg4 (own_ne (Kd.R_own HO3.out).choose_spec HBL3.out (by decide)); have hS := And.intro (show w3.cell? ⟨bB, 0, none⟩ = some (.slice (some b0) c.f0.length k0) from (blk_cell hBK4 0).trans rfl) (And.intro (show w3.cell? ⟨bB, 1, none⟩ = some (.slice (some b1) c.f1.length k1) from (blk_cell hBK4 1).trans rfl) (And.intro (pw_cell_below hB4 M.out.1) (And.intro (pw_cell_below hB4 M.out.2.1) (And.intro (pw_cell_below hB4 M.out.2.2.1) (pw_cell_below hB4 M.out.2.2.2)))))))
              go_wp2
              go_roundg (gk - 1)
              case measure => have := HJ.out; have := HJJ.out; omega
              case rel => exact ⟨j + 1, t, o' ++ [⟨(i : Int), (t : Int), y0 - y1, x1 - x0⟩], by first | rfl | simp, rfl, ⟨by have := HJJ.out; omega, by have := HJ.out; have := HJJ.out; omega, HTL.out, by have := HJ.out; simp; omega, by have := HJ.out.2.2.2.2; rw [HDJ.out] at this; rw [← this]; simp only [stepsC]; rw [if_neg (by have := HTF.out; omega), HST.out]; simp⟩, ⟨hO4⟩, ⟨hBK4⟩, ⟨hBL4⟩, ⟨hB4⟩⟩
          · have hj' : ¬ (j : Int) < (ps.length : Int) := by omega
            have HJJ := Lib.hid hj
            clear hj
            go_wp2
            go_roundg (go - 1)
            case measure => have := HI.out; omega
            case rel =>
              have e := HJ.out
              have := HJJ.out
              refine ⟨i + 1, o', by first | rfl | simp, ⟨by omega, by have := HI.out; omega, ?_, ?_⟩, HO3, HB3⟩
              · have h1 := e.2.2.2.1
                have h2 := (points_in HCV.out).1
                rw [← HPS.out] at h2
                omega
              · have h := e.2.2.2.2
                rw [List.drop_eq_nil_of_le (by omega)] at h
                simpa [stepsC] using h
      · have hi' : ¬ (i : Int) < (l0.length : Int) := by omega
        have HII := Lib.hid hi
        clear hi
        obtain ⟨A3, c3, rfl, hc3, hR3⟩ := Kd.R_reads HO.out
        have hol : o = stepsP 0 l0 := by
          have h := HI.out.2.2.2
          rw [List.drop_eq_nil_of_le (by have := HII.out; omega)] at h
          simpa [stepsP] using h
        have hon : o.length ≤ 100000000 := by have := HI.out; have := HV.out.1; omega
        have HOL := Lib.hid hol
        have HON := Lib.hid hon
        have HC3 := Lib.hid hc3
        have HR3 := Lib.hid hR3
        clear hol hon hc3 hR3
        go_wp2_with (go_at_call 28; (with_reducible refine (sorted_walk o.length A3 c3 o _ (Nat.le_refl _) HON.out HR3.out HC3.out).mono ?_); rintro e w2 ⟨A', c', rfl, hC', hc', hb', hor'⟩)
        go_ret
        rw [← HOL.out]
        refine ⟨_, rfl, ?_, below_step HB.out hb'⟩
        rcases hor' with ⟨rfl, rfl, he, rfl⟩ | hor'
        · rw [he]; exact HO.out
        · exact Kd.R_lower hor' HB.out.size
  · rw [if_neg hv] at h
    cases h
end Go.Proofs.Ytgmadhlebpbcpaa.P
