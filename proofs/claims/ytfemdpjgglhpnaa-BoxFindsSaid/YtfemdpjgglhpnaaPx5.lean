-- Written by a program of this session (wip/gen/pr.py, over the kit's print): Lean checks it.
import Derived.Test.YtfemdpjgglhpnaaPx0
namespace Go.Proofs.Ytfemdpjgglhpnaa.P
open Go.RowKit Go.Proofs.YtfemdpjgglhpnaaW.Opens Go.Proofs.YtfemdpjgglhpnaaW.PrintWords Go.Proofs.YtfemdpjgglhpnaaW.PrintLast Go.Proofs.YtfemdpjgglhpnaaW.PrintMore
attribute [local go_sem] max2_int min2_int max_two min_two max_three min_three max_four min_four   -- for this text's walks alone
set_option linter.unusedVariables false
set_option linter.unusedSimpArgs false

/-! ### box_clone: function 35 -/
mutual
def box_clone.l0 : Nat → List (S37) → Int → Int → ByteArray → List Int → List (S37) → Option (ByteArray × List Int × (List (S37)))
 | 0, _, _, _, _, _, _ => none
 | k + 1, x13, x14, x15, x171000, x171001, x171002 => if x15 < x14 then (if 0 ≤ x15 then (if x15 < (x13.length : Int) then ((box_clone.f k ((rd_T37 x13 x15).f0) ((rd_T37 x13 x15).f1) ((rd_T37 x13 x15).f2)).bind fun bt173 => (if x171002.length < 2199023255552 then (box_clone.l0 k x13 x14 (wrap64 (x15 + 1)) x171000 x171001 (x171002 ++ [(⟨bt173.1, bt173.2.1, bt173.2.2⟩ : S37)])) else (none))) else (none)) else (none)) else (some (x171000, x171001, x171002))
def box_clone.f : Nat → ByteArray → List Int → List (S37) → Option (ByteArray × List Int × (List (S37)))
 | 0, _, _, _ => none
 | k + 1, a0_0, l0_1, l0_2 => if ([] : List Int).length + l0_1.length < 140737488355328 then (box_clone.l0 k l0_2 (l0_2.length : Int) 0 a0_0 (([] : List Int) ++ l0_1) ([] : List (S37))) else (none)
end
theorem box_clone.mono_l : ∀ k, (∀ y0 y1 y2, LeO (box_clone.f k y0 y1 y2) (box_clone.f (k + 1) y0 y1 y2)) ∧ (∀ y0 y1 y2 y3 y4 y5, LeO (box_clone.l0 k y0 y1 y2 y3 y4 y5) (box_clone.l0 (k + 1) y0 y1 y2 y3 y4 y5))
 | 0 => ⟨fun _ _ _ r h => by simp [box_clone.f] at h, fun _ _ _ _ _ _ r h => by simp [box_clone.l0] at h⟩
 | k + 1 => by
  obtain ⟨ih0, ih1⟩ := box_clone.mono_l k
  refine ⟨?_, ?_⟩
  ·
   intro y0 y1 y2
   unfold box_clone.f
   repeat' first
   | (with_reducible exact ih0 _ _ _)
   | (with_reducible exact ih1 _ _ _ _ _ _)
   | (with_reducible exact LeO.refl _)
   | (with_reducible exact LeO.none _)
   | (with_reducible refine LeO.ite ?_ ?_)
   | (with_reducible refine LeO.bind ?_ (fun _ => ?_))
   | exact ih0 _ _ _
   | exact ih1 _ _ _ _ _ _
   | exact LeO.none _
   | refine LeO.ite ?_ ?_
   | refine LeO.bind ?_ (fun _ => ?_)
  ·
   intro y0 y1 y2 y3 y4 y5
   unfold box_clone.l0
   repeat' first
   | (with_reducible exact ih0 _ _ _)
   | (with_reducible exact ih1 _ _ _ _ _ _)
   | (with_reducible exact LeO.refl _)
   | (with_reducible exact LeO.none _)
   | (with_reducible refine LeO.ite ?_ ?_)
   | (with_reducible refine LeO.bind ?_ (fun _ => ?_))
   | exact ih0 _ _ _
   | exact ih1 _ _ _ _ _ _
   | exact LeO.none _
   | refine LeO.ite ?_ ?_
   | refine LeO.bind ?_ (fun _ => ?_)
theorem box_clone.mono : ∀ a0 a1 a2 k, LeO (box_clone.f k a0 a1 a2) (box_clone.f (k + 1) a0 a1 a2) := by
 intro a0 a1 a2 k
 obtain ⟨ih0, ih1⟩ := box_clone.mono_l k
 exact ih0 a0 a1 a2
def box_clone.T1 : Bool × List (List Nat × List Nat) := (true, [([], []), ([0], [0]), ([], []), ([2], [2]), ([3], [3]), ([1, 4], [1, 4]), ([], []), ([6, 5, 4, 0, 1, 2, 3, 4, 5, 6], [5, 6])])
def box_clone.B1 : List Nat := [0, 1, 0, 4, 12, 31, 0, 127]
theorem box_clone.tab1 : rtab .any (opsOf Try.f35 1) = box_clone.T1 := by kernel_rfl
theorem box_clone.bits1 : waitsOk box_clone.T1.2 box_clone.B1 = true := by kernel_rfl
def box_clone.T5 : Bool × List (List Nat × List Nat) := (true, [([], []), ([0], [0]), ([], []), ([2], [2]), ([3], [3]), ([1, 4, 3], [1, 4]), ([0, 1, 2, 3, 4, 5], []), ([6, 5, 5, 0, 1, 2, 3, 4, 5], [5, 6])])
def box_clone.B5 : List Nat := [0, 1, 0, 4, 12, 31, 63, 127]
theorem box_clone.tab5 : rtab .any (opsOf Try.f35 5) = box_clone.T5 := by kernel_rfl
theorem box_clone.bits5 : waitsOk box_clone.T5.2 box_clone.B5 = true := by kernel_rfl
set_option maxHeartbeats 8000000 in
set_option maxRecDepth 100000 in
theorem box_clone.calls (k : Nat) : ∀ (a0_0 : ByteArray) (A0_1 : Option Addr) (c0_1 : Nat) (l0_1 : List Int) (A0_2 : Option Addr) (c0_2 : Nat) (l0_2 : List (S37)) (r1 : ByteArray) (r2 : List Int) (r3 : List (S37)) (w : World) (hr0_1 : Kd.C (Kd.int .u8) w A0_1 l0_1.length l0_1) (hc0_1 : l0_1.length ≤ c0_1) (hr0_2 : Kd.C k37 w A0_2 l0_2.length l0_2) (hc0_2 : l0_2.length ≤ c0_2) (h : box_clone.f k a0_0 l0_1 l0_2 = some (r1, r2, r3)),
  Calls Try.prog 35 #[.agg #[.string a0_0, .slice A0_1 l0_1.length c0_1, .slice A0_2 l0_2.length c0_2]] w fun e w' => ∃ v1_ v2_ : Value, e = .returned (.agg #[.string r1, v1_, v2_]) ∧ Kd.R (Kd.int .u8) 5 w' w.heap.size (fun _ => True) v1_ r2 ∧ Kd.R k37 37 w' w.heap.size (fun k_ => some k_ ≠ (v1_ : Value).ownBlock) v2_ r3 ∧ Below w.heap.size w w' := by
 induction k using Nat.strongRecOn with
 | _ k ih =>
 intro a0_0 A0_1 c0_1 l0_1 A0_2 c0_2 l0_2 r1 r2 r3 w hr0_1 hc0_1 hr0_2 hc0_2 h
 cases k with
 | zero => exact absurd h (by simp [box_clone.f])
 | succ k =>
 simp only [box_clone.f] at h
 have hu37 := Try.underlying37
 have HR0_1 := As hr0_1
 have HC0_1 := As hc0_1
 clear hr0_1 hc0_1
 have HR0_2 := As hr0_2
 have HC0_2 := As hc0_2
 clear hr0_2 hc0_2
 have HB := As (Below.refl w.heap.size w)
 have H : (if ([] : List Int).length + l0_1.length < 140737488355328 then (box_clone.l0 k l0_2 (l0_2.length : Int) 0 a0_0 (([] : List Int) ++ l0_1) ([] : List (S37))) else (none)) = some (r1, r2, r3) := h
 clear h
 by_cases c2 : ([] : List Int).length + l0_1.length < 140737488355328
 ·
  rw [if_pos c2] at H
  have LMc2 := As c2
  clear c2
  obtain ⟨y167, hy167⟩ : ∃ y_ : List Int, y_ = (([] : List Int) ++ l0_1) := ⟨_, rfl⟩
  replace H : (box_clone.l0 k l0_2 (l0_2.length : Int) 0 a0_0 y167 ([] : List (S37))) = some (r1, r2, r3) := by first | (rw [hy167]; with_reducible exact H) | (have H2_ := (Option.bind_some _ _).symm.trans H; rw [hy167]; with_reducible exact H2_) | (have H2_ := (Option.bind_some _ _).symm.trans H; with_reducible exact H2_) | with_reducible exact H | (rw [hy167]; exact H) | exact H
  have Ny167 := As hy167
  clear hy167
  have H' := As H
  clear H
  go_enter Try.func35, Try.ntmps35
  try go_wp2_with (first | ((with_reducible refine gate_dst (N := 1) rfl ?_); refine box_event ?hg (N := 1) ?hd (cs := #[.string a0_0, .slice A0_1 l0_1.length c0_1, .slice A0_2 l0_2.length c0_2]) (t := 37) ?hr ?_; (case hd => rfl); (case hg => rfl); (case hr => first | (go_simp; done) | (go_simp; rfl)); intro gb165 hg w3 hbox hb; have n0_ := As (below_step (by repeat (first | (with_reducible first | exact HB.out | apply bla | apply bln | apply bld) | exact HB.out)) hb); have n1_ := As (hbox); have n2_ := As ((by rw [hg]; exact (below_size (by repeat (first | (with_reducible first | exact HB.out | apply bla | apply bln | apply bld) | exact HB.out))) : w.heap.size ≤ gb165)); have n3_ := As ((by rw [hg]; exact (below_size (by repeat (first | (with_reducible first | exact HB.out | apply bla | apply bln | apply bld) | exact HB.out))) : w.heap.size ≤ gb165)); clear HB; have HB := n0_; have BK165 := n1_; have GW165 := n2_; have GE165 := n3_; clear n0_ n1_ n2_ n3_; clear hb hbox hg) | ((with_reducible refine gate_dst (N := 2) rfl ?_); refine box_event ?hg (N := 2) ?hd (cs := #[.string (⟨#[]⟩ : ByteArray), .slice none 0 0, .slice none 0 0]) (t := 37) ?hr ?_; (case hd => rfl); (case hg => rfl); (case hr => first | (go_simp; done) | (go_simp; rfl)); intro gb166 hg w4 hbox hb; have n0_ := As (bkb (g := gb165) (o := .cells #[.string a0_0, .slice A0_1 l0_1.length c0_1, .slice A0_2 l0_2.length c0_2] 37 (0, 0)) (by (with_reducible repeat (first | refine bkn ?_ _ | refine bkd ?_ | refine bka ?_ _)); exact BK165.out) hb); have n1_ := As (below_step (by repeat (first | (with_reducible first | exact HB.out | apply bla | apply bln | apply bld | refine bls ?_ GE165.out) | exact HB.out)) hb); have n2_ := As (hbox); have n3_ := As ((by rw [hg]; exact (below_size (by repeat (first | (with_reducible first | exact HB.out | apply bla | apply bln | apply bld | refine bls ?_ GE165.out) | exact HB.out))) : w.heap.size ≤ gb166)); have n4_ := As ((by rw [hg]; exact (below_size (by repeat (first | (with_reducible first | exact HB.out | apply bla | apply bln | apply bld | refine bls ?_ GE165.out) | exact HB.out))) : w.heap.size ≤ gb166)); have n5_ := As ((by rw [hg]; exact Nat.ne_of_lt (blk_lt (g := gb165) (o := .cells #[.string a0_0, .slice A0_1 l0_1.length c0_1, .slice A0_2 l0_2.length c0_2] 37 (0, 0)) (by (with_reducible repeat (first | refine bkn ?_ _ | refine bkd ?_ | refine bka ?_ _)); exact BK165.out)) : gb165 ≠ gb166)); have n6_ := As ((by rw [hg]; exact Nat.ne_of_gt (blk_lt (g := gb165) (o := .cells #[.string a0_0, .slice A0_1 l0_1.length c0_1, .slice A0_2 l0_2.length c0_2] 37 (0, 0)) (by (with_reducible repeat (first | refine bkn ?_ _ | refine bkd ?_ | refine bka ?_ _)); exact BK165.out)) : gb166 ≠ gb165)); clear BK165; clear HB; have BK165 := n0_; have HB := n1_; have BK166 := n2_; have GW166 := n3_; have GE166 := n4_; have NB165_166 := n5_; have NB166_165 := n6_; clear n0_ n1_ n2_ n3_ n4_ n5_ n6_; clear hb hbox hg))
  have n0_ := As (bkd BK165.out)
  have n1_ := As (bkd BK166.out)
  have n2_ := As (bld HB.out)
  clear BK165
  clear BK166
  clear HB
  have BK165 := n0_
  have BK166 := n1_
  have HB := n2_
  clear n0_ n1_ n2_
  refine start_ (n := 8) (S := fun w' => w'.cell? ⟨gb165, 0, none⟩ = some (.string a0_0) ∧ w'.cell? ⟨gb165, 1, none⟩ = some (.slice A0_1 l0_1.length c0_1) ∧ w'.cell? ⟨gb165, 2, none⟩ = some (.slice A0_2 l0_2.length c0_2)) (ds := []) #[false, false, false, false, false, false, false, false] (by kernel_rfl) rfl rfl ⟨(blk_cell BK165.out 0).trans rfl, (blk_cell BK165.out 1).trans rfl, (blk_cell BK165.out 2).trans rfl⟩ (fun hHeld => ?_); refine with_tabW box_clone.tab1 box_clone.bits1 (fun HT_ HW_ => ?_)
  generalize w4.drew = w5 at BK165 BK166 HB hHeld ⊢
  refine pure_ (i := 0) (N := some 6) (v := ?_) (a' := ?_) #[true, false, false, false, false, false, false, false] rfl rfl (any_of HT_.out (by kernel_rfl)) (fun _ _ _ h => h) (Or.inl ⟨by rfl, ?_⟩) ?_ ?_
  rotate_left
  ·
   intro w'
   go_simp
   with_reducible rfl
  rotate_left
  ·
   simp only [Act.put, List.setIfInBounds_toArray, List.set_cons_zero, List.set_cons_succ, i64_w, i32_w]
   rfl
  refine pure_ (i := 2) (N := some 8) (v := ?_) (a' := ?_) #[true, false, true, false, false, false, false, false] rfl rfl (any_of HT_.out (by kernel_rfl)) (fun _ _ _ h => h) (Or.inl ⟨by rfl, ?_⟩) ?_ ?_
  rotate_left
  ·
   intro w'
   go_simp
   with_reducible rfl
  rotate_left
  ·
   simp only [Act.put, List.setIfInBounds_toArray, List.set_cons_zero, List.set_cons_succ, i64_w, i32_w]
   rfl
  refine take_ (i := 1) (N := some 7) (v := ?_) (a' := ?_) #[true, true, true, false, false, false, false, false] rfl rfl (take_ofW HT_.out HW_.out (by kernel_rfl)) (fun _ _ _ h => h) (Or.inl ⟨by rfl, ?_⟩) hHeld ?_ ?_
  rotate_left
  ·
   rintro w' ⟨s0, s1, s2⟩
   go_simp
   with_reducible rfl
  rotate_left
  ·
   simp only [Act.put, List.setIfInBounds_toArray, List.set_cons_zero, List.set_cons_succ, i64_w, i32_w]
   rfl
  refine take_ (i := 3) (N := some 9) (v := ?_) (a' := ?_) #[true, true, true, true, false, false, false, false] rfl rfl (take_ofW HT_.out HW_.out (by kernel_rfl)) (fun _ _ _ h => h) (Or.inl ⟨by rfl, ?_⟩) hHeld ?_ ?_
  rotate_left
  ·
   rintro w' ⟨s0, s1, s2⟩
   go_simp
   with_reducible rfl
  rotate_left
  ·
   simp only [Act.put, List.setIfInBounds_toArray, List.set_cons_zero, List.set_cons_succ, i64_w, i32_w]
   rfl
  refine join_ (σ := Value × Nat) 1 #[true, true, true, true, true, true, true, false] (fun s_ => [(10, s_.1), (3, .pointer (some ⟨s_.2, 0, none⟩)), (11, .agg #[.string a0_0, s_.1, .slice none 0 0])]) (fun s_ w' => (w'.cell? ⟨gb165, 0, none⟩ = some (.string a0_0) ∧ w'.cell? ⟨gb165, 1, none⟩ = some (.slice A0_1 l0_1.length c0_1) ∧ w'.cell? ⟨gb165, 2, none⟩ = some (.slice A0_2 l0_2.length c0_2)) ∧ (Kd.R (Kd.int .u8) 5 w' w.heap.size (fun _ => True) s_.1 y167) ∧ (w'.heap[gb165]? = some (.cells #[.string a0_0, .slice A0_1 l0_1.length c0_1, .slice A0_2 l0_2.length c0_2] 37 (0, 0))) ∧ (w'.heap[gb166]? = some (.cells #[.string (⟨#[]⟩ : ByteArray), .slice none 0 0, .slice none 0 0] 37 (0, 0))) ∧ (w'.heap[s_.2]? = some (.cells #[.string (⟨#[]⟩ : ByteArray), .slice none 0 0, .slice none 0 0] 37 (0, 0))) ∧ (w.heap.size ≤ s_.2) ∧ (w.heap.size ≤ s_.2) ∧ (gb165 ≠ s_.2) ∧ (s_.2 ≠ gb165) ∧ (gb166 ≠ s_.2) ∧ (s_.2 ≠ gb166) ∧ (Below w.heap.size w w')) ?_ ?_
  rotate_left
  ·
   intro hCont
   refine two_ (i := 4) (j := 6) (Ni := some 10) (Nj := some 3) #[true, true, true, true, true, false, false, false] #[true, true, true, true, false, false, true, false] rfl rfl rfl rfl (two_of HT_.out (by kernel_rfl)) (by decide) (by decide) (fun K hK => ?_) (fun K hK => ?_)
   ·
    skip
    refine Kd.R_append_rows_step (Kd.int .u8) (w0 := w) w.heap.size (by rfl) (.const (.slice none 0 0)) (.tmp 9) 26 5 (.int .u8 0) 1 rfl Try.underlying26 info5 rfl (by decide) (by omega) (.slice none 0 0) ([] : List Int) l0_1 _ _ _ (fun _ => True) (fun _ => False) rfl rfl ?aO ?aR (fun _ _ h => h) (fun _ h => h.elim) ?aF ?aB ?aS ?aL ?_
    (case aR => repeat (first | exact (Kd.C_below HR0_1.out HB.out) | (with_reducible refine Kd.C_alloc ?_ _) | (with_reducible refine Kd.C_drewN ?_ _) | (with_reducible refine Kd.C_drew ?_)))
    (case aB => exact (by repeat (first | (with_reducible first | exact HB.out | apply bla | apply bln | apply bld | refine bls ?_ GE165.out | refine bls ?_ GE166.out) | exact HB.out)))
    (case aF => exact (fun _ _ => trivial))
    (case aO => exact ((Kd.R_nil _ _ _ _ (fun _ => True))))
    (case aS => exact (below_size (by repeat (first | (with_reducible first | exact HB.out | apply bla | apply bln | apply bld | refine bls ?_ GE165.out | refine bls ?_ GE166.out) | exact HB.out))))
    (case aL => have := LMc2.out; omega)
    intro v168 w6 ho hb hg hat
    rw [← Ny167.out] at ho
    have n0_ := As (blk_grown (g := gb165) (o := .cells #[.string a0_0, .slice A0_1 l0_1.length c0_1, .slice A0_2 l0_2.length c0_2] 37 (0, 0)) (by (with_reducible repeat (first | refine bkn ?_ _ | refine bkd ?_ | refine bka ?_ _)); exact BK165.out) hg (by simp [Value.ownBlock]))
    have n1_ := As (blk_grown (g := gb166) (o := .cells #[.string (⟨#[]⟩ : ByteArray), .slice none 0 0, .slice none 0 0] 37 (0, 0)) (by (with_reducible repeat (first | refine bkn ?_ _ | refine bkd ?_ | refine bka ?_ _)); exact BK166.out) hg (by simp [Value.ownBlock]))
    have n2_ := As (hb)
    have n3_ := As (ho)
    clear BK165
    clear BK166
    clear HB
    have BK165 := n0_
    have BK166 := n1_
    have HB := n2_
    have HO169 := n3_
    clear n0_ n1_ n2_ n3_
    clear ho hb hg hat
    obtain ⟨Ao7, co7, eo7⟩ := Kd.R_slice HO169.out
    (first | subst eo7 | (injection eo7 with f1_ f2_ f3_; have f4_ := f1_.symm; have f5_ := f3_.symm; clear f1_ f2_ f3_; subst f4_; subst f5_))
    refine hK.out _ _ ⟨(blk_cell BK165.out 0).trans rfl, (blk_cell BK165.out 1).trans rfl, (blk_cell BK165.out 2).trans rfl⟩ (fun hHeld => ?_)
    clear hK K
    refine norm_ (a' := ?_) ?_ ?_
    rotate_left
    ·
     show Act.put _ (some 10) _ = _
     simp only [Act.put, List.setIfInBounds_toArray, List.set_cons_zero, List.set_cons_succ, i64_w, i32_w]
     rfl
    refine pure_ (i := 5) (N := some 11) (v := ?_) (a' := ?_) #[true, true, true, true, true, true, false, false] rfl rfl (any_of HT_.out (by kernel_rfl)) (fun _ _ _ h => h) (Or.inl ⟨by rfl, ?_⟩) ?_ ?_
    rotate_left
    ·
     intro w'
     go_simp
     with_reducible rfl
    rotate_left
    ·
     simp only [Act.put, List.setIfInBounds_toArray, List.set_cons_zero, List.set_cons_succ, i64_w, i32_w]
     rfl
    refine one_ (i := 6) (N := some 3) #[true, true, true, true, true, true, true, false] rfl rfl (one_of HT_.out (by kernel_rfl)) (by decide) (fun K hK => ?_)
    refine box_step ?hg (N := 3) ?hd (cs := #[.string (⟨#[]⟩ : ByteArray), .slice none 0 0, .slice none 0 0]) (t := 37) ?hr ?_; (case hd => rfl); (case hg => rfl); (case hr => first | (go_simp; done) | (go_simp; rfl))
    intro gb170 hg w8 hbox hb
    have n0_ := As (Kd.Rb (by (with_reducible repeat (first | apply Kd.Ra | apply Kd.Rn | apply Kd.Rd)); exact HO169.out) hb)
    have n1_ := As (bkb (g := gb165) (o := .cells #[.string a0_0, .slice A0_1 l0_1.length c0_1, .slice A0_2 l0_2.length c0_2] 37 (0, 0)) (by (with_reducible repeat (first | refine bkn ?_ _ | refine bkd ?_ | refine bka ?_ _)); exact BK165.out) hb)
    have n2_ := As (bkb (g := gb166) (o := .cells #[.string (⟨#[]⟩ : ByteArray), .slice none 0 0, .slice none 0 0] 37 (0, 0)) (by (with_reducible repeat (first | refine bkn ?_ _ | refine bkd ?_ | refine bka ?_ _)); exact BK166.out) hb)
    have n3_ := As (below_step (by repeat (first | (with_reducible first | exact HB.out | apply bla | apply bln | apply bld | refine bls ?_ GE165.out | refine bls ?_ GE166.out) | exact HB.out)) hb)
    have n4_ := As (hbox)
    have n5_ := As ((by rw [hg]; exact (below_size (by repeat (first | (with_reducible first | exact HB.out | apply bla | apply bln | apply bld | refine bls ?_ GE165.out | refine bls ?_ GE166.out) | exact HB.out))) : w.heap.size ≤ gb170))
    have n6_ := As ((by rw [hg]; exact (below_size (by repeat (first | (with_reducible first | exact HB.out | apply bla | apply bln | apply bld | refine bls ?_ GE165.out | refine bls ?_ GE166.out) | exact HB.out))) : w.heap.size ≤ gb170))
    have n7_ := As ((by rw [hg]; exact Nat.ne_of_lt (blk_lt (g := gb165) (o := .cells #[.string a0_0, .slice A0_1 l0_1.length c0_1, .slice A0_2 l0_2.length c0_2] 37 (0, 0)) (by (with_reducible repeat (first | refine bkn ?_ _ | refine bkd ?_ | refine bka ?_ _)); exact BK165.out)) : gb165 ≠ gb170))
    have n8_ := As ((by rw [hg]; exact Nat.ne_of_gt (blk_lt (g := gb165) (o := .cells #[.string a0_0, .slice A0_1 l0_1.length c0_1, .slice A0_2 l0_2.length c0_2] 37 (0, 0)) (by (with_reducible repeat (first | refine bkn ?_ _ | refine bkd ?_ | refine bka ?_ _)); exact BK165.out)) : gb170 ≠ gb165))
    have n9_ := As ((by rw [hg]; exact Nat.ne_of_lt (blk_lt (g := gb166) (o := .cells #[.string (⟨#[]⟩ : ByteArray), .slice none 0 0, .slice none 0 0] 37 (0, 0)) (by (with_reducible repeat (first | refine bkn ?_ _ | refine bkd ?_ | refine bka ?_ _)); exact BK166.out)) : gb166 ≠ gb170))
    have n10_ := As ((by rw [hg]; exact Nat.ne_of_gt (blk_lt (g := gb166) (o := .cells #[.string (⟨#[]⟩ : ByteArray), .slice none 0 0, .slice none 0 0] 37 (0, 0)) (by (with_reducible repeat (first | refine bkn ?_ _ | refine bkd ?_ | refine bka ?_ _)); exact BK166.out)) : gb170 ≠ gb166))
    clear HO169
    clear BK165
    clear BK166
    clear HB
    have HO169 := n0_
    have BK165 := n1_
    have BK166 := n2_
    have HB := n3_
    have BK170 := n4_
    have GW170 := n5_
    have GE170 := n6_
    have NB165_170 := n7_
    have NB170_165 := n8_
    have NB166_170 := n9_
    have NB170_166 := n10_
    clear n0_ n1_ n2_ n3_ n4_ n5_ n6_ n7_ n8_ n9_ n10_
    clear hb hbox hg
    refine hK.out _ _ ⟨(blk_cell BK165.out 0).trans rfl, (blk_cell BK165.out 1).trans rfl, (blk_cell BK165.out 2).trans rfl⟩ (fun hHeld => ?_)
    clear hK K
    refine norm_ (a' := ?_) ?_ ?_
    rotate_left
    ·
     show Act.put _ (some 3) _ = _
     simp only [Act.put, List.setIfInBounds_toArray, List.set_cons_zero, List.set_cons_succ, i64_w, i32_w]
     rfl
    exact norm_ (by simp only [putAll, Act.put, List.setIfInBounds_toArray, List.set_cons_zero, List.set_cons_succ]) (hCont (.slice Ao7 y167.length co7, gb170) _ ⟨hHeld, (by (with_reducible repeat (first | apply Kd.Ra | apply Kd.Rn | apply Kd.Rd)); exact HO169.out), (by (with_reducible repeat (first | refine bkn ?_ _ | refine bkd ?_ | refine bka ?_ _)); exact BK165.out), (by (with_reducible repeat (first | refine bkn ?_ _ | refine bkd ?_ | refine bka ?_ _)); exact BK166.out), (by (with_reducible repeat (first | refine bkn ?_ _ | refine bkd ?_ | refine bka ?_ _)); exact BK170.out), GW170.out, GE170.out, NB165_170.out, NB170_165.out, NB166_170.out, NB170_166.out, (by repeat (first | (with_reducible first | exact HB.out | apply bla | apply bln | apply bld | refine bls ?_ GE165.out | refine bls ?_ GE166.out | refine bls ?_ GE170.out) | exact HB.out))⟩)
   ·
    skip
    refine box_step ?hg (N := 3) ?hd (cs := #[.string (⟨#[]⟩ : ByteArray), .slice none 0 0, .slice none 0 0]) (t := 37) ?hr ?_; (case hd => rfl); (case hg => rfl); (case hr => first | (go_simp; done) | (go_simp; rfl))
    intro gb170 hg w6 hbox hb
    have n0_ := As (bkb (g := gb165) (o := .cells #[.string a0_0, .slice A0_1 l0_1.length c0_1, .slice A0_2 l0_2.length c0_2] 37 (0, 0)) (by (with_reducible repeat (first | refine bkn ?_ _ | refine bkd ?_ | refine bka ?_ _)); exact BK165.out) hb)
    have n1_ := As (bkb (g := gb166) (o := .cells #[.string (⟨#[]⟩ : ByteArray), .slice none 0 0, .slice none 0 0] 37 (0, 0)) (by (with_reducible repeat (first | refine bkn ?_ _ | refine bkd ?_ | refine bka ?_ _)); exact BK166.out) hb)
    have n2_ := As (below_step (by repeat (first | (with_reducible first | exact HB.out | apply bla | apply bln | apply bld | refine bls ?_ GE165.out | refine bls ?_ GE166.out) | exact HB.out)) hb)
    have n3_ := As (hbox)
    have n4_ := As ((by rw [hg]; exact (below_size (by repeat (first | (with_reducible first | exact HB.out | apply bla | apply bln | apply bld | refine bls ?_ GE165.out | refine bls ?_ GE166.out) | exact HB.out))) : w.heap.size ≤ gb170))
    have n5_ := As ((by rw [hg]; exact (below_size (by repeat (first | (with_reducible first | exact HB.out | apply bla | apply bln | apply bld | refine bls ?_ GE165.out | refine bls ?_ GE166.out) | exact HB.out))) : w.heap.size ≤ gb170))
    have n6_ := As ((by rw [hg]; exact Nat.ne_of_lt (blk_lt (g := gb165) (o := .cells #[.string a0_0, .slice A0_1 l0_1.length c0_1, .slice A0_2 l0_2.length c0_2] 37 (0, 0)) (by (with_reducible repeat (first | refine bkn ?_ _ | refine bkd ?_ | refine bka ?_ _)); exact BK165.out)) : gb165 ≠ gb170))
    have n7_ := As ((by rw [hg]; exact Nat.ne_of_gt (blk_lt (g := gb165) (o := .cells #[.string a0_0, .slice A0_1 l0_1.length c0_1, .slice A0_2 l0_2.length c0_2] 37 (0, 0)) (by (with_reducible repeat (first | refine bkn ?_ _ | refine bkd ?_ | refine bka ?_ _)); exact BK165.out)) : gb170 ≠ gb165))
    have n8_ := As ((by rw [hg]; exact Nat.ne_of_lt (blk_lt (g := gb166) (o := .cells #[.string (⟨#[]⟩ : ByteArray), .slice none 0 0, .slice none 0 0] 37 (0, 0)) (by (with_reducible repeat (first | refine bkn ?_ _ | refine bkd ?_ | refine bka ?_ _)); exact BK166.out)) : gb166 ≠ gb170))
    have n9_ := As ((by rw [hg]; exact Nat.ne_of_gt (blk_lt (g := gb166) (o := .cells #[.string (⟨#[]⟩ : ByteArray), .slice none 0 0, .slice none 0 0] 37 (0, 0)) (by (with_reducible repeat (first | refine bkn ?_ _ | refine bkd ?_ | refine bka ?_ _)); exact BK166.out)) : gb170 ≠ gb166))
    clear BK165
    clear BK166
    clear HB
    have BK165 := n0_
    have BK166 := n1_
    have HB := n2_
    have BK170 := n3_
    have GW170 := n4_
    have GE170 := n5_
    have NB165_170 := n6_
    have NB170_165 := n7_
    have NB166_170 := n8_
    have NB170_166 := n9_
    clear n0_ n1_ n2_ n3_ n4_ n5_ n6_ n7_ n8_ n9_
    clear hb hbox hg
    refine hK.out _ _ ⟨(blk_cell BK165.out 0).trans rfl, (blk_cell BK165.out 1).trans rfl, (blk_cell BK165.out 2).trans rfl⟩ (fun hHeld => ?_)
    clear hK K
    refine norm_ (a' := ?_) ?_ ?_
    rotate_left
    ·
     show Act.put _ (some 3) _ = _
     simp only [Act.put, List.setIfInBounds_toArray, List.set_cons_zero, List.set_cons_succ, i64_w, i32_w]
     rfl
    refine one_ (i := 4) (N := some 10) #[true, true, true, true, true, false, true, false] rfl rfl (one_of HT_.out (by kernel_rfl)) (by decide) (fun K hK => ?_)
    refine Kd.R_append_rows_step (Kd.int .u8) (w0 := w) w.heap.size (by rfl) (.const (.slice none 0 0)) (.tmp 9) 26 5 (.int .u8 0) 1 rfl Try.underlying26 info5 rfl (by decide) (by omega) (.slice none 0 0) ([] : List Int) l0_1 _ _ _ (fun _ => True) (fun _ => False) rfl rfl ?aO ?aR (fun _ _ h => h) (fun _ h => h.elim) ?aF ?aB ?aS ?aL ?_
    (case aR => repeat (first | exact (Kd.C_below HR0_1.out HB.out) | (with_reducible refine Kd.C_alloc ?_ _) | (with_reducible refine Kd.C_drewN ?_ _) | (with_reducible refine Kd.C_drew ?_)))
    (case aB => exact (by repeat (first | (with_reducible first | exact HB.out | apply bla | apply bln | apply bld | refine bls ?_ GE165.out | refine bls ?_ GE166.out | refine bls ?_ GE170.out) | exact HB.out)))
    (case aF => exact (fun _ _ => trivial))
    (case aO => exact ((Kd.R_nil _ _ _ _ (fun _ => True))))
    (case aS => exact (below_size (by repeat (first | (with_reducible first | exact HB.out | apply bla | apply bln | apply bld | refine bls ?_ GE165.out | refine bls ?_ GE166.out | refine bls ?_ GE170.out) | exact HB.out))))
    (case aL => have := LMc2.out; omega)
    intro v168 w7 ho hb hg hat
    rw [← Ny167.out] at ho
    have n0_ := As (blk_grown (g := gb165) (o := .cells #[.string a0_0, .slice A0_1 l0_1.length c0_1, .slice A0_2 l0_2.length c0_2] 37 (0, 0)) (by (with_reducible repeat (first | refine bkn ?_ _ | refine bkd ?_ | refine bka ?_ _)); exact BK165.out) hg (by simp [Value.ownBlock]))
    have n1_ := As (blk_grown (g := gb166) (o := .cells #[.string (⟨#[]⟩ : ByteArray), .slice none 0 0, .slice none 0 0] 37 (0, 0)) (by (with_reducible repeat (first | refine bkn ?_ _ | refine bkd ?_ | refine bka ?_ _)); exact BK166.out) hg (by simp [Value.ownBlock]))
    have n2_ := As (blk_grown (g := gb170) (o := .cells #[.string (⟨#[]⟩ : ByteArray), .slice none 0 0, .slice none 0 0] 37 (0, 0)) (by (with_reducible repeat (first | refine bkn ?_ _ | refine bkd ?_ | refine bka ?_ _)); exact BK170.out) hg (by simp [Value.ownBlock]))
    have n3_ := As (hb)
    have n4_ := As (ho)
    clear BK165
    clear BK166
    clear BK170
    clear HB
    have BK165 := n0_
    have BK166 := n1_
    have BK170 := n2_
    have HB := n3_
    have HO169 := n4_
    clear n0_ n1_ n2_ n3_ n4_
    clear ho hb hg hat
    obtain ⟨Ao8, co8, eo8⟩ := Kd.R_slice HO169.out
    (first | subst eo8 | (injection eo8 with f1_ f2_ f3_; have f4_ := f1_.symm; have f5_ := f3_.symm; clear f1_ f2_ f3_; subst f4_; subst f5_))
    refine hK.out _ _ ⟨(blk_cell BK165.out 0).trans rfl, (blk_cell BK165.out 1).trans rfl, (blk_cell BK165.out 2).trans rfl⟩ (fun hHeld => ?_)
    clear hK K
    refine norm_ (a' := ?_) ?_ ?_
    rotate_left
    ·
     show Act.put _ (some 10) _ = _
     simp only [Act.put, List.setIfInBounds_toArray, List.set_cons_zero, List.set_cons_succ, i64_w, i32_w]
     rfl
    refine pure_ (i := 5) (N := some 11) (v := ?_) (a' := ?_) #[true, true, true, true, true, true, true, false] rfl rfl (any_of HT_.out (by kernel_rfl)) (fun _ _ _ h => h) (Or.inl ⟨by rfl, ?_⟩) ?_ ?_
    rotate_left
    ·
     intro w'
     go_simp
     with_reducible rfl
    rotate_left
    ·
     simp only [Act.put, List.setIfInBounds_toArray, List.set_cons_zero, List.set_cons_succ, i64_w, i32_w]
     rfl
    exact norm_ (by simp only [putAll, Act.put, List.setIfInBounds_toArray, List.set_cons_zero, List.set_cons_succ]) (hCont (.slice Ao8 y167.length co8, gb170) _ ⟨hHeld, (by (with_reducible repeat (first | apply Kd.Ra | apply Kd.Rn | apply Kd.Rd)); exact HO169.out), (by (with_reducible repeat (first | refine bkn ?_ _ | refine bkd ?_ | refine bka ?_ _)); exact BK165.out), (by (with_reducible repeat (first | refine bkn ?_ _ | refine bkd ?_ | refine bka ?_ _)); exact BK166.out), (by (with_reducible repeat (first | refine bkn ?_ _ | refine bkd ?_ | refine bka ?_ _)); exact BK170.out), GW170.out, GE170.out, NB165_170.out, NB170_165.out, NB166_170.out, NB170_166.out, (by repeat (first | (with_reducible first | exact HB.out | apply bla | apply bln | apply bld | refine bls ?_ GE165.out | refine bls ?_ GE166.out | refine bls ?_ GE170.out) | exact HB.out))⟩)
  rintro ⟨v168, gb170⟩ w9 ⟨hS_, h0_, h1_, h2_, h3_, h4_, h5_, h6_, h7_, h8_, h9_, h10_⟩
  have n0_ : Aside0 (Kd.R (Kd.int .u8) 5 w9 w.heap.size (fun _ => True) v168 y167) := ⟨h0_⟩
  have n1_ : Aside0 (w9.heap[gb165]? = some (.cells #[.string a0_0, .slice A0_1 l0_1.length c0_1, .slice A0_2 l0_2.length c0_2] 37 (0, 0))) := ⟨h1_⟩
  have n2_ : Aside0 (w9.heap[gb166]? = some (.cells #[.string (⟨#[]⟩ : ByteArray), .slice none 0 0, .slice none 0 0] 37 (0, 0))) := ⟨h2_⟩
  have n3_ : Aside0 (w9.heap[gb170]? = some (.cells #[.string (⟨#[]⟩ : ByteArray), .slice none 0 0, .slice none 0 0] 37 (0, 0))) := ⟨h3_⟩
  have n4_ : Aside0 (w.heap.size ≤ gb170) := ⟨h4_⟩
  have n5_ : Aside0 (w.heap.size ≤ gb170) := ⟨h5_⟩
  have n6_ : Aside0 (gb165 ≠ gb170) := ⟨h6_⟩
  have n7_ : Aside0 (gb170 ≠ gb165) := ⟨h7_⟩
  have n8_ : Aside0 (gb166 ≠ gb170) := ⟨h8_⟩
  have n9_ : Aside0 (gb170 ≠ gb166) := ⟨h9_⟩
  have n10_ : Aside0 (Below w.heap.size w w9) := ⟨h10_⟩
  clear BK165
  clear BK166
  clear HB
  clear h0_ h1_ h2_ h3_ h4_ h5_ h6_ h7_ h8_ h9_ h10_
  have HO169 := n0_
  have BK165 := n1_
  have BK166 := n2_
  have BK170 := n3_
  have GW170 := n4_
  have GE170 := n5_
  have NB165_170 := n6_
  have NB170_165 := n7_
  have NB166_170 := n8_
  have NB170_166 := n9_
  have HB := n10_
  clear n0_ n1_ n2_ n3_ n4_ n5_ n6_ n7_ n8_ n9_ n10_
  have hHeld : w9.cell? ⟨gb165, 0, none⟩ = some (.string a0_0) ∧ w9.cell? ⟨gb165, 1, none⟩ = some (.slice A0_1 l0_1.length c0_1) ∧ w9.cell? ⟨gb165, 2, none⟩ = some (.slice A0_2 l0_2.length c0_2) := hS_
  obtain ⟨Ao10, co10, eo10⟩ := Kd.R_slice HO169.out
  (first | subst eo10 | (injection eo10 with f1_ f2_ f3_; have f4_ := f1_.symm; have f5_ := f3_.symm; clear f1_ f2_ f3_; subst f4_; subst f5_))
  refine norm_ (a' := ?_) ?_ ?_
  rotate_left
  ·
   simp only [putAll, Act.put, List.setIfInBounds_toArray, List.set_cons_zero, List.set_cons_succ]
   rfl
  refine one_ (i := 7) (N := none) #[true, true, true, true, true, true, true, true] rfl rfl (one_of HT_.out (by kernel_rfl)) (by decide) (fun K hK => ?_)
  have hs11 : w9.cell? ⟨gb170, 0, none⟩ = some (.string (⟨#[]⟩ : ByteArray)) := (blk_cell BK170.out 0).trans rfl
  have hfs11 := blk_frozen BK170.out 0
  have hns11_0 := NB165_170.out
  have hns11_1 := NB166_170.out
  have hms11_0 := NB170_165.out
  have hms11_1 := NB170_166.out
  have hs12 : w9.cell? ⟨gb170, 1, none⟩ = some (.slice none 0 0) := (blk_cell BK170.out 1).trans rfl
  have hfs12 := blk_frozen BK170.out 1
  have hns12_0 := NB165_170.out
  have hns12_1 := NB166_170.out
  have hms12_0 := NB170_165.out
  have hms12_1 := NB170_166.out
  have hs13 : w9.cell? ⟨gb170, 2, none⟩ = some (.slice none 0 0) := (blk_cell BK170.out 2).trans rfl
  have hfs13 := blk_frozen BK170.out 2
  have hns13_0 := NB165_170.out
  have hns13_1 := NB166_170.out
  have hms13_0 := NB170_165.out
  have hms13_1 := NB170_166.out
  refine skip_ (w1 := ?_) (by rfl) rfl ?_ ?_
  rotate_left
  ·
   go_simp
   rfl
  refine hK.out _ _ ⟨((cell_far (p := ⟨gb170, _, none⟩) NB165_170.out _).trans (((cell_far (p := ⟨gb170, _, none⟩) NB165_170.out _).trans (((cell_far (p := ⟨gb170, _, none⟩) NB165_170.out _).trans (hHeld.1)))))), ((cell_far (p := ⟨gb170, _, none⟩) NB165_170.out _).trans (((cell_far (p := ⟨gb170, _, none⟩) NB165_170.out _).trans (((cell_far (p := ⟨gb170, _, none⟩) NB165_170.out _).trans (hHeld.2.1)))))), ((cell_far (p := ⟨gb170, _, none⟩) NB165_170.out _).trans (((cell_far (p := ⟨gb170, _, none⟩) NB165_170.out _).trans (((cell_far (p := ⟨gb170, _, none⟩) NB165_170.out _).trans (hHeld.2.2))))))⟩ (fun hHeld => ?_)
  clear hK K
  refine done_ (done_of HT_.out (by kernel_rfl)) ?_
  have hnb14 := NB165_166.out
  have hnc14 := NB166_165.out
  have hnb15 := NB165_170.out
  have hnc15 := NB170_165.out
  have hcz16_0 : w9.cell? ⟨gb165, 0, none⟩ = some (.string a0_0) := (blk_cell BK165.out 0).trans rfl
  have hcz16_1 : w9.cell? ⟨gb165, 1, none⟩ = some (.slice A0_1 l0_1.length c0_1) := (blk_cell BK165.out 1).trans rfl
  have hcz16_2 : w9.cell? ⟨gb165, 2, none⟩ = some (.slice A0_2 l0_2.length c0_2) := (blk_cell BK165.out 2).trans rfl
  have hfz16_0 := blk_frozen BK165.out 0
  have hfz16_1 := blk_frozen BK165.out 1
  have hfz16_2 := blk_frozen BK165.out 2
  try go_wp2
  go_loopg [15] k (fun kq v15 w' => ∃ (x15_1 : Int) (x171002_1 : List (S37)) (u171002 : Value), v15 = .int .i64 x15_1 ∧ Aside0 (box_clone.l0 kq l0_2 (l0_2.length : Int) x15_1 a0_0 y167 x171002_1 = some (r1, r2, r3)) ∧ Aside0 (kq ≤ k) ∧ Aside0 (Kd.R (Kd.int .u8) 5 w' w.heap.size (fun _ => True) (.slice Ao10 y167.length co10) y167) ∧ Aside0 (Kd.R k37 37 w' w.heap.size (fun k_ => some k_ ≠ ((.slice Ao10 y167.length co10) : Value).ownBlock ∧ k_ ≠ gb165 ∧ k_ ≠ gb166 ∧ k_ ≠ gb170) u171002 x171002_1) ∧ Aside0 (w'.heap[gb165]? = some (.cells #[.string a0_0, (.slice A0_1 l0_1.length c0_1), (.slice A0_2 l0_2.length c0_2)] 37 (0, 0))) ∧ Aside0 (w'.heap[gb166]? = some (.cells #[.string (⟨#[]⟩ : ByteArray), (.slice none 0 0), (.slice none 0 0)] 37 (0, 0))) ∧ Aside0 (w'.heap[gb170]? = some (.cells #[.string a0_0, (.slice Ao10 y167.length co10), u171002] 37 (0, 0))) ∧ Aside0 (Below w.heap.size w w'))
  case atStart => exact ⟨(0), (([] : List (S37))), (.slice none 0 0), (by first | rfl | (simp; done) | (simp [*]; done)), H', ⟨Nat.le_refl _⟩, ⟨by (with_reducible repeat (first | apply Kd.Ra | apply Kd.Rn | apply Kd.Rd)); exact Kd.R_mono (Kd.R_far (p := ⟨gb170, 2, none⟩) (Kd.R_far (p := ⟨gb170, 1, none⟩) (Kd.R_far (p := ⟨gb170, 0, none⟩) (Kd.R_types HO169.out BK170.out (by decide)) (fun _ hk => hk.2) (.string a0_0)) (fun _ hk => hk.2) (.slice Ao10 y167.length co10)) (fun _ hk => hk.2) (.slice none 0 0)) (fun _ hk => trivial)⟩, ⟨by first | exact Kd.R_nil _ _ _ _ _ | exact Kd.N_nil _ _ _ _ _ | exact Kd.V_nil _ _ _ _ _ | exact Kd.Q_nil _ _ _ _ _ | exact Kd.S_nil _ _ _ _ _⟩, ⟨by (with_reducible repeat (first | refine bkn ?_ _ | refine bkd ?_ | refine bka ?_ _)); refine blk_far ?_ NB165_170.out _; (with_reducible repeat (first | refine bkn ?_ _ | refine bkd ?_ | refine bka ?_ _)); refine blk_far ?_ NB165_170.out _; (with_reducible repeat (first | refine bkn ?_ _ | refine bkd ?_ | refine bka ?_ _)); refine blk_far ?_ NB165_170.out _; (with_reducible repeat (first | refine bkn ?_ _ | refine bkd ?_ | refine bka ?_ _)); exact BK165.out⟩, ⟨by (with_reducible repeat (first | refine bkn ?_ _ | refine bkd ?_ | refine bka ?_ _)); refine blk_far ?_ NB166_170.out _; (with_reducible repeat (first | refine bkn ?_ _ | refine bkd ?_ | refine bka ?_ _)); refine blk_far ?_ NB166_170.out _; (with_reducible repeat (first | refine bkn ?_ _ | refine bkd ?_ | refine bka ?_ _)); refine blk_far ?_ NB166_170.out _; (with_reducible repeat (first | refine bkn ?_ _ | refine bkd ?_ | refine bka ?_ _)); exact BK166.out⟩, ⟨by (with_reducible repeat (first | refine bkn ?_ _ | refine bkd ?_ | refine bka ?_ _)); refine blk_put (cs := #[.string a0_0, .slice Ao10 y167.length co10, .slice none 0 0]) ?_ 2 _ rfl; (with_reducible repeat (first | refine bkn ?_ _ | refine bkd ?_ | refine bka ?_ _)); refine blk_put (cs := #[.string a0_0, .slice none 0 0, .slice none 0 0]) ?_ 1 _ rfl; (with_reducible repeat (first | refine bkn ?_ _ | refine bkd ?_ | refine bka ?_ _)); refine blk_put (cs := #[.string (⟨#[]⟩ : ByteArray), .slice none 0 0, .slice none 0 0]) ?_ 0 _ rfl; (with_reducible repeat (first | refine bkn ?_ _ | refine bkd ?_ | refine bka ?_ _)); exact BK170.out⟩, ⟨by repeat (first | (with_reducible first | exact HB.out | apply bla | apply bln | apply bld | refine bls ?_ GE165.out | refine bls ?_ GE166.out | refine bls ?_ GE170.out) | exact HB.out)⟩⟩
  case round =>
   clear H'
   try clear c1
   try clear c2
   try clear p2
   try clear c3
   try clear c14
   try clear c15
   try clear hcz16_0
   try clear hcz16_1
   try clear hcz16_2
   try clear hfz16_0
   try clear hfz16_1
   try clear hfz16_2
   obtain ⟨x15_1, x171002_1, u171002, rfl, HA, HK1, HO_171001, HO_171002, BK165, BK166, BK170, HB⟩ := hrel
   cases gk with
   | zero => exact absurd HA.out (by simp [box_clone.l0])
   | succ k1 =>
    have H := HA.out
    clear HA
    simp only [box_clone.l0] at H
    by_cases c17 : x15_1 < (l0_2.length : Int)
    ·
     rw [if_pos c17] at H
     have c17b0 : decide (x15_1 < (l0_2.length : Int)) = true := decide_eq_true c17
     clear c17
     by_cases c18 : 0 ≤ x15_1
     ·
      rw [if_pos c18] at H
      have c18b0 : decide (0 ≤ x15_1) = true := decide_eq_true c18
      clear c18
      by_cases c19 : x15_1 < (l0_2.length : Int)
      ·
       rw [if_pos c19] at H
       have c19b0 : decide (x15_1 < (l0_2.length : Int)) = true := decide_eq_true c19
       clear c19
       replace H := Option.bind_eq_some_iff.mp H
       obtain ⟨⟨t173, t174, t177⟩, A200, H⟩ := H
       replace H : (if x171002_1.length < 2199023255552 then (box_clone.l0 k1 l0_2 (l0_2.length : Int) (wrap64 (x15_1 + 1)) a0_0 y167 (x171002_1 ++ [(⟨t173, t174, t177⟩ : S37)])) else (none)) = some (r1, r2, r3) := H
       have A20 := As A200
       clear A200
       by_cases c21 : x171002_1.length < 2199023255552
       ·
        rw [if_pos c21] at H
        have LMc21 := As c21
        clear c21
        obtain ⟨y180, hy180⟩ : ∃ y_ : List (S37), y_ = (x171002_1 ++ [(⟨t173, t174, t177⟩ : S37)]) := ⟨_, rfl⟩
        replace H : (box_clone.l0 k1 l0_2 (l0_2.length : Int) (wrap64 (x15_1 + 1)) a0_0 y167 y180) = some (r1, r2, r3) := by first | (rw [hy180]; with_reducible exact H) | (have H2_ := (Option.bind_some _ _).symm.trans H; rw [hy180]; with_reducible exact H2_) | (have H2_ := (Option.bind_some _ _).symm.trans H; with_reducible exact H2_) | with_reducible exact H | (rw [hy180]; exact H) | exact H
        have Ny180 := As hy180
        clear hy180
        have H' := As H
        clear H
        have p171 : 0 ≤ (x15_1 : Int) := of_decide_eq_true (by first | (with_reducible assumption) | assumption)
        have q171 : x15_1 < (l0_2.length : Int) := of_decide_eq_true (by first | (with_reducible assumption) | assumption)
        obtain ⟨ad171, A171_1, c171_1, A171_2, c171_2, e171, hx171_0, hx171_1, hx171_2, hl171_1, hi171_1, hl171_2, hi171_2⟩ := at_T37 HR0_2.out x15_1 p171 q171
        cases e171
        replace hx171_0 := (HB.out.cell (World.block_lt_of_cell? w _ hx171_0)).trans hx171_0
        replace hx171_1 := (HB.out.cell (World.block_lt_of_cell? w _ hx171_1)).trans hx171_1
        replace hx171_2 := (HB.out.cell (World.block_lt_of_cell? w _ hx171_2)).trans hx171_2
        have HR171_1 := As hi171_1
        have HC171_1 := As hl171_1
        clear hi171_1 hl171_1
        have HR171_2 := As hi171_2
        have HC171_2 := As hl171_2
        clear hi171_2 hl171_2
        replace p171 := eq_true p171
        replace q171 := eq_true q171
        try go_wp2_with (first | ((with_reducible refine gate_dst (N := 5) rfl ?_); refine box_event ?hg (N := 5) ?hd (cs := #[.string (⟨#[]⟩ : ByteArray), .slice none 0 0, .slice none 0 0]) (t := 37) ?hr ?_; (case hd => rfl); (case hg => rfl); (case hr => first | (go_simp; done) | (go_simp; rfl)); intro gb172 hg w22 hbox hb; have n0_ := As (Kd.Rb (by (with_reducible repeat (first | apply Kd.Ra | apply Kd.Rn | apply Kd.Rd)); exact HO_171001.out) hb); have n1_ := As (Kd.Rb (Kd.R_elderB (by (with_reducible repeat (first | apply Kd.Ra | apply Kd.Rn | apply Kd.Rd)); exact HO_171002.out) gb172 (Nat.le_of_eq hg.symm)) hb); have n2_ := As (bkb (g := gb165) (o := .cells #[.string a0_0, .slice A0_1 l0_1.length c0_1, .slice (some ad171) l0_2.length c0_2] 37 (0, 0)) (by (with_reducible repeat (first | refine bkn ?_ _ | refine bkd ?_ | refine bka ?_ _)); exact BK165.out) hb); have n3_ := As (bkb (g := gb166) (o := .cells #[.string (⟨#[]⟩ : ByteArray), .slice none 0 0, .slice none 0 0] 37 (0, 0)) (by (with_reducible repeat (first | refine bkn ?_ _ | refine bkd ?_ | refine bka ?_ _)); exact BK166.out) hb); have n4_ := As (bkb (g := gb170) (o := .cells #[.string a0_0, .slice Ao10 y167.length co10, u171002] 37 (0, 0)) (by (with_reducible repeat (first | refine bkn ?_ _ | refine bkd ?_ | refine bka ?_ _)); exact BK170.out) hb); have n5_ := As (below_step (by repeat (first | (with_reducible first | exact HB.out | apply bla | apply bln | apply bld | refine bls ?_ GE165.out | refine bls ?_ GE166.out | refine bls ?_ GE170.out) | exact HB.out)) hb); have n6_ := As (hbox); have n7_ := As ((by rw [hg]; exact (below_size (by repeat (first | (with_reducible first | exact HB.out | apply bla | apply bln | apply bld | refine bls ?_ GE165.out | refine bls ?_ GE166.out | refine bls ?_ GE170.out) | exact HB.out))) : w.heap.size ≤ gb172)); have n8_ := As ((by rw [hg]; exact (below_size (by repeat (first | (with_reducible first | exact HB.out | apply bla | apply bln | apply bld | refine bls ?_ GE165.out | refine bls ?_ GE166.out | refine bls ?_ GE170.out) | exact HB.out))) : w.heap.size ≤ gb172)); have n9_ := As ((by rw [hg]; exact Nat.ne_of_lt (blk_lt (g := gb165) (o := .cells #[.string a0_0, .slice A0_1 l0_1.length c0_1, .slice (some ad171) l0_2.length c0_2] 37 (0, 0)) (by (with_reducible repeat (first | refine bkn ?_ _ | refine bkd ?_ | refine bka ?_ _)); exact BK165.out)) : gb165 ≠ gb172)); have n10_ := As ((by rw [hg]; exact Nat.ne_of_gt (blk_lt (g := gb165) (o := .cells #[.string a0_0, .slice A0_1 l0_1.length c0_1, .slice (some ad171) l0_2.length c0_2] 37 (0, 0)) (by (with_reducible repeat (first | refine bkn ?_ _ | refine bkd ?_ | refine bka ?_ _)); exact BK165.out)) : gb172 ≠ gb165)); have n11_ := As ((by rw [hg]; exact Nat.ne_of_lt (blk_lt (g := gb166) (o := .cells #[.string (⟨#[]⟩ : ByteArray), .slice none 0 0, .slice none 0 0] 37 (0, 0)) (by (with_reducible repeat (first | refine bkn ?_ _ | refine bkd ?_ | refine bka ?_ _)); exact BK166.out)) : gb166 ≠ gb172)); have n12_ := As ((by rw [hg]; exact Nat.ne_of_gt (blk_lt (g := gb166) (o := .cells #[.string (⟨#[]⟩ : ByteArray), .slice none 0 0, .slice none 0 0] 37 (0, 0)) (by (with_reducible repeat (first | refine bkn ?_ _ | refine bkd ?_ | refine bka ?_ _)); exact BK166.out)) : gb172 ≠ gb166)); have n13_ := As ((by rw [hg]; exact Nat.ne_of_lt (blk_lt (g := gb170) (o := .cells #[.string a0_0, .slice Ao10 y167.length co10, u171002] 37 (0, 0)) (by (with_reducible repeat (first | refine bkn ?_ _ | refine bkd ?_ | refine bka ?_ _)); exact BK170.out)) : gb170 ≠ gb172)); have n14_ := As ((by rw [hg]; exact Nat.ne_of_gt (blk_lt (g := gb170) (o := .cells #[.string a0_0, .slice Ao10 y167.length co10, u171002] 37 (0, 0)) (by (with_reducible repeat (first | refine bkn ?_ _ | refine bkd ?_ | refine bka ?_ _)); exact BK170.out)) : gb172 ≠ gb170)); clear HO_171001; clear HO_171002; clear BK165; clear BK166; clear BK170; clear HB; have HO_171001 := n0_; have HO_171002 := n1_; have BK165 := n2_; have BK166 := n3_; have BK170 := n4_; have HB := n5_; have BK172 := n6_; have GW172 := n7_; have GE172 := n8_; have NB165_172 := n9_; have NB172_165 := n10_; have NB166_172 := n11_; have NB172_166 := n12_; have NB170_172 := n13_; have NB172_170 := n14_; clear n0_ n1_ n2_ n3_ n4_ n5_ n6_ n7_ n8_ n9_ n10_ n11_ n12_ n13_ n14_; clear hb hbox hg; have hnb23 := NB172_165.out; have hnc23 := NB165_172.out; have hnb24 := NB172_166.out; have hnc24 := NB166_172.out; have hnb25 := NB172_170.out; have hnc25 := NB170_172.out; have hcz26_0 : w22.cell? ⟨gb172, 0, none⟩ = some (.string (⟨#[]⟩ : ByteArray)) := (blk_cell BK172.out 0).trans rfl; have hcz26_1 : w22.cell? ⟨gb172, 1, none⟩ = some (.slice none 0 0) := (blk_cell BK172.out 1).trans rfl; have hcz26_2 : w22.cell? ⟨gb172, 2, none⟩ = some (.slice none 0 0) := (blk_cell BK172.out 2).trans rfl; have hfz26_0 := blk_frozen BK172.out 0; have hfz26_1 := blk_frozen BK172.out 1; have hfz26_2 := blk_frozen BK172.out 2))
        have n0_ : Aside0 (Kd.R (Kd.int .u8) 5 (((w22.setCell ⟨gb172, 0, none⟩ (.string ((rd_T37 l0_2 x15_1).f0))).setCell ⟨gb172, 1, none⟩ (.slice A171_1 ((rd_T37 l0_2 x15_1).f1).length c171_1)).setCell ⟨gb172, 2, none⟩ (.slice A171_2 ((rd_T37 l0_2 x15_1).f2).length c171_2)) w.heap.size (fun _ => True) (.slice Ao10 y167.length co10) y167) := ⟨by (with_reducible repeat (first | apply Kd.Ra | apply Kd.Rn | apply Kd.Rd)); exact Kd.R_mono (Kd.R_far (p := ⟨gb172, 2, none⟩) (Kd.R_far (p := ⟨gb172, 1, none⟩) (Kd.R_far (p := ⟨gb172, 0, none⟩) (Kd.R_types HO_171001.out BK172.out (by decide)) (fun _ hk => hk.2) (.string ((rd_T37 l0_2 x15_1).f0))) (fun _ hk => hk.2) (.slice A171_1 ((rd_T37 l0_2 x15_1).f1).length c171_1)) (fun _ hk => hk.2) (.slice A171_2 ((rd_T37 l0_2 x15_1).f2).length c171_2)) (fun _ hk => trivial)⟩
        have n1_ : Aside0 (Kd.R k37 37 (((w22.setCell ⟨gb172, 0, none⟩ (.string ((rd_T37 l0_2 x15_1).f0))).setCell ⟨gb172, 1, none⟩ (.slice A171_1 ((rd_T37 l0_2 x15_1).f1).length c171_1)).setCell ⟨gb172, 2, none⟩ (.slice A171_2 ((rd_T37 l0_2 x15_1).f2).length c171_2)) w.heap.size (fun k_ => some k_ ≠ (.slice Ao10 y167.length co10 : Value).ownBlock ∧ k_ ≠ gb165 ∧ k_ ≠ gb166 ∧ k_ ≠ gb170 ∧ k_ ≠ gb172) u171002 x171002_1) := ⟨by (with_reducible repeat (first | apply Kd.Ra | apply Kd.Rn | apply Kd.Rd)); exact Kd.R_mono (Kd.R_far (p := ⟨gb172, 2, none⟩) (Kd.R_far (p := ⟨gb172, 1, none⟩) (Kd.R_far (p := ⟨gb172, 0, none⟩) (Kd.R_mono HO_171002.out (fun k_ hk => (⟨hk, hk.2⟩ : _ ∧ k_ ≠ gb172))) (fun _ hk => hk.2) (.string ((rd_T37 l0_2 x15_1).f0))) (fun _ hk => hk.2) (.slice A171_1 ((rd_T37 l0_2 x15_1).f1).length c171_1)) (fun _ hk => hk.2) (.slice A171_2 ((rd_T37 l0_2 x15_1).f2).length c171_2)) (fun _ hk => ⟨hk.1.1.1, ⟨hk.1.1.2.1, ⟨hk.1.1.2.2.1, ⟨hk.1.1.2.2.2, hk.1.2⟩⟩⟩⟩)⟩
        have n2_ : Aside0 ((((w22.setCell ⟨gb172, 0, none⟩ (.string ((rd_T37 l0_2 x15_1).f0))).setCell ⟨gb172, 1, none⟩ (.slice A171_1 ((rd_T37 l0_2 x15_1).f1).length c171_1)).setCell ⟨gb172, 2, none⟩ (.slice A171_2 ((rd_T37 l0_2 x15_1).f2).length c171_2)).heap[gb165]? = some (.cells #[.string a0_0, .slice A0_1 l0_1.length c0_1, .slice (some ad171) l0_2.length c0_2] 37 (0, 0))) := ⟨by (with_reducible repeat (first | refine bkn ?_ _ | refine bkd ?_ | refine bka ?_ _)); refine blk_far ?_ NB165_172.out _; (with_reducible repeat (first | refine bkn ?_ _ | refine bkd ?_ | refine bka ?_ _)); refine blk_far ?_ NB165_172.out _; (with_reducible repeat (first | refine bkn ?_ _ | refine bkd ?_ | refine bka ?_ _)); refine blk_far ?_ NB165_172.out _; (with_reducible repeat (first | refine bkn ?_ _ | refine bkd ?_ | refine bka ?_ _)); exact BK165.out⟩
        have n3_ : Aside0 ((((w22.setCell ⟨gb172, 0, none⟩ (.string ((rd_T37 l0_2 x15_1).f0))).setCell ⟨gb172, 1, none⟩ (.slice A171_1 ((rd_T37 l0_2 x15_1).f1).length c171_1)).setCell ⟨gb172, 2, none⟩ (.slice A171_2 ((rd_T37 l0_2 x15_1).f2).length c171_2)).heap[gb166]? = some (.cells #[.string (⟨#[]⟩ : ByteArray), .slice none 0 0, .slice none 0 0] 37 (0, 0))) := ⟨by (with_reducible repeat (first | refine bkn ?_ _ | refine bkd ?_ | refine bka ?_ _)); refine blk_far ?_ NB166_172.out _; (with_reducible repeat (first | refine bkn ?_ _ | refine bkd ?_ | refine bka ?_ _)); refine blk_far ?_ NB166_172.out _; (with_reducible repeat (first | refine bkn ?_ _ | refine bkd ?_ | refine bka ?_ _)); refine blk_far ?_ NB166_172.out _; (with_reducible repeat (first | refine bkn ?_ _ | refine bkd ?_ | refine bka ?_ _)); exact BK166.out⟩
        have n4_ : Aside0 ((((w22.setCell ⟨gb172, 0, none⟩ (.string ((rd_T37 l0_2 x15_1).f0))).setCell ⟨gb172, 1, none⟩ (.slice A171_1 ((rd_T37 l0_2 x15_1).f1).length c171_1)).setCell ⟨gb172, 2, none⟩ (.slice A171_2 ((rd_T37 l0_2 x15_1).f2).length c171_2)).heap[gb170]? = some (.cells #[.string a0_0, .slice Ao10 y167.length co10, u171002] 37 (0, 0))) := ⟨by (with_reducible repeat (first | refine bkn ?_ _ | refine bkd ?_ | refine bka ?_ _)); refine blk_far ?_ NB170_172.out _; (with_reducible repeat (first | refine bkn ?_ _ | refine bkd ?_ | refine bka ?_ _)); refine blk_far ?_ NB170_172.out _; (with_reducible repeat (first | refine bkn ?_ _ | refine bkd ?_ | refine bka ?_ _)); refine blk_far ?_ NB170_172.out _; (with_reducible repeat (first | refine bkn ?_ _ | refine bkd ?_ | refine bka ?_ _)); exact BK170.out⟩
        have n5_ : Aside0 ((((w22.setCell ⟨gb172, 0, none⟩ (.string ((rd_T37 l0_2 x15_1).f0))).setCell ⟨gb172, 1, none⟩ (.slice A171_1 ((rd_T37 l0_2 x15_1).f1).length c171_1)).setCell ⟨gb172, 2, none⟩ (.slice A171_2 ((rd_T37 l0_2 x15_1).f2).length c171_2)).heap[gb172]? = some (.cells #[.string ((rd_T37 l0_2 x15_1).f0), .slice A171_1 ((rd_T37 l0_2 x15_1).f1).length c171_1, .slice A171_2 ((rd_T37 l0_2 x15_1).f2).length c171_2] 37 (0, 0))) := ⟨by (with_reducible repeat (first | refine bkn ?_ _ | refine bkd ?_ | refine bka ?_ _)); refine blk_put (cs := #[.string ((rd_T37 l0_2 x15_1).f0), .slice A171_1 ((rd_T37 l0_2 x15_1).f1).length c171_1, .slice none 0 0]) ?_ 2 _ rfl; (with_reducible repeat (first | refine bkn ?_ _ | refine bkd ?_ | refine bka ?_ _)); refine blk_put (cs := #[.string ((rd_T37 l0_2 x15_1).f0), .slice none 0 0, .slice none 0 0]) ?_ 1 _ rfl; (with_reducible repeat (first | refine bkn ?_ _ | refine bkd ?_ | refine bka ?_ _)); refine blk_put (cs := #[.string (⟨#[]⟩ : ByteArray), .slice none 0 0, .slice none 0 0]) ?_ 0 _ rfl; (with_reducible repeat (first | refine bkn ?_ _ | refine bkd ?_ | refine bka ?_ _)); exact BK172.out⟩
        have n6_ : Aside0 (Below w.heap.size w (((w22.setCell ⟨gb172, 0, none⟩ (.string ((rd_T37 l0_2 x15_1).f0))).setCell ⟨gb172, 1, none⟩ (.slice A171_1 ((rd_T37 l0_2 x15_1).f1).length c171_1)).setCell ⟨gb172, 2, none⟩ (.slice A171_2 ((rd_T37 l0_2 x15_1).f2).length c171_2))) := ⟨by repeat (first | (with_reducible first | exact HB.out | apply bla | apply bln | apply bld | refine bls ?_ GE165.out | refine bls ?_ GE166.out | refine bls ?_ GE170.out | refine bls ?_ GE172.out) | exact HB.out)⟩
        (try clear HO_171001)
        (try clear HO_171002)
        (try clear BK165)
        (try clear BK166)
        (try clear BK170)
        (try clear BK172)
        (try clear HB)
        generalize (((w22.setCell ⟨gb172, 0, none⟩ (.string ((rd_T37 l0_2 x15_1).f0))).setCell ⟨gb172, 1, none⟩ (.slice A171_1 ((rd_T37 l0_2 x15_1).f1).length c171_1)).setCell ⟨gb172, 2, none⟩ (.slice A171_2 ((rd_T37 l0_2 x15_1).f2).length c171_2)) = w27 at n0_ n1_ n2_ n3_ n4_ n5_ n6_ ⊢
        have HO_171001 := n0_
        have HO_171002 := n1_
        have BK165 := n2_
        have BK166 := n3_
        have BK170 := n4_
        have BK172 := n5_
        have HB := n6_
        clear n0_ n1_ n2_ n3_ n4_ n5_ n6_
        have n0_ := As (Kd.Rd HO_171001.out)
        have n1_ := As (Kd.Rd HO_171002.out)
        have n2_ := As (bkd BK165.out)
        have n3_ := As (bkd BK166.out)
        have n4_ := As (bkd BK170.out)
        have n5_ := As (bkd BK172.out)
        have n6_ := As (bld HB.out)
        clear HO_171001
        clear HO_171002
        clear BK165
        clear BK166
        clear BK170
        clear BK172
        clear HB
        have HO_171001 := n0_
        have HO_171002 := n1_
        have BK165 := n2_
        have BK166 := n3_
        have BK170 := n4_
        have BK172 := n5_
        have HB := n6_
        clear n0_ n1_ n2_ n3_ n4_ n5_ n6_
        refine start_ (n := 8) (S := fun w' => w'.cell? ⟨gb170, 0, none⟩ = some (.string a0_0) ∧ w'.cell? ⟨gb170, 1, none⟩ = some (.slice Ao10 y167.length co10) ∧ w'.cell? ⟨gb170, 2, none⟩ = some (u171002) ∧ w'.cell? ⟨gb172, 0, none⟩ = some (.string ((rd_T37 l0_2 x15_1).f0)) ∧ w'.cell? ⟨gb172, 1, none⟩ = some (.slice A171_1 ((rd_T37 l0_2 x15_1).f1).length c171_1) ∧ w'.cell? ⟨gb172, 2, none⟩ = some (.slice A171_2 ((rd_T37 l0_2 x15_1).f2).length c171_2)) (ds := [7]) #[false, false, false, false, false, false, false, false] (by kernel_rfl) rfl rfl ⟨(blk_cell BK170.out 0).trans rfl, (blk_cell BK170.out 1).trans rfl, (blk_cell BK170.out 2).trans rfl, (blk_cell BK172.out 0).trans rfl, (blk_cell BK172.out 1).trans rfl, (blk_cell BK172.out 2).trans rfl⟩ (fun hHeld => ?_); refine with_tabW box_clone.tab5 box_clone.bits5 (fun HT_ HW_ => ?_)
        generalize w27.drew = w28 at HO_171001 HO_171002 BK165 BK166 BK170 BK172 HB hHeld ⊢
        refine pure_ (i := 0) (N := some 19) (v := ?_) (a' := ?_) #[true, false, false, false, false, false, false, false] rfl rfl (any_of HT_.out (by kernel_rfl)) (fun _ _ _ h => h) (Or.inl ⟨by rfl, ?_⟩) ?_ ?_
        rotate_left
        ·
         intro w'
         go_simp
         with_reducible rfl
        rotate_left
        ·
         simp only [Act.put, List.setIfInBounds_toArray, List.set_cons_zero, List.set_cons_succ, i64_w, i32_w]
         rfl
        refine take_ (i := 1) (N := some 20) (v := ?_) (a' := ?_) #[true, true, false, false, false, false, false, false] rfl rfl (take_ofW HT_.out HW_.out (by kernel_rfl)) (fun _ _ _ h => h) (Or.inl ⟨by rfl, ?_⟩) hHeld ?_ ?_
        rotate_left
        ·
         rintro w' ⟨s0, s1, s2, s3, s4, s5⟩
         go_simp
         with_reducible rfl
        rotate_left
        ·
         simp only [Act.put, List.setIfInBounds_toArray, List.set_cons_zero, List.set_cons_succ, i64_w, i32_w]
         rfl
        refine take_ (i := 2) (N := some 21) (v := ?_) (a' := ?_) #[true, true, true, false, false, false, false, false] rfl rfl (take_ofW HT_.out HW_.out (by kernel_rfl)) (fun _ _ _ h => h) (Or.inl ⟨by rfl, ?_⟩) hHeld ?_ ?_
        rotate_left
        ·
         rintro w' ⟨s0, s1, s2, s3, s4, s5⟩
         go_simp
         with_reducible rfl
        rotate_left
        ·
         simp only [Act.put, List.setIfInBounds_toArray, List.set_cons_zero, List.set_cons_succ, i64_w, i32_w]
         rfl
        refine one_ (i := 3) (N := some 22) #[true, true, true, true, false, false, false, false] rfl rfl (one_of HT_.out (by kernel_rfl)) (by decide) (fun K hK => ?_)
        refine goes_ Try.func35 (by kernel_rfl) rfl #[.agg #[.string ((rd_T37 l0_2 x15_1).f0), .slice A171_1 ((rd_T37 l0_2 x15_1).f1).length c171_1, .slice A171_2 ((rd_T37 l0_2 x15_1).f2).length c171_2]] (by rfl) rfl rfl (by (try simp only [List.map_toArray, List.map_cons, List.map_nil]); first | done | rfl | (simp only [List.length_drop, List.length_take]; rfl)) ?_
        with_reducible refine (ih k1 (by have := HK1.out; omega) ((rd_T37 l0_2 x15_1).f0) _ _ ((rd_T37 l0_2 x15_1).f1) _ _ ((rd_T37 l0_2 x15_1).f2) t173 t174 t177 _ ?side1 ?side2 ?side3 ?side4 A20.out).mono ?_
        (case side1 => repeat (first | exact (Kd.C_below HR171_1.out HB.out) | (with_reducible refine Kd.C_alloc ?_ _) | (with_reducible refine Kd.C_drewN ?_ _) | (with_reducible refine Kd.C_drew ?_)))
        (case side2 => exact HC171_1.out)
        (case side3 => repeat (first | exact (Kd.C_below HR171_2.out HB.out) | (with_reducible refine Kd.C_alloc ?_ _) | (with_reducible refine Kd.C_drewN ?_ _) | (with_reducible refine Kd.C_drew ?_)))
        (case side4 => exact HC171_2.out)
        rintro e w29 ⟨v175, v178, rfl, ho0, ho1, hb⟩
        refine ⟨_, rfl, ?_⟩
        have n0_ := As (Kd.R_elder' (by (with_reducible repeat (first | apply Kd.Ra | apply Kd.Rn | apply Kd.Rd)); exact HO_171001.out) (Kd.R_base ho0) hb)
        have n1_ := As (Kd.R_mono (Kd.R_told (Kd.R_told (Kd.R_old (by (with_reducible repeat (first | apply Kd.Ra | apply Kd.Rn | apply Kd.Rd)); exact HO_171002.out) hb) (Kd.R_base ho0)) (Kd.R_base ho1)) (fun _ h_ => h_.1))
        have n2_ := As (Kd.R_lower (Kd.R_new' ho0 (Kd.R_lt (by (with_reducible repeat (first | apply Kd.Ra | apply Kd.Rn | apply Kd.Rd)); exact HO_171001.out))) (below_size (by repeat (first | (with_reducible first | exact HB.out | apply bla | apply bln | apply bld | refine bls ?_ GE165.out | refine bls ?_ GE166.out | refine bls ?_ GE170.out | refine bls ?_ GE172.out) | exact HB.out))))
        have n3_ := As (Kd.R_lower (Kd.R_newB (Kd.R_newB (Kd.R_newB (Kd.R_newB (Kd.R_new' (Kd.R_new' ho1 (Kd.R_lt (by (with_reducible repeat (first | apply Kd.Ra | apply Kd.Rn | apply Kd.Rd)); exact HO_171001.out))) (Kd.R_lt (by (with_reducible repeat (first | apply Kd.Ra | apply Kd.Rn | apply Kd.Rd)); exact HO_171002.out))) (g := gb165) (o := .cells #[.string a0_0, .slice A0_1 l0_1.length c0_1, .slice (some ad171) l0_2.length c0_2] 37 (0, 0)) (by (with_reducible repeat (first | refine bkn ?_ _ | refine bkd ?_ | refine bka ?_ _)); exact BK165.out)) (g := gb166) (o := .cells #[.string (⟨#[]⟩ : ByteArray), .slice none 0 0, .slice none 0 0] 37 (0, 0)) (by (with_reducible repeat (first | refine bkn ?_ _ | refine bkd ?_ | refine bka ?_ _)); exact BK166.out)) (g := gb170) (o := .cells #[.string a0_0, .slice Ao10 y167.length co10, u171002] 37 (0, 0)) (by (with_reducible repeat (first | refine bkn ?_ _ | refine bkd ?_ | refine bka ?_ _)); exact BK170.out)) (g := gb172) (o := .cells #[.string ((rd_T37 l0_2 x15_1).f0), .slice A171_1 ((rd_T37 l0_2 x15_1).f1).length c171_1, .slice A171_2 ((rd_T37 l0_2 x15_1).f2).length c171_2] 37 (0, 0)) (by (with_reducible repeat (first | refine bkn ?_ _ | refine bkd ?_ | refine bka ?_ _)); exact BK172.out)) (below_size (by repeat (first | (with_reducible first | exact HB.out | apply bla | apply bln | apply bld | refine bls ?_ GE165.out | refine bls ?_ GE166.out | refine bls ?_ GE170.out | refine bls ?_ GE172.out) | exact HB.out))))
        have n4_ := As (bkb (g := gb165) (o := .cells #[.string a0_0, .slice A0_1 l0_1.length c0_1, .slice (some ad171) l0_2.length c0_2] 37 (0, 0)) (by (with_reducible repeat (first | refine bkn ?_ _ | refine bkd ?_ | refine bka ?_ _)); exact BK165.out) hb)
        have n5_ := As (bkb (g := gb166) (o := .cells #[.string (⟨#[]⟩ : ByteArray), .slice none 0 0, .slice none 0 0] 37 (0, 0)) (by (with_reducible repeat (first | refine bkn ?_ _ | refine bkd ?_ | refine bka ?_ _)); exact BK166.out) hb)
        have n6_ := As (bkb (g := gb170) (o := .cells #[.string a0_0, .slice Ao10 y167.length co10, u171002] 37 (0, 0)) (by (with_reducible repeat (first | refine bkn ?_ _ | refine bkd ?_ | refine bka ?_ _)); exact BK170.out) hb)
        have n7_ := As (bkb (g := gb172) (o := .cells #[.string ((rd_T37 l0_2 x15_1).f0), .slice A171_1 ((rd_T37 l0_2 x15_1).f1).length c171_1, .slice A171_2 ((rd_T37 l0_2 x15_1).f2).length c171_2] 37 (0, 0)) (by (with_reducible repeat (first | refine bkn ?_ _ | refine bkd ?_ | refine bka ?_ _)); exact BK172.out) hb)
        have n8_ := As (below_step (by repeat (first | (with_reducible first | exact HB.out | apply bla | apply bln | apply bld | refine bls ?_ GE165.out | refine bls ?_ GE166.out | refine bls ?_ GE170.out | refine bls ?_ GE172.out) | exact HB.out)) hb)
        clear HO_171001
        clear HO_171002
        clear BK165
        clear BK166
        clear BK170
        clear BK172
        clear HB
        have HO_171001 := n0_
        have HO_171002 := n1_
        have HO176 := n2_
        have HO179 := n3_
        have BK165 := n4_
        have BK166 := n5_
        have BK170 := n6_
        have BK172 := n7_
        have HB := n8_
        clear n0_ n1_ n2_ n3_ n4_ n5_ n6_ n7_ n8_
        (try clear hb)
        (try clear hb2)
        (try clear hk)
        (try clear hi)
        (try clear ho0)
        (try clear ho1)
        obtain ⟨Ao31, co31, eo31⟩ := Kd.R_slice HO176.out
        (first | subst eo31 | (injection eo31 with f1_ f2_ f3_; have f4_ := f1_.symm; have f5_ := f3_.symm; clear f1_ f2_ f3_; subst f4_; subst f5_))
        obtain ⟨Ao32, co32, eo32⟩ := Kd.R_slice HO179.out
        (first | subst eo32 | (injection eo32 with f1_ f2_ f3_; have f4_ := f1_.symm; have f5_ := f3_.symm; clear f1_ f2_ f3_; subst f4_; subst f5_))
        refine hK.out _ _ ⟨(blk_cell BK170.out 0).trans rfl, (blk_cell BK170.out 1).trans rfl, (blk_cell BK170.out 2).trans rfl, (blk_cell BK172.out 0).trans rfl, (blk_cell BK172.out 1).trans rfl, (blk_cell BK172.out 2).trans rfl⟩ (fun hHeld => ?_)
        clear hK K
        refine norm_ (a' := ?_) ?_ ?_
        rotate_left
        ·
         show Act.put _ (some 22) _ = _
         simp only [Act.put, List.setIfInBounds_toArray, List.set_cons_zero, List.set_cons_succ, i64_w, i32_w]
         rfl
        refine one_ (i := 4) (N := some 23) #[true, true, true, true, true, false, false, false] rfl rfl (one_of HT_.out (by kernel_rfl)) (by decide) (fun K hK => ?_)
        refine value_ (w1 := ?_) (v := ?_) (by rfl) rfl ?_ ?_
        rotate_left 2
        ·
         go_simp
         constructor
         ·
          rfl
         ·
          rfl
        refine hK.out _ _ ⟨(blk_cell (bka BK170.out _) 0).trans rfl, (blk_cell (bka BK170.out _) 1).trans rfl, (blk_cell (bka BK170.out _) 2).trans rfl, (blk_cell (bka BK172.out _) 0).trans rfl, (blk_cell (bka BK172.out _) 1).trans rfl, (blk_cell (bka BK172.out _) 2).trans rfl⟩ (fun hHeld => ?_)
        clear hK K
        refine norm_ (a' := ?_) ?_ ?_
        rotate_left
        ·
         show Act.put _ (some 23) _ = _
         simp only [Act.put, List.setIfInBounds_toArray, List.set_cons_zero, List.set_cons_succ, i64_w, i32_w]
         rfl
        refine one_ (i := 5) (N := some 24) #[true, true, true, true, true, true, false, false] rfl rfl (one_of HT_.out (by kernel_rfl)) (by decide) (fun K hK => ?_)
        refine Kd.R_append_step k37 (w0 := w) w.heap.size (by rfl) (.tmp 20) (.tmp 23) 24 37 (.agg #[(.string ⟨#[]⟩), (.slice none 0 0), (.slice none 0 0)]) 64 rfl Try.underlying24 info37 rfl (by decide) (by omega) u171002 x171002_1 (⟨t173, t174, t177⟩ : S37) [.string t173, .slice Ao31 t174.length co31, .slice Ao32 t177.length co32] (fun k_ => some k_ ≠ (.slice Ao10 y167.length co10 : Value).ownBlock ∧ k_ ≠ gb165 ∧ k_ ≠ gb166 ∧ k_ ≠ gb170 ∧ k_ ≠ gb172) (fun k_ => ((fun k_ => some k_ ≠ (.slice Ao10 y167.length co10 : Value).ownBlock ∧ k_ ≠ gb165 ∧ k_ ≠ gb166 ∧ k_ ≠ gb170 ∧ k_ ≠ gb172)) k_ ∧ some k_ ≠ (u171002 : Value).ownBlock) rfl rfl ?aP (fun _ hk => hk) ?aF ?aO ?aB ?aS ?aL ?_
        (case aP => exact k37_mkM _ _ _ (⟨t173, t174, t177⟩ : S37) (Kd.R_mono (Kd.R_types (Kd.R_types (Kd.R_types (Kd.R_types (Kd.R_apart' (HO176.out) (Kd.R_typed HO_171002.out) (by decide)) BK165.out (by decide)) BK166.out (by decide)) BK170.out (by decide)) BK172.out (by decide)) (fun k_ hk => ⟨⟨hk.1.1.1.1.1.2, ⟨hk.1.1.1.2, ⟨hk.1.1.2, ⟨hk.1.2, hk.2⟩⟩⟩⟩, hk.1.1.1.1.2⟩)) (Kd.R_mono (HO179.out) (fun k_ hk => ⟨⟨hk.1.1.1.1.1.2, ⟨hk.1.1.1.2, ⟨hk.1.1.2, ⟨hk.1.2, hk.2⟩⟩⟩⟩, hk.1.1.1.1.2⟩)))
        (case aB => exact (by repeat (first | (with_reducible first | exact HB.out | apply bla | apply bln | apply bld | refine bls ?_ GE165.out | refine bls ?_ GE166.out | refine bls ?_ GE170.out | refine bls ?_ GE172.out) | exact HB.out)))
        (case aF => exact (fun k_ hk => ⟨Kd.fresh' (Kd.R_lt (by (with_reducible repeat (first | apply Kd.Ra | apply Kd.Rn | apply Kd.Rd)); exact HO_171001.out)) k_ hk, Kd.freshB (g := gb165) (o := .cells #[.string a0_0, .slice A0_1 l0_1.length c0_1, .slice (some ad171) l0_2.length c0_2] 37 (0, 0)) (by (with_reducible repeat (first | refine bkn ?_ _ | refine bkd ?_ | refine bka ?_ _)); exact BK165.out) k_ hk, Kd.freshB (g := gb166) (o := .cells #[.string (⟨#[]⟩ : ByteArray), .slice none 0 0, .slice none 0 0] 37 (0, 0)) (by (with_reducible repeat (first | refine bkn ?_ _ | refine bkd ?_ | refine bka ?_ _)); exact BK166.out) k_ hk, Kd.freshB (g := gb170) (o := .cells #[.string a0_0, .slice Ao10 y167.length co10, u171002] 37 (0, 0)) (by (with_reducible repeat (first | refine bkn ?_ _ | refine bkd ?_ | refine bka ?_ _)); exact BK170.out) k_ hk, Kd.freshB (g := gb172) (o := .cells #[.string ((rd_T37 l0_2 x15_1).f0), .slice A171_1 ((rd_T37 l0_2 x15_1).f1).length c171_1, .slice A171_2 ((rd_T37 l0_2 x15_1).f2).length c171_2] 37 (0, 0)) (by (with_reducible repeat (first | refine bkn ?_ _ | refine bkd ?_ | refine bka ?_ _)); exact BK172.out) k_ hk⟩))
        (case aO => exact (by (with_reducible repeat (first | apply Kd.Ra | apply Kd.Rn | apply Kd.Rd)); exact Kd.R_mono HO_171002.out (fun _ hk => ⟨hk.1.1.1, ⟨hk.1.1.2.1, ⟨hk.1.1.2.2.1, ⟨hk.1.1.2.2.2.1, hk.1.1.2.2.2.2⟩⟩⟩⟩)))
        (case aS => exact (below_size (by repeat (first | (with_reducible first | exact HB.out | apply bla | apply bln | apply bld | refine bls ?_ GE165.out | refine bls ?_ GE166.out | refine bls ?_ GE170.out | refine bls ?_ GE172.out) | exact HB.out))))
        (case aL => have := LMc21.out; omega)
        intro v181 w30 ho hb hg hat
        rw [← Ny180.out] at ho
        have n0_ := As (Kd.R_over' (by (with_reducible repeat (first | apply Kd.Ra | apply Kd.Rn | apply Kd.Rd)); exact HO_171001.out) (Kd.R_typed (by (with_reducible repeat (first | apply Kd.Ra | apply Kd.Rn | apply Kd.Rd)); exact HO_171002.out)) (by decide) hg)
        have n1_ := As (blk_grown (g := gb165) (o := .cells #[.string a0_0, .slice A0_1 l0_1.length c0_1, .slice (some ad171) l0_2.length c0_2] 37 (0, 0)) (by (with_reducible repeat (first | refine bkn ?_ _ | refine bkd ?_ | refine bka ?_ _)); exact BK165.out) hg (Kd.R_away HO_171002.out (fun _ hk => hk.1.1.2.1)))
        have n2_ := As (blk_grown (g := gb166) (o := .cells #[.string (⟨#[]⟩ : ByteArray), .slice none 0 0, .slice none 0 0] 37 (0, 0)) (by (with_reducible repeat (first | refine bkn ?_ _ | refine bkd ?_ | refine bka ?_ _)); exact BK166.out) hg (Kd.R_away HO_171002.out (fun _ hk => hk.1.1.2.2.1)))
        have n3_ := As (blk_grown (g := gb170) (o := .cells #[.string a0_0, .slice Ao10 y167.length co10, u171002] 37 (0, 0)) (by (with_reducible repeat (first | refine bkn ?_ _ | refine bkd ?_ | refine bka ?_ _)); exact BK170.out) hg (Kd.R_away HO_171002.out (fun _ hk => hk.1.1.2.2.2.1)))
        have n4_ := As (blk_grown (g := gb172) (o := .cells #[.string ((rd_T37 l0_2 x15_1).f0), .slice A171_1 ((rd_T37 l0_2 x15_1).f1).length c171_1, .slice A171_2 ((rd_T37 l0_2 x15_1).f2).length c171_2] 37 (0, 0)) (by (with_reducible repeat (first | refine bkn ?_ _ | refine bkd ?_ | refine bka ?_ _)); exact BK172.out) hg (Kd.R_away HO_171002.out (fun _ hk => hk.1.1.2.2.2.2)))
        have n5_ := As (hb)
        have n6_ := As (ho)
        clear HO_171001
        clear BK165
        clear BK166
        clear BK170
        clear BK172
        clear HB
        clear HO_171002
        clear HO176
        clear HO179
        have HO_171001 := n0_
        have BK165 := n1_
        have BK166 := n2_
        have BK170 := n3_
        have BK172 := n4_
        have HB := n5_
        have HO182 := n6_
        clear n0_ n1_ n2_ n3_ n4_ n5_ n6_
        clear ho hb hg hat
        obtain ⟨Ao33, co33, eo33⟩ := Kd.R_slice HO182.out
        (first | subst eo33 | (injection eo33 with f1_ f2_ f3_; have f4_ := f1_.symm; have f5_ := f3_.symm; clear f1_ f2_ f3_; subst f4_; subst f5_))
        refine hK.out _ _ ⟨(blk_cell BK170.out 0).trans rfl, (blk_cell BK170.out 1).trans rfl, (blk_cell BK170.out 2).trans rfl, (blk_cell BK172.out 0).trans rfl, (blk_cell BK172.out 1).trans rfl, (blk_cell BK172.out 2).trans rfl⟩ (fun hHeld => ?_)
        clear hK K
        refine norm_ (a' := ?_) ?_ ?_
        rotate_left
        ·
         show Act.put _ (some 24) _ = _
         simp only [Act.put, List.setIfInBounds_toArray, List.set_cons_zero, List.set_cons_succ, i64_w, i32_w]
         rfl
        refine pure_ (i := 6) (N := some 25) (v := ?_) (a' := ?_) #[true, true, true, true, true, true, true, false] rfl rfl (any_of HT_.out (by kernel_rfl)) (fun _ _ _ h => h) (Or.inl ⟨by rfl, ?_⟩) ?_ ?_
        rotate_left
        ·
         intro w'
         go_simp
         with_reducible rfl
        rotate_left
        ·
         simp only [Act.put, List.setIfInBounds_toArray, List.set_cons_zero, List.set_cons_succ, i64_w, i32_w]
         rfl
        refine last_ (i := 7) (N := none) #[true, true, true, true, true, true, true, true] rfl rfl (one_of HT_.out (by kernel_rfl)) (by decide) (fun K hK => ?_)
        have hs34 : w30.cell? ⟨gb170, 2, none⟩ = some (u171002) := (blk_cell BK170.out 2).trans rfl
        have hfs34 := blk_frozen BK170.out 2
        have hns34_0 := NB165_170.out
        have hns34_1 := NB166_170.out
        have hns34_3 := NB172_170.out
        have hms34_0 := NB170_165.out
        have hms34_1 := NB170_166.out
        have hms34_3 := NB170_172.out
        refine skip_ (w1 := ?_) (by rfl) rfl ?_ ?_
        rotate_left
        ·
         go_simp
         rfl
        refine hK.out _ _ ?_
        clear hK K
        refine done_ (done_of HT_.out (by kernel_rfl)) ?_
        try go_wp2
        go_roundg k1
        case measure => have := HK1.out; omega
        case rel => exact ⟨(wrap64 (x15_1 + 1)), (y180), (.slice Ao33 y180.length co33), (by first | rfl | (simp; done) | (simp [*]; done)), H', ⟨by have := HK1.out; omega⟩, ⟨by (with_reducible repeat (first | apply Kd.Ra | apply Kd.Rn | apply Kd.Rd)); exact Kd.R_mono (Kd.R_far (p := ⟨gb170, 2, none⟩) (Kd.R_types HO_171001.out BK170.out (by decide)) (fun _ hk => hk.2) (.slice Ao33 y180.length co33)) (fun _ hk => trivial)⟩, ⟨by (with_reducible repeat (first | apply Kd.Ra | apply Kd.Rn | apply Kd.Rd)); exact Kd.R_mono (Kd.R_far (p := ⟨gb170, 2, none⟩) (Kd.R_mono HO182.out (fun k_ hk => (⟨hk, hk.2.2.2.1⟩ : _ ∧ k_ ≠ gb170))) (fun _ hk => hk.2) (.slice Ao33 y180.length co33)) (fun _ hk => ⟨hk.1.1, ⟨hk.1.2.1, ⟨hk.1.2.2.1, hk.1.2.2.2.1⟩⟩⟩)⟩, ⟨by (with_reducible repeat (first | refine bkn ?_ _ | refine bkd ?_ | refine bka ?_ _)); refine blk_far ?_ NB165_170.out _; (with_reducible repeat (first | refine bkn ?_ _ | refine bkd ?_ | refine bka ?_ _)); exact BK165.out⟩, ⟨by (with_reducible repeat (first | refine bkn ?_ _ | refine bkd ?_ | refine bka ?_ _)); refine blk_far ?_ NB166_170.out _; (with_reducible repeat (first | refine bkn ?_ _ | refine bkd ?_ | refine bka ?_ _)); exact BK166.out⟩, ⟨by (with_reducible repeat (first | refine bkn ?_ _ | refine bkd ?_ | refine bka ?_ _)); refine blk_put (cs := #[.string a0_0, .slice Ao10 y167.length co10, u171002]) ?_ 2 _ rfl; (with_reducible repeat (first | refine bkn ?_ _ | refine bkd ?_ | refine bka ?_ _)); exact BK170.out⟩, ⟨by repeat (first | (with_reducible first | exact HB.out | apply bla | apply bln | apply bld | refine bls ?_ GE165.out | refine bls ?_ GE166.out | refine bls ?_ GE170.out | refine bls ?_ GE172.out) | exact HB.out)⟩⟩
       ·
        rw [if_neg c21] at H
        exact absurd H (by simp)
      ·
       rw [if_neg c19] at H
       exact absurd H (by simp)
     ·
      rw [if_neg c18] at H
      exact absurd H (by simp)
    ·
     rw [if_neg c17] at H
     have c17b0 : decide (x15_1 < (l0_2.length : Int)) = false := decide_eq_false c17
     clear c17
     simp only [Option.some.injEq, Prod.mk.injEq] at H
     obtain ⟨rfl, rfl, rfl⟩ := H
     have hnb35 := NB170_165.out
     have hnc35 := NB165_170.out
     have hnb36 := NB170_166.out
     have hnc36 := NB166_170.out
     have hcz37_0 : wr.cell? ⟨gb170, 0, none⟩ = some (.string a0_0) := (blk_cell BK170.out 0).trans rfl
     have hcz37_1 : wr.cell? ⟨gb170, 1, none⟩ = some (.slice Ao10 y167.length co10) := (blk_cell BK170.out 1).trans rfl
     have hcz37_2 : wr.cell? ⟨gb170, 2, none⟩ = some (u171002) := (blk_cell BK170.out 2).trans rfl
     have hfz37_0 := blk_frozen BK170.out 0
     have hfz37_1 := blk_frozen BK170.out 1
     have hfz37_2 := blk_frozen BK170.out 2
     have hnb38 := NB166_165.out
     have hnc38 := NB165_166.out
     have hcz39_0 : wr.cell? ⟨gb166, 0, none⟩ = some (.string (⟨#[]⟩ : ByteArray)) := (blk_cell BK166.out 0).trans rfl
     have hcz39_1 : wr.cell? ⟨gb166, 1, none⟩ = some (.slice none 0 0) := (blk_cell BK166.out 1).trans rfl
     have hcz39_2 : wr.cell? ⟨gb166, 2, none⟩ = some (.slice none 0 0) := (blk_cell BK166.out 2).trans rfl
     have hfz39_0 := blk_frozen BK166.out 0
     have hfz39_1 := blk_frozen BK166.out 1
     have hfz39_2 := blk_frozen BK166.out 2
     obtain ⟨Ao40, co40, eo40⟩ := Kd.R_slice HO_171002.out
     subst eo40
     go_wp2
     refine bodyPost_ret (results_cell_row rfl _ _ gb166 37 #[.string a0_0, .slice Ao10 y167.length co10, .slice Ao40 x171002_1.length co40] (0, 0) _ rfl (by (with_reducible repeat (first | refine bkn ?_ _ | refine bkd ?_ | refine bka ?_ _)); refine blk_put (cs := #[.string a0_0, .slice Ao10 y167.length co10, .slice none 0 0]) ?_ 2 _ rfl; (with_reducible repeat (first | refine bkn ?_ _ | refine bkd ?_ | refine bka ?_ _)); refine blk_put (cs := #[.string a0_0, .slice none 0 0, .slice none 0 0]) ?_ 1 _ rfl; (with_reducible repeat (first | refine bkn ?_ _ | refine bkd ?_ | refine bka ?_ _)); refine blk_put (cs := #[.string (⟨#[]⟩ : ByteArray), .slice none 0 0, .slice none 0 0]) ?_ 0 _ rfl; (with_reducible repeat (first | refine bkn ?_ _ | refine bkd ?_ | refine bka ?_ _)); exact BK166.out) Try.underlying37 rfl (by kernel_rfl)) rfl ?_
     exact ⟨_, _, by first | rfl | (simp [errW_none, errW_some] <;> rfl) | (simp [*, errW_none, errW_some] <;> rfl), by (with_reducible repeat (first | apply Kd.Ra | apply Kd.Rn | apply Kd.Rd)); exact Kd.R_mono (Kd.R_far (p := ⟨gb166, 2, none⟩) (Kd.R_far (p := ⟨gb166, 1, none⟩) (Kd.R_far (p := ⟨gb166, 0, none⟩) (Kd.R_types HO_171001.out BK166.out (by decide)) (fun _ hk => hk.2) (.string a0_0)) (fun _ hk => hk.2) (.slice Ao10 y167.length co10)) (fun _ hk => hk.2) (.slice Ao40 x171002_1.length co40)) (fun _ hk => trivial), by (with_reducible repeat (first | apply Kd.Ra | apply Kd.Rn | apply Kd.Rd)); exact Kd.R_mono (Kd.R_far (p := ⟨gb166, 2, none⟩) (Kd.R_far (p := ⟨gb166, 1, none⟩) (Kd.R_far (p := ⟨gb166, 0, none⟩) (Kd.R_mono HO_171002.out (fun k_ hk => (⟨hk, hk.2.2.1⟩ : _ ∧ k_ ≠ gb166))) (fun _ hk => hk.2) (.string a0_0)) (fun _ hk => hk.2) (.slice Ao10 y167.length co10)) (fun _ hk => hk.2) (.slice Ao40 x171002_1.length co40)) (fun _ hk => hk.1.1), by repeat (first | (with_reducible first | exact HB.out | apply bla | apply bln | apply bld | refine bls ?_ GE165.out | refine bls ?_ GE166.out | refine bls ?_ GE170.out) | exact HB.out)⟩
 ·
  rw [if_neg c2] at H
  exact absurd H (by simp)

end Go.Proofs.Ytfemdpjgglhpnaa.P
