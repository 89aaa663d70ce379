/- Plain lemmas on hull.Best and on the chapter's examples. No program is in sight. -/
import Derived.Test.YtgijikbekckanaaPts
import Derived.Test.YtgijikbekckanaaPx3
import Derived.Test.YtgijikbekckanaaPx4
set_option linter.unusedVariables false
set_option linter.unusedSimpArgs false
namespace Go.Proofs.Ytgijikbekckanaa.P
open Go.RowKit Go.Proofs.YtgijikbekckanaaW.PrintWords Go.Proofs.YtgijikbekckanaaW.PrintLast Go.Proofs.YtgijikbekckanaaW.PrintMore

def costP (d r : Int) (rs ds : List Int) (i : Nat) : Int := r * el ds i + d * el rs i
/-- The first point of least cost among b and those from i on. -/
def bestL (d r : Int) (rs ds : List Int) : Nat → Nat → Nat → Nat
  | 0, _, b => b
  | m + 1, i, b => bestL d r rs ds m (i + 1) (if costP d r rs ds i < costP d r rs ds b then i else b)
def okPrice (d r : Int) : Prop := 0 ≤ d ∧ d ≤ 70368744177664 ∧ 1 ≤ r ∧ r ≤ 65535
instance (d r : Int) : Decidable (okPrice d r) := by unfold okPrice; infer_instance
def bestP (rs ds : List Int) (d r : Int) : Int := if validB rs ds = true ∧ okPrice d r then (bestL d r rs ds rs.length 0 0 : Nat) else -1

theorem mul_bd {a b A B : Int} (h0 : 0 ≤ a) (h1 : a ≤ A) (h2 : 0 ≤ b) (h3 : b ≤ B) : 0 ≤ a * b ∧ a * b ≤ A * B :=
  ⟨Int.mul_nonneg h0 h2, Int.mul_le_mul h1 h3 h2 (Int.le_trans h0 h1)⟩
theorem cost_bd {rs ds : List Int} (hV : Vld rs ds) {d r : Int} (hp : okPrice d r) {i : Nat} (hi : i < rs.length) :
    0 ≤ r * el ds i ∧ r * el ds i ≤ 4611615649683210240 ∧ 0 ≤ d * el rs i ∧ d * el rs i ≤ 4611615649683210240 := by
  obtain ⟨p1, p2, p3, p4⟩ := hp
  have a := mul_bd (show 0 ≤ r by omega) p4 (hV.dist hi).1 (hV.dist hi).2
  have b := mul_bd p1 p2 (hV.rate hi).1 (hV.rate hi).2
  exact ⟨a.1, Int.le_trans a.2 (by decide), b.1, Int.le_trans b.2 (by decide)⟩

theorem best_loop (rs ds : List Int) (d r : Int) (hV : Vld rs ds) (hp : okPrice d r) : ∀ (m i b : Nat), i + m = rs.length → 1 ≤ i → b < rs.length → Ev (fun k => hull_Best.l0 k d r (b : Int) (costP d r rs ds b) (rs.length : Int) (i : Int) rs ds) ((bestL d r rs ds m i b : Nat) : Int)
  | 0, i, b, hi, h1, hb => Ev.step (fun k => by simp only [hull_Best.l0]; rw [if_neg (by omega)]; rfl) (Ev.now _)
  | m + 1, i, b, hi, h1, hb => by
    have h179 := hV.2.2.1
    have hld := hV.1
    have c := cost_bd hV hp (show i < rs.length by omega)
    have hw : wrap64 ((i : Int) + 1) = ((i + 1 : Nat) : Int) := by rw [wrap_id (by omega) (by omega)]; omega
    simp only [bestL]
    refine Ev.step (f := fun k => hull_Best.j2 k d r (b : Int) (costP d r rs ds b) (i : Int) (costP d r rs ds i) (rs.length : Int) (i : Int) (decide (costP d r rs ds i < costP d r rs ds b)) rs ds) (fun k => by
      simp only [hull_Best.l0, rd_el]
      rw [if_pos (by omega), if_pos (by omega), if_pos (by omega), if_pos (by omega), if_neg (by omega)]
      rw [wrap_id (x := r * el ds i) (by omega) (by omega), wrap_id (x := d * el rs i) (by omega) (by omega), wrap_id (x := r * el ds i + d * el rs i) (by omega) (by omega)]
      rfl) ?_
    by_cases hc : costP d r rs ds i < costP d r rs ds b
    · rw [decide_eq_true hc, if_pos hc]
      exact Ev.step (fun k => by simp only [hull_Best.j2]; rw [if_pos trivial, hw]) (best_loop rs ds d r hV hp m (i + 1) i (by omega) (by omega) (by omega))
    · rw [decide_eq_false hc, if_neg hc]
      exact Ev.step (fun k => by simp only [hull_Best.j2]; rw [if_neg (by simp), hw]) (best_loop rs ds d r hV hp m (i + 1) b (by omega) (by omega) hb)
theorem best_no (d r : Int) (rs ds : List Int) : Ev (fun k => hull_Best.j0 k d r true rs ds) (-1) := Ev.step (fun k => by simp only [hull_Best.j0]; rw [if_pos trivial]) (Ev.now _)
theorem best_ev (rs ds : List Int) (d r : Int) : Ev (fun k => hull_Best.f k rs ds d r) (bestP rs ds d r) := by
  refine Ev.congr (fun k => by simp only [hull_Best.f]; rfl) ?_
  refine Ev.bind (valid_ev rs ds) ?_
  unfold bestP
  by_cases hv : validB rs ds = true
  · rw [hv]
    refine Ev.congr (f := fun k => hull_Best.j0 k d r (!decide (okPrice d r)) rs ds) (fun k => ?_) ?_
    · rw [if_pos rfl, show decide (okPrice d r) = decide (0 ≤ d ∧ d ≤ 70368744177664 ∧ 1 ≤ r ∧ r ≤ 65535) from decide_eq_decide.2 Iff.rfl]
      by_cases h1 : d < 0
      · rw [if_pos h1, decide_eq_false (by omega)]; rfl
      · by_cases h2 : d > 70368744177664
        · rw [if_neg h1, if_pos h2, decide_eq_false (by omega)]; rfl
        · by_cases h3 : r < 1
          · rw [if_neg h1, if_neg h2, if_pos h3, decide_eq_false (by omega)]; rfl
          · rw [if_neg h1, if_neg h2, if_neg h3]
            congr 1
            rw [← decide_not, decide_eq_decide]; omega
    · by_cases hp : okPrice d r
      · rw [if_pos ⟨rfl, hp⟩, decide_eq_true hp]
        have hV : Vld rs ds := of_decide_eq_true hv
        have h1 := hV.2.1
        have h179 := hV.2.2.1
        have hld := hV.1
        have c := cost_bd hV hp (show 0 < rs.length by omega)
        have hbl : bestL d r rs ds rs.length 0 0 = bestL d r rs ds (rs.length - 1) 1 0 := by
          rw [show rs.length = (rs.length - 1) + 1 by omega]
          simp only [bestL]
          rw [if_neg (by omega)]
          rfl
        rw [hbl]
        refine Ev.step (f := fun k => hull_Best.l0 k d r 0 0 (rs.length : Int) 0 rs ds) (fun k => by simp only [hull_Best.j0]; rw [if_neg (by simp)]) ?_
        refine Ev.step (f := fun k => hull_Best.j2 k d r 0 0 0 (costP d r rs ds 0) (rs.length : Int) 0 true rs ds) (fun k => by
          simp only [hull_Best.l0]
          rw [if_pos (by omega), if_pos (by omega), if_pos (by omega), if_pos (by omega), if_pos trivial]
          rw [show rd ds 0 = el ds 0 from rd_el ds 0, show rd rs 0 = el rs 0 from rd_el rs 0]
          rw [wrap_id (x := r * el ds 0) (by omega) (by omega), wrap_id (x := d * el rs 0) (by omega) (by omega), wrap_id (x := r * el ds 0 + d * el rs 0) (by omega) (by omega)]
          rfl) ?_
        exact Ev.step (fun k => by simp only [hull_Best.j2]; rw [if_pos trivial, wrap_id (by omega) (by omega)]; rfl) (best_loop rs ds d r hV hp (rs.length - 1) 1 0 (by omega) (by omega) (by omega))
      · rw [if_neg (fun h => hp h.2), decide_eq_false hp]
        exact best_no d r rs ds
  · rw [Bool.eq_false_iff.2 hv, if_neg (by simp)]
    exact Ev.congr (fun k => by rw [if_neg (by simp)]) (best_no d r rs ds)

theorem example_ok : Ev (fun k => waveletlaw20_exampleHolds.f k) true := Ev.of waveletlaw20_exampleHolds.mono (k := 12) (by decide +kernel)
theorem example_bind : Ev (fun k => (waveletlaw20_exampleHolds.f k).bind fun t => some t) true := Ev.bind example_ok (Ev.now _)
theorem few_ev (rs ds : List Int) : waveletlaw20_few.f rs ds = some (decide (rs.length ≤ 200 ∧ ds.length ≤ 200)) := by
  unfold waveletlaw20_few.f
  split
  · congr 1; rw [decide_eq_decide]; omega
  · congr 1; rw [eq_comm, decide_eq_false_iff_not]; omega
theorem sameInts_loop (l : List Int) (hl : l.length ≤ 1000000) : ∀ (m i : Nat), i + m = l.length → Ev (fun k => waveletref02_SameInts.l0 k l l (i : Int)) true
  | 0, i, hi => Ev.step (fun k => by simp only [waveletref02_SameInts.l0]; rw [if_neg (by omega)]) (Ev.now _)
  | m + 1, i, hi => Ev.step (fun k => by
      simp only [waveletref02_SameInts.l0]
      rw [if_pos (by omega), if_pos (by omega), if_pos (by omega), if_pos trivial, wrap_id (by omega) (by omega)]; rfl) (sameInts_loop l hl m (i + 1) (by omega))
theorem sameInts_refl (l : List Int) (hl : l.length ≤ 1000000) : Ev (fun k => waveletref02_SameInts.f k l l) true :=
  Ev.congr (fun k => by simp only [waveletref02_SameInts.f]; rw [if_pos trivial]; rfl) (sameInts_loop l hl l.length 0 (by omega))
theorem chain_len (rs ds : List Int) : ∀ (f i : Nat), (chainP rs ds f i).length ≤ f + 1
  | 0, i => by simp [chainP]
  | f + 1, i => by
    simp only [chainP, List.length_cons]
    split
    · simp
    · have := chain_len rs ds f (nextP rs ds i).toNat; omega
theorem points_len (rs ds : List Int) : (pointsP rs ds).length ≤ 180 := by
  unfold pointsP
  split
  · rename_i h
    have hV : Vld rs ds := of_decide_eq_true h
    have := chain_len rs ds rs.length 0
    have := hV.2.2.1
    omega
  · simp

end Go.Proofs.Ytgijikbekckanaa.P
