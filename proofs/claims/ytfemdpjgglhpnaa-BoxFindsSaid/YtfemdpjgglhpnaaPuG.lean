/- The guard Few, and what the reference's Count, valid, size and Write answer, in plain terms. -/
import Derived.Test.YtfemdpjgglhpnaaPuC
import Derived.Test.YtfemdpjgglhpnaaPx7
set_option linter.unusedVariables false
set_option linter.unusedSimpArgs false
namespace Go.Proofs.Ytfemdpjgglhpnaa.P
open Go.RowKit Go.Proofs.YtfemdpjgglhpnaaW.PrintWords

/-! ### few -/
def fewF (rec : List S37 → Int) : List S37 → Int → Int
  | [], n => n
  | x :: r, n => if 20 < x.f0.size ∨ 20000 < x.f1.length then -1 else if rec x.f2 < 0 ∨ 20000 < n + 1 + x.f1.length + rec x.f2 then -1 else fewF rec r (n + 1 + x.f1.length + rec x.f2)
def fewP : Nat → List S37 → Int
  | 0, l => if 0 < l.length then -1 else 0
  | lev + 1, l => if 300 < l.length then -1 else fewF (fewP lev) l 0
theorem fewF_bd (rec : List S37 → Int) : ∀ (l : List S37) (n : Int), 0 ≤ n → n ≤ 20000 → -1 ≤ fewF rec l n ∧ fewF rec l n ≤ 20000
  | [], n, h0, h1 => by rw [fewF]; omega
  | x :: r, n, h0, h1 => by
    rw [fewF]
    split
    · omega
    split
    · omega
    · exact fewF_bd rec r _ (by omega) (by omega)
theorem fewP_bd : ∀ (lev : Nat) (l : List S37), -1 ≤ fewP lev l ∧ fewP lev l ≤ 20000
  | 0, l => by rw [fewP]; split <;> omega
  | lev + 1, l => by
    rw [fewP]
    split
    · omega
    · exact fewF_bd _ l 0 (by omega) (by omega)
theorem fewF_at (rec : List S37 → Int) (l : List S37) (i : Nat) (h : i < l.length) (n : Int) : fewF rec (l.drop i) n = if 20 < (rd_T37 l (i : Int)).f0.size ∨ 20000 < (rd_T37 l (i : Int)).f1.length then -1 else if rec (rd_T37 l (i : Int)).f2 < 0 ∨ 20000 < n + 1 + (rd_T37 l (i : Int)).f1.length + rec (rd_T37 l (i : Int)).f2 then -1 else fewF rec (l.drop (i + 1)) (n + 1 + (rd_T37 l (i : Int)).f1.length + rec (rd_T37 l (i : Int)).f2) := by
  have e : rd_T37 l (i : Int) = l[i] := by simp [rd_T37, h]
  rw [List.drop_eq_getElem_cons h, fewF, e]
/-- What Few lets in is small. -/
theorem fewF_small (rec : List S37 → Int) (hr : ∀ l, 0 ≤ rec l → (cntL l : Int) ≤ rec l ∧ (szL l : Int) ≤ 8 * rec l) : ∀ (l : List S37) (n : Int), 0 ≤ n → 0 ≤ fewF rec l n → n + (cntL l : Int) ≤ fewF rec l n ∧ 8 * n + (szL l : Int) ≤ 8 * fewF rec l n
  | [], n, h0, h => by rw [fewF, cntL, szL]; omega
  | x :: r, n, h0, h => by
    rw [fewF] at h ⊢
    split at h
    · omega
    split at h
    · omega
    rename_i h1 h2
    rw [if_neg h1, if_neg h2]
    have hx := hr x.f2 (by omega)
    have hi := fewF_small rec hr r (n + 1 + x.f1.length + rec x.f2) (by omega) h
    rw [cntL, szL, cntB_eq, szB_eq]
    generalize fewF rec r (n + 1 + x.f1.length + rec x.f2) = q at *
    generalize rec x.f2 = y at *
    generalize cntL x.f2 = c1 at *
    generalize szL x.f2 = s1 at *
    generalize cntL r = c2 at *
    generalize szL r = s2 at *
    generalize x.f1.length = p at *
    clear h1
    omega
theorem fewP_small : ∀ (lev : Nat) (l : List S37), 0 ≤ fewP lev l → (cntL l : Int) ≤ fewP lev l ∧ (szL l : Int) ≤ 8 * fewP lev l
  | 0, l, h => by
    rw [fewP] at h ⊢
    split at h
    · omega
    · cases l with
      | nil => rw [cntL, szL]; simp
      | cons a b => rename_i h2; exact absurd (by simp) h2
  | lev + 1, l, h => by
    rw [fewP] at h ⊢
    split at h
    · omega
    · rename_i h1
      rw [if_neg h1]
      have := fewF_small (fewP lev) (fewP_small lev) l 0 (by omega) h
      omega
theorem few_loop (l : List S37) (lev : Nat) (hlev : lev ≤ 100) (hl : l.length ≤ 300) (ih : ∀ x, Ev (fun k => waveletref45_few.f k x (lev : Int)) (fewP lev x)) (d : Nat) :
    ∀ (i : Nat) (n : Int), i + d = l.length → 0 ≤ n → n ≤ 20000 → Ev (fun k => waveletref45_few.l0 k l ((lev + 1 : Nat) : Int) n (i : Int)) (fewF (fewP lev) (l.drop i) n) := by
  induction d with
  | zero =>
    intro i n hd h0 h1
    rw [List.drop_eq_nil_of_le (by omega), fewF]
    exact Ev.const fun k => by rw [waveletref45_few.l0, if_neg (by omega)]
  | succ d ihd =>
    intro i n hd h0 h1
    have hil : i < l.length := by omega
    have hI := ih (rd_T37 l (i : Int)).f2
    have hbd := fewP_bd lev (rd_T37 l (i : Int)).f2
    rw [fewF_at _ l i hil n]
    have hN := fun q (hq0 : 0 ≤ q) (hq1 : q ≤ 20000) => ihd (i + 1) q (by omega) hq0 hq1
    have b1 : (i : Int) < (l.length : Int) := by omega
    have b2 : (0 : Int) ≤ (i : Int) := Int.natCast_nonneg _
    have hw := nat_succ i (by omega)
    have hw2 : wrap64 (((lev + 1 : Nat) : Int) - 1) = (lev : Int) := by rw [wrap64_id (by omega) (by omega)]; omega
    have g1 : ∀ k b, waveletref45_few.j2 (k + 1) l ((lev + 1 : Nat) : Int) n (i : Int) b = if b = true then some (-1) else (waveletref45_few.f k (rd_T37 l (i : Int)).f2 (lev : Int)).bind fun t => if t < 0 then some (-1) else if (wrap64 ((wrap64 ((wrap64 (n + 1)) + ((rd_T37 l (i : Int)).f1.length : Int))) + t)) > 20000 then some (-1) else waveletref45_few.l0 k l ((lev + 1 : Nat) : Int) (wrap64 ((wrap64 ((wrap64 (n + 1)) + ((rd_T37 l (i : Int)).f1.length : Int))) + t)) ((i + 1 : Nat) : Int) := fun k b => by
      rw [waveletref45_few.j2, if_pos b2, if_pos b1, hw2, hw]
    have g2 : ∀ k, waveletref45_few.l0 (k + 1) l ((lev + 1 : Nat) : Int) n (i : Int) = waveletref45_few.j2 k l ((lev + 1 : Nat) : Int) n (i : Int) (decide (20 < (rd_T37 l (i : Int)).f0.size ∨ 20000 < (rd_T37 l (i : Int)).f1.length)) := fun k => by
      rw [waveletref45_few.l0, if_pos b1, if_pos b2]
      by_cases h : ((rd_T37 l (i : Int)).f0.size : Int) > 20
      · rw [if_pos h, decide_eq_true (by omega)]
      · rw [if_neg h]
        congr 1
        by_cases h2 : ((rd_T37 l (i : Int)).f1.length : Int) > 20000
        · rw [decide_eq_true h2, decide_eq_true (by omega)]
        · rw [decide_eq_false h2, decide_eq_false (by omega)]
    clear hw hw2
    generalize (rd_T37 l (i : Int)) = x at *
    refine Ev.step g2 (Ev.step (g1 · _) ?_)
    by_cases hc : 20 < x.f0.size ∨ 20000 < x.f1.length
    · rw [if_pos hc]
      exact Ev.congr (f := fun _ => some (-1)) (fun k => by rw [if_pos (decide_eq_true hc)]) (Ev.now _)
    · rw [if_neg hc]
      refine Ev.congr (f := fun k => (waveletref45_few.f k x.f2 (lev : Int)).bind fun t => if t < 0 then some (-1) else if (wrap64 ((wrap64 ((wrap64 (n + 1)) + (x.f1.length : Int))) + t)) > 20000 then some (-1) else waveletref45_few.l0 k l ((lev + 1 : Nat) : Int) (wrap64 ((wrap64 ((wrap64 (n + 1)) + (x.f1.length : Int))) + t)) ((i + 1 : Nat) : Int)) (fun k => by rw [if_neg (by rw [decide_eq_false hc]; decide)]) (Ev.bind hI ?_)
      generalize fewP lev x.f2 = y at *
      have hs : 0 ≤ y → wrap64 ((wrap64 ((wrap64 (n + 1)) + (x.f1.length : Int))) + y) = n + 1 + x.f1.length + y := by
        intro hy
        have p1 : x.f1.length ≤ 20000 := by omega
        have e1 : wrap64 (n + 1) = n + 1 := wrap64_id (by omega) (by omega)
        have e2 : wrap64 (n + 1 + (x.f1.length : Int)) = n + 1 + (x.f1.length : Int) := wrap64_id (by clear e1; omega) (by clear e1; omega)
        have e3 : wrap64 (n + 1 + (x.f1.length : Int) + y) = n + 1 + (x.f1.length : Int) + y := wrap64_id (by clear e1 e2; omega) (by clear e1 e2; omega)
        rw [e1, e2, e3]
      by_cases hy : y < 0
      · rw [if_pos (Or.inl hy)]
        exact Ev.congr (f := fun _ => some (-1)) (fun k => by rw [if_pos hy]) (Ev.now _)
      · have hs2 := hs (by clear hs; omega)
        clear hs
        have hS := Lib.hid hs2
        clear hs2
        by_cases ht : 20000 < n + 1 + x.f1.length + y
        · rw [if_pos (Or.inr ht)]
          exact Ev.congr (f := fun _ => some (-1)) (fun k => by rw [if_neg hy, hS.out, if_pos ht]) (Ev.now _)
        · rw [if_neg (by omega)]
          exact Ev.congr (fun k => by rw [if_neg hy, hS.out, if_neg (by omega)]) (hN (n + 1 + x.f1.length + y) (by omega) (by omega))
theorem few_ev : ∀ (lev : Nat) (l : List S37), lev ≤ 100 → Ev (fun k => waveletref45_few.f k l (lev : Int)) (fewP lev l)
  | 0, l, _ => by
    rw [fewP]
    refine Ev.succ (Ev.succ (Ev.succ ⟨0, fun k _ => ?_⟩))
    show waveletref45_few.f (k + 1 + 1 + 1) l ((0 : Nat) : Int) = _
    rw [waveletref45_few.f]
    by_cases h3 : (l.length : Int) > 300
    · rw [if_pos h3, waveletref45_few.j0, if_pos rfl, if_pos (by omega)]
    · rw [if_neg h3, if_pos (show ((0 : Nat) : Int) = 0 from rfl)]
      by_cases h0 : (l.length : Int) > 0
      · rw [decide_eq_true h0, waveletref45_few.j0, if_pos rfl, if_pos (by omega)]
      · rw [decide_eq_false h0, waveletref45_few.j0, if_neg (by decide), waveletref45_few.l0, if_neg (by omega), if_neg (by omega)]
  | lev + 1, l, h => by
    rw [fewP]
    have hz : ¬ (((lev + 1 : Nat) : Int) = 0) := by omega
    by_cases h3 : 300 < l.length
    · rw [if_pos h3]
      refine Ev.succ (Ev.const fun k => ?_)
      show waveletref45_few.f (k + 1 + 1) l ((lev + 1 : Nat) : Int) = _
      rw [waveletref45_few.f, if_pos (by omega), waveletref45_few.j0, if_pos rfl]
    · rw [if_neg h3]
      have := few_loop l lev (by omega) (by omega) (fun x => few_ev lev x (by omega)) l.length 0 0 (by omega) (by omega) (by omega)
      rw [List.drop_zero] at this
      refine Ev.succ (Ev.step (fun k => ?_) this)
      show waveletref45_few.f (k + 1 + 1) l ((lev + 1 : Nat) : Int) = _
      rw [waveletref45_few.f, if_neg (by omega), if_neg hz, waveletref45_few.j0, if_neg (by decide)]
      rfl
def FewB (l : List S37) : Bool := decide (fewP 6 l ≥ 0)
theorem Few_ev (l : List S37) : Ev (fun k => waveletref45_Few.f k l) (FewB l) := by
  unfold waveletref45_Few.f
  exact Ev.bind (few_ev 6 l (by omega)) (Ev.now _)
theorem FewB_small {l : List S37} (h : FewB l = true) : cntL l ≤ 20000 ∧ szL l ≤ 160000 := by
  have h0 : 0 ≤ fewP 6 l := of_decide_eq_true h
  have h1 := fewP_small 6 l h0
  have h2 := fewP_bd 6 l
  generalize fewP 6 l = q at *
  generalize cntL l = a at *
  generalize szL l = b at *
  omega
end Go.Proofs.Ytfemdpjgglhpnaa.P
