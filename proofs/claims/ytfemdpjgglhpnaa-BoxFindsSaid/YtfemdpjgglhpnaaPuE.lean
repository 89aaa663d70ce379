/- What the program's clone and Find answer for lists that are not large, in plain terms. -/
import Derived.Test.YtfemdpjgglhpnaaPuC
import Derived.Test.YtfemdpjgglhpnaaPx6
set_option linter.unusedVariables false
set_option linter.unusedSimpArgs false
namespace Go.Proofs.Ytfemdpjgglhpnaa.P
open Go.RowKit Go.Proofs.YtfemdpjgglhpnaaW.PrintWords

theorem szL_mem : ∀ {l : List S37} {x : S37}, x ∈ l → szB x ≤ szL l
  | b :: r, x, h => by
    rw [szL]
    rcases List.mem_cons.1 h with rfl | h
    · exact Nat.le_add_right _ _
    · exact Nat.le_trans (szL_mem h) (Nat.le_add_left _ _)
theorem sz_inner {l : List S37} {x : S37} {m : Nat} (h : x ∈ l) (hs : szL l ≤ m) : szL x.f2 ≤ m ∧ x.f1.length ≤ m := by
  have h1 := szL_mem h
  rw [szB_eq] at h1
  generalize szL l = a at *
  generalize szL x.f2 = c at *
  omega
theorem eta37 (x : S37) : (⟨x.f0, x.f1, x.f2⟩ : S37) = x := by cases x; rfl
theorem clone_loop (l : List S37) (t : ByteArray) (p : List Int) (hl : l.length ≤ 1000000000) (ih : ∀ x ∈ l, Ev (fun k => box_clone.f k x.f0 x.f1 x.f2) (x.f0, x.f1, x.f2)) (d : Nat) :
    ∀ (i : Nat), i + d = l.length → Ev (fun k => box_clone.l0 k l (l.length : Int) (i : Int) t p (l.take i)) (t, p, l) := by
  induction d with
  | zero =>
    intro i hd
    rw [List.take_of_length_le (by omega)]
    have h1 : ¬ (i : Int) < (l.length : Int) := by omega
    exact Ev.const fun k => by rw [box_clone.l0, if_neg h1]
  | succ d ihd =>
    intro i hd
    have hil : i < l.length := by omega
    have hI := ih _ (rd_mem hil)
    have hN := ihd (i + 1) (by omega)
    have b1 : (i : Int) < (l.length : Int) := by omega
    have b2 : (0 : Int) ≤ (i : Int) := Int.natCast_nonneg _
    have hw := nat_succ i (by omega)
    have ht : l.take (i + 1) = l.take i ++ [rd_T37 l (i : Int)] := by
      rw [List.take_succ_eq_append_getElem hil]
      simp [rd_T37, hil]
    have hlen : (l.take i).length < 2199023255552 := by rw [List.length_take]; omega
    refine Ev.step (f := fun k => (box_clone.f k (rd_T37 l (i : Int)).f0 (rd_T37 l (i : Int)).f1 (rd_T37 l (i : Int)).f2).bind fun y => box_clone.l0 k l (l.length : Int) ((i + 1 : Nat) : Int) t p (l.take i ++ [⟨y.1, y.2.1, y.2.2⟩])) (fun k => ?_) (Ev.bind hI ?_)
    · rw [box_clone.l0, if_pos b1, if_pos b2, if_pos b1, hw]
      congr 1
      funext y
      rw [if_pos hlen]
    · rw [ht] at hN
      show Ev (fun n => box_clone.l0 n l (l.length : Int) ((i + 1 : Nat) : Int) t p (l.take i ++ [⟨(rd_T37 l (i : Int)).f0, (rd_T37 l (i : Int)).f1, (rd_T37 l (i : Int)).f2⟩])) (t, p, l)
      rw [eta37]
      exact hN
theorem clone_ev (l : List S37) : szL l ≤ 67108864 → ∀ t p, p.length ≤ 67108864 → Ev (fun k => box_clone.f k t p l) (t, p, l) := by
  refine tree_ind (fun l => szL l ≤ 67108864 → ∀ t p, p.length ≤ 67108864 → Ev (fun k => box_clone.f k t p l) (t, p, l)) ?_ l
  intro l ih hs t p hp
  have h8 := length_le_sz l
  have hn : l.length ≤ 1000000000 := by generalize szL l = a at *; omega
  have := clone_loop l t p hn (fun x hx => ih x hx (sz_inner hx hs).1 x.f0 x.f1 (sz_inner hx hs).2) l.length 0 (by omega)
  have hq : ([] : List Int).length + p.length < 140737488355328 := by rw [List.length_nil]; omega
  exact Ev.step (fun k => by rw [box_clone.f, if_pos hq, List.nil_append]; rfl) this

def findR (path : List ByteArray) (l : List S37) : ByteArray × List Int × List S37 × Bool := match findP path l with
  | none => ((⟨#[]⟩ : ByteArray), [], [], false)
  | some x => (x.f0, x.f1, x.f2, true)
theorem find_loop (l : List S37) (t : ByteArray) (ps : List ByteArray) (hl : l.length ≤ 1000000000) (hs : szL l ≤ 67108864) (hps : ps.length ≤ 1000)
    (ih : ∀ x ∈ l, Ev (fun k => box_Find.f k x.f2 ps) (findR ps x.f2)) (d : Nat) :
    ∀ (i : Nat), i + d = l.length → firstP t (l.drop i) = firstP t l → Ev (fun k => box_Find.l0 k (t :: ps) l (l.length : Int) (i : Int)) (findR (t :: ps) l) := by
  induction d with
  | zero =>
    intro i hd hf
    have h1 : ¬ (i : Int) < (l.length : Int) := by omega
    have e : findR (t :: ps) l = ((⟨#[]⟩ : ByteArray), [], [], false) := by
      unfold findR
      rw [findP, ← hf, List.drop_eq_nil_of_le (by omega), firstP]
    rw [e]
    exact Ev.const fun k => by rw [box_Find.l0, if_neg h1]
  | succ d ihd =>
    intro i hd hf
    have hil : i < l.length := by omega
    have hst := firstP_step t l i hil
    have hx := rd_mem hil
    have hI := ih _ hx
    have hN := ihd (i + 1) (by omega)
    have b1 : (i : Int) < (l.length : Int) := by omega
    have b2 : (0 : Int) ≤ (i : Int) := Int.natCast_nonneg _
    have b3 : (0 : Int) < ((t :: ps).length : Int) := by rw [List.length_cons]; omega
    have hw := nat_succ i (by omega)
    have hr : rdOf ByteArray.empty (t :: ps) 0 = t := rfl
    have hgo := fun k => show box_Find.l0 (k + 1) (t :: ps) l (l.length : Int) (i : Int) = (if ((rd_T37 l (i : Int)).f0).toList = t.toList then (if ((t :: ps).length : Int) = 1 then ((box_clone.f k ((rd_T37 l (i : Int)).f0) ((rd_T37 l (i : Int)).f1) ((rd_T37 l (i : Int)).f2)).bind fun y => (some (y.1, y.2.1, y.2.2, true))) else (if 1 ≤ ((t :: ps).length : Int) then ((box_Find.f k ((rd_T37 l (i : Int)).f2) ((t :: ps).drop 1)).bind fun y => (some (y.1, y.2.1, y.2.2.1, y.2.2.2))) else (none))) else (box_Find.l0 k (t :: ps) l (l.length : Int) ((i + 1 : Nat) : Int))) by
      rw [box_Find.l0, if_pos b1, if_pos b2, if_pos b1, if_pos b3, hr, hw]
    by_cases he : (rd_T37 l (i : Int)).f0.toList = t.toList
    · rw [hf, if_pos (beq_iff_eq.2 he)] at hst
      by_cases hp : ps = []
      · subst hp
        have e : findR [t] l = ((rd_T37 l (i : Int)).f0, (rd_T37 l (i : Int)).f1, (rd_T37 l (i : Int)).f2, true) := by
          unfold findR
          rw [findP, hst]
          rfl
        rw [e]
        have hc := clone_ev (rd_T37 l (i : Int)).f2 (sz_inner hx hs).1 (rd_T37 l (i : Int)).f0 (rd_T37 l (i : Int)).f1 (sz_inner hx hs).2
        exact Ev.step (fun k => by rw [hgo, if_pos he, if_pos (show (([t].length : Nat) : Int) = 1 from rfl)]) (Ev.bind hc (Ev.now _))
      · have hl1 : ¬ (((t :: ps).length : Int) = 1) := by
          cases ps with
          | nil => exact absurd rfl hp
          | cons a b => rw [List.length_cons, List.length_cons]; omega
        have hl2 : 1 ≤ ((t :: ps).length : Int) := by rw [List.length_cons]; omega
        have e : findR (t :: ps) l = findR ps (rd_T37 l (i : Int)).f2 := by
          unfold findR
          rw [findP, hst]
          cases ps with
          | nil => exact absurd rfl hp
          | cons a b => rfl
        rw [e]
        exact Ev.step (fun k => by rw [hgo, if_pos he, if_neg hl1, if_pos hl2]; rfl) (Ev.bind hI (Ev.now _))
    · have he2 : ((rd_T37 l (i : Int)).f0.toList == t.toList) = false := by simpa using he
      rw [hf, he2, if_neg (by decide)] at hst
      exact Ev.step (fun k => by rw [hgo, if_neg he]) (hN hst.symm)
theorem find_ev : ∀ (path : List ByteArray) (l : List S37), path.length ≤ 1000 → szL l ≤ 67108864 → Ev (fun k => box_Find.f k l path) (findR path l)
  | [], l, _, _ => Ev.const fun k => by rw [box_Find.f]; rfl
  | t :: ps, l, hp, hs => by
    have h8 := length_le_sz l
    have hn : l.length ≤ 1000000000 := by generalize szL l = a at *; omega
    have hps : ps.length ≤ 1000 := by rw [List.length_cons] at hp; omega
    have := find_loop l t ps hn hs hps (fun x hx => find_ev ps x.f2 hps (sz_inner hx hs).1) l.length 0 (by omega) (by rw [List.drop_zero])
    exact Ev.step (fun k => by rw [box_Find.f, if_neg (by rw [List.length_cons]; omega)]; rfl) this
end Go.Proofs.Ytfemdpjgglhpnaa.P
