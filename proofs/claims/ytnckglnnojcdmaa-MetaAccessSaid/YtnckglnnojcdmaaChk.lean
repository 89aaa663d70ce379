/- Plain lemmas on the printed meta.Check: what it answers, in plain terms. No program is in sight. -/
import Derived.Test.YtnckglnnojcdmaaPx3
set_option linter.unusedVariables false
set_option linter.unusedSimpArgs false
namespace Go.Proofs.Ytnckglnnojcdmaa.P
open Go.RowKit Go.Proofs.YtnckglnnojcdmaaW.PrintWords Go.Proofs.YtnckglnnojcdmaaW.PrintLast

theorem wrap_id {x : Int} (h0 : -9223372036854775808 ≤ x) (h1 : x ≤ 9223372036854775807) : wrap64 x = x := by
  unfold wrap64; omega
theorem tl (s : ByteArray) : s.toList = s.data.toList := ByteArray.toList_eq s
theorem bt_nat (s : ByteArray) (i : Nat) (h : i < s.size) : bt s (i : Int) = ((s[i]'h).toNat : Int) := by
  simp [bt, h]
theorem rd_nat (xs : List S42) (i : Nat) (h : i < xs.length) : rd_T42 xs (i : Int) = xs[i] := by
  simp [rd_T42, List.getD_eq_getElem?_getD, h]

def lessS (a b : ByteArray) : Bool := Op.bytesLess a.toList b.toList
/-- Both Checks, entry by entry; p: the key before. -/
def checkL : Option ByteArray → List S42 → Int
  | _, [] => 0
  | p, x :: xs => if (keyOk x.f0 && valueOk x.f1) = true then
      (match p with
        | none => checkL (some x.f0) xs
        | some q => if (x.f0.toList == q.toList) = true then 19 else if lessS x.f0 q = true then 22 else checkL (some x.f0) xs)
    else 22
def checkP (l : List S42) : Int := if l.length > 64 then 5 else checkL none l
/-- The key before place i. -/
def prevK (l : List S42) (i : Nat) : Option ByteArray := if h : 0 < i ∧ i - 1 < l.length then some (l[i - 1]'h.2).f0 else none

theorem chk_loop (l : List S42) (hl : l.length ≤ 64) : ∀ (d i : Nat), i + d = l.length → Ev (fun k => meta_Check.l0 k l l (l.length : Int) (i : Int)) (checkL (prevK l i) (l.drop i))
  | 0, i, hi => by
    rw [List.drop_of_length_le (by omega)]
    exact Ev.step (fun k => by simp only [meta_Check.l0]; rw [if_neg (by omega)]; rfl) (Ev.now _)
  | d + 1, i, hi => by
    have hlt : i < l.length := by omega
    have hr := rd_nat l i hlt
    rw [List.drop_eq_getElem_cons hlt]
    simp only [checkL]
    have ih := chk_loop l hl d (i + 1) (by omega)
    have hpk : prevK l (i + 1) = some l[i].f0 := by simp [prevK, hlt]
    rw [hpk] at ih
    by_cases hk : (keyOk l[i].f0 && valueOk l[i].f1) = true
    · rw [if_pos hk]
      rw [Bool.and_eq_true] at hk
      refine Ev.step (f := fun k => meta_Check.j1 k l (i : Int) l (l.length : Int) (i : Int) false l[i].f0 l[i].f1) (fun k => by
        simp only [meta_Check.l0]; rw [if_pos (by omega), if_pos (by omega), if_pos (by omega), hr]
        simp [meta_validKey.f, meta_validValue.f, hk.1, hk.2]) ?_
      by_cases h0 : i = 0
      · subst h0
        have hp0 : prevK l 0 = none := by simp [prevK]
        rw [hp0]
        simp only []
        refine Ev.step (f := fun k => meta_Check.j2 k l 0 l (l.length : Int) 0 false (l[0]'hlt).f0 (l[0]'hlt).f1) (fun k => by simp only [meta_Check.j1]; rw [if_neg (by simp), if_neg (by simp)]; rfl) ?_
        exact Ev.step (fun k => by simp only [meta_Check.j2]; rw [if_neg (by simp), if_neg (by simp), wrap_id (by omega) (by omega)]; rfl) ih
      · have hw : wrap64 ((i : Int) - 1) = ((i - 1 : Nat) : Int) := by rw [wrap_id (by omega) (by omega)]; omega
        have hlt' : i - 1 < l.length := by omega
        have hr' := rd_nat l (i - 1) hlt'
        have hp0 : prevK l i = some l[i - 1].f0 := by simp only [prevK]; rw [dif_pos ⟨by omega, hlt'⟩]
        rw [hp0]
        simp only []
        refine Ev.step (f := fun k => meta_Check.j2 k l (i : Int) l (l.length : Int) (i : Int) (l[i].f0.toList == l[i - 1].f0.toList) l[i].f0 l[i].f1) (fun k => by simp only [meta_Check.j1]; rw [if_neg (by simp), if_pos (by omega), hw, if_pos (by omega), if_pos (by omega), hr']) ?_
        by_cases hE : (l[i].f0.toList == l[i - 1].f0.toList) = true
        · rw [if_pos hE, hE]
          exact Ev.step (fun k => by simp only [meta_Check.j2]; rw [if_pos trivial]) (Ev.now _)
        · rw [if_neg hE, Bool.eq_false_iff.2 hE]
          by_cases hL : lessS l[i].f0 l[i - 1].f0 = true
          · rw [if_pos hL]
            exact Ev.step (fun k => by simp only [meta_Check.j2]; rw [if_neg (by simp), if_pos (by omega), hw, if_pos (by omega), if_pos (by omega), hr']; exact if_pos hL) (Ev.now _)
          · rw [if_neg hL]
            exact Ev.step (fun k => by simp only [meta_Check.j2]; rw [if_neg (by simp), if_pos (by omega), hw, if_pos (by omega), if_pos (by omega), hr', if_neg (by exact hL), wrap_id (by omega) (by omega)]; rfl) ih
    · rw [if_neg hk]
      refine Ev.step (f := fun k => meta_Check.j1 k l (i : Int) l (l.length : Int) (i : Int) true l[i].f0 l[i].f1) (fun k => by
        simp only [meta_Check.l0]; rw [if_pos (by omega), if_pos (by omega), if_pos (by omega), hr]
        simp only [meta_validKey.f, meta_validValue.f, Option.bind_some]
        split
        · rename_i h1
          rw [h1, Bool.true_and] at hk
          rw [Bool.eq_false_iff.2 hk]
          rfl
        · rfl) ?_
      exact Ev.step (fun k => by simp only [meta_Check.j1]; rw [if_pos trivial]) (Ev.now _)

theorem chk (l : List S42) : Ev (fun k => meta_Check.f k l) (checkP l) := by
  unfold checkP
  by_cases h : l.length > 64
  · rw [if_pos h]
    exact Ev.congr (fun k => by simp only [meta_Check.f]; rw [if_pos (by omega)]) (Ev.now _)
  · rw [if_neg h]
    have := chk_loop l (by omega) l.length 0 (by omega)
    exact Ev.congr (fun k => by simp only [meta_Check.f]; rw [if_neg (by omega)]; rfl) this

end Go.Proofs.Ytnckglnnojcdmaa.P
