/- What box.size answers for lists that are not large, in plain terms; lists of valid boxes, taken apart. -/
import Derived.Test.YtfemdpjgglhpnaaPuA
import Derived.Test.YtfemdpjgglhpnaaPx2
set_option linter.unusedVariables false
namespace Go.Proofs.Ytfemdpjgglhpnaa.P
open Go.RowKit Go.Proofs.YtfemdpjgglhpnaaW.PrintWords
theorem okL_append : ∀ {i : Bool} (l m : List S37), okL i (l ++ m) = (okL i l && okL i m)
  | i, [], m => by simp [okL]
  | i, b :: r, m => by rw [List.cons_append, okL, okL, okL_append r m, Bool.and_assoc]
theorem okL_left {i : Bool} {l m : List S37} (h : okL i (l ++ m) = true) : okL i l = true := by
  rw [okL_append, Bool.and_eq_true] at h; exact h.1
theorem wrap64_id {n : Int} (h0 : -9223372036854775808 ≤ n) (h1 : n ≤ 9223372036854775807) : wrap64 n = n := by unfold wrap64; omega
theorem Ev.succ {α : Type} {g : Nat → Option α} {r : α} (h : Ev (fun k => g (k + 1)) r) : Ev g r := by
  obtain ⟨K, hK⟩ := h
  refine ⟨K + 1, fun k hk => ?_⟩
  obtain ⟨k', rfl⟩ : ∃ m, k = m + 1 := ⟨k - 1, by omega⟩
  exact hK k' (by omega)
theorem size_sum (n p q : Nat) (h : n + (8 + p + q) ≤ 67108864) : wrap64 ((n : Int) + wrap64 (wrap64 (8 + (p : Int)) + (q : Int))) = ((n + (8 + p + q) : Nat) : Int) := by
  have b1 : -9223372036854775808 ≤ 8 + (p : Int) := by omega
  have b2 : 8 + (p : Int) ≤ 9223372036854775807 := by omega
  have b3 : -9223372036854775808 ≤ 8 + (p : Int) + (q : Int) := by omega
  have b4 : 8 + (p : Int) + (q : Int) ≤ 9223372036854775807 := by omega
  have b5 : -9223372036854775808 ≤ (n : Int) + (8 + (p : Int) + (q : Int)) := by omega
  have b6 : (n : Int) + (8 + (p : Int) + (q : Int)) ≤ 9223372036854775807 := by omega
  rw [wrap64_id b1 b2, wrap64_id b3 b4, wrap64_id b5 b6]
  clear b1 b2 b3 b4 b5 b6 h
  omega
theorem size_loop (l : List S37) (hl : l.length ≤ 1000000000) (ih : ∀ x ∈ l, szL x.f2 ≤ 67108864 → Ev (fun k => box_size.f k x.f2) (szL x.f2 : Int)) (d : Nat) :
    ∀ (i : Nat) (n : Nat), i + d = l.length → n + szL (l.drop i) ≤ 67108864 → Ev (fun k => box_size.l0 k (n : Int) l (l.length : Int) (i : Int)) ((n + szL (l.drop i) : Nat) : Int) := by
  induction d with
  | zero =>
    intro i n hd hs
    refine Ev.succ ⟨0, fun k _ => ?_⟩
    show box_size.l0 (k + 1) (n : Int) l (l.length : Int) (i : Int) = _
    rw [box_size.l0, if_neg (by omega), List.drop_eq_nil_of_le (by omega), szL]
    rfl
  | succ d ihd =>
    intro i n hd hs
    have hil : i < l.length := by omega
    have hx := rd_mem hil
    have h1 := szL_at l i hil
    have h2 := szB_eq (rd_T37 l (i : Int))
    have hi2 := ihd (i + 1) (n + szB (rd_T37 l (i : Int))) (by omega)
    have hI := ih _ hx
    have hgo : ∀ k, box_size.l0 (k + 1) (n : Int) l (l.length : Int) (i : Int) = (box_size.f k (rd_T37 l (i : Int)).f2).bind fun t => if wrap64 ((n : Int) + wrap64 (wrap64 (8 + ((rd_T37 l (i : Int)).f1.length : Int)) + t)) > 67108864 then some (wrap64 ((n : Int) + wrap64 (wrap64 (8 + ((rd_T37 l (i : Int)).f1.length : Int)) + t))) else box_size.l0 k (wrap64 ((n : Int) + wrap64 (wrap64 (8 + ((rd_T37 l (i : Int)).f1.length : Int)) + t))) l (l.length : Int) (wrap64 ((i : Int) + 1)) := by
      intro k
      have b1 : (i : Int) < (l.length : Int) := by clear h1 h2 hi2 hI hs ih ihd; omega
      have b2 : 0 ≤ (i : Int) := Int.natCast_nonneg _
      rw [box_size.l0, if_pos b1, if_pos b2, if_pos b1]
    generalize szL (l.drop i) = a at *
    generalize szL (l.drop (i + 1)) = a' at *
    generalize szB (rd_T37 l (i : Int)) = b at *
    generalize hq : szL (rd_T37 l (i : Int)).f2 = q at *
    generalize (rd_T37 l (i : Int)).f1.length = p at *
    clear ihd ih hq
    obtain ⟨K1, hK1⟩ := hI (by omega)
    obtain ⟨K2, hK2⟩ := hi2 (by omega)
    refine Ev.succ ⟨max K1 K2, fun k hk => ?_⟩
    have e1 : box_size.f k (rd_T37 l (i : Int)).f2 = some (q : Int) := hK1 k (by omega)
    have e2 : box_size.l0 k ((n + b : Nat) : Int) l (l.length : Int) ((i + 1 : Nat) : Int) = _ := hK2 k (by omega)
    have hN : ¬ (((n + b : Nat) : Int) > 67108864) := by omega
    have e3 : n + b + a' = n + a := by omega
    have e4 : n + (8 + p + q) ≤ 67108864 := by omega
    have b5 : -9223372036854775808 ≤ (i : Int) + 1 := by omega
    have b6 : (i : Int) + 1 ≤ 9223372036854775807 := by omega
    show box_size.l0 (k + 1) (n : Int) l (l.length : Int) (i : Int) = _
    rw [hgo, e1, Option.bind_some, size_sum n p q e4, ← h2, if_neg hN, wrap64_id b5 b6, show (i : Int) + 1 = ((i + 1 : Nat) : Int) from rfl, e2, e3]
theorem size_ev (m : Nat) : ∀ (l : List S37), SizeOf.sizeOf l < m → szL l ≤ 67108864 → Ev (fun k => box_size.f k l) (szL l : Int) := by
  induction m with
  | zero => intro l h; omega
  | succ m ihm =>
    intro l h hs
    have h8 := length_le_sz l
    have := size_loop l (by omega) (fun x hx hsx => ihm x.f2 (by
      have h1 := List.sizeOf_lt_of_mem hx
      cases x with
      | mk a b c =>
        simp only [S37.mk.sizeOf_spec] at h1
        show SizeOf.sizeOf c < m
        omega) hsx) l.length 0 0 (by omega) (by simpa using hs)
    rw [List.drop_zero, Nat.zero_add] at this
    refine Ev.succ ?_
    simp only [box_size.f]
    exact this
theorem size_small (l : List S37) (hs : szL l ≤ 67108864) : Ev (fun k => box_size.f k l) (szL l : Int) := size_ev (SizeOf.sizeOf l + 1) l (by omega) hs
end Go.Proofs.Ytfemdpjgglhpnaa.P
