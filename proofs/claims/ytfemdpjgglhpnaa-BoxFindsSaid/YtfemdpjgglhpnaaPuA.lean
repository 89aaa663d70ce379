/- Trees of boxes in plain terms: their number, their size, whether they are valid, their bytes. -/
import Derived.Test.YtfemdpjgglhpnaaPx0
set_option linter.unusedVariables false
namespace Go.Proofs.Ytfemdpjgglhpnaa.P
open Go.RowKit Go.Proofs.YtfemdpjgglhpnaaW.PrintWords

def superP (t : ByteArray) : Bool := t.data.toList == ([104, 101, 97, 100] : List UInt8)
def knownP (t : ByteArray) : Bool :=
  t.data.toList == ([115, 105, 103, 110] : List UInt8) || t.data.toList == ([104, 101, 97, 100] : List UInt8) || t.data.toList == ([105, 109, 103, 104] : List UInt8) ||
  t.data.toList == ([99, 111, 108, 114] : List UInt8) || t.data.toList == ([109, 101, 116, 97] : List UInt8) || t.data.toList == ([99, 111, 100, 101] : List UInt8)
mutual
def cntB : S37 → Nat
  | ⟨_, _, l⟩ => 1 + cntL l
def cntL : List S37 → Nat
  | [] => 0
  | b :: r => cntB b + cntL r
end
mutual
def szB : S37 → Nat
  | ⟨_, p, l⟩ => 8 + p.length + szL l
def szL : List S37 → Nat
  | [] => 0
  | b :: r => szB b + szL r
end
mutual
def okB : Bool → S37 → Bool
  | inner, ⟨t, p, l⟩ => knownP t && if superP t then !inner && p.isEmpty && okL true l else l.isEmpty
def okL : Bool → List S37 → Bool
  | _, [] => true
  | inner, b :: r => okB inner b && okL inner r
end
def be4 (n : Int) : List Int := [(n / 16777216) % 256, (n / 65536) % 256, (n / 256) % 256, n % 256]
mutual
def wrB : S37 → List Int
  | ⟨t, p, l⟩ => be4 (8 + p.length + szL l : Nat) ++ bytesOf t ++ p ++ wrL l
def wrL : List S37 → List Int
  | [] => []
  | b :: r => wrB b ++ wrL r
end
theorem cntB_eq (x : S37) : cntB x = 1 + cntL x.f2 := by cases x; rw [cntB]
theorem szB_eq (x : S37) : szB x = 8 + x.f1.length + szL x.f2 := by cases x; rw [szB]
theorem okB_eq (i : Bool) (x : S37) : okB i x = (knownP x.f0 && if superP x.f0 then !i && x.f1.isEmpty && okL true x.f2 else x.f2.isEmpty) := by cases x; rw [okB]
theorem wrB_eq (x : S37) : wrB x = be4 (8 + x.f1.length + szL x.f2 : Nat) ++ bytesOf x.f0 ++ x.f1 ++ wrL x.f2 := by cases x; rw [wrB]
theorem tlB (s : ByteArray) : s.toList = s.data.toList := ByteArray.toList_eq s
theorem knownP_ascii {t : ByteArray} (h : knownP t = true) : t.size = 4 ∧ ∀ (i : Nat) (hi : i < t.size), (t[i]'hi).toNat < 128 := by
  have hall : t.data.toList.length = 4 ∧ ∀ c ∈ t.data.toList, c.toNat < 128 := by
    unfold knownP at h
    simp only [Bool.or_eq_true, beq_iff_eq] at h
    rcases h with ((((h | h) | h) | h) | h) | h
    all_goals
      rw [h]
      exact ⟨rfl, by decide⟩
  have hs : t.size = t.data.toList.length := by rw [Array.length_toList]; rfl
  refine ⟨by rw [hs]; exact hall.1, fun i hi => hall.2 _ ?_⟩
  exact List.mem_of_getElem? (i := i) (by rw [List.getElem?_eq_getElem (by rw [← hs]; exact hi)]; rfl)
theorem okB_known {i : Bool} {x : S37} (h : okB i x = true) : knownP x.f0 = true := by
  rw [okB_eq, Bool.and_eq_true] at h; exact h.1
/-- What is inside a valid box is valid. -/
theorem okB_inner {i : Bool} {x : S37} (h : okB i x = true) : okL true x.f2 = true := by
  rw [okB_eq, Bool.and_eq_true] at h
  by_cases hs : superP x.f0 = true
  · rw [if_pos hs, Bool.and_eq_true] at h
    exact h.2.2
  · rw [if_neg hs, List.isEmpty_iff] at h
    rw [h.2, okL]
theorem okL_get {i : Bool} : ∀ {l : List S37}, okL i l = true → ∀ x ∈ l, okB i x = true
  | b :: r, h, x, hx => by
    rw [okL, Bool.and_eq_true] at h
    rcases List.mem_cons.1 hx with rfl | hx
    · exact h.1
    · exact okL_get h.2 x hx
theorem szL_split : ∀ (l : List S37) (i : Nat), szL l = szL (l.take i) + szL (l.drop i)
  | [], i => by simp [szL]
  | b :: r, 0 => by simp [szL]
  | b :: r, i + 1 => by
    rw [List.take_succ_cons, List.drop_succ_cons, szL, szL, szL_split r i, Nat.add_assoc]
theorem wrL_append : ∀ (l m : List S37), wrL (l ++ m) = wrL l ++ wrL m
  | [], m => by simp [wrL]
  | b :: r, m => by rw [List.cons_append, wrL, wrL, wrL_append r m, List.append_assoc]
theorem wrL_take (l : List S37) (i : Nat) (h : i < l.length) : wrL (l.take (i + 1)) = wrL (l.take i) ++ wrB (rd_T37 l i) := by
  rw [List.take_succ_eq_append_getElem h, wrL_append, wrL, wrL, List.append_nil]
  simp [rd_T37, h]
theorem szL_at (l : List S37) (i : Nat) (h : i < l.length) : szL (l.drop i) = szB (rd_T37 l i) + szL (l.drop (i + 1)) := by
  rw [List.drop_eq_getElem_cons h, szL]
  simp [rd_T37, h]
theorem be4_length (n : Int) : (be4 n).length = 4 := rfl
mutual
theorem wrB_length : ∀ {i : Bool} {x : S37}, okB i x = true → (wrB x).length = szB x
  | i, ⟨t, p, l⟩, h => by
    have h1 := (knownP_ascii (okB_known h)).1
    have h2 := wrL_length (l := l) (okB_inner h)
    show (wrB ⟨t, p, l⟩).length = szB ⟨t, p, l⟩
    rw [wrB, szB, List.length_append, List.length_append, List.length_append, be4_length, bytesOf_length, h2, h1]
theorem wrL_length : ∀ {i : Bool} {l : List S37}, okL i l = true → (wrL l).length = szL l
  | i, [], _ => by rw [wrL, szL]; rfl
  | i, b :: r, h => by
    rw [okL, Bool.and_eq_true] at h
    rw [wrL, szL, List.length_append, wrB_length h.1, wrL_length h.2]
end
theorem rd_mem {l : List S37} {i : Nat} (h : i < l.length) : rd_T37 l i ∈ l := by
  have : rd_T37 l i = l[i] := by simp [rd_T37, h]
  rw [this]; exact List.getElem_mem h
theorem rd_size {l : List S37} {i : Nat} (h : i < l.length) : SizeOf.sizeOf (rd_T37 l i).f2 < SizeOf.sizeOf l := by
  have h1 := List.sizeOf_lt_of_mem (rd_mem h)
  cases hx : rd_T37 l (i : Int) with
  | mk a b c =>
    rw [hx] at h1
    simp only [S37.mk.sizeOf_spec] at h1
    show SizeOf.sizeOf c < _
    omega
theorem length_le_sz : ∀ (l : List S37), 8 * l.length ≤ szL l
  | [] => by simp
  | b :: r => by
    have := length_le_sz r
    rw [szL, szB_eq, List.length_cons]
    omega
/-- The first box of a type. -/
def firstP (t : ByteArray) : List S37 → Option S37
  | [] => none
  | b :: r => if b.f0.toList == t.toList then some b else firstP t r
/-- The first box with a path of types. -/
def findP : List ByteArray → List S37 → Option S37
  | [], _ => none
  | t :: ps, l => match firstP t l with
    | none => none
    | some x => if ps.isEmpty then some x else findP ps x.f2
theorem firstP_step (t : ByteArray) (l : List S37) (i : Nat) (h : i < l.length) : firstP t (l.drop i) = if (rd_T37 l i).f0.toList == t.toList then some (rd_T37 l i) else firstP t (l.drop (i + 1)) := by
  rw [List.drop_eq_getElem_cons h, firstP]
  simp [rd_T37, h]
end Go.Proofs.Ytfemdpjgglhpnaa.P
