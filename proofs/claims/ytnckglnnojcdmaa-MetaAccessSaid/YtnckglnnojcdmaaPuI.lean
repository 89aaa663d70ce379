/- Facts on merged lists. -/
import Derived.Test.YtnckglnnojcdmaaPuM
set_option linter.unusedVariables false
set_option linter.unusedSimpArgs false
namespace Go.Proofs.Ytnckglnnojcdmaa.P
open Go.RowKit Go.Proofs.YtnckglnnojcdmaaW.PrintWords Go.Proofs.YtnckglnnojcdmaaW.PrintLast

theorem merge_len {a b : List S42} (ha : Asc a) (hb : Asc b) (la : a.length ≤ 64) (lb : b.length ≤ 64) : cntL [] (a ++ b) = (mergeA a b).length := by
  obtain ⟨m, h1, h2⟩ := sorted_of (b ++ a.filter (notIn b)) (out_dif ha hb)
  rw [cnt_eq ha hb, ← out_merge ha hb h1 h2, h2.length_eq]
theorem mergeP_ok {a b : List S42} (ha : checkP a = 0) (hb : checkP b = 0) : mergeP a b = if 64 < (mergeA a b).length then ([], 5) else (mergeA a b, 0) := by
  obtain ⟨la, va, Aa⟩ := (checkP_iff a).1 ha
  obtain ⟨lb, vb, Ab⟩ := (checkP_iff b).1 hb
  unfold mergeP
  rw [if_pos ha, if_pos hb, merge_len Aa Ab la lb]
  rfl
theorem mergeP_len (a b : List S42) : (mergeP a b).1.length ≤ 64 := by
  by_cases ha : checkP a = 0
  · by_cases hb : checkP b = 0
    · rw [mergeP_ok ha hb]
      split
      · simp
      · simp only; omega
    · unfold mergeP; rw [if_pos ha, if_neg hb]; simp
  · unfold mergeP; rw [if_neg ha]; simp
theorem merge_check {a b : List S42} (ha : checkP a = 0) (hb : checkP b = 0) (hl : ¬ 64 < (mergeA a b).length) : checkP (mergeA a b) = 0 := by
  obtain ⟨la, va, Aa⟩ := (checkP_iff a).1 ha
  obtain ⟨lb, vb, Ab⟩ := (checkP_iff b).1 hb
  refine (checkP_iff _).2 ⟨by omega, fun x hx => ?_, mergeA_asc Aa Ab⟩
  rcases (mergeA_mem Aa Ab x).1 hx with h | h
  · exact vb x h
  · exact va x h.1
/-! ### joins -/
theorem chk_nil : checkP [] = 0 := rfl
theorem asc_nil : Asc [] := List.Pairwise.nil
theorem merge_self {a : List S42} (ha : Asc a) : mergeA a a = a := asc_ext (mergeA_asc ha ha) ha fun x => by
  rw [mergeA_mem ha ha]
  exact ⟨fun h => h.elim id (·.1), Or.inl⟩
theorem in_nil {key : ByteArray} : ¬ In key [] := fun ⟨y, hy, _⟩ => by cases hy
theorem merge_nil {a : List S42} (ha : Asc a) : mergeA a [] = a := asc_ext (mergeA_asc ha asc_nil) ha fun x => by
  rw [mergeA_mem ha asc_nil]
  exact ⟨fun h => h.elim (fun h => by cases h) (·.1), fun h => Or.inr ⟨h, in_nil⟩⟩
theorem nil_merge {a : List S42} (ha : Asc a) : mergeA [] a = a := asc_ext (mergeA_asc asc_nil ha) ha fun x => by
  rw [mergeA_mem asc_nil ha]
  exact ⟨fun h => h.elim id (fun h => by cases h.1), Or.inl⟩
theorem in_merge {a b : List S42} (ha : Asc a) (hb : Asc b) {key : ByteArray} : In key (mergeA a b) ↔ In key a ∨ In key b := by
  constructor
  · rintro ⟨y, hy, rfl⟩
    rcases (mergeA_mem ha hb y).1 hy with h | h
    · exact Or.inr ⟨y, h, rfl⟩
    · exact Or.inl ⟨y, h.1, rfl⟩
  · intro h
    by_cases hk : In key b
    · obtain ⟨y, hy, e⟩ := hk
      exact ⟨y, (mergeA_mem ha hb y).2 (Or.inl hy), e⟩
    · obtain ⟨y, hy, e⟩ := h.resolve_right hk
      exact ⟨y, (mergeA_mem ha hb y).2 (Or.inr ⟨hy, by rw [e]; exact hk⟩), e⟩
theorem merge_assoc {a b c : List S42} (ha : Asc a) (hb : Asc b) (hc : Asc c) : mergeA (mergeA a b) c = mergeA a (mergeA b c) := by
  have hab := mergeA_asc ha hb
  have hbc := mergeA_asc hb hc
  refine asc_ext (mergeA_asc hab hc) (mergeA_asc ha hbc) fun x => ?_
  rw [mergeA_mem hab hc, mergeA_mem ha hb, mergeA_mem ha hbc, mergeA_mem hb hc, in_merge hb hc]
  constructor
  · rintro (h | ⟨h | ⟨h1, h2⟩, h3⟩)
    · exact Or.inl (Or.inl h)
    · exact Or.inl (Or.inr ⟨h, h3⟩)
    · exact Or.inr ⟨h1, fun h => h.elim h2 h3⟩
  · rintro ((h | ⟨h, h3⟩) | ⟨h1, h2⟩)
    · exact Or.inl h
    · exact Or.inr ⟨Or.inl h, h3⟩
    · exact Or.inr ⟨Or.inr ⟨h1, fun h => h2 (Or.inl h)⟩, fun h => h2 (Or.inr h)⟩
end Go.Proofs.Ytnckglnnojcdmaa.P
