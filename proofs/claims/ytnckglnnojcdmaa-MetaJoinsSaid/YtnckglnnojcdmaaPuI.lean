/- The laws MetaMerges and MetaJoins. -/
import Derived.Test.YtnckglnnojcdmaaPuH
import Derived.Test.YtnckglnnojcdmaaPx10
set_option linter.unusedVariables false
set_option linter.unusedSimpArgs false
namespace Go.Proofs.Ytnckglnnojcdmaa.P
open Go.RowKit Go.Proofs.YtnckglnnojcdmaaW.PrintWords Go.Proofs.YtnckglnnojcdmaaW.PrintLast

theorem merge_len {a b : List S42} (ha : Asc a) (hb : Asc b) (la : a.length ≤ 64) (lb : b.length ≤ 64) : cntL [] (a ++ b) = (mergeA a b).length := by
  have hlf := List.length_filter_le (notIn b) a
  have hlen : (b ++ a.filter (notIn b)).length = b.length + (a.filter (notIn b)).length := List.length_append
  obtain ⟨m, h1, h2, _⟩ := sort_ev (b ++ a.filter (notIn b)) (by omega) (out_dif ha hb)
  rw [cnt_eq ha hb, ← out_merge ha hb h1 h2, h2.length_eq]
theorem mergeP_ok {a b : List S42} (ha : checkP a = 0) (hb : checkP b = 0) : mergeP a b = if 64 < (mergeA a b).length then ([], 5) else (mergeA a b, 0) := by
  obtain ⟨la, va, Aa⟩ := (checkP_iff a).1 ha
  obtain ⟨lb, vb, Ab⟩ := (checkP_iff b).1 hb
  unfold mergeP
  rw [if_pos ha, if_pos hb, merge_len Aa Ab la lb]
  rfl
theorem mergeP_len (a b : List S42) : (mergeP a b).1.length ≤ 64 := by
  by_cases ha : checkP a = 0
  · by_cases hb : checkP b = 0
    · rw [mergeP_ok ha hb]
      split
      · simp
      · simp only; omega
    · unfold mergeP; rw [if_pos ha, if_neg hb]; simp
  · unfold mergeP; rw [if_neg ha]; simp
theorem merge_check {a b : List S42} (ha : checkP a = 0) (hb : checkP b = 0) (hl : ¬ 64 < (mergeA a b).length) : checkP (mergeA a b) = 0 := by
  obtain ⟨la, va, Aa⟩ := (checkP_iff a).1 ha
  obtain ⟨lb, vb, Ab⟩ := (checkP_iff b).1 hb
  refine (checkP_iff _).2 ⟨by omega, fun x hx => ?_, mergeA_asc Aa Ab⟩
  rcases (mergeA_mem Aa Ab x).1 hx with h | h
  · exact vb x h
  · exact va x h.1
theorem law_merges (a b : List S42) : Ev (fun k => waveletlaw47_MetaMerges.f k a b) true := by
  obtain ⟨f, hf, hF⟩ := few_any a
  obtain ⟨g, hg, hG⟩ := few_any b
  have jt : Ev (fun k => waveletlaw47_MetaMerges.j0 k a b true) true := Ev.step (fun k => by simp only [waveletlaw47_MetaMerges.j0]; rw [if_pos trivial]) awake_bind
  have jf : Ev (fun k => waveletlaw47_MetaMerges.j0 k a b false) true := by
    refine Ev.step (fun k => by simp only [waveletlaw47_MetaMerges.j0]; rw [if_neg (by simp), show meta_Merge.f a b = some (mergeP a b) from rfl, Option.bind_some]) ?_
    refine Ev.bind (rmerge_ev a b) ?_
    refine Ev.congr (fun k => by rw [if_pos rfl]) ?_
    refine Ev.bind (same_ok _ (by have := mergeP_len a b; omega)) ?_
    exact Ev.congr (fun k => by rw [if_pos rfl]) awake_bind
  refine Ev.congr (fun k => by simp only [waveletlaw47_MetaMerges.f]; rfl) (Ev.bind hf ?_)
  cases f with
  | false => exact Ev.congr (fun k => by rw [if_neg (by simp)]) jt
  | true =>
    refine Ev.congr (fun k => by rw [if_pos rfl]) (Ev.bind hg ?_)
    cases g with
    | false => exact jt
    | true => exact jf

/-! ### joins -/
theorem chk_nil : checkP [] = 0 := rfl
theorem asc_nil : Asc [] := List.Pairwise.nil
theorem merge_self {a : List S42} (ha : Asc a) : mergeA a a = a := asc_ext (mergeA_asc ha ha) ha fun x => by
  rw [mergeA_mem ha ha]
  exact ⟨fun h => h.elim id (·.1), Or.inl⟩
theorem in_nil {key : ByteArray} : ¬ In key [] := fun ⟨y, hy, _⟩ => by cases hy
theorem merge_nil {a : List S42} (ha : Asc a) : mergeA a [] = a := asc_ext (mergeA_asc ha asc_nil) ha fun x => by
  rw [mergeA_mem ha asc_nil]
  exact ⟨fun h => h.elim (fun h => by cases h) (·.1), fun h => Or.inr ⟨h, in_nil⟩⟩
theorem nil_merge {a : List S42} (ha : Asc a) : mergeA [] a = a := asc_ext (mergeA_asc asc_nil ha) ha fun x => by
  rw [mergeA_mem asc_nil ha]
  exact ⟨fun h => h.elim id (fun h => by cases h.1), Or.inl⟩
theorem in_merge {a b : List S42} (ha : Asc a) (hb : Asc b) {key : ByteArray} : In key (mergeA a b) ↔ In key a ∨ In key b := by
  constructor
  · rintro ⟨y, hy, rfl⟩
    rcases (mergeA_mem ha hb y).1 hy with h | h
    · exact Or.inr ⟨y, h, rfl⟩
    · exact Or.inl ⟨y, h.1, rfl⟩
  · intro h
    by_cases hk : In key b
    · obtain ⟨y, hy, e⟩ := hk
      exact ⟨y, (mergeA_mem ha hb y).2 (Or.inl hy), e⟩
    · obtain ⟨y, hy, e⟩ := h.resolve_right hk
      exact ⟨y, (mergeA_mem ha hb y).2 (Or.inr ⟨hy, by rw [e]; exact hk⟩), e⟩
theorem merge_assoc {a b c : List S42} (ha : Asc a) (hb : Asc b) (hc : Asc c) : mergeA (mergeA a b) c = mergeA a (mergeA b c) := by
  have hab := mergeA_asc ha hb
  have hbc := mergeA_asc hb hc
  refine asc_ext (mergeA_asc hab hc) (mergeA_asc ha hbc) fun x => ?_
  rw [mergeA_mem hab hc, mergeA_mem ha hb, mergeA_mem ha hbc, mergeA_mem hb hc, in_merge hb hc]
  constructor
  · rintro (h | ⟨h | ⟨h1, h2⟩, h3⟩)
    · exact Or.inl (Or.inl h)
    · exact Or.inl (Or.inr ⟨h, h3⟩)
    · exact Or.inr ⟨h1, fun h => h.elim h2 h3⟩
  · rintro ((h | ⟨h, h3⟩) | ⟨h1, h2⟩)
    · exact Or.inl h
    · exact Or.inr ⟨Or.inl h, h3⟩
    · exact Or.inr ⟨Or.inr ⟨h1, fun h => h2 (Or.inl h)⟩, fun h => h2 (Or.inr h)⟩
theorem law_joins (a b c : List S42) : Ev (fun k => waveletlaw47_MetaJoins.f k a b c) true := by
  obtain ⟨f, hf, hF⟩ := few_any a
  obtain ⟨g, hg, hG⟩ := few_any b
  obtain ⟨h, hh, hH⟩ := few_any c
  have jt : Ev (fun k => waveletlaw47_MetaJoins.j0 k a b c true) true := Ev.step (fun k => by simp only [waveletlaw47_MetaJoins.j0]; rw [if_pos trivial]) awake_bind
  have jf : checkP a = 0 → checkP b = 0 → checkP c = 0 → Ev (fun k => waveletlaw47_MetaJoins.j0 k a b c false) true := fun ha hb hc => by
    obtain ⟨la, va, Aa⟩ := (checkP_iff a).1 ha
    obtain ⟨lb, vb, Ab⟩ := (checkP_iff b).1 hb
    obtain ⟨lc, vc, Ac⟩ := (checkP_iff c).1 hc
    have m1 : mergeP a a = (a, 0) := by rw [mergeP_ok ha ha, merge_self Aa, if_neg (by omega)]
    have m2 : mergeP a [] = (a, 0) := by rw [mergeP_ok ha chk_nil, merge_nil Aa, if_neg (by omega)]
    have m3 : mergeP [] a = (a, 0) := by rw [mergeP_ok chk_nil ha, nil_merge Aa, if_neg (by omega)]
    have sa := same_ok a (by omega)
    have j2 : ∀ x y : List S42, Ev (fun k => waveletlaw47_MetaJoins.j2 k a c x y true) true := fun x y => Ev.step (fun k => by simp only [waveletlaw47_MetaJoins.j2]; rw [if_pos trivial]) awake_bind
    have j1 : Ev (fun k => waveletlaw47_MetaJoins.j1 k a b c false) true := by
      refine Ev.step (f := fun k => if (mergeP a b).2 = 0 then (waveletlaw47_MetaJoins.j2 k a c (mergeP a b).1 (mergeP b c).1 ((mergeP b c).2 != 0)) else (waveletlaw47_MetaJoins.j2 k a c (mergeP a b).1 (mergeP b c).1 true)) (fun k => by
        simp only [waveletlaw47_MetaJoins.j1]; rw [if_neg (by simp), show meta_Merge.f a b = some (mergeP a b) from rfl, show meta_Merge.f b c = some (mergeP b c) from rfl, Option.bind_some, Option.bind_some]) ?_
      rw [mergeP_ok ha hb, mergeP_ok hb hc]
      by_cases h1 : 64 < (mergeA a b).length
      · rw [if_pos h1]
        exact Ev.congr (fun k => by rw [if_neg (by decide)]) (j2 _ _)
      · rw [if_neg h1]
        refine Ev.congr (fun k => by rw [if_pos rfl]) ?_
        by_cases h2 : 64 < (mergeA b c).length
        · rw [if_pos h2]
          exact j2 _ _
        · rw [if_neg h2]
          have e : mergeP (mergeA a b) c = mergeP a (mergeA b c) := by
            rw [mergeP_ok (merge_check ha hb h1) hc, mergeP_ok ha (merge_check hb hc h2), merge_assoc Aa Ab Ac]
          refine Ev.step (f := fun k => (waveletref47_Same.f k (mergeP a (mergeA b c)).1 (mergeP a (mergeA b c)).1).bind fun t284 => (if t284 = true then ((waveletlaw47_awake.f k).bind fun t285 => (some t285)) else (some false))) (fun k => by
            simp only [waveletlaw47_MetaJoins.j2]; rw [if_neg (by simp), show meta_Merge.f (mergeA a b) c = some (mergeP (mergeA a b) c) from rfl, show meta_Merge.f a (mergeA b c) = some (mergeP a (mergeA b c)) from rfl, Option.bind_some, Option.bind_some, e, if_pos rfl]) ?_
          refine Ev.bind (same_ok _ (by have := mergeP_len a (mergeA b c); omega)) ?_
          exact Ev.congr (fun k => by rw [if_pos rfl]) awake_bind
    refine Ev.step (f := fun k => (waveletref47_Same.f k a a).bind fun t264 => (if t264 = true then ((waveletref47_Same.f k a a).bind fun t265 => (if t265 = true then ((waveletref47_Same.f k a a).bind fun t266 => (waveletlaw47_MetaJoins.j1 k a b c (!t266))) else (waveletlaw47_MetaJoins.j1 k a b c true))) else (waveletlaw47_MetaJoins.j1 k a b c true))) (fun k => by
      simp only [waveletlaw47_MetaJoins.j0]
      rw [if_neg (by simp), show meta_Merge.f a a = some (a, 0) from congrArg some m1, show meta_Merge.f a [] = some (a, 0) from congrArg some m2, show meta_Merge.f [] a = some (a, 0) from congrArg some m3, Option.bind_some, Option.bind_some, Option.bind_some, if_pos rfl, if_pos rfl, if_pos rfl]) ?_
    refine Ev.bind sa (Ev.congr (fun k => by rw [if_pos rfl]) (Ev.bind sa (Ev.congr (fun k => by rw [if_pos rfl]) (Ev.bind sa j1))))
  refine Ev.congr (fun k => by simp only [waveletlaw47_MetaJoins.f]; rfl) (Ev.bind hf ?_)
  cases f with
  | false => exact Ev.congr (fun k => by rw [if_neg (by simp)]) jt
  | true =>
    refine Ev.congr (fun k => by rw [if_pos rfl]) (Ev.bind hg ?_)
    cases g with
    | false => exact Ev.congr (fun k => by rw [if_neg (by simp)]) jt
    | true =>
      refine Ev.congr (fun k => by rw [if_pos rfl]) (Ev.bind hh ?_)
      cases h with
      | false => exact Ev.congr (fun k => by rw [if_neg (by simp)]) jt
      | true =>
        refine Ev.congr (fun k => by rw [if_pos rfl]) (Ev.bind (rchk a) ?_)
        by_cases ha : checkP a = 0
        · refine Ev.congr (fun k => by rw [if_pos ha]) (Ev.bind (rchk b) ?_)
          by_cases hb : checkP b = 0
          · refine Ev.congr (fun k => by rw [if_pos hb]) (Ev.bind (rchk c) ?_)
            by_cases hc : checkP c = 0
            · rw [show (checkP c != 0) = false by rw [hc]; rfl]; exact jf ha hb hc
            · rw [show (checkP c != 0) = true by simpa using hc]; exact jt
          · exact Ev.congr (fun k => by rw [if_neg hb]) jt
        · exact Ev.congr (fun k => by rw [if_neg ha]) jt
end Go.Proofs.Ytnckglnnojcdmaa.P
