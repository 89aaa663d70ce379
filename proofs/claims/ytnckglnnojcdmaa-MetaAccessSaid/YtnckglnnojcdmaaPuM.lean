/- Counts and sorts of entries, and the merged list. -/
import Derived.Test.YtnckglnnojcdmaaPuG
set_option linter.unusedVariables false
set_option linter.unusedSimpArgs false
namespace Go.Proofs.Ytnckglnnojcdmaa.P
open Go.RowKit Go.Proofs.YtnckglnnojcdmaaW.PrintWords Go.Proofs.YtnckglnnojcdmaaW.PrintLast

def notIn (b : List S42) (x : S42) : Bool := !(b.any fun y => y.f0.toList == x.f0.toList)
theorem notIn_iff {b : List S42} {x : S42} : notIn b x = true ↔ ¬ In x.f0 b := by
  unfold notIn In
  rw [Bool.not_eq_true', Bool.eq_false_iff, ne_eq, List.any_eq_true]
  constructor
  · intro h ⟨y, hy, e⟩; exact h ⟨y, hy, beqL_iff.2 e⟩
  · intro h ⟨y, hy, e⟩; exact h ⟨y, hy, beqL_iff.1 e⟩
def Dif (l : List S42) : Prop := l.Pairwise fun x y => ¬ x.f0 = y.f0
theorem dif_perm {l m : List S42} (h : Dif l) (p : l.Perm m) : Dif m := List.Pairwise.perm h p (fun h e => h e.symm)
/-! ### the count of keys -/
theorem cnt_asc : ∀ (l seen : List S42), Asc l → cntL seen l = (l.filter (notIn seen)).length
  | [], _, _ => rfl
  | x :: l, seen, h => by
    have e : (l.filter (notIn (x :: seen))) = l.filter (notIn seen) := by
      refine List.filter_congr fun z hz => ?_
      unfold notIn
      rw [List.any_cons, show (x.f0.toList == z.f0.toList) = false from by
        rw [Bool.eq_false_iff]; intro e; have := asc_head h z hz; rw [beqL_iff.1 e] at this; exact lessS_irrefl _ this, Bool.false_or]
    simp only [cntL]
    rw [cnt_asc l (x :: seen) (asc_tail h), e, List.filter_cons]
    by_cases hx : (seen.any fun y => y.f0.toList == x.f0.toList) = true
    · rw [if_pos hx, if_neg (by unfold notIn; rw [hx]; simp)]; omega
    · rw [if_neg hx, if_pos (by unfold notIn; rw [Bool.eq_false_iff.2 hx]; simp)]; simp; omega
theorem cnt_append : ∀ (a b seen : List S42), cntL seen (a ++ b) = cntL seen a + cntL (a.reverse ++ seen) b
  | [], b, seen => by simp [cntL]
  | x :: a, b, seen => by
    simp only [List.cons_append, cntL]
    rw [cnt_append a b (x :: seen)]
    simp; omega
theorem filter_split (f : S42 → Bool) : ∀ (l : List S42), l.length = (l.filter f).length + (l.filter fun x => !f x).length
  | [] => rfl
  | x :: l => by
    have := filter_split f l
    cases hf : f x <;> simp [hf] <;> omega
theorem keys_same {a b : List S42} (ha : Asc a) (hb : Asc b) : (a.filter fun x => !notIn b x).length = (b.filter fun x => !notIn a x).length := by
  have key : ∀ {a b : List S42}, Asc a → Asc b → ((a.filter fun x => !notIn b x).map (·.f0)).Pairwise (fun x y => lessS x y = true) := fun ha _ => by
    rw [List.pairwise_map]
    exact List.Pairwise.sublist List.filter_sublist ha
  have mem : ∀ {a b : List S42} (s : ByteArray), s ∈ ((a.filter fun x => !notIn b x).map (·.f0)) ↔ In s a ∧ In s b := fun {a b} s => by
    rw [List.mem_map]
    constructor
    · rintro ⟨x, hx, rfl⟩
      rw [List.mem_filter] at hx
      refine ⟨⟨x, hx.1, rfl⟩, ?_⟩
      have h2 := hx.2
      by_cases h : In x.f0 b
      · exact h
      · rw [notIn_iff.2 h] at h2; cases h2
    · rintro ⟨⟨x, hx, rfl⟩, h⟩
      refine ⟨x, List.mem_filter.2 ⟨hx, ?_⟩, rfl⟩
      cases hn : notIn b x
      · rfl
      · exact absurd h (notIn_iff.1 hn)
  have e := ext_asc (fun _ _ h => lessS_asymm h) _ _ (key ha hb) (key hb ha) (fun s => by rw [mem, mem]; exact And.comm)
  have := congrArg List.length e
  simpa using this
theorem cnt_eq {a b : List S42} (ha : Asc a) (hb : Asc b) : cntL [] (a ++ b) = (b ++ a.filter (notIn b)).length := by
  rw [cnt_append, cnt_asc a [] ha, cnt_asc b _ hb, List.append_nil, List.length_append]
  have e1 : a.filter (notIn []) = a := List.filter_eq_self.2 fun x _ => rfl
  have e2 : b.filter (notIn a.reverse) = b.filter (notIn a) := List.filter_congr fun x _ => by unfold notIn; rw [List.any_reverse]
  rw [e1, e2]
  have h1 := filter_split (notIn b) a
  have h2 := filter_split (notIn a) b
  have h3 := keys_same ha hb
  omega
theorem asc_dif {l : List S42} (h : Asc l) : Dif l := List.Pairwise.imp (fun h e => by rw [e] at h; exact lessS_irrefl _ h) h
theorem out_dif {a b : List S42} (ha : Asc a) (hb : Asc b) : Dif (b ++ a.filter (notIn b)) := by
  unfold Dif
  rw [List.pairwise_append]
  refine ⟨asc_dif hb, List.Pairwise.sublist List.filter_sublist (asc_dif ha), fun x hx y hy e => ?_⟩
  exact (notIn_iff.1 (List.mem_filter.1 hy).2) ⟨x, hx, e⟩
theorem out_merge {a b m : List S42} (ha : Asc a) (hb : Asc b) (hm : Asc m) (hp : m.Perm (b ++ a.filter (notIn b))) : m = mergeA a b := by
  refine asc_ext hm (mergeA_asc ha hb) fun x => ?_
  rw [hp.mem_iff, mergeA_mem ha hb, List.mem_append, List.mem_filter, notIn_iff]
/-! ### a plain sort -/
def insA (x : S42) : List S42 → List S42
  | [] => [x]
  | y :: l => if lessS y.f0 x.f0 = true then y :: insA x l else x :: y :: l
theorem insA_perm (x : S42) : ∀ l, (insA x l).Perm (x :: l)
  | [] => List.Perm.refl _
  | y :: l => by
    simp only [insA]
    split
    · exact ((insA_perm x l).cons y).trans (List.Perm.swap x y l)
    · exact List.Perm.refl _
theorem insA_asc (x : S42) : ∀ l, Asc l → (∀ y ∈ l, ¬ y.f0 = x.f0) → Asc (insA x l)
  | [], _, _ => by simp [insA, Asc]
  | y :: l, h, hd => by
    simp only [insA]
    by_cases hl : lessS y.f0 x.f0 = true
    · rw [if_pos hl]
      refine List.pairwise_cons.2 ⟨fun z hz => ?_, insA_asc x l (asc_tail h) fun z hz => hd z (List.mem_cons_of_mem _ hz)⟩
      rcases List.mem_cons.1 ((insA_perm x l).mem_iff.1 hz) with rfl | hz
      · exact hl
      · exact asc_head h z hz
    · rw [if_neg hl]
      have hxy : lessS x.f0 y.f0 = true := by
        by_cases h2 : lessS x.f0 y.f0 = true
        · exact h2
        · exact absurd (lessS_tri hl h2) (hd y List.mem_cons_self)
      refine List.pairwise_cons.2 ⟨fun z hz => ?_, h⟩
      rcases List.mem_cons.1 hz with rfl | hz
      · exact hxy
      · exact lessS_trans hxy (asc_head h z hz)
theorem sorted_of : ∀ l : List S42, Dif l → ∃ m, Asc m ∧ m.Perm l
  | [], _ => ⟨[], by simp [Asc], List.Perm.refl _⟩
  | x :: l, h => by
    obtain ⟨h1, h2⟩ := List.pairwise_cons.1 h
    obtain ⟨m, m1, m2⟩ := sorted_of l h2
    exact ⟨insA x m, insA_asc x m m1 fun y hy e => h1 y (m2.mem_iff.1 hy) e.symm, (insA_perm x m).trans (m2.cons x)⟩
end Go.Proofs.Ytnckglnnojcdmaa.P
