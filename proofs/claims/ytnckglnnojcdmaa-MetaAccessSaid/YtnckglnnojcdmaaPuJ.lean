/- Set and Delete, of the program and of the reference; the law MetaEdits. -/
import Derived.Test.YtnckglnnojcdmaaPuI
import Derived.Test.YtnckglnnojcdmaaPuS
import Derived.Test.YtnckglnnojcdmaaPx13
set_option linter.unusedVariables false
set_option linter.unusedSimpArgs false
namespace Go.Proofs.Ytnckglnnojcdmaa.P
open Go.RowKit Go.Proofs.YtnckglnnojcdmaaW.PrintWords Go.Proofs.YtnckglnnojcdmaaW.PrintLast

theorem getL_miss {key : ByteArray} : ∀ {l : List S42}, ¬ In key l → getL key l = (emptyS, false)
  | [], _ => rfl
  | x :: l, h => by
    simp only [getL]
    rw [if_neg (fun e => h ⟨x, List.mem_cons_self, toL_inj e⟩)]
    exact getL_miss fun ⟨y, hy, e⟩ => h ⟨y, List.mem_cons_of_mem _ hy, e⟩
theorem getL_mem : ∀ {l : List S42} {x : S42}, Asc l → x ∈ l → getL x.f0 l = (x.f1, true)
  | y :: l, x, h, hx => by
    simp only [getL]
    rcases List.mem_cons.1 hx with rfl | hx1
    · rw [if_pos rfl]
    · rw [if_neg (fun e => by have := asc_head h x hx1; rw [toL_inj e] at this; exact lessS_irrefl _ this)]
      exact getL_mem (asc_tail h) hx1
theorem getL_in {key : ByteArray} {l : List S42} (h : Asc l) (hi : In key l) : (getL key l).2 = true := by
  obtain ⟨y, hy, rfl⟩ := hi
  rw [getL_mem h hy]
/-- A list without the entry of a key. -/
def dl (key : ByteArray) (l : List S42) : List S42 := l.filter fun z => !decide (z.f0 = key)
theorem dl_mem {key : ByteArray} {l : List S42} {z : S42} : z ∈ dl key l ↔ z ∈ l ∧ ¬ z.f0 = key := by
  unfold dl; rw [List.mem_filter]; simp
theorem dl_asc {key : ByteArray} {l : List S42} (h : Asc l) : Asc (dl key l) := List.Pairwise.sublist List.filter_sublist h
theorem dl_len (key : ByteArray) (l : List S42) : (dl key l).length ≤ l.length := List.length_filter_le _ _
def rs (key v : ByteArray) : Bool → List S42 → List S42
  | put, [] => if put = true then [] else [⟨key, v⟩]
  | put, x :: l => if (!put && !lessS x.f0 key) = true then ⟨key, v⟩ :: ((if x.f0.toList = key.toList then [] else [x]) ++ rs key v true l) else (if x.f0.toList = key.toList then [] else [x]) ++ rs key v put l
theorem rs_true (key v : ByteArray) : ∀ l : List S42, rs key v true l = dl key l
  | [] => rfl
  | x :: l => by
    simp only [rs]
    rw [if_neg (by simp), rs_true key v l]
    unfold dl
    rw [List.filter_cons]
    by_cases h : x.f0 = key
    · rw [if_pos (by rw [h]), if_neg (by simp [h])]; rfl
    · rw [if_neg (fun e => h (toL_inj e)), if_pos (by simp [h])]; rfl
theorem rs_facts (key v : ByteArray) : ∀ l : List S42, Asc l → Asc (rs key v false l) ∧ ∀ z, z ∈ rs key v false l ↔ z = ⟨key, v⟩ ∨ (z ∈ l ∧ ¬ z.f0 = key)
  | [], _ => ⟨by simp [rs, Asc], fun z => by simp [rs]⟩
  | x :: l, h => by
    obtain ⟨i1, i2⟩ := rs_facts key v l (asc_tail h)
    by_cases hl : lessS x.f0 key = true
    · have hne : ¬ x.f0 = key := fun e => by rw [e] at hl; exact lessS_irrefl _ hl
      have e : rs key v false (x :: l) = x :: rs key v false l := by
        simp only [rs]
        rw [if_neg (by rw [hl]; simp), if_neg (fun e => hne (toL_inj e))]
        rfl
      rw [e]
      refine ⟨List.pairwise_cons.2 ⟨fun z hz => ?_, i1⟩, fun z => ?_⟩
      · rcases (i2 z).1 hz with rfl | hz
        · exact hl
        · exact asc_head h z hz.1
      · rw [List.mem_cons, i2 z, List.mem_cons]
        constructor
        · rintro (rfl | h1 | h1)
          · exact Or.inr ⟨Or.inl rfl, hne⟩
          · exact Or.inl h1
          · exact Or.inr ⟨Or.inr h1.1, h1.2⟩
        · rintro (h1 | ⟨rfl | h1, h2⟩)
          · exact Or.inr (Or.inl h1)
          · exact Or.inl rfl
          · exact Or.inr (Or.inr ⟨h1, h2⟩)
    · have e : rs key v false (x :: l) = ⟨key, v⟩ :: dl key (x :: l) := by
        rw [← rs_true key v (x :: l)]
        have e1 : (!false && !lessS x.f0 key) = true := by rw [Bool.eq_false_iff.2 hl]; rfl
        have e2 : ¬ (!true && !lessS x.f0 key) = true := by simp
        simp only [rs]
        rw [if_pos e1, if_neg e2]
      rw [e]
      refine ⟨List.pairwise_cons.2 ⟨fun z hz => ?_, dl_asc h⟩, fun z => ?_⟩
      · have hz' := dl_mem.1 hz
        have hx : x.f0 = key ∨ lessS key x.f0 = true := by
          by_cases h2 : lessS key x.f0 = true
          · exact Or.inr h2
          · exact Or.inl (lessS_tri hl h2)
        rcases List.mem_cons.1 hz'.1 with e | h3
        · rw [e] at hz' ⊢
          exact hx.resolve_left hz'.2
        · have h4 := asc_head h z h3
          rcases hx with e | h5
          · rw [e] at h4; exact h4
          · exact lessS_trans h5 h4
      · rw [List.mem_cons, dl_mem]
theorem in_one {key : ByteArray} {x : S42} : In key [x] ↔ x.f0 = key := by
  unfold In; simp
theorem rs_merge {key v : ByteArray} {l : List S42} (h : Asc l) : rs key v false l = mergeA l [⟨key, v⟩] := by
  obtain ⟨i1, i2⟩ := rs_facts key v l h
  have h1 : Asc [⟨key, v⟩] := by simp [Asc]
  refine asc_ext i1 (mergeA_asc h h1) fun z => ?_
  rw [i2, mergeA_mem h h1, List.mem_singleton, in_one]
  constructor
  · rintro (h | ⟨h, h2⟩)
    · exact Or.inl h
    · exact Or.inr ⟨h, fun e => h2 e.symm⟩
  · rintro (h | ⟨h, h2⟩)
    · exact Or.inl h
    · exact Or.inr ⟨h, fun e => h2 e.symm⟩
theorem merge_one_len {key v : ByteArray} {l : List S42} (h : Asc l) (hl : l.length ≤ 64) : (mergeA l [⟨key, v⟩]).length = l.length + (if notIn l ⟨key, v⟩ = true then 1 else 0) := by
  have h1 : Asc [(⟨key, v⟩ : S42)] := by simp [Asc]
  rw [← merge_len h h1 hl (by simp), cnt_append, cnt_asc l [] h, cnt_asc _ _ h1, List.append_nil]
  have e1 : l.filter (notIn []) = l := List.filter_eq_self.2 fun x _ => rfl
  have e2 : [(⟨key, v⟩ : S42)].filter (notIn l.reverse) = [(⟨key, v⟩ : S42)].filter (notIn l) := List.filter_congr fun x _ => by unfold notIn; rw [List.any_reverse]
  rw [e1, e2]
  cases hn : notIn l ⟨key, v⟩ <;> simp [hn]
/-! ### Set -/
def setP (l : List S42) (key v : ByteArray) : List S42 × Int :=
  if checkP l = 0 then if (keyOk key && valueOk v) = true then if (notIn l ⟨key, v⟩ = true ∧ l.length = 64) then ([], 5) else (mergeA l [⟨key, v⟩], 0) else ([], 22) else ([], checkP l)
theorem one_check {key v : ByteArray} (h : (keyOk key && valueOk v) = true) : checkP [⟨key, v⟩] = 0 :=
  (checkP_iff _).2 ⟨by simp, fun x hx => by rw [List.mem_singleton.1 hx]; exact h, by simp [Asc]⟩
theorem set_small {l : List S42} {key v : ByteArray} (h : Asc l) (hl : l.length ≤ 64) (hc : ¬ (notIn l ⟨key, v⟩ = true ∧ l.length = 64)) : ¬ 64 < (mergeA l [⟨key, v⟩]).length := by
  rw [merge_one_len h hl]
  split
  · rename_i hn
    have : ¬ l.length = 64 := fun e => hc ⟨hn, e⟩
    omega
  · omega
theorem setP_len (l : List S42) (key v : ByteArray) : (setP l key v).1.length ≤ 64 := by
  unfold setP
  by_cases hc : checkP l = 0
  · obtain ⟨ll, vl, Al⟩ := (checkP_iff l).1 hc
    rw [if_pos hc]
    split
    · split
      · simp
      · rename_i h; have := set_small Al ll h; simp only; omega
    · simp
  · rw [if_neg hc]; simp
theorem notIn_key {l : List S42} {key v : ByteArray} : notIn l ⟨key, v⟩ = true ↔ ¬ In key l := notIn_iff
theorem mset_ev (l : List S42) (key v : ByteArray) : Ev (fun k => meta_Set.f k l key v) (setP l key v) := by
  refine Ev.congr (fun k => by simp only [meta_Set.f]; rfl) (Ev.bind (chk l) ?_)
  unfold setP
  by_cases hc : checkP l = 0
  · obtain ⟨ll, vl, Al⟩ := (checkP_iff l).1 hc
    rw [if_pos hc]
    have jt : Ev (fun k => meta_Set.j0 k l key v true) ([], 22) := Ev.step (fun k => by simp only [meta_Set.j0]; rw [if_pos trivial]) (Ev.now _)
    refine Ev.congr (fun k => by rw [if_pos hc, show meta_validKey.f key = some (keyOk key) from rfl, Option.bind_some]) ?_
    cases hk : keyOk key with
    | false => exact Ev.congr (fun k => by rw [if_neg (by simp)]) jt
    | true =>
      refine Ev.congr (fun k => by rw [if_pos rfl, show meta_validValue.f v = some (valueOk v) from rfl, Option.bind_some]) ?_
      cases hv : valueOk v with
      | false => exact jt
      | true =>
        have h1 := one_check (key := key) (v := v) (by rw [hk, hv]; rfl)
        rw [if_pos (by rfl)]
        refine Ev.step (fun k => by simp only [meta_Set.j0]; rw [if_neg (by simp)]) (Ev.bind (get_ev key l (by omega)) ?_)
        by_cases hi : In key l
        · have hn : ¬ (notIn l ⟨key, v⟩ = true ∧ l.length = 64) := fun h => notIn_key.1 h.1 hi
          rw [if_neg hn]
          exact Ev.congr (fun k => by rw [if_pos (getL_in Al hi), show meta_Merge.f l [⟨key, v⟩] = some (mergeP l [⟨key, v⟩]) from rfl, Option.bind_some, mergeP_ok hc h1, if_neg (set_small Al ll hn)]) (Ev.now _)
        · rw [getL_miss hi]
          have hff : ¬ ((emptyS, false) : ByteArray × Bool).2 = true := by simp
          by_cases h64 : l.length = 64
          · have hy : notIn l ⟨key, v⟩ = true ∧ l.length = 64 := ⟨notIn_key.2 hi, h64⟩
            have h64' : (l.length : Int) = 64 := by omega
            rw [if_pos hy]
            exact Ev.congr (fun k => by rw [if_neg hff, if_pos h64']) (Ev.now _)
          · have h64' : ¬ (l.length : Int) = 64 := by omega
            have hn : ¬ (notIn l ⟨key, v⟩ = true ∧ l.length = 64) := fun h => h64 h.2
            rw [if_neg hn]
            exact Ev.congr (fun k => by rw [if_neg hff, if_neg h64', show meta_Merge.f l [⟨key, v⟩] = some (mergeP l [⟨key, v⟩]) from rfl, Option.bind_some, mergeP_ok hc h1, if_neg (set_small Al ll hn)]) (Ev.now _)
  · rw [if_neg hc]
    exact Ev.congr (fun k => by rw [if_neg hc]) (Ev.now _)
theorem rset_loop (key v : ByteArray) (l : List S42) (hl : l.length ≤ 64) : ∀ (d i : Nat) (put : Bool) (o : List S42), i + d = l.length → o.length ≤ 2 * i → Ev (fun k => waveletref47_Set.l0 k key v o put l (l.length : Int) (i : Int)) (o ++ rs key v put (l.drop i), 0)
  | 0, i, put, o, hi, ho => by
    rw [List.drop_of_length_le (by omega)]
    cases put with
    | true => exact Ev.step (fun k => by simp only [waveletref47_Set.l0]; rw [if_neg (by omega), if_pos trivial]; simp [rs]) (Ev.now _)
    | false => exact Ev.step (fun k => by simp only [waveletref47_Set.l0]; rw [if_neg (by omega), if_neg (by simp), if_pos (by omega)]; rfl) (Ev.now _)
  | d + 1, i, put, o, hi, ho => by
    have hlt : i < l.length := by omega
    rw [List.drop_eq_getElem_cons hlt]
    refine Ev.step (f := fun k => waveletref47_Set.j3 k key v o put l (l.length : Int) (i : Int) (!put && !lessS l[i].f0 key) l[i].f0 l[i].f1) (fun k => by
      simp only [waveletref47_Set.l0]; rw [if_pos (by omega), if_pos (by omega), if_pos (by omega), rd_nat l i hlt]
      cases put with
      | true => rw [if_pos rfl]; rfl
      | false => rw [if_neg (by simp)]; rfl) ?_
    simp only [rs]
    by_cases hp : (!put && !lessS l[i].f0 key) = true
    · rw [if_pos hp, hp]
      by_cases he : l[i].f0.toList = key.toList
      · rw [if_pos he]
        have ih := rset_loop key v l hl d (i + 1) true (o ++ [⟨key, v⟩]) (by omega) (by simp; omega)
        rw [List.append_assoc] at ih
        exact Ev.step (fun k => by simp only [waveletref47_Set.j3]; rw [if_pos trivial, if_pos (by omega), Option.bind_some, if_pos he, wrap_id (by omega) (by omega)]; rfl) ih
      · rw [if_neg he]
        have ih := rset_loop key v l hl d (i + 1) true ((o ++ [⟨key, v⟩]) ++ [l[i]]) (by omega) (by simp; omega)
        rw [show ((o ++ [⟨key, v⟩]) ++ [l[i]]) ++ rs key v true (l.drop (i + 1)) = o ++ (⟨key, v⟩ :: ([l[i]] ++ rs key v true (l.drop (i + 1)))) by simp] at ih
        exact Ev.step (fun k => by simp only [waveletref47_Set.j3]; rw [if_pos trivial, if_pos (by omega), Option.bind_some, if_neg he, if_pos (by simp; omega), wrap_id (by omega) (by omega)]; rfl) ih
    · rw [if_neg hp, Bool.eq_false_iff.2 hp]
      by_cases he : l[i].f0.toList = key.toList
      · rw [if_pos he]
        have ih := rset_loop key v l hl d (i + 1) put o (by omega) (by omega)
        exact Ev.step (fun k => by simp only [waveletref47_Set.j3]; rw [if_neg (by simp), if_pos he, wrap_id (by omega) (by omega)]; rfl) ih
      · rw [if_neg he]
        have ih := rset_loop key v l hl d (i + 1) put (o ++ [l[i]]) (by omega) (by simp; omega)
        rw [List.append_assoc] at ih
        exact Ev.step (fun k => by simp only [waveletref47_Set.j3]; rw [if_neg (by simp), if_neg he, if_pos (by omega), wrap_id (by omega) (by omega)]; rfl) ih
theorem rset_ev (l : List S42) (key v : ByteArray) : Ev (fun k => waveletref47_Set.f k l key v) (setP l key v) := by
  refine Ev.congr (fun k => by simp only [waveletref47_Set.f]; rfl) (Ev.bind (rchk l) ?_)
  unfold setP
  by_cases hc : checkP l = 0
  · obtain ⟨ll, vl, Al⟩ := (checkP_iff l).1 hc
    rw [if_pos hc]
    have jt : Ev (fun k => waveletref47_Set.j0 k l key v true) ([], 22) := Ev.step (fun k => by simp only [waveletref47_Set.j0]; rw [if_pos trivial]) (Ev.now _)
    refine Ev.congr (fun k => by rw [if_pos hc]) (Ev.bind (refKey key) ?_)
    cases hk : keyOk key with
    | false => exact Ev.congr (fun k => by rw [if_neg (by simp)]) jt
    | true =>
      refine Ev.congr (fun k => by rw [if_pos rfl]) (Ev.bind (refValue v) ?_)
      cases hv : valueOk v with
      | false => exact jt
      | true =>
        rw [if_pos (by rfl)]
        have j1f : Ev (fun k => waveletref47_Set.j1 k l key v false) (mergeA l [⟨key, v⟩], 0) := by
          have := rset_loop key v l ll l.length 0 false [] (by omega) (by simp)
          rw [List.drop_zero, List.nil_append, rs_merge Al] at this
          exact Ev.step (fun k => by simp only [waveletref47_Set.j1]; rw [if_neg (by simp)]; rfl) this
        refine Ev.step (fun k => by simp only [waveletref47_Set.j0]; rw [if_neg (by simp)]) (Ev.bind (find_ev key l (by omega)) ?_)
        by_cases hi : In key l
        · rw [if_neg (fun h => notIn_key.1 h.1 hi)]
          exact Ev.congr (fun k => by rw [if_neg (fun h => (find_in key l).1 h hi)]) j1f
        · refine Ev.congr (fun k => by rw [if_pos ((find_in key l).2 hi)]) ?_
          by_cases h64 : l.length = 64
          · have hy : notIn l ⟨key, v⟩ = true ∧ l.length = 64 := ⟨notIn_key.2 hi, h64⟩
            rw [if_pos hy, h64]
            exact Ev.step (fun k => by simp only [waveletref47_Set.j1]; rw [if_pos (by decide)]) (Ev.now _)
          · rw [if_neg (fun h => h64 h.2), show ((l.length : Int) == 64) = false by simp; omega]
            exact j1f
  · rw [if_neg hc]
    exact Ev.congr (fun k => by rw [if_neg hc]) (Ev.now _)
/-! ### Delete -/
def delP (l : List S42) (key : ByteArray) : List S42 × Int :=
  if checkP l = 0 then if (l.any fun y => y.f0.toList == key.toList) = true then (dl key l, 0) else ([], 18) else ([], checkP l)
theorem any_in {l : List S42} {key : ByteArray} : (l.any fun y => y.f0.toList == key.toList) = true ↔ In key l := by
  rw [List.any_eq_true]
  exact ⟨fun ⟨y, hy, e⟩ => ⟨y, hy, beqL_iff.1 e⟩, fun ⟨y, hy, e⟩ => ⟨y, hy, beqL_iff.2 e⟩⟩
theorem delP_len (l : List S42) (key : ByteArray) : (delP l key).1.length ≤ 64 := by
  unfold delP
  by_cases hc : checkP l = 0
  · obtain ⟨ll, vl, Al⟩ := (checkP_iff l).1 hc
    rw [if_pos hc]
    have := dl_len key l
    split
    · simp only; omega
    · simp
  · rw [if_neg hc]; simp
theorem mdel_loop (key : ByteArray) (l : List S42) (hl : l.length ≤ 64) : ∀ (d i : Nat) (o : List S42), i + d = l.length → o.length ≤ i → Ev (fun k => meta_Delete.l0 k key o l (l.length : Int) (i : Int)) (o ++ dl key (l.drop i), 0)
  | 0, i, o, hi, ho => by
    rw [List.drop_of_length_le (by omega)]
    exact Ev.step (fun k => by simp only [meta_Delete.l0]; rw [if_neg (by omega)]; simp [dl]) (Ev.now _)
  | d + 1, i, o, hi, ho => by
    have hlt : i < l.length := by omega
    rw [List.drop_eq_getElem_cons hlt]
    by_cases he : l[i].f0.toList = key.toList
    · have ih := mdel_loop key l hl d (i + 1) o (by omega) (by omega)
      have e : dl key (l[i] :: l.drop (i + 1)) = dl key (l.drop (i + 1)) := by unfold dl; rw [List.filter_cons, if_neg (by simp [toL_inj he])]
      rw [e]
      exact Ev.step (fun k => by simp only [meta_Delete.l0]; rw [if_pos (by omega), if_pos (by omega), if_pos (by omega), rd_nat l i hlt, if_pos he, wrap_id (by omega) (by omega)]; rfl) ih
    · have ih := mdel_loop key l hl d (i + 1) (o ++ [l[i]]) (by omega) (by simp; omega)
      have e : dl key (l[i] :: l.drop (i + 1)) = [l[i]] ++ dl key (l.drop (i + 1)) := by
        unfold dl; rw [List.filter_cons, if_pos (by simp only [Bool.not_eq_true', decide_eq_false_iff_not]; intro e; exact he (by rw [e]))]; rfl
      rw [e, ← List.append_assoc]
      exact Ev.step (fun k => by simp only [meta_Delete.l0]; rw [if_pos (by omega), if_pos (by omega), if_pos (by omega), rd_nat l i hlt, if_neg he, if_pos (by omega), wrap_id (by omega) (by omega)]; rfl) ih
theorem mdel_ev (l : List S42) (key : ByteArray) : Ev (fun k => meta_Delete.f k l key) (delP l key) := by
  refine Ev.congr (fun k => by simp only [meta_Delete.f]; rfl) (Ev.bind (chk l) ?_)
  unfold delP
  by_cases hc : checkP l = 0
  · obtain ⟨ll, vl, Al⟩ := (checkP_iff l).1 hc
    rw [if_pos hc]
    refine Ev.congr (fun k => by rw [if_pos hc]) (Ev.bind (get_ev key l (by omega)) ?_)
    by_cases hi : In key l
    · rw [if_pos (any_in.2 hi)]
      have := mdel_loop key l ll l.length 0 [] (by omega) (by simp)
      rw [List.drop_zero, List.nil_append] at this
      exact Ev.congr (fun k => by rw [if_pos (getL_in Al hi)]; rfl) this
    · rw [if_neg (fun h => hi (any_in.1 h)), getL_miss hi]
      exact Ev.congr (fun k => by rw [if_neg (by simp)]) (Ev.now _)
  · rw [if_neg hc]
    exact Ev.congr (fun k => by rw [if_neg hc]) (Ev.now _)
theorem dl_cut {l : List S42} (h : Asc l) (j : Nat) (hj : j < l.length) : dl l[j].f0 l = l.take j ++ l.drop (j + 1) := by
  have e : l = l.take j ++ l[j] :: l.drop (j + 1) := by rw [← List.drop_eq_getElem_cons hj, List.take_append_drop]
  have h' := h
  rw [e] at h'
  unfold Asc at h'
  rw [List.pairwise_append, List.pairwise_cons] at h'
  obtain ⟨h1, ⟨h2, h3⟩, h4⟩ := h'
  refine asc_ext (dl_asc h) ?_ fun z => ?_
  · unfold Asc
    rw [List.pairwise_append]
    exact ⟨h1, h3, fun x hx y hy => h4 x hx y (List.mem_cons_of_mem _ hy)⟩
  · rw [dl_mem, List.mem_append]
    constructor
    · rintro ⟨hz, hne⟩
      rw [e] at hz
      rcases List.mem_append.1 hz with hz | hz
      · exact Or.inl hz
      · rcases List.mem_cons.1 hz with hz | hz
        · exact absurd (by rw [hz]) hne
        · exact Or.inr hz
    · rintro (hz | hz)
      · refine ⟨List.mem_of_mem_take hz, fun e2 => ?_⟩
        have := h4 z hz l[j] List.mem_cons_self
        rw [e2] at this; exact lessS_irrefl _ this
      · refine ⟨List.mem_of_mem_drop hz, fun e2 => ?_⟩
        have := h2 z hz
        rw [e2] at this; exact lessS_irrefl _ this
theorem rdel_ev (l : List S42) (key : ByteArray) : Ev (fun k => waveletref47_Delete.f k l key) (delP l key) := by
  refine Ev.congr (fun k => by simp only [waveletref47_Delete.f]; rfl) (Ev.bind (rchk l) ?_)
  unfold delP
  by_cases hc : checkP l = 0
  · obtain ⟨ll, vl, Al⟩ := (checkP_iff l).1 hc
    rw [if_pos hc]
    refine Ev.congr (fun k => by rw [if_pos hc]) (Ev.bind (find_ev key l (by omega)) ?_)
    by_cases hi : In key l
    · rw [if_pos (any_in.2 hi)]
      have hg := find_get key l 0 (by omega)
      rw [List.drop_zero] at hg
      rcases hg with ⟨h1, _⟩ | ⟨j, hj, h1, _, he, _⟩
      · exact absurd hi ((find_in key l).1 (by omega))
      · have ed : dl key l = l.take j ++ l.drop (j + 1) := by rw [← toL_inj he]; exact dl_cut Al j hj
        rw [h1, ed]
        have hw : wrap64 ((j : Int) + 1) = ((j + 1 : Nat) : Int) := by rw [wrap_id (by omega) (by omega)]; rfl
        have l1 : (l.take j).length = j := by rw [List.length_take]; omega
        have l2 : (l.drop (j + 1)).length = l.length - (j + 1) := List.length_drop
        exact Ev.congr (fun k => by rw [if_neg (by omega), Option.bind_some, if_pos (by omega), if_pos (by omega), Int.toNat_natCast, Option.bind_some, if_pos (by simp; omega), Option.bind_some, hw, if_pos (by omega), if_pos (by omega), Int.toNat_natCast, Option.bind_some, if_pos (by simp; omega)]; rfl) (Ev.now _)
    · rw [if_neg (fun h => hi (any_in.1 h))]
      exact Ev.congr (fun k => by rw [if_pos ((find_in key l).2 hi)]) (Ev.now _)
  · rw [if_neg hc]
    exact Ev.congr (fun k => by rw [if_neg hc]) (Ev.now _)
theorem law_edits (l : List S42) (key v : ByteArray) : Ev (fun k => waveletlaw47_MetaEdits.f k l key v) true := by
  obtain ⟨f, hf, hF⟩ := few_any l
  obtain ⟨g, hg, hG⟩ := few_any [⟨key, v⟩]
  have jt : Ev (fun k => waveletlaw47_MetaEdits.j0 k l key v true) true := Ev.step (fun k => by simp only [waveletlaw47_MetaEdits.j0]; rw [if_pos trivial]) awake_bind
  have jf : Ev (fun k => waveletlaw47_MetaEdits.j0 k l key v false) true := by
    refine Ev.step (fun k => by simp only [waveletlaw47_MetaEdits.j0]; rw [if_neg (by simp)]) ?_
    refine Ev.bind (mset_ev l key v) (Ev.bind (rset_ev l key v) (Ev.bind (mdel_ev l key) (Ev.bind (rdel_ev l key) ?_)))
    refine Ev.congr (fun k => by rw [if_pos rfl]) (Ev.bind (same_ok _ (by have := setP_len l key v; omega)) ?_)
    refine Ev.congr (fun k => by rw [if_pos rfl, if_pos rfl]) (Ev.bind (same_ok _ (by have := delP_len l key; omega)) ?_)
    exact Ev.congr (fun k => by rw [if_pos rfl]) awake_bind
  refine Ev.congr (fun k => by simp only [waveletlaw47_MetaEdits.f]; rfl) (Ev.bind hf ?_)
  cases f with
  | false => exact Ev.congr (fun k => by rw [if_neg (by simp)]) jt
  | true =>
    refine Ev.congr (fun k => by rw [if_pos rfl]) (Ev.bind hg ?_)
    cases g with
    | false => exact jt
    | true => exact jf
end Go.Proofs.Ytnckglnnojcdmaa.P
