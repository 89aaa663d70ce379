/- The order of the keys, ascending lists, and the merged list: plain facts. -/
import Derived.Test.YtnckglnnojcdmaaMrg
import Derived.Sort.Walk0
set_option linter.unusedVariables false
set_option linter.unusedSimpArgs false
namespace Go.Proofs.Ytnckglnnojcdmaa.P

/-! ### the order of the keys -/
theorem toL_inj {a b : ByteArray} (h : a.toList = b.toList) : a = b := by
  rw [ByteArray.toList_eq, ByteArray.toList_eq] at h
  exact ByteArray.ext (Array.toList_inj.1 h)
theorem beqL (a b : ByteArray) : (a.toList == b.toList) = decide (a = b) := by
  by_cases h : a = b
  · subst h; simp
  · have : ¬ a.toList = b.toList := fun e => h (toL_inj e)
    rw [decide_eq_false h]
    simpa using this
theorem beqL_iff {a b : ByteArray} : ((a.toList == b.toList) = true) ↔ a = b := by rw [beqL]; simp
theorem lessS_iff {a b : ByteArray} : lessS a b = true ↔ a.toList < b.toList := by
  unfold lessS
  rw [bytesLess_eq]
  simp
theorem lessS_irrefl (a : ByteArray) : ¬ lessS a a = true := fun h => List.lt_irrefl _ (lessS_iff.1 h)
theorem lessS_trans {a b c : ByteArray} (h : lessS a b = true) (h2 : lessS b c = true) : lessS a c = true := lessS_iff.2 (List.lt_trans (lessS_iff.1 h) (lessS_iff.1 h2))
theorem lessS_asymm {a b : ByteArray} (h : lessS a b = true) : ¬ lessS b a = true := fun h2 => lessS_irrefl _ (lessS_trans h h2)
theorem lessS_tri {a b : ByteArray} (h : ¬ lessS a b = true) (h2 : ¬ lessS b a = true) : a = b :=
  toL_inj (List.le_antisymm (List.not_lt.1 fun e => h2 (lessS_iff.2 e)) (List.not_lt.1 fun e => h (lessS_iff.2 e)))

/-! ### ascending lists -/
def Asc (l : List S42) : Prop := l.Pairwise fun x y => lessS x.f0 y.f0 = true
theorem ext_asc {α : Type} {R : α → α → Prop} (ams : ∀ x y, R x y → ¬ R y x) : ∀ (r s : List α), r.Pairwise R → s.Pairwise R → (∀ x, x ∈ r ↔ x ∈ s) → r = s
  | [], [], _, _, _ => rfl
  | [], y :: s, _, _, h => by have := (h y).2 (List.mem_cons_self); cases this
  | x :: r, [], _, _, h => by have := (h x).1 (List.mem_cons_self); cases this
  | x :: r, y :: s, hr, hs, h => by
    rw [List.pairwise_cons] at hr hs
    have e : x = y := by
      rcases List.mem_cons.1 ((h x).1 List.mem_cons_self) with e | h1
      · exact e
      · rcases List.mem_cons.1 ((h y).2 List.mem_cons_self) with e | h2
        · exact e.symm
        · exact absurd (hs.1 x h1) (ams _ _ (hr.1 y h2))
    subst e
    rw [ext_asc ams r s hr.2 hs.2 fun z => ?_]
    constructor
    · intro hz
      rcases List.mem_cons.1 ((h z).1 (List.mem_cons_of_mem _ hz)) with e | h1
      · subst e; exact absurd (hr.1 z hz) (ams _ _ (hr.1 z hz))
      · exact h1
    · intro hz
      rcases List.mem_cons.1 ((h z).2 (List.mem_cons_of_mem _ hz)) with e | h1
      · subst e; exact absurd (hs.1 z hz) (ams _ _ (hs.1 z hz))
      · exact h1
theorem asc_ext {r s : List S42} (hr : Asc r) (hs : Asc s) (h : ∀ x, x ∈ r ↔ x ∈ s) : r = s :=
  ext_asc (fun _ _ h => lessS_asymm h) r s hr hs h
theorem asc_key {l : List S42} (h : Asc l) {x y : S42} (hx : x ∈ l) (hy : y ∈ l) (e : x.f0 = y.f0) : x = y := by
  induction l with
  | nil => cases hx
  | cons z l ih =>
    unfold Asc at h
    rw [List.pairwise_cons] at h
    rcases List.mem_cons.1 hx with ex | hx1
    · rcases List.mem_cons.1 hy with ey | hy1
      · rw [ex, ey]
      · have := h.1 y hy1; rw [← ex, e] at this; exact absurd this (lessS_irrefl _)
    · rcases List.mem_cons.1 hy with ey | hy1
      · have := h.1 x hx1; rw [← ey, e] at this; exact absurd this (lessS_irrefl _)
      · exact ih h.2 hx1 hy1
theorem asc_tail {x : S42} {l : List S42} (h : Asc (x :: l)) : Asc l := (List.pairwise_cons.1 h).2
theorem asc_head {x : S42} {l : List S42} (h : Asc (x :: l)) : ∀ y ∈ l, lessS x.f0 y.f0 = true := (List.pairwise_cons.1 h).1

/-! ### checked lists ascend, and what checks -/
def Val (x : S42) : Prop := (keyOk x.f0 && valueOk x.f1) = true
theorem checkL_some : ∀ (l : List S42) (q : ByteArray), checkL (some q) l = 0 ↔ (∀ x ∈ l, Val x) ∧ (∀ x ∈ l, lessS q x.f0 = true) ∧ Asc l
  | [], q => by simp [checkL, Asc]
  | x :: l, q => by
    unfold checkL
    by_cases hk : (keyOk x.f0 && valueOk x.f1) = true
    · rw [if_pos hk]
      simp only
      by_cases he : (x.f0.toList == q.toList) = true
      · rw [if_pos he]
        constructor
        · intro h; cases h
        · intro h
          have := h.2.1 x List.mem_cons_self
          rw [beqL_iff.1 he] at this
          exact absurd this (lessS_irrefl _)
      · rw [if_neg he]
        by_cases hl : lessS x.f0 q = true
        · rw [if_pos hl]
          constructor
          · intro h; cases h
          · intro h
            exact absurd hl (lessS_asymm (h.2.1 x List.mem_cons_self))
        · rw [if_neg hl, checkL_some l x.f0]
          have hq : lessS q x.f0 = true := by
            by_cases h : lessS q x.f0 = true
            · exact h
            · exact absurd (beqL_iff.2 (lessS_tri hl h)) he
          constructor
          · intro ⟨h1, h2, h3⟩
            refine ⟨fun z hz => ?_, fun z hz => ?_, List.pairwise_cons.2 ⟨h2, h3⟩⟩
            · rcases List.mem_cons.1 hz with rfl | hz
              · exact hk
              · exact h1 z hz
            · rcases List.mem_cons.1 hz with rfl | hz
              · exact hq
              · exact lessS_trans hq (h2 z hz)
          · intro ⟨h1, h2, h3⟩
            exact ⟨fun z hz => h1 z (List.mem_cons_of_mem _ hz), asc_head h3, asc_tail h3⟩
    · rw [if_neg hk]
      constructor
      · intro h; cases h
      · intro h; exact absurd (h.1 x List.mem_cons_self) hk
theorem checkL_none (l : List S42) : checkL none l = 0 ↔ (∀ x ∈ l, Val x) ∧ Asc l := by
  cases l with
  | nil => simp [checkL, Asc]
  | cons x l =>
    unfold checkL
    by_cases hk : (keyOk x.f0 && valueOk x.f1) = true
    · rw [if_pos hk]
      simp only
      rw [checkL_some l x.f0]
      constructor
      · intro ⟨h1, h2, h3⟩
        refine ⟨fun z hz => ?_, List.pairwise_cons.2 ⟨h2, h3⟩⟩
        rcases List.mem_cons.1 hz with rfl | hz
        · exact hk
        · exact h1 z hz
      · intro ⟨h1, h3⟩
        exact ⟨fun z hz => h1 z (List.mem_cons_of_mem _ hz), asc_head h3, asc_tail h3⟩
    · rw [if_neg hk]
      constructor
      · intro h; cases h
      · intro h; exact absurd (h.1 x List.mem_cons_self) hk
theorem checkP_iff (l : List S42) : checkP l = 0 ↔ l.length ≤ 64 ∧ (∀ x ∈ l, Val x) ∧ Asc l := by
  unfold checkP
  by_cases h : l.length > 64
  · rw [if_pos h]
    constructor
    · intro h; cases h
    · intro h2; omega
  · rw [if_neg h, checkL_none]
    constructor
    · intro h2; exact ⟨by omega, h2⟩
    · intro h2; exact h2.2

/-! ### the merged list -/
theorem dropK_facts {key : ByteArray} {a : List S42} (ha : Asc a) (hm : ∀ y ∈ a, y.f0 = key ∨ lessS key y.f0 = true) :
    Asc (dropK key a) ∧ (∀ y ∈ dropK key a, lessS key y.f0 = true ∧ y ∈ a) ∧ (∀ y ∈ a, y.f0 = key ∨ y ∈ dropK key a) ∧ (dropK key a).length ≤ a.length := by
  cases a with
  | nil => simp [dropK, Asc]
  | cons x l =>
    simp only [dropK]
    by_cases h : (x.f0.toList == key.toList) = true
    · rw [if_pos h]
      have e := beqL_iff.1 h
      refine ⟨asc_tail ha, fun y hy => ⟨?_, List.mem_cons_of_mem _ hy⟩, fun y hy => ?_, by simp⟩
      · rw [← e]; exact asc_head ha y hy
      · rcases List.mem_cons.1 hy with rfl | hy
        · exact Or.inl e
        · exact Or.inr hy
    · rw [if_neg h]
      have hx : lessS key x.f0 = true := (hm x List.mem_cons_self).resolve_left fun e => h (beqL_iff.2 e)
      refine ⟨ha, fun y hy => ⟨?_, hy⟩, fun y hy => Or.inr hy, Nat.le_refl _⟩
      rcases List.mem_cons.1 hy with rfl | hy
      · exact hx
      · exact lessS_trans hx (asc_head ha y hy)
theorem pick_facts {a b : List S42} (ha : Asc a) (hb : Asc b) (hne : ¬ (a.isEmpty && b.isEmpty) = true) :
    (∀ y ∈ a, y.f0 = pickK a b ∨ lessS (pickK a b) y.f0 = true) ∧ (∀ y ∈ b, y.f0 = pickK a b ∨ lessS (pickK a b) y.f0 = true) ∧ ((∃ y ∈ a, y.f0 = pickK a b) ∨ ∃ y ∈ b, y.f0 = pickK a b) ∧ (dropK (pickK a b) a).length + (dropK (pickK a b) b).length < a.length + b.length := by
  have min : ∀ {x : S42} {l : List S42}, Asc (x :: l) → ∀ y ∈ x :: l, y.f0 = x.f0 ∨ lessS x.f0 y.f0 = true := fun h y hy => by
    rcases List.mem_cons.1 hy with rfl | hy
    · exact Or.inl rfl
    · exact Or.inr (asc_head h y hy)
  have le : ∀ (key : ByteArray) (l : List S42), (dropK key l).length ≤ l.length := fun key l => by
    cases l with
    | nil => simp [dropK]
    | cons x l => simp only [dropK]; split <;> simp
  have lt : ∀ (x : S42) (l : List S42), (dropK x.f0 (x :: l)).length < (x :: l).length := fun x l => by
    simp only [dropK]; rw [if_pos (beqL_iff.2 rfl)]; simp
  match a, b, ha, hb, hne with
  | [], [], _, _, h => exact absurd rfl h
  | x :: a, [], ha, _, _ =>
    refine ⟨min ha, by simp, Or.inl ⟨x, List.mem_cons_self, rfl⟩, ?_⟩
    have := lt x a
    simp only [pickK, dropK] at this ⊢
    simp
  | [], y :: b, _, hb, _ =>
    refine ⟨by simp, min hb, Or.inr ⟨y, List.mem_cons_self, rfl⟩, ?_⟩
    have := lt y b
    simp only [pickK, dropK] at this ⊢
    simp
  | x :: a, y :: b, ha, hb, _ =>
    simp only [pickK]
    by_cases hl : lessS y.f0 x.f0 = true
    · rw [if_pos hl]
      refine ⟨fun z hz => Or.inr ?_, min hb, Or.inr ⟨y, List.mem_cons_self, rfl⟩, ?_⟩
      · rcases min ha z hz with e | h
        · rw [e]; exact hl
        · exact lessS_trans hl h
      · have h1 := lt y b
        have h2 := le y.f0 (x :: a)
        omega
    · rw [if_neg hl]
      refine ⟨min ha, fun z hz => ?_, Or.inl ⟨x, List.mem_cons_self, rfl⟩, ?_⟩
      · by_cases h1 : lessS x.f0 y.f0 = true
        · right
          rcases min hb z hz with e | h
          · rw [e]; exact h1
          · exact lessS_trans h1 h
        · have e : x.f0 = y.f0 := lessS_tri h1 hl
          rw [e]; exact min hb z hz
      · have h1 := lt x a
        have h2 := le x.f0 (y :: b)
        omega
theorem mrgL_facts (V : ByteArray → ByteArray) : ∀ (n : Nat) (a b : List S42), Asc a → Asc b → a.length + b.length ≤ n →
    Asc (mrgL V n a b) ∧ (∀ x ∈ mrgL V n a b, x.f1 = V x.f0 ∧ ((∃ y ∈ a, y.f0 = x.f0) ∨ ∃ y ∈ b, y.f0 = x.f0)) ∧ (∀ y, y ∈ a ∨ y ∈ b → ∃ x ∈ mrgL V n a b, x.f0 = y.f0)
  | 0, a, b, _, _, hn => by
    have e1 : a = [] := List.length_eq_zero_iff.1 (by omega)
    have e2 : b = [] := List.length_eq_zero_iff.1 (by omega)
    subst e1; subst e2
    simp [mrgL, Asc]
  | n + 1, a, b, ha, hb, hn => by
    simp only [mrgL]
    by_cases he : (a.isEmpty && b.isEmpty) = true
    · rw [if_pos he]
      simp only [Bool.and_eq_true, List.isEmpty_iff] at he
      obtain ⟨rfl, rfl⟩ := he
      simp [Asc]
    · rw [if_neg he]
      obtain ⟨pa, pb, pe, pl⟩ := pick_facts ha hb he
      obtain ⟨key, hkey⟩ : ∃ key, key = pickK a b := ⟨_, rfl⟩
      rw [← hkey] at pa pb pe pl ⊢
      obtain ⟨a1, a2, a3, a4⟩ := dropK_facts ha pa
      obtain ⟨b1, b2, b3, b4⟩ := dropK_facts hb pb
      obtain ⟨i1, i2, i3⟩ := mrgL_facts V n (dropK key a) (dropK key b) a1 b1 (by omega)
      refine ⟨List.pairwise_cons.2 ⟨fun x hx => ?_, i1⟩, fun x hx => ?_, fun y hy => ?_⟩
      · rcases (i2 x hx).2 with ⟨y, hy, e⟩ | ⟨y, hy, e⟩
        · rw [← e]; exact (a2 y hy).1
        · rw [← e]; exact (b2 y hy).1
      · rcases List.mem_cons.1 hx with rfl | hx
        · exact ⟨rfl, pe⟩
        · refine ⟨(i2 x hx).1, ?_⟩
          rcases (i2 x hx).2 with ⟨y, hy, e⟩ | ⟨y, hy, e⟩
          · exact Or.inl ⟨y, (a2 y hy).2, e⟩
          · exact Or.inr ⟨y, (b2 y hy).2, e⟩
      · have : y.f0 = key ∨ (y ∈ dropK key a ∨ y ∈ dropK key b) := by
          rcases hy with hy | hy
          · rcases a3 y hy with h | h
            · exact Or.inl h
            · exact Or.inr (Or.inl h)
          · rcases b3 y hy with h | h
            · exact Or.inl h
            · exact Or.inr (Or.inr h)
        rcases this with h | h
        · exact ⟨_, List.mem_cons_self, h.symm⟩
        · obtain ⟨x, hx, e⟩ := i3 y h
          exact ⟨x, List.mem_cons_of_mem _ hx, e⟩
/-- The value of a key, in an ascending list. -/
theorem valL_miss : ∀ (l : List S42) (d key : ByteArray), (∀ x ∈ l, ¬ x.f0 = key) → valL l d key = d
  | [], _, _, _ => rfl
  | x :: l, d, key, h => by
    simp only [valL]
    rw [if_neg (fun e => h x List.mem_cons_self (beqL_iff.1 e))]
    exact valL_miss l d key fun z hz => h z (List.mem_cons_of_mem _ hz)
theorem valL_hit : ∀ (l : List S42) (d : ByteArray) (x : S42), Asc l → x ∈ l → valL l d x.f0 = x.f1
  | y :: l, d, x, h, hx => by
    simp only [valL]
    rcases List.mem_cons.1 hx with rfl | hx
    · rw [if_pos (beqL_iff.2 rfl)]
      refine valL_miss l _ _ fun z hz e => ?_
      have := asc_head h z hz
      rw [e] at this
      exact lessS_irrefl _ this
    · exact valL_hit l _ x (asc_tail h) hx
theorem valL_append : ∀ (a b : List S42) (d key : ByteArray), valL (a ++ b) d key = valL b (valL a d key) key
  | [], b, d, key => rfl
  | x :: a, b, d, key => by simp only [List.cons_append, valL]; exact valL_append a b _ key
/-- The merged list of two ascending lists. -/
def mergeA (a b : List S42) : List S42 := mrgL (valL (a ++ b) noS) (a.length + b.length) a b
def In (key : ByteArray) (l : List S42) : Prop := ∃ y ∈ l, y.f0 = key
theorem mergeA_asc {a b : List S42} (ha : Asc a) (hb : Asc b) : Asc (mergeA a b) := (mrgL_facts _ _ a b ha hb (Nat.le_refl _)).1
theorem mergeA_mem {a b : List S42} (ha : Asc a) (hb : Asc b) (x : S42) : x ∈ mergeA a b ↔ x ∈ b ∨ (x ∈ a ∧ ¬ In x.f0 b) := by
  obtain ⟨h1, h2, h3⟩ := mrgL_facts (valL (a ++ b) noS) (a.length + b.length) a b ha hb (Nat.le_refl _)
  have vb : ∀ z ∈ b, valL (a ++ b) noS z.f0 = z.f1 := fun z hz => by rw [valL_append]; exact valL_hit b _ z hb hz
  have va : ∀ z ∈ a, ¬ In z.f0 b → valL (a ++ b) noS z.f0 = z.f1 := fun z hz hn => by
    rw [valL_append, valL_miss b _ _ fun y hy e => hn ⟨y, hy, e⟩]; exact valL_hit a _ z ha hz
  constructor
  · intro hx
    obtain ⟨e, hk⟩ := h2 x hx
    by_cases hb' : In x.f0 b
    · obtain ⟨y, hy, ey⟩ := hb'
      have := vb y hy
      rw [ey, ← e] at this
      have exy : x = y := by cases x; cases y; simp_all
      rw [exy]; exact Or.inl hy
    · rcases hk with ⟨y, hy, ey⟩ | h
      · have := va y hy (by rw [ey]; exact hb')
        rw [ey, ← e] at this
        have exy : x = y := by cases x; cases y; simp_all
        rw [exy]; exact Or.inr ⟨hy, by rw [← exy]; exact hb'⟩
      · exact absurd h hb'
  · intro hx
    have key : ∀ z : S42, (z ∈ a ∨ z ∈ b) → valL (a ++ b) noS z.f0 = z.f1 → z ∈ mergeA a b := fun z hz hv => by
      obtain ⟨y, hy, ey⟩ := h3 z hz
      have := (h2 y hy).1
      rw [ey, hv] at this
      have eyz : y = z := by cases y; cases z; simp_all
      rw [← eyz]; exact hy
    rcases hx with hx | ⟨hx, hn⟩
    · exact key x (Or.inr hx) (vb x hx)
    · exact key x (Or.inl hx) (va x hx hn)
end Go.Proofs.Ytnckglnnojcdmaa.P
