/- What the program's Count, fits and Write answer for lists that are not large, in plain terms. -/
import Derived.Test.YtfemdpjgglhpnaaPuB
import Derived.Test.YtfemdpjgglhpnaaPx3
set_option linter.unusedVariables false
set_option linter.unusedSimpArgs false
namespace Go.Proofs.Ytfemdpjgglhpnaa.P
open Go.RowKit Go.Proofs.YtfemdpjgglhpnaaW.PrintWords

/-- What the elements of a list contain. -/
def insL : List S37 → Nat
  | [] => 0
  | b :: r => cntL b.f2 + insL r
theorem cntL_ins : ∀ l : List S37, cntL l = l.length + insL l
  | [] => by rw [cntL, insL]; rfl
  | b :: r => by rw [cntL, insL, cntB_eq, cntL_ins r, List.length_cons]; omega
theorem insL_at (l : List S37) (i : Nat) (h : i < l.length) : insL (l.drop i) = cntL (rd_T37 l (i : Int)).f2 + insL (l.drop (i + 1)) := by
  rw [List.drop_eq_getElem_cons h, insL]
  simp [rd_T37, h]
theorem cntL_mem {l : List S37} {x : S37} : x ∈ l → cntL x.f2 ≤ insL l := by
  induction l with
  | nil => intro h; cases h
  | cons b r ih =>
    intro h
    rw [insL]
    rcases List.mem_cons.1 h with rfl | h
    · exact Nat.le_add_right _ _
    · exact Nat.le_trans (ih h) (Nat.le_add_left _ _)
theorem mem_size {l : List S37} {x : S37} {m : Nat} (hx : x ∈ l) (h : SizeOf.sizeOf l < m + 1) : SizeOf.sizeOf x.f2 < m := by
  have h1 := List.sizeOf_lt_of_mem hx
  cases x with
  | mk a b c =>
    simp only [S37.mk.sizeOf_spec] at h1
    show SizeOf.sizeOf c < m
    omega
theorem nat_succ (i : Nat) (h : (i : Int) ≤ 1000000000000) : wrap64 ((i : Int) + 1) = ((i + 1 : Nat) : Int) := by
  rw [wrap64_id (by omega) (by omega)]; rfl
theorem nat_add (i j : Nat) (h : i + j ≤ 1000000000000) : wrap64 ((i : Int) + (j : Int)) = ((i + j : Nat) : Int) := by
  rw [wrap64_id (by omega) (by omega)]; omega
/-- Strong induction over trees. -/
theorem tree_ind (P : List S37 → Prop) (h : ∀ l, (∀ x ∈ l, P x.f2) → P l) : ∀ l, P l := by
  have : ∀ m l, SizeOf.sizeOf l < m → P l := by
    intro m
    induction m with
    | zero => intro l hl; omega
    | succ m ih => exact fun l hl => h l (fun x hx => ih x.f2 (mem_size hx hl))
  exact fun l => this (SizeOf.sizeOf l + 1) l (by omega)

theorem Ev.const {α : Type} {g : Nat → Option α} {r : α} (h : ∀ k, g (k + 1) = some r) : Ev g r := Ev.step (f := fun _ => some r) h (Ev.now r)
theorem count_loop (l : List S37) (ih : ∀ x ∈ l, cntL x.f2 ≤ 1000000000 → Ev (fun k => box_Count.f k x.f2) (cntL x.f2 : Int)) (d : Nat) :
    ∀ (i n : Nat), i + d = l.length → l.length ≤ 1000000000 → n + insL (l.drop i) ≤ 1000000000 → Ev (fun k => box_Count.l0 k (n : Int) l (l.length : Int) (i : Int)) ((n + insL (l.drop i) : Nat) : Int) := by
  induction d with
  | zero =>
    intro i n hd hl hs
    have e : insL (l.drop i) = 0 := by rw [List.drop_eq_nil_of_le (by omega), insL]
    rw [e, Nat.add_zero]
    have h1 : ¬ (i : Int) < (l.length : Int) := by clear hs e; omega
    exact Ev.step (fun k => by rw [box_Count.l0, if_neg h1]) (Ev.now _)
  | succ d ihd =>
    intro i n hd hl hs
    have hil : i < l.length := by clear hs; omega
    have h1 := insL_at l i hil
    have hI := ih _ (rd_mem hil)
    have hN := ihd (i + 1) (n + cntL (rd_T37 l (i : Int)).f2) (by clear hs h1; omega) hl
    have b1 : (i : Int) < (l.length : Int) := by clear hs h1 hN hI; omega
    have b2 : (0 : Int) ≤ (i : Int) := Int.natCast_nonneg _
    have hw := nat_succ i (by clear hs h1 hN hI; omega)
    have hgo : ∀ k, box_Count.l0 (k + 1) (n : Int) l (l.length : Int) (i : Int) = (box_Count.f k (rd_T37 l (i : Int)).f2).bind fun t => box_Count.l0 k (wrap64 ((n : Int) + t)) l (l.length : Int) ((i + 1 : Nat) : Int) := fun k => by
      rw [box_Count.l0, if_pos b1, if_pos b2, if_pos b1, hw]
    clear hw ih ihd
    generalize insL (l.drop i) = a at *
    generalize insL (l.drop (i + 1)) = a' at *
    generalize hc : cntL (rd_T37 l (i : Int)).f2 = c at *
    clear hc
    refine Ev.step hgo (Ev.bind (hI (by omega)) ?_)
    rw [h1, ← Nat.add_assoc]
    have h2 := hN (by omega)
    have hb : n + c ≤ 1000000000000 := by omega
    refine Ev.congr (fun k => ?_) h2
    rw [nat_add n c hb]
theorem count_ev (l : List S37) : cntL l ≤ 1000000000 → Ev (fun k => box_Count.f k l) (cntL l : Int) := by
  refine tree_ind (fun l => cntL l ≤ 1000000000 → Ev (fun k => box_Count.f k l) (cntL l : Int)) ?_ l
  intro l ih h
  have e := cntL_ins l
  have := count_loop l ih l.length 0 l.length (by omega) (by generalize cntL l = a at *; generalize insL l = b at *; omega) (by rw [List.drop_zero, ← e]; exact h)
  rw [List.drop_zero, ← e] at this
  exact Ev.step (fun k => by rw [box_Count.f]; rfl) this

/-! ### Super, Known, fits -/
theorem super_f (t : ByteArray) : box_Super.f t = some (superP t) := by unfold box_Super.f superP; rw [tlB]
theorem known_f (t : ByteArray) : box_Known.f t = some (knownP t) := by
  unfold box_Known.f knownP
  simp only [tlB]
  repeat' split
  all_goals simp_all
theorem fits_loop (l : List S37) (inner : Bool) (hl : l.length ≤ 1000000000) (ih : ∀ x ∈ l, ∀ b, Ev (fun k => box_fits.f k x.f2 b) (okL b x.f2)) (d : Nat) :
    ∀ (i : Nat), i + d = l.length → Ev (fun k => box_fits.l0 k inner l (l.length : Int) (i : Int)) (okL inner (l.drop i)) := by
  induction d with
  | zero =>
    intro i hd
    rw [List.drop_eq_nil_of_le (by omega), okL]
    have h1 : ¬ (i : Int) < (l.length : Int) := by omega
    exact Ev.step (fun k => by rw [box_fits.l0, if_neg h1]) (Ev.now _)
  | succ d ihd =>
    intro i hd
    have hil : i < l.length := by omega
    have hI := ih _ (rd_mem hil)
    have hN := ihd (i + 1) (by omega)
    have b1 : (i : Int) < (l.length : Int) := by omega
    have b2 : (0 : Int) ≤ (i : Int) := Int.natCast_nonneg _
    have hw := nat_succ i (by omega)
    have e : okL inner (l.drop i) = (okB inner (rd_T37 l (i : Int)) && okL inner (l.drop (i + 1))) := by
      rw [List.drop_eq_getElem_cons hil, okL]
      simp [rd_T37, hil]
    rw [e, okB_eq]
    clear e ih ihd
    have hgo : ∀ k, box_fits.l0 (k + 1) inner l (l.length : Int) (i : Int) = (box_Known.f (rd_T37 l (i : Int)).f0).bind fun t => if t = true then ((box_Super.f (rd_T37 l (i : Int)).f0).bind fun t2 => if t2 = true then (if inner = true then some false else if ((rd_T37 l (i : Int)).f1.length : Int) > 0 then some false else (box_fits.f k (rd_T37 l (i : Int)).f2 true).bind fun t3 => if t3 = true then box_fits.l0 k inner l (l.length : Int) ((i + 1 : Nat) : Int) else some false) else if ((rd_T37 l (i : Int)).f2.length : Int) > 0 then some false else box_fits.l0 k inner l (l.length : Int) ((i + 1 : Nat) : Int)) else some false := fun k => by
      rw [box_fits.l0, if_pos b1, if_pos b2, if_pos b1, hw]
    generalize rd_T37 l (i : Int) = x at *
    clear hw b1 b2
    simp only [known_f, super_f, Option.bind_some] at hgo
    cases hk : knownP x.f0 with
    | false => exact Ev.const (r := false) fun k => by rw [hgo, hk, if_neg (by decide)]
    | true =>
      cases hs : superP x.f0 with
      | true =>
        cases inner with
        | true => exact Ev.const (r := false) fun k => by rw [hgo, hk, hs, if_pos rfl, if_pos rfl, if_pos rfl]
        | false =>
          by_cases hp : (x.f1.length : Int) > 0
          · have he : x.f1.isEmpty = false := by cases hx : x.f1 with
              | nil => rw [hx] at hp; simp at hp
              | cons a b => rfl
            rw [he]
            exact Ev.const (r := false) fun k => by rw [hgo, hk, hs, if_pos rfl, if_pos rfl, if_neg (by decide), if_pos hp]
          · have he : x.f1.isEmpty = true := by cases hx : x.f1 with
              | nil => rfl
              | cons a b => rw [hx] at hp; simp at hp
            rw [he]
            show Ev _ (okL true x.f2 && okL false (l.drop (i + 1)))
            refine Ev.step (f := fun k => (box_fits.f k x.f2 true).bind fun t3 => if t3 = true then box_fits.l0 k false l (l.length : Int) ((i + 1 : Nat) : Int) else some false) (fun k => by rw [hgo, hk, hs, if_pos rfl, if_pos rfl, if_neg (by decide), if_neg hp]) (Ev.bind (hI true) ?_)
            cases hq : okL true x.f2 with
            | false => exact Ev.now false
            | true => exact hN
      | false =>
        by_cases hp : (x.f2.length : Int) > 0
        · have he : x.f2.isEmpty = false := by cases hx : x.f2 with
            | nil => rw [hx] at hp; simp at hp
            | cons a b => rfl
          rw [he]
          exact Ev.const (r := false) fun k => by rw [hgo, hk, hs, if_pos rfl, if_neg (by decide), if_pos hp]
        · have he : x.f2.isEmpty = true := by cases hx : x.f2 with
            | nil => rfl
            | cons a b => rw [hx] at hp; simp at hp
          rw [he]
          show Ev _ (okL inner (l.drop (i + 1)))
          exact Ev.step (f := fun k => box_fits.l0 k inner l (l.length : Int) ((i + 1 : Nat) : Int)) (fun k => by rw [hgo, hk, hs, if_pos rfl, if_neg (by decide), if_neg hp]) hN
/-- A list whose parts are all of at most so many elements. -/
def NarrowL (l : List S37) : Prop := cntL l ≤ 1000000000
theorem fits_ev (l : List S37) : cntL l ≤ 1000000000 → ∀ b, Ev (fun k => box_fits.f k l b) (okL b l) := by
  refine tree_ind (fun l => cntL l ≤ 1000000000 → ∀ b, Ev (fun k => box_fits.f k l b) (okL b l)) ?_ l
  intro l ih h b
  have e := cntL_ins l
  have hn : l.length ≤ 1000000000 := by generalize cntL l = a at *; generalize insL l = c at *; omega
  have hq : ∀ x ∈ l, cntL x.f2 ≤ 1000000000 := fun x hx => by
    have := cntL_mem hx
    generalize cntL l = a at *; generalize insL l = c at *; generalize cntL x.f2 = q at *; omega
  have := fits_loop l b hn (fun x hx => ih x hx (hq x hx)) l.length 0 (by omega)
  rw [List.drop_zero] at this
  exact Ev.step (fun k => by rw [box_fits.f]; rfl) this

/-- What Write answers. -/
def writeP (l : List S37) : List Int × Int := if 256 < cntL l then ([], 5) else if okL false l = true then (wrL l, 0) else ([], 20)
theorem write_ev (l : List S37) (h1 : cntL l ≤ 1000000000) (h2 : szL l ≤ 67108864) : Ev (fun k => box_Write.f k l) (writeP l) := by
  unfold writeP
  unfold box_Write.f
  refine Ev.bind (count_ev l h1) ?_
  by_cases hc : 256 < cntL l
  · rw [if_pos hc]
    have : (cntL l : Int) > 256 := by generalize cntL l = a at *; omega
    exact Ev.congr (fun k => by rw [if_pos this]) (Ev.now _)
  · rw [if_neg hc]
    have hc2 : ¬ (cntL l : Int) > 256 := by generalize cntL l = a at *; omega
    refine Ev.congr (fun k => by rw [if_neg hc2]) (Ev.bind (fits_ev l h1 false) ?_)
    cases ho : okL false l with
    | false => exact Ev.congr (fun k => by rw [if_neg (by decide)]) (by rw [if_neg (by decide)]; exact Ev.now _)
    | true =>
      have hs : ¬ (szL l : Int) > 67108864 := by generalize szL l = a at *; omega
      have ha : box_appendBoxes.f ([] : List Int) l = some (wrL l) := by unfold box_appendBoxes.f; rw [if_pos ⟨rfl, ho, h2⟩]
      refine Ev.congr (fun k => by rw [if_pos rfl]) (Ev.bind (size_small l h2) ?_)
      exact Ev.congr (fun k => by rw [if_neg hs, ha]; rfl) (Ev.now _)
end Go.Proofs.Ytfemdpjgglhpnaa.P
