/- Plain laws of the sorts, of the steps' slopes, and of rows of steps as cells; copy of elements of several cells. -/
import Derived.Test.YtgmadhlebpbcpaaStp
import Derived.Test.YtgmadhlebpbcpaaOrdP
import Derived.Laws.CopyOwn
import Derived.Laws.IdiomCopy
set_option linter.unusedVariables false
set_option linter.unusedSimpArgs false
namespace Go.Proofs.Ytgmadhlebpbcpaa.P
open Go.RowKit Go.Proofs.YtgmadhlebpbcpaaW.PrintWords Go.Proofs.YtgmadhlebpbcpaaW.PrintLast Go.Proofs.YtgmadhlebpbcpaaW.PrintMore

def Rg (x : S54) : Prop := ranged x.f2 x.f3
theorem less_trans {x y z : S54} (hx : Rg x) (hy : Rg y) (hz : Rg z) (h1 : lessP x y = true) (h2 : lessP y z = true) : lessP x z = true := by
  have a := of_decide_eq_true h1
  have b := of_decide_eq_true h2
  have t := st_trans hx hy hz (by omega) (by omega)
  exact decide_eq_true (t.2 (by omega))
theorem less_neg {x y z : S54} (hx : Rg x) (hy : Rg y) (hz : Rg z) (h1 : lessP x y = false) (h2 : lessP y z = false) : lessP x z = false := by
  have a := of_decide_eq_false h1
  have b := of_decide_eq_false h2
  have n1 := st_neg hx hy
  have n2 := st_neg hy hz
  have n3 := st_neg hx hz
  have t := st_trans hz hy hx (by omega) (by omega)
  exact decide_eq_false (by omega)
def insP : List S54 → S54 → List S54
  | [], y => [y]
  | x :: l, y => if lessP y x = true then y :: x :: l else x :: insP l y
def isortP (l : List S54) : List S54 := l.foldl insP []
theorem insP_mem {y : S54} : ∀ {l : List S54} {z : S54}, z ∈ insP l y → z = y ∨ z ∈ l
  | [], z, h => by simp [insP] at h; exact .inl h
  | x :: l, z, h => by
    unfold insP at h
    split at h
    · simpa using h
    · rcases List.mem_cons.1 h with rfl | h
      · simp
      · rcases insP_mem h with rfl | h
        · simp
        · simp [h]
theorem mrg_ins {y : S54} (hy : Rg y) : ∀ s t : List S54, (∀ x ∈ s, Rg x) → (∀ x ∈ t, Rg x) → insP (mrgP s t) y = mrgP s (insP t y)
  | [], t, _, _ => by simp [mrgP]
  | x :: s, [], hs, ht => by
    have ih := mrg_ins hy s [] (fun z hz => hs z (List.mem_cons_of_mem _ hz)) ht
    have e1 : mrgP (x :: s) [] = x :: s := by simp [mrgP]
    have e2 : mrgP s [] = s := by cases s <;> simp [mrgP]
    rw [e1]
    rw [e2] at ih
    simp only [insP] at ih ⊢
    cases h : lessP y x with
    | true => rw [if_pos rfl, mrgP_yes h, e1]
    | false => rw [if_neg (by simp), mrgP_no h, ih]
  | x :: s, z :: t, hs, ht => by
    have hx := hs x List.mem_cons_self
    have hz := ht z List.mem_cons_self
    have hs' : ∀ x ∈ s, Rg x := fun u hu => hs u (List.mem_cons_of_mem _ hu)
    have ht' : ∀ x ∈ t, Rg x := fun u hu => ht u (List.mem_cons_of_mem _ hu)
    cases h : lessP z x with
    | true =>
      have ih := mrg_ins hy (x :: s) t hs ht'
      rw [mrgP_yes h]
      simp only [insP]
      cases h2 : lessP y z with
      | true => rw [if_pos rfl, if_pos rfl, mrgP_yes (less_trans hy hz hx h2 h), mrgP_yes h]
      | false => rw [if_neg (by simp), if_neg (by simp), mrgP_yes h, ih]
    | false =>
      have ih := mrg_ins hy s (z :: t) hs' ht
      rw [mrgP_no h]
      simp only [insP] at ih ⊢
      cases h2 : lessP y z with
      | true =>
        rw [h2, if_pos rfl] at ih
        rw [if_pos rfl]
        cases h3 : lessP y x with
        | true => rw [if_pos rfl, mrgP_yes h3, mrgP_no h]
        | false => rw [if_neg (by simp), mrgP_no h3, ih]
      | false =>
        rw [h2, if_neg (by simp)] at ih
        rw [if_neg (show ¬ lessP y x = true by rw [less_neg hy hz hx h2 h]; simp), if_neg (by simp), mrgP_no h, ih]
  termination_by s t => s.length + t.length
theorem isort_mem {l : List S54} {z : S54} (h : z ∈ isortP l) : z ∈ l := by
  have key : ∀ (l a : List S54) (z : S54), z ∈ l.foldl insP a → z ∈ l ∨ z ∈ a := by
    intro l
    induction l with
    | nil => intro a z h; exact .inr h
    | cons x l ih =>
      intro a z h
      rcases ih _ _ h with h | h
      · exact .inl (List.mem_cons_of_mem _ h)
      · rcases insP_mem h with rfl | h
        · exact .inl List.mem_cons_self
        · exact .inr h
  rcases key l [] z h with h | h
  · exact h
  · cases h
theorem isort_append (a : List S54) (ha : ∀ x ∈ a, Rg x) : ∀ (b : List S54), (∀ x ∈ b, Rg x) → isortP (a ++ b) = mrgP (isortP a) (isortP b) := by
  intro b hb
  have key : ∀ n (b : List S54), b.length = n → (∀ x ∈ b, Rg x) → isortP (a ++ b) = mrgP (isortP a) (isortP b) := by
    intro n
    induction n with
    | zero =>
      intro b hn hb
      obtain rfl := List.eq_nil_of_length_eq_zero hn
      rw [List.append_nil]
      have e : ∀ s, mrgP s [] = s := fun s => by cases s <;> simp [mrgP]
      exact (e _).symm
    | succ n ih =>
      intro b hn hb
      obtain ⟨b, y, rfl⟩ : ∃ b' y, b = b' ++ [y] := ⟨b.dropLast, b.getLast (by intro h; simp [h] at hn), (List.dropLast_concat_getLast _).symm⟩
      have hb' : ∀ x ∈ b, Rg x := fun x hx => hb x (by simp [hx])
      have := ih b (by simp at hn; exact hn) hb'
      unfold isortP at this ⊢
      rw [← List.append_assoc, List.foldl_append, this, List.foldl_append]
      exact mrg_ins (hb y (by simp)) _ _ (fun x hx => ha x (isort_mem hx)) (fun x hx => hb' x (isort_mem hx))
  exact key b.length b rfl hb
theorem sort_isort : ∀ (k : Nat) (xs : List S54), xs.length ≤ k → (∀ x ∈ xs, Rg x) → sortP k xs = isortP xs
  | 0, xs, h, _ => by
    obtain rfl := List.eq_nil_of_length_eq_zero (by omega : xs.length = 0)
    rfl
  | k + 1, xs, h, hr => by
    unfold sortP
    split
    · match xs with
      | [] => rfl
      | [x] => rfl
      | x :: y :: l =>
        rename_i hlt
        simp only [List.length_cons] at hlt
        omega
    · rw [sort_isort k _ (by rw [List.length_take]; omega) (fun x hx => hr x (List.mem_of_mem_take hx)), sort_isort k _ (by rw [List.length_drop]; omega) (fun x hx => hr x (List.mem_of_mem_drop hx)),
        ← isort_append _ (fun x hx => hr x (List.mem_of_mem_take hx)) _ (fun x hx => hr x (List.mem_of_mem_drop hx)), List.take_append_drop]
/-- The reference's scan: how many elements, from the end on, s is strictly steeper than: its place. -/
def placeP (l : List S54) (y : S54) : Nat → Nat
  | 0 => 0
  | i + 1 => if lessP y (l.getD i z54) = true then placeP l y i else i + 1
def Srtd (l : List S54) : Prop := ∀ i j, i < j → j < l.length → lessP (l.getD j z54) (l.getD i z54) = false
theorem place_ins {y : S54} (hy : Rg y) : ∀ l : List S54, (∀ x ∈ l, Rg x) → Srtd l → insP l y = l.take (placeP l y l.length) ++ y :: l.drop (placeP l y l.length)
  | [], _, _ => rfl
  | x :: l, hr, hs => by
    have hr' : ∀ z ∈ l, Rg z := fun z hz => hr z (List.mem_cons_of_mem _ hz)
    have hs' : Srtd l := fun i j h1 h2 => by
      have := hs (i + 1) (j + 1) (by omega) (by simp; omega)
      simpa using this
    have ih := place_ins hy l hr' hs'
    cases h : lessP y x with
    | true =>
      have all : ∀ i, i ≤ (x :: l).length → placeP (x :: l) y i = 0 := by
        intro i
        induction i with
        | zero => intro _; rfl
        | succ i ih2 =>
          intro hi
          unfold placeP
          rw [if_pos ?_, ih2 (by omega)]
          cases i with
          | zero => simpa using h
          | succ i =>
            have hi' : i < l.length := by simp at hi; omega
            have m : (x :: l).getD (i + 1) z54 ∈ x :: l := by
              rw [List.getD_eq_getElem?_getD, List.getElem?_eq_getElem (by simp; omega)]
              exact List.getElem_mem _
            have q := hs 0 (i + 1) (by omega) (by simp; omega)
            cases h3 : lessP y ((x :: l).getD (i + 1) z54) with
            | true => rfl
            | false =>
              have := less_neg hy (hr _ m) (hr x List.mem_cons_self) h3 (by simpa using q)
              rw [this] at h
              cases h
      rw [all _ (Nat.le_refl _)]
      simp [insP, h]
    | false =>
      have sh : ∀ i, placeP (x :: l) y (i + 1) = placeP l y i + 1 := by
        intro i
        induction i with
        | zero => simp [placeP, h]
        | succ i ih2 =>
          rw [placeP]
          conv => rhs; rw [placeP]
          rw [ih2]
          simp only [List.getD_cons_succ]
          split <;> rfl
      rw [List.length_cons, sh]
      simp [insP, h, ih]
theorem less_asym {x y : S54} (hx : Rg x) (hy : Rg y) (h : lessP y x = true) : lessP x y = false := by
  have a := of_decide_eq_true h
  have n := st_neg hx hy
  exact decide_eq_false (by omega)
def Prs (l : List S54) : Prop := l.Pairwise (fun a b => lessP b a = false)
theorem prs_ins {y : S54} (hy : Rg y) : ∀ l : List S54, (∀ x ∈ l, Rg x) → Prs l → Prs (insP l y)
  | [], _, _ => by simp [insP, Prs]
  | x :: l, hr, hp => by
    have hx := hr x List.mem_cons_self
    have hr' : ∀ z ∈ l, Rg z := fun z hz => hr z (List.mem_cons_of_mem _ hz)
    obtain ⟨h1, h2⟩ := List.pairwise_cons.1 hp
    unfold insP
    split
    · rename_i h
      refine List.pairwise_cons.2 ⟨fun b hb => ?_, hp⟩
      rcases List.mem_cons.1 hb with rfl | hb
      · exact less_asym hx hy h
      · cases h3 : lessP b y with
        | false => rfl
        | true =>
          have := less_trans (hr' b hb) hy hx h3 h
          rw [h1 b hb] at this
          cases this
    · rename_i h
      refine List.pairwise_cons.2 ⟨fun b hb => ?_, prs_ins hy l hr' h2⟩
      rcases insP_mem hb with rfl | hb
      · simpa using h
      · exact h1 b hb
theorem prs_isort {l : List S54} (h : ∀ x ∈ l, Rg x) : Prs (isortP l) := by
  have key : ∀ (l a : List S54), (∀ x ∈ l, Rg x) → (∀ x ∈ a, Rg x) → Prs a → Prs (l.foldl insP a) := by
    intro l
    induction l with
    | nil => intro a _ _ h; exact h
    | cons y l ih =>
      intro a hl ha hp
      have hy := hl y List.mem_cons_self
      refine ih _ (fun x hx => hl x (List.mem_cons_of_mem _ hx)) (fun x hx => ?_) (prs_ins hy a ha hp)
      rcases insP_mem hx with rfl | hx
      · exact hy
      · exact ha x hx
  exact key l [] h (fun x hx => by cases hx) List.Pairwise.nil
theorem srtd_of {l : List S54} (h : Prs l) : Srtd l := by
  intro i j h1 h2
  have := List.pairwise_iff_getElem.1 h i j (by omega) h2 h1
  rw [List.getD_eq_getElem?_getD, List.getD_eq_getElem?_getD, List.getElem?_eq_getElem h2, List.getElem?_eq_getElem (by omega)]
  exact this


theorem scan_fall (rs ds : List Int) (i : Nat) : ∀ (m j : Nat) (nx : Int), (nx = -1 ∨ (0 ≤ nx ∧ el ds nx.toNat < el ds i)) → (scanP rs ds i m j nx = -1 ∨ (0 ≤ scanP rs ds i m j nx ∧ el ds (scanP rs ds i m j nx).toNat < el ds i))
  | 0, j, nx, h => h
  | m + 1, j, nx, h => by
    simp only [scanP]
    refine scan_fall rs ds i m (j + 1) _ ?_
    by_cases hc : (decide (el ds j < el ds i) && betterP rs ds i j nx) = true
    · rw [if_pos hc]
      right
      simp only [Bool.and_eq_true, decide_eq_true_eq] at hc
      exact ⟨by omega, by rw [Int.toNat_natCast]; exact hc.1⟩
    · rw [if_neg hc]
      exact h
theorem next_fall {rs ds : List Int} {i : Nat} (h : ¬ nextP rs ds i < 0) : el ds (nextP rs ds i).toNat < el ds i := by
  rcases scan_fall rs ds i (rs.length - (i + 1)) (i + 1) (-1) (.inl rfl) with h1 | h1
  · exact absurd (show nextP rs ds i < 0 by unfold nextP; omega) h
  · exact h1.2
/-- From a point on: each next one lies farther and lower. -/
theorem rg_step {c : S37} (hV : Vld c.f0 c.f1) (n : Nat) {i j : Nat} (hi : i < c.f0.length) (hj : j < c.f0.length) (hij : i < j) (hd : el c.f1 j < el c.f1 i) : Rg (stepP n c (i : Int) (j : Int)) := by
  have d0 := hV.dist hi
  have d1 := hV.dist hj
  have r0 := hV.rate hi
  have r1 := hV.rate hj
  have m := hV.mono (Nat.le_of_lt hij) hj
  unfold Rg ranged stepP
  simp only [Int.toNat_natCast]
  omega
theorem rg_chain {c : S37} (hV : Vld c.f0 c.f1) (n : Nat) : ∀ (f i : Nat), i < c.f0.length → ∀ s ∈ stepsC n c (i : Int) (chainP c.f0 c.f1 f i).tail, Rg s
  | 0, i, hi => by simp [chainP, stepsC]
  | f + 1, i, hi => by
    simp only [chainP, List.tail_cons]
    have hb := next_bound c.f0 c.f1 i hi
    by_cases hn : nextP c.f0 c.f1 i < 0
    · rw [if_pos hn]
      simp [stepsC]
    · rw [if_neg hn]
      obtain ⟨j, hj⟩ : ∃ j : Nat, nextP c.f0 c.f1 i = (j : Int) := ⟨(nextP c.f0 c.f1 i).toNat, by omega⟩
      have hf := next_fall hn
      rw [hj] at hb hf ⊢
      rw [Int.toNat_natCast] at hf ⊢
      have ih := rg_chain hV n f j (by omega)
      have e : chainP c.f0 c.f1 f j = (j : Int) :: (chainP c.f0 c.f1 f j).tail := by cases f <;> simp [chainP]
      rw [e]
      simp only [stepsC]
      intro s hs
      rcases List.mem_append.1 hs with hs | hs
      · rw [if_neg (by omega)] at hs
        obtain rfl := List.mem_singleton.1 hs
        exact rg_step hV n hi (by omega) (by omega) hf
      · exact ih s hs
theorem rg_points {c : S37} (hV : Vld c.f0 c.f1) (n : Nat) : ∀ s ∈ stepsC n c 0 (pointsP c.f0 c.f1), Rg s := by
  unfold pointsP
  rw [if_pos (show validB c.f0 c.f1 = true from decide_eq_true hV)]
  have h := rg_chain hV n c.f0.length 0 (by have := hV.2.1; omega)
  have e : chainP c.f0 c.f1 c.f0.length 0 = (0 : Int) :: (chainP c.f0 c.f1 c.f0.length 0).tail := by cases c.f0.length <;> simp [chainP]
  rw [e]
  simp only [stepsC, if_true, List.nil_append]
  exact h
theorem rg_steps : ∀ (cs : List S37) (n : Nat), (∀ c ∈ cs, Vld c.f0 c.f1) → ∀ s ∈ stepsP n cs, Rg s
  | [], _, _, s, hs => by simp [stepsP] at hs
  | c :: cs, n, h, s, hs => by
    simp only [stepsP] at hs
    rcases List.mem_append.1 hs with hs | hs
    · exact rg_points (h c List.mem_cons_self) n s hs
    · exact rg_steps cs (n + 1) (fun d hd => h d (List.mem_cons_of_mem _ hd)) s hs


def enc51 (x : S51) : List Value := [.int .i64 x.f0, .int .i64 x.f1, .int .i64 x.f2, .int .i64 x.f3]
def encL : List S51 → List Value
  | [] => []
  | x :: l => enc51 x ++ encL l
theorem encL_length : ∀ l : List S51, (encL l).length = l.length * 4
  | [] => rfl
  | x :: l => by simp [encL, enc51, encL_length l]; omega
theorem encL_append : ∀ a b : List S51, encL (a ++ b) = encL a ++ encL b
  | [], _ => rfl
  | x :: a, b => by simp [encL, encL_append a b]
theorem encL_drop : ∀ (l : List S51) (j : Nat), (encL l).drop (j * 4) = encL (l.drop j)
  | l, 0 => by simp
  | [], j + 1 => by simp [encL]
  | x :: l, j + 1 => by
    have e : (j + 1) * 4 = 4 + j * 4 := by omega
    rw [e, List.drop_drop.symm]
    simp only [encL, List.drop_succ_cons]
    rw [show (enc51 x ++ encL l).drop 4 = encL l by simp [enc51]]
    exact encL_drop l j
theorem encL_take : ∀ (l : List S51) (j : Nat), (encL l).take (j * 4) = encL (l.take j)
  | l, 0 => by simp [encL]
  | [], j + 1 => by simp [encL]
  | x :: l, j + 1 => by
    have e : (j + 1) * 4 = j * 4 + 4 := by omega
    rw [e]
    simp only [encL, enc51, List.cons_append, List.nil_append, List.take_succ_cons]
    rw [encL_take l j]
theorem encL_one (l : List S51) : ∀ v ∈ encL l, v.oneCell' = true := by
  intro v hv
  induction l with
  | nil => cases hv
  | cons x l ih =>
    simp only [encL, List.mem_append] at hv
    rcases hv with hv | hv
    · simp [enc51] at hv
      rcases hv with rfl | rfl | rfl | rfl <;> rfl
    · exact ih hv
theorem reps_encL {w : World} {base : Nat} {ok : Nat → Prop} : ∀ {xs : List S51} {inner : List Value}, Reps (k51.M w base ok) 4 xs inner → inner = encL xs
  | [], inner, h => by
    have := h.1
    exact List.eq_nil_of_length_eq_zero (by simpa using this)
  | x :: xs, inner, h => by
    obtain ⟨hl, hr⟩ := h
    have h0 := k51_openM (hr 0 x rfl)
    have ht : Reps (k51.M w base ok) 4 xs (inner.drop 4) := by
      refine ⟨by simp at hl ⊢; omega, fun j p hj => ?_⟩
      have := hr (j + 1) p (by simpa using hj)
      rw [List.drop_drop]
      rw [show (j + 1) * 4 = 4 + j * 4 by omega] at this
      exact this
    have ih := reps_encL ht
    rw [← List.take_append_drop 4 inner, ih]
    simp at h0
    rw [h0]
    rfl
theorem reps_of_encL {w : World} {base : Nat} {ok : Nat → Prop} (xs : List S51) : Reps (k51.M w base ok) 4 xs (encL xs) := by
  refine ⟨encL_length xs, fun j p hj => ?_⟩
  have hlt := (List.getElem?_eq_some_iff.1 hj).1
  rw [encL_drop, List.drop_eq_getElem_cons hlt]
  have e := (List.getElem?_eq_some_iff.1 hj).2
  rw [e]
  simp only [encL]
  rw [show (enc51 p ++ encL (xs.drop (j + 1))).take 4 = enc51 p by simp [enc51]]
  exact k51_mkM _ _ _ p
/-- A row of the call's own that is not empty: its block. -/
theorem row51 {w : World} {base : Nat} {v : Value} {xs : List S51} (h : Kd.R k51 51 w base (fun _ => True) v xs) (hn : 0 < xs.length) :
    ∃ (g cap : Nat) (cur : Array Value), v = .slice (some ⟨g, 0, none⟩) xs.length cap ∧ w.heap[g]? = some (.cells cur 51 (0, 0)) ∧ base ≤ g ∧ xs.length ≤ cap ∧ cap ≤ maxLen ∧ cur.size = cap * 4 ∧ cur.toList.take (xs.length * 4) = encL xs := by
  obtain ⟨_, inner, ho, hr⟩ := h
  have e := reps_encL hr
  rcases ho.2 with ⟨_, h0⟩ | ⟨g, cap, cur, he, hb, hh, hnc, hcm, hcs, ht⟩
  · omega
  · exact ⟨g, cap, cur, he, hh, hb, hnc, hcm, hcs, by rw [← e]; exact ht⟩
theorem row51_back {w : World} {base g cap : Nat} {cur : Array Value} {xs : List S51} (hh : w.heap[g]? = some (.cells cur 51 (0, 0))) (hb : base ≤ g) (hnc : xs.length ≤ cap) (hcm : cap ≤ maxLen) (hcs : cur.size = cap * 4) (ht : cur.toList.take (xs.length * 4) = encL xs) :
    Kd.R k51 51 w base (fun _ => True) (.slice (some ⟨g, 0, none⟩) xs.length cap) xs :=
  ⟨fun _ _ => trivial, encL xs, ⟨encL_length xs, .inr ⟨g, cap, cur, rfl, hb, hh, hnc, hcm, hcs, ht⟩⟩, reps_of_encL xs⟩


theorem run_copy_many {P : Program} (w : World) (dT sT ty elem : TypeId) (k : Nat) (g o dLen dCap : Nat) (a : Addr) (sLen sCap : Nat) (cur : Array Value) (t : TypeId) (cs : List Value)
    (hu : P.underlying dT = some (.slice elem)) (hs : (P.info? elem).map (·.size) = some k)
    (hg : w.heap[g]? = some (.cells cur t (0, 0))) (hn : cs.length = Nat.min sLen dLen * k)
    (hsrc : ∀ j v, cs[j]? = some v → w.cell? (a.add j) = some v) (hfit : o + cs.length ≤ cur.size) (h1 : ∀ v ∈ cs, v.oneCell' = true) :
    (Builtin.copy_ #[dT, sT] ty #[.slice (some ⟨g, o, none⟩) dLen dCap, .slice (some a) sLen sCap]).run P w =
      .ok (goInt (Nat.min sLen dLen)) (w.setRow g (cur.toList.take o ++ cs ++ cur.toList.drop (o + cs.length)).toArray) := by
  have hl := run_loadCells_list (P := P) w a cs hsrc
  have hst := run_storeCells_at P g o t cs 0 cur w hg (by simpa using hfit) h1
  cases hq : P.info? elem with
  | none => simp [hq] at hs
  | some i =>
    have hi : i.size = k := by simpa [hq] using hs
    simp [Builtin.copy_, run_underlying hu, Builtin.lenOf, Builtin.firstCells, sizeOf, typeInfo, hq, hi, ← hn, hl, hst]
theorem run_copy_zero {P : Program} (w : World) (dT sT ty elem : TypeId) (k : Nat) (d a : Option Addr) (dLen dCap sLen sCap : Nat) (hu : P.underlying dT = some (.slice elem)) (hs : (P.info? elem).map (·.size) = some k) (hn : Nat.min sLen dLen = 0) :
    (Builtin.copy_ #[dT, sT] ty #[.slice d dLen dCap, .slice a sLen sCap]).run P w = .ok (goInt 0) w := by
  cases hq : P.info? elem with
  | none => simp [hq] at hs
  | some i =>
    have hl : ∀ (x : Addr), (loadCells x 0).run P w = .ok #[] w := fun x => by simpa using run_loadCells_list (P := P) w x [] (by simp)
    cases d <;> cases a <;> simp [Builtin.copy_, run_underlying hu, Builtin.lenOf, Builtin.firstCells, sizeOf, typeInfo, hq, hn, storeCells, hl]
/-- The step of a drawn region at which copy shifts a tail of a row of the call's own by one place. -/
theorem step_shift {P : Program} {ops : Array Oper} {o : Oper} {a : Act} {w : World} {K : Act → World → Prop} {Q : Exit → Act → World → Prop} {E : Prop} (hgd : o.guard = none) (d s : Operand) (dT sT : TypeId)
    (ho : o.op = .call { callee := .builtin .copy, args := #[d, s], argTypes := #[dT, sT] }) (elem : TypeId) (hu : P.underlying dT = some (.slice elem)) (k : Nat) (hsz : (P.info? elem).map (·.size) = some k)
    (g at_ n cap : Nat) (dp sp : Option Addr) (hat : at_ ≤ n) (hd : a.eval d = .slice dp (n - at_) (cap - (at_ + 1))) (hs : a.eval s = .slice sp (n + 1 - at_) (cap - at_))
    (hdp : at_ < n → dp = some ⟨g, (at_ + 1) * k, none⟩) (hsp : at_ < n → sp = some ⟨g, at_ * k, none⟩)
    (cur : Array Value) (t : TypeId) (hg : w.heap[g]? = some (.cells cur t (0, 0))) (hfit : (n + 1) * k ≤ cur.size) (cs : List Value) (hcs : cs = (cur.toList.drop (at_ * k)).take ((n - at_) * k)) (h1 : ∀ v ∈ cs, v.oneCell' = true) (B : Nat) (w0 : World) (hb : RowKit.Below B w0 w) (hBg : B ≤ g)
    (h : ∀ x w', RowKit.Hid (w'.heap[g]? = some (.cells (cur.toList.take ((at_ + 1) * k) ++ cs ++ cur.toList.drop ((at_ + 1) * k + cs.length)).toArray t (0, 0))) → RowKit.Below B w0 w' → (∀ g', g' ≠ g → w'.heap[g']? = w.heap[g']?) → K (a.put o.dst x) w') :
    if Region.wanted o (yielded ops a.tmps) = true then Oper.wp P o a w K Q else E := by
  have hw : Region.wanted o (yielded ops a.tmps) = true := by simp [Region.wanted, hgd]
  rw [if_pos hw]
  have hmin : Nat.min (n + 1 - at_) (n - at_) = n - at_ := Nat.min_eq_right (by omega)
  by_cases h0 : at_ < n
  · obtain rfl := hdp h0
    obtain rfl := hsp h0
    have hkk : at_ * k + (n - at_) * k = n * k := by rw [← Nat.add_mul]; congr 1; omega
    have hk2 : (at_ + 1) * k + (n - at_) * k = (n + 1) * k := by rw [← Nat.add_mul]; congr 1; omega
    have hnk : (n + 1) * k = n * k + k := Nat.succ_mul n k
    have hlen : cs.length = (n - at_) * k := by rw [hcs, List.length_take, List.length_drop, Array.length_toList]; omega
    have hrun := run_copy_many (P := P) w dT sT o.type elem k g ((at_ + 1) * k) (n - at_) (cap - (at_ + 1)) ⟨g, at_ * k, none⟩ (n + 1 - at_) (cap - at_) cur t cs hu hsz hg (by rw [hlen, hmin])
      (fun j v hj => by
        have hj2 : j < cs.length := (List.getElem?_eq_some_iff.1 hj).1
        rw [hcs, List.getElem?_take, if_pos (by omega), List.getElem?_drop] at hj
        have ea : (⟨g, at_ * k, none⟩ : Addr).add j = ⟨g, at_ * k + j, none⟩ := by by_cases hj0 : j = 0 <;> simp [Addr.add, hj0]
        rw [ea]
        exact (blk_cell hg _).trans (by simpa using hj)) (by omega) h1
    unfold Oper.wp
    simp [execOp, ho, resolve, invoke, builtin, hd, hs, hrun, Result.andThen]
    refine h _ _ (show _ = _ from ?_) (below_setRow hb hBg _) (fun g' hne => setRow_other w g g' _ hne)
    rw [List.append_assoc]
    exact setRow_heap w g _ _ t _ hg
  · obtain rfl : at_ = n := by omega
    have hrun := run_copy_zero (P := P) w dT sT o.type elem k dp sp (at_ - at_) (cap - (at_ + 1)) (at_ + 1 - at_) (cap - at_) hu hsz (by rw [hmin]; omega)
    have hlen : cs = [] := by rw [hcs, Nat.sub_self, Nat.zero_mul, List.take_zero]
    subst hlen
    rw [Nat.sub_self] at hd hrun
    rw [show at_ + 1 - at_ = 1 by omega] at hs hrun
    unfold Oper.wp
    simp [execOp, ho, resolve, invoke, builtin, hd, hs, hrun, Result.andThen]
    exact h _ w (show _ = _ by simpa using hg) hb (fun _ _ => rfl)

/-! ### what the cells then read as -/
/-- What the row reads as behind the copy. -/
theorem shift_cells {cur : List Value} {L : List S51} {z : S51} {p : Nat} (hp : p ≤ L.length) (ht : cur.take ((L.length + 1) * 4) = encL (L ++ [z])) (hl : (L.length + 1) * 4 ≤ cur.length)
    (cs : List Value) (hcs : cs = (cur.drop (p * 4)).take ((L.length - p) * 4)) :
    (cs = encL (L.drop p)) ∧ (cur.take ((p + 1) * 4) ++ cs ++ cur.drop ((p + 1) * 4 + cs.length)).take ((L.length + 1) * 4) = encL ((L ++ [z]).take (p + 1) ++ L.drop p) ∧ (cur.take ((p + 1) * 4) ++ cs ++ cur.drop ((p + 1) * 4 + cs.length)).length = cur.length := by
  have c0 : cs = encL (L.drop p) := by
    have e1 : (cur.drop (p * 4)).take ((L.length - p) * 4) = ((cur.take ((L.length + 1) * 4)).drop (p * 4)).take ((L.length - p) * 4) := by
      rw [List.drop_take, List.take_take]
      congr 1
      omega
    rw [hcs, e1, ht, encL_drop, encL_take, List.drop_append_of_le_length hp, List.take_append_of_le_length (by simp), List.take_of_length_le (by simp)]
  have c1 : cs.length = (L.length - p) * 4 := by rw [c0, encL_length, List.length_drop]
  have c2 : cur.take ((p + 1) * 4) = encL ((L ++ [z]).take (p + 1)) := by
    have e : cur.take ((p + 1) * 4) = (cur.take ((L.length + 1) * 4)).take ((p + 1) * 4) := by rw [List.take_take]; congr 1; omega
    rw [e, ht, encL_take]
  have c3 : (cur.take ((p + 1) * 4)).length = (p + 1) * 4 := by rw [List.length_take]; omega
  refine ⟨c0, ?_, ?_⟩
  · rw [List.take_append_of_le_length (by rw [List.length_append, c3, c1]; omega), List.take_of_length_le (by rw [List.length_append, c3, c1]; omega), c2, c0, encL_append]
  · rw [List.length_append, List.length_append, c3, c1, List.length_drop]
    omega
theorem shift_set {L : List S51} {z s : S51} {p : Nat} (hp : p ≤ L.length) : ((L ++ [z]).take (p + 1) ++ L.drop p).set p s = L.take p ++ s :: L.drop p := by
  have hl2 : ((L ++ [z]).take (p + 1)).length = p + 1 := by simp; omega
  rw [List.set_append_left _ _ (by omega)]
  have e2 : (L ++ [z]).take (p + 1) = L.take p ++ [(L ++ [z])[p]'(by simp; omega)] := by rw [List.take_succ_eq_append_getElem (by simp; omega), List.take_append_of_le_length hp]
  rw [e2, List.set_append_right _ _ (by simp; omega)]
  simp [Nat.min_eq_left hp]
/-- A row that is known as a slice value: what it reads as. -/
theorem R_C {α : Type} {d : Kd α} {e : TypeId} {w : World} {base : Nat} {ok : Nat → Prop} {A : Option Addr} {n c : Nat} {xs : List α} (h : Kd.R d e w base ok (.slice A n c) xs) : d.C w A n xs := by
  obtain ⟨A', c', e, _, hC⟩ := Kd.R_reads h
  injection e with e1 e2 e3
  rw [e1, e2]
  exact hC
theorem isort_snoc (l : List S54) (y : S54) : isortP (l ++ [y]) = insP (isortP l) y := by
  unfold isortP; rw [List.foldl_append]; rfl
theorem ins_len (y : S54) : ∀ l : List S54, (insP l y).length = l.length + 1
  | [] => rfl
  | x :: l => by
    unfold insP
    split
    · rfl
    · simp [ins_len y l]
theorem isort_len (l : List S54) : (isortP l).length = l.length := by
  have key : ∀ (l a : List S54), (l.foldl insP a).length = a.length + l.length := by
    intro l
    induction l with
    | nil => intro a; rfl
    | cons x l ih => intro a; rw [List.foldl_cons, ih, ins_len]; simp; omega
  have := key l []
  unfold isortP
  simpa using this
end Go.Proofs.Ytgmadhlebpbcpaa.P
