/- The reference's Merge, and the law MetaMerges. -/
import Derived.Test.YtnckglnnojcdmaaPuS
import Derived.Test.YtnckglnnojcdmaaPuG
import Derived.Test.YtnckglnnojcdmaaPx8
set_option linter.unusedVariables false
set_option linter.unusedSimpArgs false
namespace Go.Proofs.Ytnckglnnojcdmaa.P
open Go.RowKit Go.Proofs.YtnckglnnojcdmaaW.PrintWords Go.Proofs.YtnckglnnojcdmaaW.PrintLast

theorem find_in (key : ByteArray) (l : List S42) : findL key l 0 < 0 ↔ ¬ In key l := by
  have := find_get key l 0 (by omega)
  rw [List.drop_zero] at this
  rcases this with ⟨h1, h2⟩ | ⟨j, hj, h1, _, he, h2⟩
  · rw [h1]
    constructor
    · intro _ ⟨y, hy, e⟩
      have : ∀ (l : List S42), getL key l = (emptyS, false) → ∀ y ∈ l, ¬ y.f0 = key := by
        intro l
        induction l with
        | nil => intro _ y hy; cases hy
        | cons x l ih =>
          intro h y hy
          simp only [getL] at h
          split at h
          · injection h with _ h; cases h
          · rename_i hne
            rcases List.mem_cons.1 hy with rfl | hy
            · intro e; exact hne (by rw [e])
            · exact ih h y hy
      exact this l h2 y hy e
    · intro _; omega
  · rw [h1]
    constructor
    · intro h; omega
    · intro h; exact absurd ⟨l[j], List.getElem_mem hj, toL_inj he⟩ h
def notIn (b : List S42) (x : S42) : Bool := !(b.any fun y => y.f0.toList == x.f0.toList)
theorem notIn_iff {b : List S42} {x : S42} : notIn b x = true ↔ ¬ In x.f0 b := by
  unfold notIn In
  rw [Bool.not_eq_true', Bool.eq_false_iff, ne_eq, List.any_eq_true]
  constructor
  · intro h ⟨y, hy, e⟩; exact h ⟨y, hy, beqL_iff.2 e⟩
  · intro h ⟨y, hy, e⟩; exact h ⟨y, hy, beqL_iff.1 e⟩
theorem rm_loop (a b : List S42) (ha : a.length ≤ 64) (hb : b.length ≤ 64) (R : List S42 × Int)
    (fin : Ev (fun k => if ((b ++ a.filter (notIn b)).length : Int) > 64 then some (([] : List S42), (5 : Int)) else waveletref47_Merge.l1 k (b ++ a.filter (notIn b)) 1) R) :
    ∀ (d i : Nat), i + d = a.length → Ev (fun k => waveletref47_Merge.l0 k b (b ++ (a.take i).filter (notIn b)) a (a.length : Int) (i : Int)) R
  | 0, i, hi => by
    rw [List.take_of_length_le (by omega)]
    exact Ev.step (fun k => by simp only [waveletref47_Merge.l0]; rw [if_neg (by omega)]) fin
  | d + 1, i, hi => by
    have hlt : i < a.length := by omega
    have ih := rm_loop a b ha hb R fin d (i + 1) (by omega)
    refine Ev.step (f := fun k => (waveletref47_find.f k b a[i].f0).bind fun t220 => (if t220 < 0 then (if (b ++ (a.take i).filter (notIn b)).length < 4398046511104 then (waveletref47_Merge.l0 k b ((b ++ (a.take i).filter (notIn b)) ++ [a[i]]) a (a.length : Int) (((i + 1 : Nat) : Int))) else (none)) else (waveletref47_Merge.l0 k b (b ++ (a.take i).filter (notIn b)) a (a.length : Int) (((i + 1 : Nat) : Int))))) (fun k => by
      simp only [waveletref47_Merge.l0]; rw [if_pos (by omega), if_pos (by omega), if_pos (by omega), rd_nat a i hlt, wrap_id (by omega) (by omega)]; rfl) ?_
    refine Ev.bind (find_ev _ b (by omega)) ?_
    rw [List.take_succ_eq_append_getElem hlt, List.filter_append] at ih
    by_cases hf : findL a[i].f0 b 0 < 0
    · have hn : notIn b a[i] = true := notIn_iff.2 ((find_in _ _).1 hf)
      have hs : ([a[i]].filter (notIn b)) = [a[i]] := by simp [hn]
      rw [hs, ← List.append_assoc] at ih
      have hl : (b ++ (a.take i).filter (notIn b)).length < 4398046511104 := by
        have := List.length_filter_le (notIn b) (a.take i)
        rw [List.length_append]
        rw [List.length_take] at this
        omega
      exact Ev.congr (fun k => by rw [if_pos hf, if_pos hl]) ih
    · have hn : notIn b a[i] = false := by
        rw [Bool.eq_false_iff]; intro h; exact hf ((find_in _ _).2 (notIn_iff.1 h))
      have hs : ([a[i]].filter (notIn b)) = [] := by simp [hn]
      rw [hs, List.append_nil] at ih
      exact Ev.congr (fun k => by rw [if_neg hf]) ih
theorem set_swap (p : List S42) (y x : S42) (t : List S42) : (((p ++ [y]) ++ x :: t).set (p.length + 1) y).set p.length x = p ++ x :: y :: t := by
  induction p with
  | nil => rfl
  | cons z p ih => simp
theorem ins_loop (x : S42) (rest : List S42) (i : Nat) (hi : i < 1000) : ∀ (n : Nat) (p q : List S42), p.length = n → p.length + q.length = i → Asc (p ++ q) → (∀ z ∈ q, lessS x.f0 z.f0 = true) → (∀ z ∈ p, ¬ z.f0 = x.f0) →
    ∃ m : List S42, Asc m ∧ m.Perm (x :: (p ++ q)) ∧ ∀ R, Ev (fun k => waveletref47_Merge.l1 k (m ++ rest) ((i + 1 : Nat) : Int)) R → Ev (fun k => waveletref47_Merge.l2 k (p ++ x :: (q ++ rest)) (i : Int) (p.length : Int)) R
  | 0, p, q, hp, hq, hA, hx, hd => by
    have e : p = [] := List.length_eq_zero_iff.1 hp
    subst e
    refine ⟨x :: q, List.pairwise_cons.2 ⟨hx, hA⟩, List.Perm.refl _, fun R hR => ?_⟩
    exact Ev.step (fun k => by simp only [waveletref47_Merge.l2]; rw [if_neg (by simp), wrap_id (by omega) (by omega)]; rfl) hR
  | n + 1, p, q, hp, hq, hA, hx, hd => by
    rcases List.eq_nil_or_concat p with rfl | ⟨p', y, hpc⟩
    · cases hp
    · rw [List.concat_eq_append] at hpc
      subst hpc
      have hpl : (p' ++ [y]).length = p'.length + 1 := by simp
      have hL : ((p' ++ [y]) ++ x :: (q ++ rest)).length = p'.length + 1 + (q.length + rest.length + 1) := by simp; omega
      have hw : wrap64 (((p' ++ [y]).length : Int) - 1) = (p'.length : Int) := by rw [wrap_id (by omega) (by omega)]; omega
      have r1 : rd_T42 ((p' ++ [y]) ++ x :: (q ++ rest)) ((p' ++ [y]).length : Int) = x := by
        rw [rd_nat _ _ (by omega)]; simp
      have r2 : rd_T42 ((p' ++ [y]) ++ x :: (q ++ rest)) (p'.length : Int) = y := by
        rw [rd_nat _ _ (by omega)]; simp
      have hst : ∀ k, waveletref47_Merge.l2 (k + 1) ((p' ++ [y]) ++ x :: (q ++ rest)) (i : Int) ((p' ++ [y]).length : Int) = if (Op.bytesLess x.f0.toList y.f0.toList) = true then waveletref47_Merge.l2 k (p' ++ x :: ((y :: q) ++ rest)) (i : Int) (p'.length : Int) else waveletref47_Merge.l1 k ((p' ++ [y]) ++ x :: (q ++ rest)) ((i + 1 : Nat) : Int) := fun k => by
        simp only [waveletref47_Merge.l2]
        rw [if_pos (by omega), if_pos (by omega), if_pos (by omega), hw, if_pos (by omega), if_pos (by omega), r1, r2, wrap_id (by omega) (by omega)]
        have es : ((((p' ++ [y]) ++ x :: (q ++ rest)).set ((p' ++ [y]).length : Int).toNat ⟨y.f0, y.f1⟩).set (p'.length : Int).toNat ⟨x.f0, x.f1⟩) = p' ++ x :: ((y :: q) ++ rest) := by
          rw [Int.toNat_natCast, Int.toNat_natCast, hpl]; exact set_swap p' y x (q ++ rest)
        rw [es]
        rfl
      have hA2 : Asc (p' ++ y :: q) := by rw [List.append_assoc] at hA; exact hA
      by_cases hl : lessS x.f0 y.f0 = true
      · obtain ⟨m, m1, m2, m3⟩ := ins_loop x rest i hi n p' (y :: q) (by omega) (by simp; omega) hA2 (fun z hz => by
          rcases List.mem_cons.1 hz with rfl | hz
          · exact hl
          · exact hx z hz) (fun z hz => hd z (List.mem_append_left _ hz))
        refine ⟨m, m1, ?_, fun R hR => Ev.step (f := fun k => waveletref47_Merge.l2 k (p' ++ x :: ((y :: q) ++ rest)) (i : Int) (p'.length : Int)) (fun k => (hst k).trans (if_pos hl)) (m3 R hR)⟩
        rw [List.append_assoc]; exact m2
      · have hyx : lessS y.f0 x.f0 = true := by
          by_cases h : lessS y.f0 x.f0 = true
          · exact h
          · exact absurd (lessS_tri h hl) (hd y (by simp))
        refine ⟨(p' ++ [y]) ++ x :: q, ?_, List.perm_middle, fun R hR => Ev.step (f := fun k => waveletref47_Merge.l1 k ((p' ++ [y]) ++ x :: (q ++ rest)) ((i + 1 : Nat) : Int)) (fun k => (hst k).trans (if_neg hl)) (by
          have e : (p' ++ [y]) ++ x :: (q ++ rest) = ((p' ++ [y]) ++ x :: q) ++ rest := by simp
          rw [e]; exact hR)⟩
        unfold Asc at hA ⊢
        rw [List.pairwise_append] at hA ⊢
        refine ⟨hA.1, List.pairwise_cons.2 ⟨hx, hA.2.1⟩, fun z hz w hw => ?_⟩
        have hzx : lessS z.f0 x.f0 = true := by
          rcases List.mem_append.1 hz with h | h
          · have := (List.pairwise_append.1 hA.1).2.2 z h y (by simp)
            exact lessS_trans this hyx
          · rw [List.mem_singleton.1 h]; exact hyx
        rcases List.mem_cons.1 hw with rfl | hw
        · exact hzx
        · exact hA.2.2 z hz w hw
def Dif (l : List S42) : Prop := l.Pairwise fun x y => ¬ x.f0 = y.f0
theorem dif_perm {l m : List S42} (h : Dif l) (p : l.Perm m) : Dif m := List.Pairwise.perm h p (fun h e => h e.symm)
theorem sort_loop : ∀ (rest p : List S42), p.length + rest.length < 1000 → Asc p → Dif (p ++ rest) → ∃ m : List S42, Asc m ∧ m.Perm (p ++ rest) ∧ Ev (fun k => waveletref47_Merge.l1 k (p ++ rest) (p.length : Int)) (m, 0)
  | [], p, hl, hA, hD => ⟨p, hA, by simp, Ev.step (fun k => by simp only [waveletref47_Merge.l1]; rw [if_neg (by simp)]; simp) (Ev.now _)⟩
  | x :: rest, p, hl, hA, hD => by
    have hd : ∀ z ∈ p, ¬ z.f0 = x.f0 := fun z hz => (List.pairwise_append.1 hD).2.2 z hz x List.mem_cons_self
    rw [List.length_cons] at hl
    obtain ⟨m, m1, m2, m3⟩ := ins_loop x rest p.length (by omega) p.length p [] rfl (by simp) (by rw [List.append_nil]; exact hA) (by simp) hd
    rw [List.append_nil] at m2
    have hml : m.length = p.length + 1 := by rw [m2.length_eq]; simp
    have hpm : (p ++ x :: rest).Perm (m ++ rest) := by
      refine List.Perm.trans List.perm_middle ?_
      exact (List.Perm.append_right rest m2).symm
    obtain ⟨r, h1, h2, h3⟩ := sort_loop rest m (by omega) m1 (dif_perm hD hpm)
    rw [hml] at h3
    refine ⟨r, h1, h2.trans hpm.symm, ?_⟩
    exact Ev.step (fun k => by simp only [waveletref47_Merge.l1]; rw [if_pos (by simp; omega)]; rfl) (m3 _ h3)
theorem sort_ev (l : List S42) (hl : l.length < 1000) (hD : Dif l) : ∃ m : List S42, Asc m ∧ m.Perm l ∧ Ev (fun k => waveletref47_Merge.l1 k l 1) (m, 0) := by
  cases l with
  | nil => exact ⟨[], by simp [Asc], List.Perm.refl _, Ev.step (fun k => by simp only [waveletref47_Merge.l1]; rw [if_neg (by simp)]) (Ev.now _)⟩
  | cons x l => exact sort_loop l [x] (by simpa [Nat.add_comm] using hl) (by simp [Asc]) hD
/-! ### the count of keys -/
theorem cnt_asc : ∀ (l seen : List S42), Asc l → cntL seen l = (l.filter (notIn seen)).length
  | [], _, _ => rfl
  | x :: l, seen, h => by
    have e : (l.filter (notIn (x :: seen))) = l.filter (notIn seen) := by
      refine List.filter_congr fun z hz => ?_
      unfold notIn
      rw [List.any_cons, show (x.f0.toList == z.f0.toList) = false from by
        rw [Bool.eq_false_iff]; intro e; have := asc_head h z hz; rw [beqL_iff.1 e] at this; exact lessS_irrefl _ this, Bool.false_or]
    simp only [cntL]
    rw [cnt_asc l (x :: seen) (asc_tail h), e, List.filter_cons]
    by_cases hx : (seen.any fun y => y.f0.toList == x.f0.toList) = true
    · rw [if_pos hx, if_neg (by unfold notIn; rw [hx]; simp)]; omega
    · rw [if_neg hx, if_pos (by unfold notIn; rw [Bool.eq_false_iff.2 hx]; simp)]; simp; omega
theorem cnt_append : ∀ (a b seen : List S42), cntL seen (a ++ b) = cntL seen a + cntL (a.reverse ++ seen) b
  | [], b, seen => by simp [cntL]
  | x :: a, b, seen => by
    simp only [List.cons_append, cntL]
    rw [cnt_append a b (x :: seen)]
    simp; omega
theorem filter_split (f : S42 → Bool) : ∀ (l : List S42), l.length = (l.filter f).length + (l.filter fun x => !f x).length
  | [] => rfl
  | x :: l => by
    have := filter_split f l
    cases hf : f x <;> simp [hf] <;> omega
theorem keys_same {a b : List S42} (ha : Asc a) (hb : Asc b) : (a.filter fun x => !notIn b x).length = (b.filter fun x => !notIn a x).length := by
  have key : ∀ {a b : List S42}, Asc a → Asc b → ((a.filter fun x => !notIn b x).map (·.f0)).Pairwise (fun x y => lessS x y = true) := fun ha _ => by
    rw [List.pairwise_map]
    exact List.Pairwise.sublist List.filter_sublist ha
  have mem : ∀ {a b : List S42} (s : ByteArray), s ∈ ((a.filter fun x => !notIn b x).map (·.f0)) ↔ In s a ∧ In s b := fun {a b} s => by
    rw [List.mem_map]
    constructor
    · rintro ⟨x, hx, rfl⟩
      rw [List.mem_filter] at hx
      refine ⟨⟨x, hx.1, rfl⟩, ?_⟩
      have h2 := hx.2
      by_cases h : In x.f0 b
      · exact h
      · rw [notIn_iff.2 h] at h2; cases h2
    · rintro ⟨⟨x, hx, rfl⟩, h⟩
      refine ⟨x, List.mem_filter.2 ⟨hx, ?_⟩, rfl⟩
      cases hn : notIn b x
      · rfl
      · exact absurd h (notIn_iff.1 hn)
  have e := ext_asc (fun _ _ h => lessS_asymm h) _ _ (key ha hb) (key hb ha) (fun s => by rw [mem, mem]; exact And.comm)
  have := congrArg List.length e
  simpa using this
theorem cnt_eq {a b : List S42} (ha : Asc a) (hb : Asc b) : cntL [] (a ++ b) = (b ++ a.filter (notIn b)).length := by
  rw [cnt_append, cnt_asc a [] ha, cnt_asc b _ hb, List.append_nil, List.length_append]
  have e1 : a.filter (notIn []) = a := List.filter_eq_self.2 fun x _ => rfl
  have e2 : b.filter (notIn a.reverse) = b.filter (notIn a) := List.filter_congr fun x _ => by unfold notIn; rw [List.any_reverse]
  rw [e1, e2]
  have h1 := filter_split (notIn b) a
  have h2 := filter_split (notIn a) b
  have h3 := keys_same ha hb
  omega
theorem asc_dif {l : List S42} (h : Asc l) : Dif l := List.Pairwise.imp (fun h e => by rw [e] at h; exact lessS_irrefl _ h) h
theorem out_dif {a b : List S42} (ha : Asc a) (hb : Asc b) : Dif (b ++ a.filter (notIn b)) := by
  unfold Dif
  rw [List.pairwise_append]
  refine ⟨asc_dif hb, List.Pairwise.sublist List.filter_sublist (asc_dif ha), fun x hx y hy e => ?_⟩
  exact (notIn_iff.1 (List.mem_filter.1 hy).2) ⟨x, hx, e⟩
theorem out_merge {a b m : List S42} (ha : Asc a) (hb : Asc b) (hm : Asc m) (hp : m.Perm (b ++ a.filter (notIn b))) : m = mergeA a b := by
  refine asc_ext hm (mergeA_asc ha hb) fun x => ?_
  rw [hp.mem_iff, mergeA_mem ha hb, List.mem_append, List.mem_filter, notIn_iff]
theorem rmerge_ev (a b : List S42) : Ev (fun k => waveletref47_Merge.f k a b) (mergeP a b) := by
  refine Ev.congr (fun k => by simp only [waveletref47_Merge.f]; rfl) ?_
  refine Ev.bind (rchk a) ?_
  unfold mergeP
  by_cases ha : checkP a = 0
  · rw [if_pos ha]
    refine Ev.congr (fun k => by rw [if_pos ha]) ?_
    refine Ev.bind (rchk b) ?_
    by_cases hb : checkP b = 0
    · rw [if_pos hb]
      obtain ⟨la, va, Aa⟩ := (checkP_iff a).1 ha
      obtain ⟨lb, vb, Ab⟩ := (checkP_iff b).1 hb
      rw [cnt_eq Aa Ab]
      have hlf := List.length_filter_le (notIn b) a
      have hlen : (b ++ a.filter (notIn b)).length = b.length + (a.filter (notIn b)).length := List.length_append
      refine Ev.congr (f := fun k => waveletref47_Merge.l0 k b b a (a.length : Int) 0) (fun k => by rw [if_pos hb]; simp only [Option.bind_some, List.nil_append, List.length_nil, Nat.zero_add]; rw [if_pos (by omega)]) ?_
      have main := fun R fin => rm_loop a b la lb R fin a.length 0 (by omega)
      simp only [List.take_zero, List.filter_nil, List.append_nil] at main
      by_cases hc : 64 < (b ++ a.filter (notIn b)).length
      · rw [if_pos hc]
        exact main _ (Ev.congr (fun k => by rw [if_pos (by omega)]) (Ev.now _))
      · rw [if_neg hc]
        obtain ⟨m, h1, h2, h3⟩ := sort_ev _ (by omega) (out_dif Aa Ab)
        have e := out_merge Aa Ab h1 h2
        rw [e] at h3
        exact main _ (Ev.congr (fun k => by rw [if_neg (by omega)]) h3)
    · rw [if_neg hb]
      exact Ev.congr (fun k => by rw [if_neg hb]) (Ev.now _)
  · rw [if_neg ha]
    exact Ev.congr (fun k => by rw [if_neg ha]) (Ev.now _)
end Go.Proofs.Ytnckglnnojcdmaa.P
