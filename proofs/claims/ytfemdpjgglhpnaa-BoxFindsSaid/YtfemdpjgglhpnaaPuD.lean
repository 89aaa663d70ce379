/- What the program's reader and Parse answer, in plain terms. -/
import Derived.Test.YtfemdpjgglhpnaaPuC
import Derived.Test.YtfemdpjgglhpnaaPrs
import Derived.Laws.BitsLemmas
set_option linter.unusedVariables false
set_option linter.unusedSimpArgs false
namespace Go.Proofs.Ytfemdpjgglhpnaa.P
open Go.RowKit Go.Proofs.YtfemdpjgglhpnaaW.PrintWords

def Byt (l : List Int) : Prop := ∀ z ∈ l, 0 ≤ z ∧ z < 256
theorem Byt.take {l : List Int} (h : Byt l) (n : Nat) : Byt (l.take n) := fun z hz => h z (List.mem_of_mem_take hz)
theorem Byt.drop {l : List Int} (h : Byt l) (n : Nat) : Byt (l.drop n) := fun z hz => h z (List.mem_of_mem_drop hz)
theorem Byt.at_ {l : List Int} (h : Byt l) (i : Int) : 0 ≤ rd l i ∧ rd l i < 256 := by
  unfold rd
  rw [List.getD_eq_getElem?_getD]
  cases e : l[i.toNat]? with
  | none => simp
  | some z => exact h z (List.mem_of_getElem? e)
/-- The number that the first four bytes tell. -/
def be4v (b : List Int) : Int := rd b 0 * 16777216 + rd b 1 * 65536 + rd b 2 * 256 + rd b 3
def kindP (b : List Int) : ByteArray := strOfNums ((b.take 8).drop 4)
theorem be4v_bd {b : List Int} (h : Byt b) : 0 ≤ be4v b ∧ be4v b < 4294967296 := by
  have h0 := h.at_ 0
  have h1 := h.at_ 1
  have h2 := h.at_ 2
  have h3 := h.at_ 3
  unfold be4v
  omega
theorem be4v_bits {b : List Int} (h : Byt b) : Go.bits .or .i64 (Go.bits .or .i64 (Go.bits .or .i64 (wrap64 ((wrap64 (rd b 0)) * 16777216)) (wrap64 ((wrap64 (rd b 1)) * 65536))) (wrap64 ((wrap64 (rd b 2)) * 256))) (wrap64 (rd b 3)) = be4v b := by
  have h0 := h.at_ 0
  have h1 := h.at_ 1
  have h2 := h.at_ 2
  have h3 := h.at_ 3
  unfold be4v
  generalize rd b 0 = a0 at *
  generalize rd b 1 = a1 at *
  generalize rd b 2 = a2 at *
  generalize rd b 3 = a3 at *
  have w0 : wrap64 (wrap64 a0 * 16777216) = a0 * 16777216 := by
    rw [show wrap64 a0 = a0 from wrap64_id (by omega) (by omega)]; exact wrap64_id (by omega) (by omega)
  have w1 : wrap64 (wrap64 a1 * 65536) = a1 * 65536 := by
    rw [show wrap64 a1 = a1 from wrap64_id (by omega) (by omega)]; exact wrap64_id (by omega) (by omega)
  have w2 : wrap64 (wrap64 a2 * 256) = a2 * 256 := by
    rw [show wrap64 a2 = a2 from wrap64_id (by omega) (by omega)]; exact wrap64_id (by omega) (by omega)
  have w3 : wrap64 a3 = a3 := wrap64_id (by omega) (by omega)
  rw [w0, w1, w2, w3]
  clear w0 w1 w2 w3
  have j1 : Go.bits .or .i64 (a0 * 16777216) (a1 * 65536) = a0 * 16777216 + a1 * 65536 := by
    have := bits_join .i64 62 (by decide) (fun n h0 h1 => by rw [IntKind.wrap_i64]; omega) 24 (a0 * 16777216) (a1 * 65536) (by omega) (by omega) (by omega) (by omega) (by omega) (by omega)
    exact this
  have j2 : Go.bits .or .i64 (a0 * 16777216 + a1 * 65536) (a2 * 256) = a0 * 16777216 + a1 * 65536 + a2 * 256 := by
    have := bits_join .i64 62 (by decide) (fun n h0 h1 => by rw [IntKind.wrap_i64]; omega) 16 (a0 * 16777216 + a1 * 65536) (a2 * 256) (by omega) (by omega) (by omega) (by omega) (by omega) (by omega)
    exact this
  have j3 : Go.bits .or .i64 (a0 * 16777216 + a1 * 65536 + a2 * 256) a3 = a0 * 16777216 + a1 * 65536 + a2 * 256 + a3 := by
    have := bits_join .i64 62 (by decide) (fun n h0 h1 => by rw [IntKind.wrap_i64]; omega) 8 (a0 * 16777216 + a1 * 65536 + a2 * 256) a3 (by omega) (by omega) (by omega) (by omega) (by omega) (by omega)
    exact this
  rw [j1, j2, j3]

/-- What the reader finds in bytes: the list, an error, how many boxes have begun. -/
def prsP : Nat → List Int → Bool → Nat → Option (List S37 × Int × Nat)
  | 0, _, _, _ => none
  | f + 1, b, inner, n =>
    if b.length = 0 then some ([], 0, n)
    else if b.length < 8 then some ([], 7, n)
    else if (decide (be4v b < 8) || !knownP (kindP b) || (inner && superP (kindP b))) = true then some ([], 20, n)
    else if (b.length : Int) < be4v b then some ([], 7, n)
    else if 256 < n + 1 then some ([], 5, n + 1)
    else if superP (kindP b) = true then
      (prsP f ((b.take (be4v b).toNat).drop 8) true (n + 1)).bind fun x =>
        if x.2.1 = 0 then (prsP f (b.drop (be4v b).toNat) inner x.2.2).map fun y => if y.2.1 = 0 then (⟨kindP b, [], x.1⟩ :: y.1, 0, y.2.2) else ([], y.2.1, y.2.2)
        else some ([], x.2.1, x.2.2)
    else (prsP f (b.drop (be4v b).toNat) inner (n + 1)).map fun y => if y.2.1 = 0 then (⟨kindP b, (b.take (be4v b).toNat).drop 8, []⟩ :: y.1, 0, y.2.2) else ([], y.2.1, y.2.2)
/-- There are rounds enough. -/
theorem prsP_some : ∀ (f : Nat) (b : List Int) (inner : Bool) (n : Nat), Byt b → b.length < f → n ≤ 256 → ∃ r, prsP f b inner n = some r ∧ (r.2.1 = 0 → r.2.2 ≤ 256) ∧ (r.2.1 ≠ 0 → r.1 = []) := by
  intro f
  induction f with
  | zero => intro b inner n _ h; omega
  | succ f ih =>
    intro b inner n hB h hn
    rw [prsP]
    have hb := be4v_bd hB
    split
    · exact ⟨_, rfl, fun _ => hn, fun h => absurd rfl h⟩
    split
    · exact ⟨_, rfl, fun h => by simp at h, fun _ => rfl⟩
    split
    · exact ⟨_, rfl, fun h => by simp at h, fun _ => rfl⟩
    rename_i h1 h2 h3
    have h8 : 8 ≤ be4v b := by
      simp only [Bool.or_eq_true, decide_eq_true_eq, not_or] at h3
      have := h3.1.1
      omega
    split
    · exact ⟨_, rfl, fun h => by simp at h, fun _ => rfl⟩
    split
    · exact ⟨_, rfl, fun h => by simp at h, fun _ => rfl⟩
    rename_i h4 h5
    split
    · obtain ⟨x, hx, hx2, hx3⟩ := ih ((b.take (be4v b).toNat).drop 8) true (n + 1) ((hB.take _).drop _) (by rw [List.length_drop, List.length_take]; omega) (by omega)
      rw [hx, Option.bind_some]
      split
      · rename_i h6
        obtain ⟨y, hy, hy2, hy3⟩ := ih (b.drop (be4v b).toNat) inner x.2.2 (hB.drop _) (by rw [List.length_drop]; omega) (hx2 h6)
        rw [hy, Option.map_some]
        refine ⟨_, rfl, ?_⟩
        split
        · rename_i h7
          exact ⟨fun _ => hy2 h7, fun h => absurd rfl h⟩
        · exact ⟨fun h => absurd h ‹_›, fun _ => rfl⟩
      · rename_i h6
        exact ⟨_, rfl, fun h => absurd h h6, fun _ => rfl⟩
    · obtain ⟨y, hy, hy2, hy3⟩ := ih (b.drop (be4v b).toNat) inner (n + 1) (hB.drop _) (by rw [List.length_drop]; omega) (by omega)
      rw [hy, Option.map_some]
      refine ⟨_, rfl, ?_⟩
      split
      · rename_i h7
        exact ⟨fun _ => hy2 h7, fun h => absurd rfl h⟩
      · exact ⟨fun h => absurd h ‹_›, fun _ => rfl⟩

theorem prsP_facts : ∀ (f : Nat) (b : List Int) (inner : Bool) (n : Nat) (r : List S37 × Int × Nat), n ≤ 256 → prsP f b inner n = some r → (r.2.1 = 0 → r.2.2 ≤ 256 ∧ n ≤ r.2.2) ∧ (r.2.1 ≠ 0 → r.1 = []) := by
  intro f
  induction f with
  | zero => intro b inner n r _ h; cases h
  | succ f ih =>
    intro b inner n r hn h
    rw [prsP] at h
    split at h
    · obtain rfl := Option.some.inj h
      exact ⟨fun _ => ⟨hn, Nat.le_refl _⟩, fun h => absurd rfl h⟩
    split at h
    · obtain rfl := Option.some.inj h
      exact ⟨fun h => by simp at h, fun _ => rfl⟩
    split at h
    · obtain rfl := Option.some.inj h
      exact ⟨fun h => by simp at h, fun _ => rfl⟩
    split at h
    · obtain rfl := Option.some.inj h
      exact ⟨fun h => by simp at h, fun _ => rfl⟩
    split at h
    · obtain rfl := Option.some.inj h
      exact ⟨fun h => by simp at h, fun _ => rfl⟩
    rename_i h5
    split at h
    · obtain ⟨x, hx, h⟩ := Option.bind_eq_some_iff.1 h
      have hx2 := ih _ _ _ x (by omega) hx
      split at h
      · rename_i h6
        obtain ⟨y, hy, rfl⟩ := Option.map_eq_some_iff.1 h
        have hy2 := ih _ _ _ y (hx2.1 h6).1 hy
        split
        · rename_i h7
          exact ⟨fun _ => ⟨(hy2.1 h7).1, by have := (hy2.1 h7).2; have := (hx2.1 h6).2; show n ≤ y.2.2; omega⟩, fun h => absurd rfl h⟩
        · exact ⟨fun h => absurd h ‹_›, fun _ => rfl⟩
      · rename_i h6
        obtain rfl := Option.some.inj h
        exact ⟨fun h => absurd h h6, fun _ => rfl⟩
    · obtain ⟨y, hy, rfl⟩ := Option.map_eq_some_iff.1 h
      have hy2 := ih _ _ _ y (by omega) hy
      split
      · rename_i h7
        exact ⟨fun _ => ⟨(hy2.1 h7).1, by have := (hy2.1 h7).2; show n ≤ y.2.2; omega⟩, fun h => absurd rfl h⟩
      · exact ⟨fun h => absurd h ‹_›, fun _ => rfl⟩

/-- The printed reader, in one piece. -/
def stepF (k : Nat) (b : List Int) (inner : Bool) (acc : List S37) (n : Nat) : Option (List S37 × Int × Int) :=
  if b.length = 0 then some (acc, 0, n)
  else if b.length < 8 then some ([], 7, n)
  else if (decide (be4v b < 8) || !knownP (kindP b) || (inner && superP (kindP b))) = true then some ([], 20, n)
  else if (b.length : Int) < be4v b then some ([], 7, n)
  else if 256 < n + 1 then some ([], 5, ((n + 1 : Nat) : Int))
  else if superP (kindP b) = true then
    (box_reader_list.f k ((n + 1 : Nat) : Int) ((b.take (be4v b).toNat).drop 8) true).bind fun x =>
      if x.2.1 = 0 then box_reader_list.l0 k (b.drop (be4v b).toNat) inner (acc ++ [⟨kindP b, [], x.1⟩]) x.2.2 else some ([], x.2.1, x.2.2)
  else box_reader_list.l0 k (b.drop (be4v b).toNat) inner (acc ++ [⟨kindP b, (b.take (be4v b).toNat).drop 8, []⟩]) ((n + 1 : Nat) : Int)
theorem list_flag (k : Nat) (b : List Int) (inner : Bool) (acc : List S37) (n : Int) (hB : Byt b) (h8 : ¬ (b.length : Int) < 8) :
    box_reader_list.l0 (k + 1) b inner acc n = box_reader_list.j1 k b inner acc (be4v b) (decide (be4v b < 8) || !knownP (kindP b) || (inner && superP (kindP b))) n (kindP b) := by
  have e : strOfNums ((b.take 8).drop 4) = kindP b := rfl
  rw [box_reader_list.l0, if_pos (by omega), if_neg h8, if_pos (by omega), if_pos (by omega), if_pos (by omega), if_pos (by omega), if_pos (by omega), if_pos (by omega), Option.bind_some, be4v_bits hB, e, known_f, Option.bind_some, super_f]
  by_cases h : be4v b < 8
  · rw [if_pos h, decide_eq_true h]; rfl
  · rw [if_neg h, decide_eq_false h]
    cases knownP (kindP b) with
    | false => rfl
    | true =>
      cases inner with
      | false => rfl
      | true => cases superP (kindP b) <;> rfl
theorem list_step (k : Nat) (b : List Int) (inner : Bool) (acc : List S37) (n : Nat) (hB : Byt b) (hb : b.length ≤ 100000000) (ha : acc.length ≤ 100000000) (hn : n ≤ 1000) :
    box_reader_list.l0 (k + 2) b inner acc (n : Int) = stepF k b inner acc n := by
  unfold stepF
  by_cases h0 : b.length = 0
  · rw [if_pos h0, box_reader_list.l0, if_neg (by omega)]
  rw [if_neg h0]
  by_cases h8 : b.length < 8
  · rw [if_pos h8, box_reader_list.l0, if_pos (by omega), if_pos (by omega)]
  rw [if_neg h8, list_flag (k + 1) b inner acc n hB (by omega)]
  have hbv := be4v_bd hB
  rw [box_reader_list.j1]
  by_cases hf : (decide (be4v b < 8) || !knownP (kindP b) || (inner && superP (kindP b))) = true
  · rw [if_pos hf, if_pos hf]
  rw [if_neg hf, if_neg hf]
  have h8v : 8 ≤ be4v b := by
    simp only [Bool.or_eq_true, decide_eq_true_eq, not_or] at hf
    have := hf.1.1
    omega
  by_cases hl : (b.length : Int) < be4v b
  · rw [if_pos hl, if_pos hl]
  rw [if_neg hl, if_neg hl, nat_succ n (by omega)]
  by_cases hc : 256 < n + 1
  · rw [if_pos hc, if_pos (by omega)]
  rw [if_neg hc, if_neg (by omega), super_f, Option.bind_some]
  by_cases hs : superP (kindP b) = true
  · rw [if_pos hs, if_pos hs, if_pos h8v, if_pos (by omega)]
    congr 1
    funext x
    by_cases he : x.2.1 = 0
    · rw [if_pos he, if_pos he, if_pos (by omega), if_pos (by omega)]
    · rw [if_neg he, if_neg he]
  · have hd : (([] : List Int) : List Int).length + ((b.take (be4v b).toNat).drop 8).length < 140737488355328 := by rw [List.length_nil, List.length_drop, List.length_take]; omega
    rw [if_neg hs, if_neg hs, if_pos h8v, if_pos (by omega), Option.bind_some, if_pos hd, if_pos (by omega), if_pos (by omega), List.nil_append]

/-- What the loop answers, from a list on. -/
def accP (acc : List S37) (r : List S37 × Int × Nat) : List S37 × Int × Int := if r.2.1 = 0 then (acc ++ r.1, 0, (r.2.2 : Int)) else ([], r.2.1, (r.2.2 : Int))
theorem list_ev (f : Nat) : ∀ (b : List Int) (inner : Bool) (acc : List S37) (n : Nat) (r : List S37 × Int × Nat), Byt b → b.length ≤ 100000000 → acc.length + b.length ≤ 100000000 → n ≤ 256 → prsP f b inner n = some r →
    Ev (fun k => box_reader_list.l0 k b inner acc (n : Int)) (accP acc r) := by
  induction f with
  | zero => intro b inner acc n r _ _ _ _ h; cases h
  | succ f ih =>
    intro b inner acc n r hB hb ha hn h
    rw [prsP] at h
    refine Ev.succ (Ev.succ ?_)
    refine Ev.congr (fun k => list_step k b inner acc n hB hb (by omega) (by omega)) ?_
    unfold stepF
    have hbv := be4v_bd hB
    by_cases h0 : b.length = 0
    · rw [if_pos h0] at h
      obtain rfl := Option.some.inj h
      rw [show accP acc ([], 0, n) = (acc, 0, (n : Int)) by unfold accP; rw [if_pos rfl, List.append_nil]]
      exact Ev.congr (fun k => by rw [if_pos h0]) (Ev.now _)
    rw [if_neg h0] at h
    by_cases h8 : b.length < 8
    · rw [if_pos h8] at h
      obtain rfl := Option.some.inj h
      exact Ev.congr (f := fun _ => some ([], 7, (n : Int))) (fun k => by rw [if_neg h0, if_pos h8]) (Ev.now _)
    rw [if_neg h8] at h
    by_cases hf : (decide (be4v b < 8) || !knownP (kindP b) || (inner && superP (kindP b))) = true
    · rw [if_pos hf] at h
      obtain rfl := Option.some.inj h
      exact Ev.congr (f := fun _ => some ([], 20, (n : Int))) (fun k => by rw [if_neg h0, if_neg h8, if_pos hf]) (Ev.now _)
    rw [if_neg hf] at h
    have h8v : 8 ≤ be4v b := by
      simp only [Bool.or_eq_true, decide_eq_true_eq, not_or] at hf
      have := hf.1.1
      omega
    by_cases hl : (b.length : Int) < be4v b
    · rw [if_pos hl] at h
      obtain rfl := Option.some.inj h
      exact Ev.congr (f := fun _ => some ([], 7, (n : Int))) (fun k => by rw [if_neg h0, if_neg h8, if_neg hf, if_pos hl]) (Ev.now _)
    rw [if_neg hl] at h
    by_cases hc : 256 < n + 1
    · rw [if_pos hc] at h
      obtain rfl := Option.some.inj h
      exact Ev.congr (f := fun _ => some ([], 5, ((n + 1 : Nat) : Int))) (fun k => by rw [if_neg h0, if_neg h8, if_neg hf, if_neg hl, if_pos hc]) (Ev.now _)
    rw [if_neg hc] at h
    have hlen : (b.drop (be4v b).toNat).length + 8 ≤ b.length := by rw [List.length_drop]; omega
    by_cases hs : superP (kindP b) = true
    · rw [if_pos hs] at h
      obtain ⟨x, hx, h⟩ := Option.bind_eq_some_iff.1 h
      have hxp := prsP_facts f _ _ _ x (by omega) hx
      have hx0 := ih ((b.take (be4v b).toNat).drop 8) true [] (n + 1) x ((hB.take _).drop _) (by rw [List.length_drop, List.length_take]; omega) (by rw [List.length_nil, List.length_drop, List.length_take]; omega) (by omega) hx
      have hxf : Ev (fun k => box_reader_list.f k ((n + 1 : Nat) : Int) ((b.take (be4v b).toNat).drop 8) true) (accP [] x) := Ev.step (fun k => by rw [box_reader_list.f]) hx0
      refine Ev.congr (fun k => by rw [if_neg h0, if_neg h8, if_neg hf, if_neg hl, if_neg hc, if_pos hs]) (Ev.bind hxf ?_)
      by_cases he : x.2.1 = 0
      · rw [if_pos he] at h
        obtain ⟨y, hy, rfl⟩ := Option.map_eq_some_iff.1 h
        have hyp := prsP_facts f _ _ _ y (hxp.1 he).1 hy
        have hy0 := ih (b.drop (be4v b).toNat) inner (acc ++ [⟨kindP b, [], x.1⟩]) x.2.2 y (hB.drop _) (by omega) (by rw [List.length_append, List.length_singleton]; omega) (hxp.1 he).1 hy
        have e1 : accP [] x = (x.1, 0, (x.2.2 : Int)) := by unfold accP; rw [if_pos he, List.nil_append]
        have e2 : accP acc (if y.2.1 = 0 then (⟨kindP b, [], x.1⟩ :: y.1, 0, y.2.2) else ([], y.2.1, y.2.2)) = accP (acc ++ [⟨kindP b, [], x.1⟩]) y := by
          unfold accP
          by_cases hy1 : y.2.1 = 0
          · rw [if_pos hy1, if_pos rfl, if_pos hy1, List.append_assoc]; rfl
          · rw [if_neg hy1, if_neg hy1, if_neg hy1]
        rw [e2]
        exact Ev.congr (fun k => by rw [e1, if_pos rfl]) hy0
      · rw [if_neg he] at h
        obtain rfl := Option.some.inj h
        have e1 : accP [] x = ([], x.2.1, (x.2.2 : Int)) := by unfold accP; rw [if_neg he]
        have e2 : accP acc (([], x.2.1, x.2.2) : List S37 × Int × Nat) = ([], x.2.1, (x.2.2 : Int)) := by unfold accP; rw [if_neg he]
        rw [e2]
        exact Ev.congr (f := fun _ => some ([], x.2.1, (x.2.2 : Int))) (fun k => by rw [e1, if_neg he]) (Ev.now _)
    · rw [if_neg hs] at h
      obtain ⟨y, hy, rfl⟩ := Option.map_eq_some_iff.1 h
      have hy0 := ih (b.drop (be4v b).toNat) inner (acc ++ [⟨kindP b, (b.take (be4v b).toNat).drop 8, []⟩]) (n + 1) y (hB.drop _) (by omega) (by rw [List.length_append, List.length_singleton]; omega) (by omega) hy
      have e2 : accP acc (if y.2.1 = 0 then (⟨kindP b, (b.take (be4v b).toNat).drop 8, []⟩ :: y.1, 0, y.2.2) else ([], y.2.1, y.2.2)) = accP (acc ++ [⟨kindP b, (b.take (be4v b).toNat).drop 8, []⟩]) y := by
        unfold accP
        by_cases hy1 : y.2.1 = 0
        · rw [if_pos hy1, if_pos rfl, if_pos hy1, List.append_assoc]; rfl
        · rw [if_neg hy1, if_neg hy1, if_neg hy1]
      rw [e2]
      exact Ev.congr (fun k => by rw [if_neg h0, if_neg h8, if_neg hf, if_neg hl, if_neg hc, if_neg hs]) hy0

/-- What Parse answers. -/
def parseP (b : List Int) : List S37 × Int := match prsP (b.length + 1) b false 0 with
  | none => ([], 0)
  | some r => (r.1, r.2.1)
theorem parse_ev (b : List Int) (hB : Byt b) (hb : b.length ≤ 1000000) : Ev (fun k => box_Parse.f k b) (parseP b) := by
  obtain ⟨r, hr, h1, h2⟩ := prsP_some (b.length + 1) b false 0 hB (by omega) (by omega)
  have h := list_ev (b.length + 1) b false [] 0 r hB (by omega) (by rw [List.length_nil]; omega) (by omega) hr
  have hf : Ev (fun k => box_reader_list.f k 0 b false) (accP [] r) := Ev.step (fun k => by rw [box_reader_list.f]; rfl) h
  have e : parseP b = (r.1, r.2.1) := by unfold parseP; rw [hr]
  unfold box_Parse.f
  rw [e]
  refine Ev.congr (fun k => by rw [if_neg (by omega)]) (Ev.bind hf ?_)
  have e2 : ((accP [] r).1, (accP [] r).2.1) = (r.1, r.2.1) := by
    unfold accP
    by_cases he : r.2.1 = 0
    · rw [if_pos he, he]; rfl
    · rw [if_neg he, h2 he]
  rw [← e2]
  exact Ev.now _
end Go.Proofs.Ytfemdpjgglhpnaa.P
