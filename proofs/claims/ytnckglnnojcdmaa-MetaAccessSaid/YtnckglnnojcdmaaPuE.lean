/- Plain lemmas on the printed functions of layer 47: Get and Encode, and the laws on them. No program is in sight. -/
import Derived.Test.YtnckglnnojcdmaaPuD
import Derived.Test.YtnckglnnojcdmaaPO
import Derived.Test.YtnckglnnojcdmaaPx7
set_option linter.unusedVariables false
set_option linter.unusedSimpArgs false
namespace Go.Proofs.Ytnckglnnojcdmaa.P
open Go.RowKit Go.Proofs.YtnckglnnojcdmaaW.PrintWords Go.Proofs.YtnckglnnojcdmaaW.PrintLast

def emptyS : ByteArray := ⟨#[]⟩
def getL (key : ByteArray) : List S42 → ByteArray × Bool
  | [] => (emptyS, false)
  | x :: xs => if x.f0.toList = key.toList then (x.f1, true) else getL key xs
theorem get_loop (key : ByteArray) (l : List S42) (hl : l.length ≤ 1000000) : ∀ (d i : Nat), i + d = l.length → Ev (fun k => meta_Get.l0 k key l (l.length : Int) (i : Int)) (getL key (l.drop i))
  | 0, i, hi => by
    rw [List.drop_of_length_le (by omega)]
    exact Ev.step (fun k => by simp only [meta_Get.l0]; rw [if_neg (by omega)]; rfl) (Ev.now _)
  | d + 1, i, hi => by
    have hlt : i < l.length := by omega
    rw [List.drop_eq_getElem_cons hlt]
    simp only [getL]
    split
    · rename_i he
      exact Ev.step (fun k => by simp only [meta_Get.l0]; rw [if_pos (by omega), if_pos (by omega), if_pos (by omega), rd_nat l i hlt, if_pos he]) (Ev.now _)
    · rename_i he
      exact Ev.step (fun k => by simp only [meta_Get.l0]; rw [if_pos (by omega), if_pos (by omega), if_pos (by omega), rd_nat l i hlt, if_neg he, wrap_id (by omega) (by omega)]; rfl) (get_loop key l hl d (i + 1) (by omega))
theorem get_ev (key : ByteArray) (l : List S42) (hl : l.length ≤ 1000000) : Ev (fun k => meta_Get.f k l key) (getL key l) :=
  Ev.congr (fun k => by simp only [meta_Get.f]; rfl) (get_loop key l hl l.length 0 (by omega))

/-- The place of the first entry with a key, from place i on; -1. -/
def findL (key : ByteArray) : List S42 → Nat → Int
  | [], _ => -1
  | x :: xs, i => if x.f0.toList = key.toList then (i : Int) else findL key xs (i + 1)
theorem find_loop (key : ByteArray) (l : List S42) (hl : l.length ≤ 1000000) : ∀ (d i : Nat), i + d = l.length → Ev (fun k => waveletref47_find.l0 k key l (l.length : Int) (i : Int)) (findL key (l.drop i) i)
  | 0, i, hi => by
    rw [List.drop_of_length_le (by omega)]
    exact Ev.step (fun k => by simp only [waveletref47_find.l0]; rw [if_neg (by omega)]; rfl) (Ev.now _)
  | d + 1, i, hi => by
    have hlt : i < l.length := by omega
    rw [List.drop_eq_getElem_cons hlt]
    simp only [findL]
    split
    · rename_i he
      exact Ev.step (fun k => by simp only [waveletref47_find.l0]; rw [if_pos (by omega), if_pos (by omega), if_pos (by omega), rd_nat l i hlt, if_pos he]) (Ev.now _)
    · rename_i he
      exact Ev.step (fun k => by simp only [waveletref47_find.l0]; rw [if_pos (by omega), if_pos (by omega), if_pos (by omega), rd_nat l i hlt, if_neg he, wrap_id (by omega) (by omega)]; rfl) (find_loop key l hl d (i + 1) (by omega))
theorem find_ev (key : ByteArray) (l : List S42) (hl : l.length ≤ 1000000) : Ev (fun k => waveletref47_find.f k l key) (findL key l 0) :=
  Ev.congr (fun k => by simp only [waveletref47_find.f]; rfl) (find_loop key l hl l.length 0 (by omega))
theorem find_get (key : ByteArray) (l : List S42) : ∀ (i : Nat), i ≤ l.length →
    (findL key (l.drop i) i = -1 ∧ getL key (l.drop i) = (emptyS, false)) ∨ (∃ j, ∃ h : j < l.length, findL key (l.drop i) i = (j : Int) ∧ i ≤ j ∧ l[j].f0.toList = key.toList ∧ getL key (l.drop i) = (l[j].f1, true)) := by
  intro i hi
  generalize hd : l.length - i = d
  induction d generalizing i with
  | zero =>
    rw [List.drop_of_length_le (by omega)]
    exact .inl ⟨rfl, rfl⟩
  | succ d ih =>
    have hlt : i < l.length := by omega
    rw [List.drop_eq_getElem_cons hlt]
    simp only [findL, getL]
    by_cases he : l[i].f0.toList = key.toList
    · rw [if_pos he, if_pos he]
      exact .inr ⟨i, hlt, rfl, by omega, he, rfl⟩
    · rw [if_neg he, if_neg he]
      rcases ih (i + 1) (by omega) (by omega) with h | ⟨j, hj, h1, h2, h3⟩
      · exact .inl h
      · exact .inr ⟨j, hj, h1, by omega, h3⟩
theorem rget_ev (key : ByteArray) (l : List S42) (hl : l.length ≤ 1000000) : Ev (fun k => waveletref47_Get.f k l key) (getL key l) := by
  refine Ev.congr (fun k => by simp only [waveletref47_Get.f]; rfl) ?_
  refine Ev.bind (find_ev key l hl) ?_
  have := find_get key l 0 (by omega)
  rw [List.drop_zero] at this
  rcases this with ⟨h1, h2⟩ | ⟨j, hj, h1, _, _, h2⟩
  · rw [h1, h2]
    exact Ev.congr (fun k => by rw [if_pos (by omega)]; rfl) (Ev.now _)
  · rw [h1, h2]
    exact Ev.congr (fun k => by rw [if_neg (by omega), if_pos (by omega), if_pos (by omega), rd_nat l j hj]) (Ev.now _)

theorem awake_bind : Ev (fun k => (waveletlaw47_awake.f k).bind fun t => some t) true := Ev.bind awake_ok (Ev.now _)

theorem law_finds (l : List S42) (key : ByteArray) : Ev (fun k => waveletlaw47_MetaFinds.f k l key) true := by
  obtain ⟨b, hb, hf⟩ := few_any l
  refine Ev.congr (fun k => by simp only [waveletlaw47_MetaFinds.f]; rfl) ?_
  refine Ev.bind hb ?_
  cases b with
  | false => exact Ev.congr (fun k => by rw [if_neg (by simp)]) awake_bind
  | true =>
    have hF := hf rfl
    refine Ev.congr (fun k => by rw [if_pos rfl]) ?_
    refine Ev.bind (get_ev key l (by have := hF.1; omega)) ?_
    refine Ev.bind (rget_ev key l (by have := hF.1; omega)) ?_
    exact Ev.congr (fun k => by rw [if_pos rfl, if_pos (by simp)]) awake_bind

/-! ### Encode -/
def encE (x : S42) : List Int := [(x.f0.size : Int) % 256] ++ bytesOf x.f0 ++ [((x.f1.size : Int) / 256) % 256, (x.f1.size : Int) % 256] ++ bytesOf x.f1
theorem encE_len (x : S42) : (encE x).length = x.f0.size + x.f1.size + 3 := by
  simp [encE, bytesOf_length]; omega
theorem enc_loop (l : List S42) (hF : Few l) : ∀ (d i : Nat) (acc : List Int), i + d = l.length → acc.length ≤ 1 + i * 6000 → Ev (fun k => meta_Encode.l0 k acc l (l.length : Int) (i : Int)) (acc ++ (l.drop i).flatMap encE, 0)
  | 0, i, acc, hi, ha => by
    rw [List.drop_of_length_le (by omega), List.flatMap_nil, List.append_nil]
    exact Ev.step (fun k => by simp only [meta_Encode.l0]; rw [if_neg (by omega)]) (Ev.now _)
  | d + 1, i, acc, hi, ha => by
    have hlt : i < l.length := by omega
    have h1 := hF.1
    have h2 := hF.2 l[i] (List.getElem_mem hlt)
    have hE := encE_len l[i]
    rw [List.drop_eq_getElem_cons hlt, List.flatMap_cons, ← List.append_assoc]
    have ih := enc_loop l hF d (i + 1) (acc ++ encE l[i]) (by omega) (by rw [List.length_append, hE]; omega)
    refine Ev.step (fun k => ?_) ih
    simp only [meta_Encode.l0]
    rw [if_pos (by omega), if_pos (by omega), if_pos (by omega), rd_nat l i hlt, if_pos (by omega)]
    simp only [Option.bind_some]
    rw [if_pos (by simp; omega), if_pos (by simp [bytesOf_length]; omega), if_pos (by simp [bytesOf_length]; omega), wrap_id (by omega) (by omega)]
    simp only [encE, List.append_assoc]
    rfl
theorem renc_loop (l : List S42) (hF : Few l) : ∀ (d i : Nat) (acc : List Int), i + d = l.length → acc.length ≤ 1 + i * 6000 → Ev (fun k => waveletref47_Encode.l0 k acc l (l.length : Int) (i : Int)) (acc ++ (l.drop i).flatMap encE, 0)
  | 0, i, acc, hi, ha => by
    rw [List.drop_of_length_le (by omega), List.flatMap_nil, List.append_nil]
    exact Ev.step (fun k => by simp only [waveletref47_Encode.l0]; rw [if_neg (by omega)]) (Ev.now _)
  | d + 1, i, acc, hi, ha => by
    have hlt : i < l.length := by omega
    have h1 := hF.1
    have h2 := hF.2 l[i] (List.getElem_mem hlt)
    have hE := encE_len l[i]
    rw [List.drop_eq_getElem_cons hlt, List.flatMap_cons, ← List.append_assoc]
    have ih := renc_loop l hF d (i + 1) (acc ++ encE l[i]) (by omega) (by rw [List.length_append, hE]; omega)
    refine Ev.step (fun k => ?_) ih
    simp only [waveletref47_Encode.l0]
    rw [if_pos (by omega), if_pos (by omega), if_pos (by omega), rd_nat l i hlt, if_pos (by omega)]
    simp only [Option.bind_some]
    rw [if_pos (by simp; omega), if_pos (by simp [bytesOf_length]; omega), if_pos (by simp [bytesOf_length]; omega), wrap_id (x := (i : Int) + 1) (by omega) (by omega), wrap_id (x := ((l[i].f1.size : Nat) : Int) / 256) (by omega) (by omega)]
    simp only [encE, List.append_assoc]
    rfl
/-- What both Encodes answer. -/
def encP (l : List S42) : List Int × Int := if checkP l = 0 then ([(l.length : Int) % 256] ++ l.flatMap encE, 0) else ([], checkP l)
theorem enc_ev (l : List S42) (hF : Few l) : Ev (fun k => meta_Encode.f k l) (encP l) := by
  refine Ev.congr (fun k => by simp only [meta_Encode.f]; rfl) ?_
  refine Ev.bind (chk l) ?_
  unfold encP
  split
  · have := enc_loop l hF l.length 0 [(l.length : Int) % 256] (by omega) (by simp)
    rw [List.drop_zero] at this
    exact this
  · exact Ev.now _
theorem renc_ev (l : List S42) (hF : Few l) : Ev (fun k => waveletref47_Encode.f k l) (encP l) := by
  refine Ev.congr (fun k => by simp only [waveletref47_Encode.f]; rfl) ?_
  refine Ev.bind (rchk l) ?_
  unfold encP
  split
  · have := renc_loop l hF l.length 0 [(l.length : Int) % 256] (by omega) (by simp)
    rw [List.drop_zero] at this
    exact this
  · exact Ev.now _
theorem same_refl (b : List Int) : waveletref27_SameBytes.f b b = some true := by simp [waveletref27_SameBytes.f]

theorem law_encodes (l : List S42) : Ev (fun k => waveletlaw47_MetaEncodes.f k l) true := by
  obtain ⟨b, hb, hf⟩ := few_any l
  refine Ev.congr (fun k => by simp only [waveletlaw47_MetaEncodes.f]; rfl) ?_
  refine Ev.bind hb ?_
  cases b with
  | false => exact Ev.congr (fun k => by rw [if_neg (by simp)]) awake_bind
  | true =>
    have hF := hf rfl
    refine Ev.congr (fun k => by rw [if_pos rfl]) ?_
    refine Ev.bind (enc_ev l hF) ?_
    refine Ev.bind (renc_ev l hF) ?_
    exact Ev.congr (fun k => by rw [if_pos rfl, same_refl]; simp only [Option.bind_some, if_true]) awake_bind
end Go.Proofs.Ytnckglnnojcdmaa.P
