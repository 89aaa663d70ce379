/- Plain lemmas of layer 47: Decode of Encode, Encode of Decode, and the laws MetaDecodes and MetaRestores. No program is in sight. -/
import Derived.Test.YtnckglnnojcdmaaPuE
import Derived.Test.YtnckglnnojcdmaaRde
import Derived.Test.YtnckglnnojcdmaaPx9
import Derived.Test.YtnckglnnojcdmaaPx11
set_option linter.unusedVariables false
set_option linter.unusedSimpArgs false
namespace Go.Proofs.Ytnckglnnojcdmaa.P
open Go.RowKit Go.Proofs.YtnckglnnojcdmaaW.PrintWords Go.Proofs.YtnckglnnojcdmaaW.PrintLast

theorem same_loop (l : List S42) (hl : l.length ≤ 1000000) : ∀ (m i : Nat), i + m = l.length → Ev (fun k => waveletref47_Same.l0 k l l (l.length : Int) (i : Int)) true
  | 0, i, hi => Ev.step (fun k => by simp only [waveletref47_Same.l0]; rw [if_neg (by omega)]) (Ev.now _)
  | m + 1, i, hi => Ev.step (fun k => by
      simp only [waveletref47_Same.l0]
      rw [if_pos (by omega), if_pos (by omega), if_pos (by omega), if_pos (by omega), if_neg (by simp), wrap_id (by omega) (by omega)]; rfl) (same_loop l hl m (i + 1) (by omega))
theorem same_ok (l : List S42) (hl : l.length ≤ 1000000) : Ev (fun k => waveletref47_Same.f k l l) true :=
  Ev.congr (fun k => by simp only [waveletref47_Same.f]; rw [if_pos trivial]; rfl) (same_loop l hl l.length 0 (by omega))
theorem wf_byte {z : Int} (h : (Lit.int .u8 z).wf = true) : 0 ≤ z ∧ z < 256 := by
  simp only [Lit.wf, Bool.and_eq_true, decide_eq_true_eq] at h
  have h1 : (0 : Int) ≤ z := h.1
  have h2 : z ≤ 255 := h.2
  omega
theorem decA_len : ∀ (n : Nat) (acc : List S42) (l : List Int) (xs : List S42) (r : List Int), decA n acc l = some (xs, r) → xs.length = acc.length + n
  | 0, acc, l, xs, r, h => by
    have := congrArg Prod.fst (Option.some.inj h)
    simp at this
    rw [← this]; rfl
  | n + 1, acc, l, xs, r, h => by
    simp only [decA] at h
    cases he : entP l with
    | none => rw [he] at h; cases h
    | some q =>
      obtain ⟨x, l'⟩ := q
      rw [he] at h
      have := decA_len n _ _ _ _ h
      simp at this
      omega
theorem decP_len {l : List Int} (h : Byt l) : (decP l).1.length ≤ 256 := by
  unfold decP
  have hb := elB_bd h 0
  split
  · simp
  · split
    · simp
    · rename_i xs r he
      have := decA_len _ _ _ _ _ he
      simp at this
      split
      · simp
      · split
        · simp; omega
        · simp
theorem law_decodes (b : List Int) (hB : Byt b) : Ev (fun k => waveletlaw47_MetaDecodes.f k b) true := by
  by_cases h : (b.length : Int) > 20000
  · exact Ev.congr (fun k => by simp only [waveletlaw47_MetaDecodes.f]; rw [if_pos h]) awake_bind
  · have e1 : meta_Decode.f b = some (decP b) := if_pos hB
    have e2 : waveletref47_Decode.f b = some (decP b) := if_pos ⟨hB, by omega⟩
    refine Ev.congr (f := fun k => (waveletref47_Same.f k (decP b).1 (decP b).1).bind fun t => (if t = true then ((waveletlaw47_awake.f k).bind fun t => (some t)) else (some false))) (fun k => ?_) (Ev.bind (same_ok _ (by have := decP_len hB; omega)) ?_)
    · simp only [waveletlaw47_MetaDecodes.f]
      rw [if_neg h, e1, e2, Option.bind_some, Option.bind_some, if_pos rfl]
    · exact Ev.congr (fun k => by rw [if_pos rfl]) awake_bind

/-! ### bytes and strings -/
theorem u8_of (a : UInt8) : UInt8.ofNat (a.toNat : Int).toNat = a := by simp
theorem str_bytes (s : ByteArray) : strOfNums (bytesOf s) = s := by
  apply ByteArray.ext
  apply Array.toList_inj.1
  rw [strOfNums_data]
  unfold bytesOf
  rw [List.map_map]
  conv => rhs; rw [← List.map_id s.data.toList]
  apply List.map_congr_left
  intro a _
  simp
theorem bytes_str {xs : List Int} (h : Byt xs) : bytesOf (strOfNums xs) = xs := by
  unfold bytesOf
  rw [strOfNums_data, List.map_map]
  conv => rhs; rw [← List.map_id xs]
  apply List.map_congr_left
  intro a ha
  have := h a ha
  simp only [Function.comp, id]
  rw [UInt8.toNat_ofNat']
  omega
theorem bytesOf_byt (s : ByteArray) : Byt (bytesOf s) := by
  intro z hz
  unfold bytesOf at hz
  obtain ⟨a, _, rfl⟩ := List.mem_map.1 hz
  have := UInt8.toNat_lt a
  omega
theorem encE_byt (x : S42) : Byt (encE x) := by
  intro z hz
  unfold encE at hz
  simp only [List.mem_append, List.mem_cons, List.not_mem_nil, or_false] at hz
  rcases hz with ((h | h) | h | h) | h
  · omega
  · exact bytesOf_byt _ z h
  · omega
  · omega
  · exact bytesOf_byt _ z h
theorem flat_byt (l : List S42) : Byt (l.flatMap encE) := by
  intro z hz
  obtain ⟨x, _, h⟩ := List.mem_flatMap.1 hz
  exact encE_byt x z h

/-! ### there and back -/
def Sml (x : S42) : Prop := x.f0.size ≤ 255 ∧ x.f1.size ≤ 65535
theorem ent_enc {x : S42} (h : Sml x) (r : List Int) : entP (encE x ++ r) = some (x, r) := by
  obtain ⟨h0, h1⟩ := h
  have hk : (bytesOf x.f0).length = x.f0.size := bytesOf_length _
  have hv : (bytesOf x.f1).length = x.f1.size := bytesOf_length _
  have e : encE x ++ r = (x.f0.size : Int) :: (bytesOf x.f0 ++ ((x.f1.size : Int) / 256 :: (x.f1.size : Int) % 256 :: (bytesOf x.f1 ++ r))) := by
    unfold encE
    rw [show (x.f0.size : Int) % 256 = (x.f0.size : Int) by omega, show (x.f1.size : Int) / 256 % 256 = (x.f1.size : Int) / 256 by omega]
    simp
  rw [e]
  unfold entP
  have e0 : elB ((x.f0.size : Int) :: (bytesOf x.f0 ++ ((x.f1.size : Int) / 256 :: (x.f1.size : Int) % 256 :: (bytesOf x.f1 ++ r)))) 0 = (x.f0.size : Int) := rfl
  rw [e0, Int.toNat_natCast, List.drop_one, List.tail_cons]
  have e1 : (bytesOf x.f0 ++ ((x.f1.size : Int) / 256 :: (x.f1.size : Int) % 256 :: (bytesOf x.f1 ++ r))).drop x.f0.size = (x.f1.size : Int) / 256 :: (x.f1.size : Int) % 256 :: (bytesOf x.f1 ++ r) := by
    rw [← hk, List.drop_left]
  have e2 : (bytesOf x.f0 ++ ((x.f1.size : Int) / 256 :: (x.f1.size : Int) % 256 :: (bytesOf x.f1 ++ r))).take x.f0.size = bytesOf x.f0 := by
    rw [← hk, List.take_left]
  rw [e1, e2]
  have e3 : elB ((x.f1.size : Int) / 256 :: (x.f1.size : Int) % 256 :: (bytesOf x.f1 ++ r)) 0 * 256 + elB ((x.f1.size : Int) / 256 :: (x.f1.size : Int) % 256 :: (bytesOf x.f1 ++ r)) 1 = (x.f1.size : Int) := by
    show (x.f1.size : Int) / 256 * 256 + (x.f1.size : Int) % 256 = (x.f1.size : Int)
    omega
  rw [e3, Int.toNat_natCast]
  have e4 : ((x.f1.size : Int) / 256 :: (x.f1.size : Int) % 256 :: (bytesOf x.f1 ++ r)).drop 2 = bytesOf x.f1 ++ r := rfl
  have e5 : (bytesOf x.f1 ++ r).take x.f1.size = bytesOf x.f1 := by rw [← hv, List.take_left]
  have e6 : (bytesOf x.f1 ++ r).drop x.f1.size = r := by rw [← hv, List.drop_left]
  rw [e4, e5, e6, str_bytes, str_bytes]
  simp only [List.length_cons, List.length_append, hk, hv]
  rw [if_neg (by omega), if_neg (by omega), if_neg (by omega), if_neg (by omega)]
theorem decA_enc : ∀ (l acc : List S42) (r : List Int), (∀ x ∈ l, Sml x) → decA l.length acc (l.flatMap encE ++ r) = some (acc ++ l, r)
  | [], acc, r, _ => by simp [decA]
  | x :: l, acc, r, h => by
    simp only [List.length_cons, decA, List.flatMap_cons, List.append_assoc]
    rw [ent_enc (h x List.mem_cons_self)]
    have := decA_enc l (acc ++ [x]) r (fun y hy => h y (List.mem_cons_of_mem _ hy))
    simp only [this, List.append_assoc, List.singleton_append]
theorem key_small {s : ByteArray} (h : keyOk s = true) : s.size ≤ 64 := by
  unfold keyOk at h
  simp only [Bool.and_eq_true, decide_eq_true_eq] at h
  exact h.1.2
theorem value_small {s : ByteArray} (h : valueOk s = true) : s.size ≤ 4096 := by
  unfold valueOk at h
  simp only [Bool.and_eq_true, decide_eq_true_eq] at h
  exact h.1
theorem checkL_small : ∀ (l : List S42) (p : Option ByteArray), checkL p l = 0 → ∀ x ∈ l, x.f0.size ≤ 64 ∧ x.f1.size ≤ 4096
  | [], _, _, x, hx => by cases hx
  | y :: l, p, h, x, hx => by
    unfold checkL at h
    by_cases hk : (keyOk y.f0 && valueOk y.f1) = true
    · rw [if_pos hk] at h
      simp only [Bool.and_eq_true] at hk
      have tl : checkL (some y.f0) l = 0 := by
        cases p with
        | none => exact h
        | some q =>
          simp only at h
          split at h
          · cases h
          · split at h
            · cases h
            · exact h
      rcases List.mem_cons.1 hx with rfl | hx
      · exact ⟨key_small hk.1, value_small hk.2⟩
      · exact checkL_small l _ tl x hx
    · rw [if_neg hk] at h
      cases h
theorem checkP_small {l : List S42} (h : checkP l = 0) : l.length ≤ 64 ∧ ∀ x ∈ l, x.f0.size ≤ 64 ∧ x.f1.size ≤ 4096 := by
  unfold checkP at h
  split at h
  · cases h
  · exact ⟨by omega, checkL_small l none h⟩
theorem dec_enc {l : List S42} (h : checkP l = 0) : decP ([(l.length : Int) % 256] ++ l.flatMap encE) = (l, 0) := by
  obtain ⟨h1, h2⟩ := checkP_small h
  unfold decP
  have e0 : elB ([(l.length : Int) % 256] ++ l.flatMap encE) 0 = (l.length : Int) := by
    show (l.length : Int) % 256 = _
    omega
  have e1 : ([(l.length : Int) % 256] ++ l.flatMap encE).drop 1 = l.flatMap encE := rfl
  have hd := decA_enc l [] [] (fun x hx => by have := h2 x hx; exact ⟨by omega, by omega⟩)
  rw [List.append_nil, List.nil_append] at hd
  rw [if_neg (by simp), e0, e1, Int.toNat_natCast, hd]
  simp [h]
theorem one_cons : ∀ (l : List Int), 1 ≤ l.length → l = elB l 0 :: l.drop 1
  | [], h => absurd h (by simp)
  | a :: l, _ => rfl
theorem two_cons : ∀ (l : List Int), 2 ≤ l.length → l = elB l 0 :: elB l 1 :: l.drop 2
  | [], h => absurd h (by simp)
  | [a], h => absurd h (by simp)
  | a :: b :: l, _ => rfl
theorem enc_of_ent {l : List Int} (hB : Byt l) {x : S42} {r : List Int} (h : entP l = some (x, r)) : l = encE x ++ r ∧ Sml x := by
  unfold entP at h
  split at h
  · cases h
  rename_i h1
  split at h
  · cases h
  rename_i h2
  split at h
  · cases h
  rename_i h3
  split at h
  · cases h
  rename_i h4
  have kb := elB_bd hB 0
  have hB1 : Byt ((l.drop 1).drop (elB l 0).toNat) := fun z hz => hB z (List.mem_of_mem_drop (List.mem_of_mem_drop hz))
  have vb0 := elB_bd hB1 0
  have vb1 := elB_bd hB1 1
  obtain ⟨k, hk⟩ : ∃ k : Nat, (elB l 0).toNat = k := ⟨_, rfl⟩
  rw [hk] at h2 h3 h4 h hB1 vb0 vb1
  obtain ⟨l2, hl2⟩ : ∃ l2, l2 = (l.drop 1).drop k := ⟨_, rfl⟩
  rw [← hl2] at h4 h hB1 vb0 vb1
  obtain ⟨V, hV⟩ : ∃ V : Nat, (elB l2 0 * 256 + elB l2 1).toNat = V := ⟨_, rfl⟩
  rw [hV] at h4 h
  have h := Option.some.inj h
  have hx := (congrArg Prod.fst h).symm
  have hr := (congrArg Prod.snd h).symm
  simp only at hx hr
  have hl2n : l2.length = l.length - 1 - k := by rw [hl2, List.length_drop, List.length_drop]
  have s0 : x.f0.size = k := by rw [hx, strOfNums_size, List.length_take, List.length_drop]; omega
  have s1 : x.f1.size = V := by rw [hx, strOfNums_size, List.length_take, List.length_drop]; omega
  have b0 : bytesOf x.f0 = (l.drop 1).take k := by rw [hx]; exact bytes_str fun z hz => hB z (List.mem_of_mem_drop (List.mem_of_mem_take hz))
  have b1 : bytesOf x.f1 = (l2.drop 2).take V := by rw [hx]; exact bytes_str fun z hz => hB1 z (List.mem_of_mem_drop (List.mem_of_mem_take hz))
  refine ⟨?_, by omega, by omega⟩
  have c1 := one_cons l (by omega)
  have c2 : l.drop 1 = (l.drop 1).take k ++ l2 := by rw [hl2, List.take_append_drop]
  have c3 := two_cons l2 (by omega)
  have c4 : l2.drop 2 = (l2.drop 2).take V ++ r := by rw [hr, List.take_append_drop]
  unfold encE
  rw [b0, b1, s0, s1, show (k : Int) % 256 = elB l 0 by omega, show (V : Int) / 256 % 256 = elB l2 0 by omega, show (V : Int) % 256 = elB l2 1 by omega]
  have e : l = elB l 0 :: ((l.drop 1).take k ++ elB l2 0 :: elB l2 1 :: ((l2.drop 2).take V ++ r)) := by rw [← c4, ← c3, ← c2]; exact c1
  simpa using e
theorem enc_of_decA : ∀ (n : Nat) (acc : List S42) (l : List Int) (xs : List S42) (r : List Int), Byt l → decA n acc l = some (xs, r) → ∃ ys, xs = acc ++ ys ∧ ys.length = n ∧ l = ys.flatMap encE ++ r
  | 0, acc, l, xs, r, _, h => by
    have h := Option.some.inj h
    exact ⟨[], by rw [List.append_nil]; exact (congrArg Prod.fst h).symm, rfl, congrArg Prod.snd h⟩
  | n + 1, acc, l, xs, r, hB, h => by
    simp only [decA] at h
    cases he : entP l with
    | none => rw [he] at h; cases h
    | some q =>
      obtain ⟨x, l'⟩ := q
      rw [he] at h
      obtain ⟨e1, _⟩ := enc_of_ent hB he
      obtain ⟨ys, h1, h2, h3⟩ := enc_of_decA n _ _ _ _ (ent_rest hB he).1 h
      refine ⟨x :: ys, by rw [h1]; simp, by simp [h2], ?_⟩
      rw [e1, h3]
      simp
theorem enc_dec {b : List Int} (hB : Byt b) {m : List S42} (h : decP b = (m, 0)) : checkP m = 0 ∧ b = [(m.length : Int) % 256] ++ m.flatMap encE := by
  unfold decP at h
  split at h
  · cases h
  rename_i h1
  have kb := elB_bd hB 0
  split at h
  · cases h
  rename_i xs r he
  split at h
  · cases h
  rename_i hr
  split at h
  · rename_i hc
    obtain rfl : xs = m := congrArg Prod.fst h
    obtain ⟨ys, e1, e2, e3⟩ := enc_of_decA _ _ _ _ _ (fun z hz => hB z (List.mem_of_mem_drop hz)) he
    rw [List.nil_append] at e1
    subst e1
    have hr0 : r = [] := List.eq_nil_of_length_eq_zero (by omega)
    refine ⟨hc, ?_⟩
    have c1 : b = elB b 0 :: b.drop 1 := by
      cases b with
      | nil => simp at h1
      | cons a l => rfl
    rw [c1, e3, hr0, List.append_nil, e2]
    rw [show (((elB b 0).toNat : Nat) : Int) % 256 = elB b 0 by omega]
    rfl
  · rename_i hc
    have := congrArg Prod.snd h
    simp only at this
    exact absurd this hc
theorem law_restores (l : List S42) (b : List Int) (hB : Byt b) : Ev (fun k => waveletlaw47_MetaRestores.f k l b) true := by
  obtain ⟨f, hf, hF⟩ := few_any l
  have j1 : Ev (fun k => waveletlaw47_MetaRestores.j1 k b) true := by
    refine Ev.step (f := fun k => if (decP b).2 = 0 then ((meta_Encode.f k (decP b).1).bind fun bt330 => (if bt330.2 = 0 then ((waveletref27_SameBytes.f b bt330.1).bind fun t334 => (if t334 = true then ((waveletlaw47_awake.f k).bind fun t335 => (some t335)) else (some false))) else (some false))) else ((waveletlaw47_awake.f k).bind fun t336 => (some t336))) (fun k => by simp only [waveletlaw47_MetaRestores.j1]; rw [show meta_Decode.f b = some (decP b) from if_pos hB, Option.bind_some]) ?_
    by_cases hz : (decP b).2 = 0
    · obtain ⟨h1, h2⟩ := enc_dec hB (m := (decP b).1) (by rw [← hz])
      obtain ⟨h3, h4⟩ := checkP_small h1
      have he := enc_ev (decP b).1 ⟨by omega, fun x hx => by have := h4 x hx; omega⟩
      unfold encP at he
      rw [if_pos h1, ← h2] at he
      refine Ev.congr (fun k => by rw [if_pos hz]) (Ev.bind he ?_)
      exact Ev.congr (fun k => by rw [if_pos rfl, same_refl, Option.bind_some, if_pos rfl]) awake_bind
    · exact Ev.congr (fun k => by rw [if_neg hz]) awake_bind
  have j0 : ∀ x, (f = true → True) → (x = true ∨ Few l) → Ev (fun k => waveletlaw47_MetaRestores.j0 k l b x) true := fun x _ hx => by
    cases x with
    | true => exact Ev.step (fun k => by simp only [waveletlaw47_MetaRestores.j0]; rw [if_pos trivial]) awake_bind
    | false =>
      have hFl : Few l := by rcases hx with h | h; · cases h
                             · exact h
      have he := enc_ev l hFl
      refine Ev.step (fun k => by simp only [waveletlaw47_MetaRestores.j0]; rw [if_neg (by simp)]) (Ev.bind he ?_)
      unfold encP
      by_cases hc : checkP l = 0
      · rw [if_pos hc]
        have hby : Byt ([(l.length : Int) % 256] ++ l.flatMap encE) := by
          intro z hz
          rcases List.mem_append.1 hz with h | h
          · obtain rfl := List.mem_singleton.1 h; omega
          · exact flat_byt l z h
        have hd := dec_enc hc
        have hl := (checkP_small hc).1
        refine Ev.congr (f := fun k => (waveletref47_Same.f k l l).bind fun t => (if t = true then (waveletlaw47_MetaRestores.j1 k b) else (some false))) (fun k => ?_) (Ev.bind (same_ok l (by omega)) (Ev.congr (fun k => by rw [if_pos rfl]) j1))
        rw [if_pos rfl, show meta_Decode.f ([(l.length : Int) % 256] ++ l.flatMap encE) = some (decP ([(l.length : Int) % 256] ++ l.flatMap encE)) from if_pos hby, hd, Option.bind_some, if_pos rfl]
      · rw [if_neg hc]
        exact Ev.congr (fun k => by rw [if_neg hc]) j1
  refine Ev.congr (fun k => by simp only [waveletlaw47_MetaRestores.f]; rfl) (Ev.bind hf ?_)
  cases f with
  | true => exact Ev.congr (fun k => by rw [if_pos rfl]) (j0 _ (fun _ => trivial) (.inr (hF rfl)))
  | false => exact Ev.congr (fun k => by rw [if_neg (by simp)]) (j0 true (fun _ => trivial) (.inl rfl))
end Go.Proofs.Ytnckglnnojcdmaa.P
