/- The reader restores what was written; what it reads is what would be written: in plain terms. -/
import Derived.Test.YtfemdpjgglhpnaaPuD
import Derived.Test.YtfemdpjgglhpnaaSam
set_option linter.unusedVariables false
set_option linter.unusedSimpArgs false
namespace Go.Proofs.Ytfemdpjgglhpnaa.P
open Go.RowKit Go.Proofs.YtfemdpjgglhpnaaW.PrintWords

mutual
theorem sameB_refl : ∀ x : S37, sameB x x = true
  | ⟨t, p, l⟩ => by rw [sameB, sameL_refl l]; simp
theorem sameL_refl : ∀ l : List S37, sameL l l = true
  | [] => by rw [sameL]
  | b :: r => by rw [sameL, sameB_refl b, sameL_refl r]; rfl
end
theorem str_bytes (s : ByteArray) : strOfNums (bytesOf s) = s := by
  apply ByteArray.ext
  apply Array.toList_inj.1
  rw [strOfNums_data]
  unfold bytesOf
  rw [List.map_map]
  conv => rhs; rw [← List.map_id s.data.toList]
  apply List.map_congr_left
  intro a _
  simp
theorem bytes_str {xs : List Int} (h : Byt xs) : bytesOf (strOfNums xs) = xs := by
  unfold bytesOf
  rw [strOfNums_data, List.map_map]
  conv => rhs; rw [← List.map_id xs]
  apply List.map_congr_left
  intro a ha
  have := h a ha
  simp only [Function.comp, id]
  rw [UInt8.toNat_ofNat']
  omega
theorem head_bytes (n : Int) (h0 : 0 ≤ n) (h1 : n < 4294967296) (r : List Int) : be4v (be4 n ++ r) = n := by
  unfold be4v be4 rd
  show n / 16777216 % 256 * 16777216 + n / 65536 % 256 * 65536 + n / 256 % 256 * 256 + n % 256 = n
  omega
theorem head_kind (n : Int) (t : ByteArray) (ht : t.size = 4) (r : List Int) : kindP (be4 n ++ bytesOf t ++ r) = t := by
  unfold kindP
  have hl : (be4 n ++ bytesOf t).length = 8 := by rw [List.length_append, be4_length, bytesOf_length, ht]
  rw [show 8 = (be4 n ++ bytesOf t).length from hl.symm, List.take_left, show 4 = (be4 n).length from rfl, List.drop_left, str_bytes]
theorem restore (m : Nat) : ∀ (l : List S37) (inner : Bool) (n f : Nat), SizeOf.sizeOf l < m → okL inner l = true → n + cntL l ≤ 256 → szL l < 2147483648 → szL l < f → prsP f (wrL l) inner n = some (l, 0, n + cntL l) := by
  induction m with
  | zero => intro l inner n f h; omega
  | succ m ih =>
    intro l inner n f hm hok hc hs hf
    obtain ⟨f, rfl⟩ : ∃ g, f = g + 1 := ⟨f - 1, by omega⟩
    cases l with
    | nil =>
      rw [wrL, prsP, cntL]
      rfl
    | cons x r =>
      have hok0 := hok
      rw [okL, Bool.and_eq_true] at hok
      obtain ⟨hx, hr⟩ := hok
      have hkn := okB_known hx
      have h4 := (knownP_ascii hkn).1
      have hin := okB_inner hx
      have hl1 := wrL_length hr
      have hl2 := wrL_length hin
      have hlx := wrB_length hx
      have hsx := szB_eq x
      have hcx := cntB_eq x
      have hmr : SizeOf.sizeOf r < m := by simp only [List.cons.sizeOf_spec] at hm; omega
      have hmx : SizeOf.sizeOf x.f2 < m := mem_size List.mem_cons_self hm
      rw [szL] at hs hf
      rw [cntL] at hc
      have hb : wrL (x :: r) = be4 ((szB x : Nat) : Int) ++ bytesOf x.f0 ++ (x.f1 ++ wrL x.f2 ++ wrL r) := by
        rw [wrL, wrB_eq, hsx]
        simp only [List.append_assoc]
      have hlen : (wrL (x :: r)).length = szB x + szL r := by rw [wrL, List.length_append, hlx, hl1]
      have hv : be4v (wrL (x :: r)) = ((szB x : Nat) : Int) := by
        rw [hb, List.append_assoc]
        exact head_bytes _ (by generalize szB x = q at *; omega) (by generalize szB x = q at *; omega) _
      have hk : kindP (wrL (x :: r)) = x.f0 := by rw [hb]; exact head_kind _ _ h4 _
      have htake : (wrL (x :: r)).take (szB x) = wrB x := by rw [wrL, ← hlx, List.take_left]
      have hdrop : (wrL (x :: r)).drop (szB x) = wrL r := by rw [wrL, ← hlx, List.drop_left]
      have hbody : (wrB x).drop 8 = x.f1 ++ wrL x.f2 := by
        have h8 : (be4 (8 + x.f1.length + szL x.f2 : Nat) ++ bytesOf x.f0).length = 8 := by rw [List.length_append, be4_length, bytesOf_length, h4]
        have hd := List.drop_left (l₁ := be4 (8 + x.f1.length + szL x.f2 : Nat) ++ bytesOf x.f0) (l₂ := x.f1 ++ wrL x.f2)
        rw [h8] at hd
        rw [wrB_eq, List.append_assoc]
        exact hd
      rw [prsP, hlen, hv, hk, Int.toNat_natCast, htake, hdrop, hbody]
      rw [cntL]
      rw [okB_eq, hkn, Bool.true_and] at hx
      have ihr := fun n' (h : n' + cntL r ≤ 256) => ih r inner n' f hmr hr h (by generalize szB x = q at *; generalize szL r = q2 at *; omega) (by generalize szB x = q at *; generalize szL r = q2 at *; generalize szL x.f2 = q3 at *; omega)
      have ihx := fun n' (h : n' + cntL x.f2 ≤ 256) => ih x.f2 true n' f hmx hin h (by generalize szB x = q at *; generalize szL r = q2 at *; generalize szL x.f2 = q3 at *; omega) (by generalize szB x = q at *; generalize szL r = q2 at *; generalize szL x.f2 = q3 at *; omega)
      have hcz : x.f2 = [] → cntL x.f2 = 0 := fun h => by rw [h, cntL]
      generalize szL r = sr at *
      generalize hq3 : szL x.f2 = s2 at *
      generalize hq1 : szB x = s1 at *
      generalize cntL r = cr at *
      generalize cntL x.f2 = c2 at *
      generalize cntB x = c1 at *
      clear hb hv hk htake hdrop hbody hl1 hl2 hlx hok0 ih hlen
      rw [if_neg (by omega), if_neg (by omega)]
      have hfl : ¬ ((decide (((s1 : Nat) : Int) < 8) || !knownP x.f0 || (inner && superP x.f0)) = true) := by
        rw [hkn, decide_eq_false (by omega)]
        by_cases hsu : superP x.f0 = true
        · rw [if_pos hsu, Bool.and_eq_true, Bool.and_eq_true] at hx
          cases inner with
          | true => simp at hx
          | false => simp
        · simp only [Bool.not_eq_true] at hsu
          rw [hsu]; simp
      rw [if_neg hfl, if_neg (by omega), if_neg (by omega)]
      by_cases hsu : superP x.f0 = true
      · rw [if_pos hsu] at hx ⊢
        rw [Bool.and_eq_true, Bool.and_eq_true, List.isEmpty_iff] at hx
        rw [hx.1.2, List.nil_append, ihx (n + 1) (by omega), Option.bind_some, if_pos rfl, ihr (n + 1 + c2) (by omega), Option.map_some, if_pos rfl]
        have e : (⟨x.f0, [], x.f2⟩ : S37) = x := by
          have := hx.1.2
          cases x
          simp only at this
          subst this
          rfl
        rw [e]
        show some (x :: r, (0 : Int), n + 1 + c2 + cr) = some (x :: r, (0 : Int), n + (c1 + cr))
        rw [show n + 1 + c2 + cr = n + (c1 + cr) by omega]
      · rw [if_neg hsu] at hx ⊢
        rw [List.isEmpty_iff] at hx
        have hw0 : wrL x.f2 = [] := by rw [hx, wrL]
        rw [hw0, List.append_nil, ihr (n + 1) (by omega), Option.map_some, if_pos rfl]
        have e : (⟨x.f0, x.f1, []⟩ : S37) = x := by
          cases x
          simp only at hx
          subst hx
          rfl
        have hc0 : c2 = 0 := hcz hx
        rw [e]
        show some (x :: r, (0 : Int), n + 1 + cr) = some (x :: r, (0 : Int), n + (c1 + cr))
        rw [show n + 1 + cr = n + (c1 + cr) by omega]
theorem parse_wr (l : List S37) (hok : okL false l = true) (hc : cntL l ≤ 256) (hs : szL l ≤ 1000000) : parseP (wrL l) = (l, 0) := by
  have hl := wrL_length hok
  have := restore (SizeOf.sizeOf l + 1) l false 0 ((wrL l).length + 1) (by omega) hok (by generalize cntL l = a at *; omega) (by generalize szL l = a at *; omega) (by rw [hl]; generalize szL l = a at *; omega)
  unfold parseP
  rw [this]
theorem okB_mk {i : Bool} {t : ByteArray} {l : List S37} (hk : knownP t = true) (hs : superP t = true) (hi : i = false) (hl : okL true l = true) : okB i ⟨t, [], l⟩ = true := by
  rw [okB, hk, if_pos hs, hi, hl]; rfl
theorem okB_leaf {i : Bool} {t : ByteArray} {p : List Int} (hk : knownP t = true) (hs : superP t = false) : okB i ⟨t, p, []⟩ = true := by
  rw [okB, hk, if_neg (by rw [hs]; decide)]; rfl
theorem be4_back {b : List Int} (hB : Byt b) (h : 4 ≤ b.length) : be4 (be4v b) = b.take 4 := by
  match b, h with
  | a0 :: a1 :: a2 :: a3 :: t, _ =>
    have h0 := hB a0 (by simp)
    have h1 := hB a1 (by simp)
    have h2 := hB a2 (by simp)
    have h3 := hB a3 (by simp)
    have e : be4v (a0 :: a1 :: a2 :: a3 :: t) = a0 * 16777216 + a1 * 65536 + a2 * 256 + a3 := rfl
    rw [e]
    show [(a0 * 16777216 + a1 * 65536 + a2 * 256 + a3) / 16777216 % 256, (a0 * 16777216 + a1 * 65536 + a2 * 256 + a3) / 65536 % 256, (a0 * 16777216 + a1 * 65536 + a2 * 256 + a3) / 256 % 256, (a0 * 16777216 + a1 * 65536 + a2 * 256 + a3) % 256] = [a0, a1, a2, a3]
    rw [show (a0 * 16777216 + a1 * 65536 + a2 * 256 + a3) / 16777216 % 256 = a0 by omega, show (a0 * 16777216 + a1 * 65536 + a2 * 256 + a3) / 65536 % 256 = a1 by omega, show (a0 * 16777216 + a1 * 65536 + a2 * 256 + a3) / 256 % 256 = a2 by omega, show (a0 * 16777216 + a1 * 65536 + a2 * 256 + a3) % 256 = a3 by omega]
theorem split8 {b : List Int} (hB : Byt b) (h8 : 8 ≤ (be4v b).toNat) (hl : (be4v b).toNat ≤ b.length) : be4 (be4v b) ++ bytesOf (kindP b) ++ (b.take (be4v b).toNat).drop 8 ++ b.drop (be4v b).toNat = b := by
  rw [be4_back hB (by omega)]
  unfold kindP
  rw [bytes_str ((hB.take 8).drop 4)]
  have e1 : b.take 4 ++ (b.take 8).drop 4 = b.take 8 := by
    have := List.take_append_drop 4 (b.take 8)
    rwa [List.take_take, show min 4 8 = 4 from rfl] at this
  have e2 : b.take 8 ++ (b.take (be4v b).toNat).drop 8 = b.take (be4v b).toNat := by
    have := List.take_append_drop 8 (b.take (be4v b).toNat)
    rwa [List.take_take, Nat.min_eq_left h8] at this
  rw [e1, e2, List.take_append_drop]
/-- What the reader has read is a valid list; writing it gives the bytes back; the boxes are counted. -/
theorem prsP_back : ∀ (f : Nat) (b : List Int) (inner : Bool) (n : Nat) (r : List S37 × Int × Nat), Byt b → prsP f b inner n = some r → r.2.1 = 0 → okL inner r.1 = true ∧ wrL r.1 = b ∧ r.2.2 = n + cntL r.1 := by
  intro f
  induction f with
  | zero => intro b inner n r _ h; cases h
  | succ f ih =>
    intro b inner n r hB h h0
    rw [prsP] at h
    split at h
    · rename_i hz
      obtain rfl := Option.some.inj h
      exact ⟨by rw [okL], by rw [wrL, List.eq_nil_of_length_eq_zero hz], by rw [cntL]; rfl⟩
    split at h
    · obtain rfl := Option.some.inj h
      simp at h0
    split at h
    · obtain rfl := Option.some.inj h
      simp at h0
    rename_i hf
    split at h
    · obtain rfl := Option.some.inj h
      simp at h0
    rename_i hlt
    split at h
    · obtain rfl := Option.some.inj h
      simp at h0
    rw [Bool.not_eq_true, Bool.or_eq_false_iff, Bool.or_eq_false_iff, decide_eq_false_iff_not, Bool.not_eq_false'] at hf
    obtain ⟨⟨h8, hk⟩, his⟩ := hf
    have hv0 := (be4v_bd hB).1
    have hs8 := split8 hB (by omega) (by omega)
    have hbl : ((b.take (be4v b).toNat).drop 8).length = (be4v b).toNat - 8 := by rw [List.length_drop, List.length_take]; omega
    split at h
    · rename_i hs
      obtain ⟨x, hx, h⟩ := Option.bind_eq_some_iff.1 h
      split at h
      · rename_i hx0
        obtain ⟨y, hy, rfl⟩ := Option.map_eq_some_iff.1 h
        obtain ⟨ox, wx, nx⟩ := ih _ _ _ x ((hB.take _).drop _) hx hx0
        by_cases hy0 : y.2.1 = 0
        · rw [if_pos hy0]
          obtain ⟨oy, wy, ny⟩ := ih _ _ _ y (hB.drop _) hy hy0
          have hi : inner = false := by rw [hs, Bool.and_true] at his; exact his
          have hsz := wrL_length ox
          rw [wx, hbl] at hsz
          refine ⟨?_, ?_, ?_⟩
          · show okL inner (⟨kindP b, [], x.1⟩ :: y.1) = true
            rw [okL, okB_mk hk hs hi ox, oy]; rfl
          · show wrL (⟨kindP b, [], x.1⟩ :: y.1) = b
            rw [wrL, wrB, wx, wy, List.append_nil]
            rw [show ((8 + ([] : List Int).length + szL x.1 : Nat) : Int) = be4v b by rw [← hsz, List.length_nil]; omega]
            exact hs8
          · show y.2.2 = n + cntL (⟨kindP b, [], x.1⟩ :: y.1)
            rw [cntL, cntB, ny, nx]
            generalize cntL x.1 = p
            generalize cntL y.1 = q
            omega
        · rw [if_neg hy0] at h0
          exact absurd h0 hy0
      · obtain rfl := Option.some.inj h
        exact absurd h0 ‹_›
    · rename_i hs
      obtain ⟨y, hy, rfl⟩ := Option.map_eq_some_iff.1 h
      by_cases hy0 : y.2.1 = 0
      · rw [if_pos hy0]
        obtain ⟨oy, wy, ny⟩ := ih _ _ _ y (hB.drop _) hy hy0
        refine ⟨?_, ?_, ?_⟩
        · show okL inner (⟨kindP b, (b.take (be4v b).toNat).drop 8, []⟩ :: y.1) = true
          rw [okL, okB_leaf hk (by rw [Bool.not_eq_true] at hs; exact hs), oy]; rfl
        · show wrL (⟨kindP b, (b.take (be4v b).toNat).drop 8, []⟩ :: y.1) = b
          rw [wrL, wrB, wrL, szL, wy, List.append_nil, hbl]
          rw [show ((8 + ((be4v b).toNat - 8) + 0 : Nat) : Int) = be4v b by omega]
          exact hs8
        · show y.2.2 = n + cntL (⟨kindP b, (b.take (be4v b).toNat).drop 8, []⟩ :: y.1)
          rw [cntL, cntB, cntL, ny]
          generalize cntL y.1 = q
          omega
      · rw [if_neg hy0] at h0
        exact absurd h0 hy0
theorem cntL_append : ∀ (l m : List S37), cntL (l ++ m) = cntL l + cntL m
  | [], m => by rw [List.nil_append, cntL, Nat.zero_add]
  | b :: r, m => by rw [List.cons_append, cntL, cntL, cntL_append r m, Nat.add_assoc]
theorem szL_append : ∀ (l m : List S37), szL (l ++ m) = szL l + szL m
  | [], m => by rw [List.nil_append, szL, Nat.zero_add]
  | b :: r, m => by rw [List.cons_append, szL, szL, szL_append r m, Nat.add_assoc]
/-- A list that Parse answers without an error. -/
theorem parseP_back {b : List Int} (hB : Byt b) (h : (parseP b).2 = 0) : okL false (parseP b).1 = true ∧ wrL (parseP b).1 = b ∧ cntL (parseP b).1 ≤ 256 := by
  obtain ⟨r, hr, _, _⟩ := prsP_some (b.length + 1) b false 0 hB (by omega) (by omega)
  have e : parseP b = (r.1, r.2.1) := by unfold parseP; rw [hr]
  rw [e] at h ⊢
  have hf := prsP_facts _ _ _ _ r (by omega) hr
  obtain ⟨h1, h2, h3⟩ := prsP_back _ _ _ _ r hB hr h
  refine ⟨h1, h2, ?_⟩
  have := (hf.1 h).1
  show cntL r.1 ≤ 256
  generalize cntL r.1 = c at *
  omega
theorem parseP_err {b : List Int} (hB : Byt b) (h : (parseP b).2 ≠ 0) : (parseP b).1 = [] := by
  obtain ⟨r, hr, _, h2⟩ := prsP_some (b.length + 1) b false 0 hB (by omega) (by omega)
  have e : parseP b = (r.1, r.2.1) := by unfold parseP; rw [hr]
  rw [e] at h ⊢
  exact h2 h
/-- Two lists that were read, joined. -/
theorem parse_join {a b : List Int} {l m : List S37} (hl : okL false l = true) (wl : wrL l = a) (hm : okL false m = true) (wm : wrL m = b) (hc : cntL l + cntL m ≤ 256) (h : a.length + b.length ≤ 1000000) : parseP (a ++ b) = (l ++ m, 0) := by
  have h1 := wrL_length hl
  have h2 := wrL_length hm
  rw [← wl, ← wm, ← wrL_append]
  refine parse_wr _ (by rw [okL_append, hl, hm]; rfl) (by rw [cntL_append]; exact hc) ?_
  rw [szL_append, ← h1, ← h2, wl, wm]
  exact h
end Go.Proofs.Ytfemdpjgglhpnaa.P
