/- Parse restores what Write wrote: the law BoxRestores. -/
import Derived.Test.YtfemdpjgglhpnaaPuH
import Derived.Test.YtfemdpjgglhpnaaPuD
import Derived.Test.YtfemdpjgglhpnaaPO
import Derived.Test.YtfemdpjgglhpnaaPx14
set_option linter.unusedVariables false
set_option linter.unusedSimpArgs false
namespace Go.Proofs.Ytfemdpjgglhpnaa.P
open Go.RowKit Go.Proofs.YtfemdpjgglhpnaaW.PrintWords

mutual
theorem sameB_refl : ∀ x : S37, sameB x x = true
  | ⟨t, p, l⟩ => by rw [sameB, sameL_refl l]; simp
theorem sameL_refl : ∀ l : List S37, sameL l l = true
  | [] => by rw [sameL]
  | b :: r => by rw [sameL, sameB_refl b, sameL_refl r]; rfl
end
theorem str_bytes (s : ByteArray) : strOfNums (bytesOf s) = s := by
  apply ByteArray.ext
  apply Array.toList_inj.1
  rw [strOfNums_data]
  unfold bytesOf
  rw [List.map_map]
  conv => rhs; rw [← List.map_id s.data.toList]
  apply List.map_congr_left
  intro a _
  simp
theorem bytes_str {xs : List Int} (h : Byt xs) : bytesOf (strOfNums xs) = xs := by
  unfold bytesOf
  rw [strOfNums_data, List.map_map]
  conv => rhs; rw [← List.map_id xs]
  apply List.map_congr_left
  intro a ha
  have := h a ha
  simp only [Function.comp, id]
  rw [UInt8.toNat_ofNat']
  omega
theorem head_bytes (n : Int) (h0 : 0 ≤ n) (h1 : n < 4294967296) (r : List Int) : be4v (be4 n ++ r) = n := by
  unfold be4v be4 rd
  show n / 16777216 % 256 * 16777216 + n / 65536 % 256 * 65536 + n / 256 % 256 * 256 + n % 256 = n
  omega
theorem head_kind (n : Int) (t : ByteArray) (ht : t.size = 4) (r : List Int) : kindP (be4 n ++ bytesOf t ++ r) = t := by
  unfold kindP
  have hl : (be4 n ++ bytesOf t).length = 8 := by rw [List.length_append, be4_length, bytesOf_length, ht]
  rw [show 8 = (be4 n ++ bytesOf t).length from hl.symm, List.take_left, show 4 = (be4 n).length from rfl, List.drop_left, str_bytes]
theorem restore (m : Nat) : ∀ (l : List S37) (inner : Bool) (n f : Nat), SizeOf.sizeOf l < m → okL inner l = true → n + cntL l ≤ 256 → szL l < 2147483648 → szL l < f → prsP f (wrL l) inner n = some (l, 0, n + cntL l) := by
  induction m with
  | zero => intro l inner n f h; omega
  | succ m ih =>
    intro l inner n f hm hok hc hs hf
    obtain ⟨f, rfl⟩ : ∃ g, f = g + 1 := ⟨f - 1, by omega⟩
    cases l with
    | nil =>
      rw [wrL, prsP, cntL]
      rfl
    | cons x r =>
      have hok0 := hok
      rw [okL, Bool.and_eq_true] at hok
      obtain ⟨hx, hr⟩ := hok
      have hkn := okB_known hx
      have h4 := (knownP_ascii hkn).1
      have hin := okB_inner hx
      have hl1 := wrL_length hr
      have hl2 := wrL_length hin
      have hlx := wrB_length hx
      have hsx := szB_eq x
      have hcx := cntB_eq x
      have hmr : SizeOf.sizeOf r < m := by simp only [List.cons.sizeOf_spec] at hm; omega
      have hmx : SizeOf.sizeOf x.f2 < m := mem_size List.mem_cons_self hm
      rw [szL] at hs hf
      rw [cntL] at hc
      have hb : wrL (x :: r) = be4 ((szB x : Nat) : Int) ++ bytesOf x.f0 ++ (x.f1 ++ wrL x.f2 ++ wrL r) := by
        rw [wrL, wrB_eq, hsx]
        simp only [List.append_assoc]
      have hlen : (wrL (x :: r)).length = szB x + szL r := by rw [wrL, List.length_append, hlx, hl1]
      have hv : be4v (wrL (x :: r)) = ((szB x : Nat) : Int) := by
        rw [hb, List.append_assoc]
        exact head_bytes _ (by generalize szB x = q at *; omega) (by generalize szB x = q at *; omega) _
      have hk : kindP (wrL (x :: r)) = x.f0 := by rw [hb]; exact head_kind _ _ h4 _
      have htake : (wrL (x :: r)).take (szB x) = wrB x := by rw [wrL, ← hlx, List.take_left]
      have hdrop : (wrL (x :: r)).drop (szB x) = wrL r := by rw [wrL, ← hlx, List.drop_left]
      have hbody : (wrB x).drop 8 = x.f1 ++ wrL x.f2 := by
        have h8 : (be4 (8 + x.f1.length + szL x.f2 : Nat) ++ bytesOf x.f0).length = 8 := by rw [List.length_append, be4_length, bytesOf_length, h4]
        have hd := List.drop_left (l₁ := be4 (8 + x.f1.length + szL x.f2 : Nat) ++ bytesOf x.f0) (l₂ := x.f1 ++ wrL x.f2)
        rw [h8] at hd
        rw [wrB_eq, List.append_assoc]
        exact hd
      rw [prsP, hlen, hv, hk, Int.toNat_natCast, htake, hdrop, hbody]
      rw [cntL]
      rw [okB_eq, hkn, Bool.true_and] at hx
      have ihr := fun n' (h : n' + cntL r ≤ 256) => ih r inner n' f hmr hr h (by generalize szB x = q at *; generalize szL r = q2 at *; omega) (by generalize szB x = q at *; generalize szL r = q2 at *; generalize szL x.f2 = q3 at *; omega)
      have ihx := fun n' (h : n' + cntL x.f2 ≤ 256) => ih x.f2 true n' f hmx hin h (by generalize szB x = q at *; generalize szL r = q2 at *; generalize szL x.f2 = q3 at *; omega) (by generalize szB x = q at *; generalize szL r = q2 at *; generalize szL x.f2 = q3 at *; omega)
      have hcz : x.f2 = [] → cntL x.f2 = 0 := fun h => by rw [h, cntL]
      generalize szL r = sr at *
      generalize hq3 : szL x.f2 = s2 at *
      generalize hq1 : szB x = s1 at *
      generalize cntL r = cr at *
      generalize cntL x.f2 = c2 at *
      generalize cntB x = c1 at *
      clear hb hv hk htake hdrop hbody hl1 hl2 hlx hok0 ih hlen
      rw [if_neg (by omega), if_neg (by omega)]
      have hfl : ¬ ((decide (((s1 : Nat) : Int) < 8) || !knownP x.f0 || (inner && superP x.f0)) = true) := by
        rw [hkn, decide_eq_false (by omega)]
        by_cases hsu : superP x.f0 = true
        · rw [if_pos hsu, Bool.and_eq_true, Bool.and_eq_true] at hx
          cases inner with
          | true => simp at hx
          | false => simp
        · simp only [Bool.not_eq_true] at hsu
          rw [hsu]; simp
      rw [if_neg hfl, if_neg (by omega), if_neg (by omega)]
      by_cases hsu : superP x.f0 = true
      · rw [if_pos hsu] at hx ⊢
        rw [Bool.and_eq_true, Bool.and_eq_true, List.isEmpty_iff] at hx
        rw [hx.1.2, List.nil_append, ihx (n + 1) (by omega), Option.bind_some, if_pos rfl, ihr (n + 1 + c2) (by omega), Option.map_some, if_pos rfl]
        have e : (⟨x.f0, [], x.f2⟩ : S37) = x := by
          have := hx.1.2
          cases x
          simp only at this
          subst this
          rfl
        rw [e]
        show some (x :: r, (0 : Int), n + 1 + c2 + cr) = some (x :: r, (0 : Int), n + (c1 + cr))
        rw [show n + 1 + c2 + cr = n + (c1 + cr) by omega]
      · rw [if_neg hsu] at hx ⊢
        rw [List.isEmpty_iff] at hx
        have hw0 : wrL x.f2 = [] := by rw [hx, wrL]
        rw [hw0, List.append_nil, ihr (n + 1) (by omega), Option.map_some, if_pos rfl]
        have e : (⟨x.f0, x.f1, []⟩ : S37) = x := by
          cases x
          simp only at hx
          subst hx
          rfl
        have hc0 : c2 = 0 := hcz hx
        rw [e]
        show some (x :: r, (0 : Int), n + 1 + cr) = some (x :: r, (0 : Int), n + (c1 + cr))
        rw [show n + 1 + cr = n + (c1 + cr) by omega]
theorem wf_byte {z : Int} (h : (Lit.int .u8 z).wf = true) : 0 ≤ z ∧ z < 256 := by
  simp only [Lit.wf, IntKind.min, IntKind.max, IntKind.signed, IntKind.bits, Bool.and_eq_true, decide_eq_true_eq] at h
  have h1 := h.1
  have h2 := h.2
  simp at h1 h2
  omega
theorem bytesOf_byt (s : ByteArray) : Byt (bytesOf s) := by
  intro z hz
  unfold bytesOf at hz
  obtain ⟨b, _, rfl⟩ := List.mem_map.1 hz
  have := b.toNat_lt
  omega
theorem Byt.app {l m : List Int} (h : Byt l) (k : Byt m) : Byt (l ++ m) := fun z hz => (List.mem_append.1 hz).elim (h z) (k z)
theorem be4_byt (n : Int) : Byt (be4 n) := by
  intro z hz
  simp only [be4, List.mem_cons, List.not_mem_nil, or_false] at hz
  rcases hz with rfl | rfl | rfl | rfl <;> omega
mutual
theorem wrB_byt : ∀ (x : S37), G37 x → Byt (wrB x)
  | ⟨t, p, l⟩, h => by
    rw [G37] at h
    rw [wrB]
    exact (((be4_byt _).app (bytesOf_byt _)).app (fun z hz => wf_byte (h.2.1.2 z hz))).app (wrL_byt l h.2.2.2)
theorem wrL_byt : ∀ (l : List S37), GL l → Byt (wrL l)
  | [], _ => by rw [wrL]; intro z hz; cases hz
  | b :: r, h => by
    rw [GL] at h
    rw [wrL]
    exact (wrB_byt b h.1).app (wrL_byt r h.2)
end
theorem parse_wr (l : List S37) (hok : okL false l = true) (hc : cntL l ≤ 256) (hs : szL l ≤ 1000000) : parseP (wrL l) = (l, 0) := by
  have hl := wrL_length hok
  have := restore (SizeOf.sizeOf l + 1) l false 0 ((wrL l).length + 1) (by omega) hok (by generalize cntL l = a at *; omega) (by generalize szL l = a at *; omega) (by rw [hl]; generalize szL l = a at *; omega)
  unfold parseP
  rw [this]
theorem law_restores (l : List S37) (hG : GL l) : Ev (fun k => waveletlaw45_BoxRestores.f k l) true := by
  unfold waveletlaw45_BoxRestores.f
  refine Ev.bind (Few_ev l) ?_
  cases hf : FewB l with
  | false => exact Ev.congr (fun k => by rw [if_neg (by decide)]; rfl) (Ev.now true)
  | true =>
    obtain ⟨h1, h2⟩ := FewB_small hf
    have c1 : cntL l ≤ 1000000000 := Nat.le_trans h1 (by omega)
    have c2 : szL l ≤ 67108864 := Nat.le_trans h2 (by omega)
    refine Ev.congr (fun k => by rw [if_pos rfl]) (Ev.bind (write_ev l c1 c2) ?_)
    by_cases hc : 256 < cntL l
    · have e : writeP l = ([], 5) := by unfold writeP; rw [if_pos hc]
      rw [e]
      exact Ev.congr (fun k => by rw [if_neg (by decide), if_pos (by rfl)]; rfl) (Ev.now true)
    · cases hok : okL false l with
      | false =>
        have e : writeP l = ([], 20) := by unfold writeP; rw [if_neg hc, hok, if_neg (by decide)]
        rw [e]
        exact Ev.congr (fun k => by rw [if_neg (by decide), if_pos (by rfl)]; rfl) (Ev.now true)
      | true =>
        have e : writeP l = (wrL l, 0) := by unfold writeP; rw [if_neg hc, hok, if_pos rfl]
        have hp := parse_ev (wrL l) (wrL_byt l hG) (by rw [wrL_length hok]; exact Nat.le_trans h2 (by omega))
        rw [parse_wr l hok (by generalize cntL l = a at *; omega) (Nat.le_trans h2 (by omega))] at hp
        rw [e]
        refine Ev.congr (fun k => by rw [if_pos rfl]) (Ev.bind hp ?_)
        have s1 : box_Same.f l l = some true := by unfold box_Same.f; rw [sameL_refl]
        have s2 : waveletref45_Same.f l l = some true := by unfold waveletref45_Same.f; rw [sameL_refl]
        exact Ev.congr (fun k => by rw [if_pos rfl, s1, Option.bind_some, if_pos rfl, s2, Option.bind_some, if_pos rfl]; rfl) (Ev.now true)
end Go.Proofs.Ytfemdpjgglhpnaa.P
