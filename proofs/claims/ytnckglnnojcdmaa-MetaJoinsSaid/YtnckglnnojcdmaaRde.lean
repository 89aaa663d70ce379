/- What the reference's Decode of layer 47 answers, in plain terms: the same as meta.Decode. -/
import Derived.Test.YtnckglnnojcdmaaDec
import Derived.Test.YtnckglnnojcdmaaPuC
set_option linter.unusedVariables false
set_option linter.unusedSimpArgs false
namespace Go.Proofs.Ytnckglnnojcdmaa.P
open Go.RowKit Go.Proofs.YtnckglnnojcdmaaW.PrintWords Go.Proofs.YtnckglnnojcdmaaW.PrintLast Go.Proofs.YtnckglnnojcdmaaW.PrintMore

theorem elB_drop (l : List Int) (a i : Nat) : elB (l.drop a) i = elB l (a + i) := by
  simp [elB, List.getD_eq_getElem?_getD]
theorem mid_eq (l : List Int) (a m : Nat) : (l.take (a + m)).drop a = (l.drop a).take m := by
  rw [List.drop_take, Nat.add_sub_cancel_left]
def waveletref47_Decode.f (l0 : List Int) : Option (List S42 × Int) := if Byt l0 ∧ l0.length ≤ 1000000 then some (decP l0) else none
/-- One entry, from place p on. -/
theorem ent_at {l : List Int} (p : Nat) (hp : p ≤ l.length) : entP (l.drop p) =
    if l.length - p < 1 then none
    else if l.length - p - 1 < (elB l p).toNat then none
    else if l.length - p - 1 - (elB l p).toNat < 2 then none
    else if l.length - p - 1 - (elB l p).toNat - 2 < (elB l (p + 1 + (elB l p).toNat) * 256 + elB l (p + 1 + (elB l p).toNat + 1)).toNat then none
    else some (⟨strOfNums ((l.drop (p + 1)).take (elB l p).toNat), strOfNums ((l.drop (p + 1 + (elB l p).toNat + 2)).take (elB l (p + 1 + (elB l p).toNat) * 256 + elB l (p + 1 + (elB l p).toNat + 1)).toNat)⟩,
      l.drop (p + 1 + (elB l p).toNat + 2 + (elB l (p + 1 + (elB l p).toNat) * 256 + elB l (p + 1 + (elB l p).toNat + 1)).toNat)) := by
  unfold entP
  simp only [List.drop_drop, elB_drop, List.length_drop, Nat.add_zero]
set_option maxRecDepth 1000000 in
set_option maxHeartbeats 8000000 in
theorem waveletref47_Decode.calls (A0 : Option Addr) (c0 : Nat) (l0 : List Int) (r1 : List S42) (r2 : Int) (w : World) (hr0 : Kd.C (Kd.int .u8) w A0 l0.length l0) (hc0 : l0.length ≤ c0) (h : waveletref47_Decode.f l0 = some (r1, r2)) :
    Calls Try.prog 25 #[.slice A0 l0.length c0] w fun e w' => ∃ v0_ : Value, e = .returned (.tuple #[v0_, .int .i64 r2]) ∧ Kd.R k42 42 w' w.heap.size (fun _ => True) v0_ r1 ∧ Below w.heap.size w w' := by
  unfold waveletref47_Decode.f at h
  by_cases hB' : Byt l0 ∧ l0.length ≤ 1000000
  case neg =>
    rw [if_neg hB'] at h
    cases h
  rw [if_pos hB'] at h
  obtain ⟨hB, hmx⟩ := hB'
  have h := Option.some.inj h
  obtain ⟨L, hL⟩ : ∃ L, L = l0.length := ⟨_, rfl⟩
  by_cases hn0 : l0.length < 1
  · have hd : decP l0 = ([], 7) := by unfold decP; rw [if_pos hn0]
    rw [hd] at h
    obtain ⟨rfl, rfl⟩ := Prod.mk.inj h
    have hz : l0.length = 0 := by omega
    rw [hz]
    clear hd h hL hr0
    go_enter Try.func25, Try.ntmps25
    go_wp2
    go_ret2
    exact ⟨_, rfl, Kd.R_nil _ _ _ _ _, Below.refl _ _⟩
  have hk0 := byte_cell hr0
  obtain ⟨ad, hAd, hk00⟩ := hk0 0 (by omega)
  have hcell : ∀ j, j < l0.length → w.cell? (ad.add j) = some (.int .u8 (elB l0 j)) := fun j hj => by
    obtain ⟨ad', e, hc⟩ := hk0 j hj
    rw [hAd] at e
    obtain rfl := Option.some.inj e
    exact hc
  have kb := elB_bd hB 0
  obtain ⟨n, hn⟩ : ∃ n : Nat, (n : Int) = elB l0 0 := ⟨(elB l0 0).toNat, by omega⟩
  have hdec : decP l0 = match decA n [] (l0.drop 1) with
      | none => ([], 7)
      | some (xs, r) => if 0 < r.length then ([], 9) else if checkP xs = 0 then (xs, 0) else ([], checkP xs) := by
    unfold decP
    rw [if_neg hn0, ← hn, Int.toNat_natCast]
    rfl
  rw [hdec] at h
  have hc00 : w.cell? ad = some (.int .u8 (n : Int)) := by
    rw [hn]
    simpa [Addr.add] using hk00
  have hLe : ((L : Int) == 0) = false := by rw [beq_eq_false_iff_ne]; omega
  have hLe2 : (L == 0) = false := by rw [beq_eq_false_iff_ne]; omega
  have hLp : (0 : Int) < (L : Int) := by omega
  have hLb : (L : Int) ≤ 1000000 := by omega
  have hn256 : (n : Int) < 256 := by omega
  have hLc : L ≤ c0 := by omega
  rw [← hL] at hcell
  rw [← hL, hAd]
  rw [hAd] at hr0
  have HR := Aside0.mk hr0
  have HCE := Aside0.mk hcell
  have HBY := Aside0.mk hB
  have HLL := Lib.hid hL
  have HH := Lib.hid h
  clear h hdec hk0 hk00 hr0 hcell hB hL hn kb hAd hn0 hmx
  go_enter Try.func25, Try.ntmps25
  go_wp2
  have hR0 : Kd.R k42 42 (w.alloc (.cells #[] 42)) w.heap.size (fun _ => True) (.slice (some ⟨w.heap.size, 0, none⟩) 0 0) [] :=
    ⟨fun _ _ => trivial, [], ⟨rfl, .inr ⟨w.heap.size, 0, #[], rfl, Nat.le_refl _, heap_alloc_new w _, Nat.le_refl _, by simp [maxLen], rfl, rfl⟩⟩, Reps.none _ _⟩
  go_loopg [5, 6, 7] (n + 1) (fun kq v5 v6 v7 w' => ∃ (i p : Nat) (o : List S42), v7 = .int .i64 i ∧ v5 = .int .i64 p ∧ Aside0 (i ≤ n ∧ kq + i = n + 1 ∧ o.length = i ∧ p ≤ L ∧ decA (n - i) o (l0.drop p) = decA n [] (l0.drop 1)) ∧ Aside0 (Kd.R k42 42 w' w.heap.size (fun _ => True) v6 o) ∧ Aside0 (Below w.heap.size w w'))
  case atStart => exact ⟨0, 1, [], by first | rfl | simp, by first | rfl | simp, ⟨by omega, by omega, rfl, by omega, rfl⟩, ⟨hR0⟩, ⟨below_alloc (Below.refl _ _) _⟩⟩
  case round =>
    obtain ⟨i, p, o, rfl, rfl, HI, HO, HB⟩ := hrel
    clear hR0
    have hi0 : (0 : Int) ≤ (i : Int) := by omega
    have hi2 : (i : Int) ≤ 256 := by have := HI.out; omega
    have hpL : p ≤ L := HI.out.2.2.2.1
    have hp0 : (0 : Int) ≤ (p : Int) := by omega
    by_cases hi : i < n
    · have hi' : (i : Int) < (n : Int) := by omega
      obtain ⟨d, hd⟩ : ∃ d, n - i = d + 1 := ⟨n - i - 1, by omega⟩
      have hde := HI.out.2.2.2.2
      rw [hd] at hde
      simp only [decA] at hde
      have hent := ent_at (l := l0) p (by rw [← HLL.out]; exact hpL)
      rw [← HLL.out] at hent
      have HII := Lib.hid hi
      have HDD := Lib.hid hd
      clear hi hd
      have hret : ∀ W : World, Below w.heap.size w W → entP (l0.drop p) = none → ∃ v0_ : Value, (Ending.returned (.tuple #[.slice none 0 0, .int .i64 7]) : Ending) = .returned (.tuple #[v0_, .int .i64 r2]) ∧ Kd.R k42 42 W w.heap.size (fun _ => True) v0_ r1 ∧ Below w.heap.size w W := fun W hb he => by
        rw [he] at hde
        have hh := HH.out
        rw [← hde] at hh
        obtain ⟨rfl, rfl⟩ := Prod.mk.inj hh
        exact ⟨_, rfl, Kd.R_nil _ _ _ _ _, hb⟩
      have HRET := Aside0.mk hret
      clear hret
      by_cases h1 : L - p < 1
      · rw [if_pos h1] at hent
        have HENT := Lib.hid hent
        have D1 := decide_eq_true (show (L : Int) - (p : Int) < 1 by omega)
        have h1' : (L : Int) - (p : Int) < 1 := by omega
        clear hent hde h1
        go_wp2
        go_ret2
        exact HRET.out _ HB.out HENT.out
      rw [if_neg h1] at hent
      obtain ⟨K, hK⟩ : ∃ K : Nat, (K : Int) = elB l0 p := ⟨(elB l0 p).toNat, by have := elB_bd HBY.out p; omega⟩
      have hKb : (K : Int) < 256 := by have := elB_bd HBY.out p; omega
      have cp := pw_cell_below HB.out (HCE.out p (by omega))
      rw [← hK] at cp hent
      rw [Int.toNat_natCast] at hent
      have hpl : (p : Int) < (L : Int) := by omega
      have D1 := decide_eq_false (show ¬ (L : Int) - (p : Int) < 1 by omega)
      have HKK := Lib.hid hK
      clear hK
      by_cases h2 : L - p - 1 < K
      · rw [if_pos h2] at hent
        have HENT := Lib.hid hent
        have D2 := decide_eq_true (show (L : Int) - (p : Int) - 1 < (K : Int) by omega)
        clear hent hde h1 h2
        go_wp2
        go_ret2
        exact HRET.out _ HB.out HENT.out
      rw [if_neg h2] at hent
      have D2 := decide_eq_false (show ¬ (L : Int) - (p : Int) - 1 < (K : Int) by omega)
      obtain ⟨i0, hi0', hiz0, hsz0, hib0⟩ := info_parts info5a
      have hcut1 := cut_mid (P := Try.prog) 30 5 .i64 .i64 Try.underlying30 hi0' 1 hsz0 (some ad) L c0 ((p : Int) + 1) ((p : Int) + 1 + (K : Int)) (by omega) (by omega) (by omega) hLc
      have hm1 := Kd.C_mid (lo := p + 1) (hi := p + 1 + K) (c := c0) HR.out (by omega) (by rw [← HLL.out]; omega) hc0
      rw [show ((p : Int) + 1).toNat = p + 1 by omega, show ((p : Int) + 1 + (K : Int)).toNat = p + 1 + K by omega, Nat.add_sub_cancel_left] at hcut1
      rw [mid_eq, List.length_take, List.length_drop, Nat.min_eq_left (by rw [← HLL.out]; omega)] at hm1
      have hm1' : Kd.C (Kd.int .u8) w (if c0 = p + 1 then some ad else Option.map (fun x : Addr => x.add ((p + 1) * 1)) (some ad)) K ((l0.drop (p + 1)).take K) := hm1
      generalize (if c0 = p + 1 then some ad else Option.map (fun x : Addr => x.add ((p + 1) * 1)) (some ad)) = E1 at *
      have hcv1 : ∀ q, (convert 30 9 (.slice E1 K (c0 - (p + 1)))).run Try.prog (wr.drewN q) = .ok (.string (strOfNums ((l0.drop (p + 1)).take K))) (wr.drewN q) := fun q => Kd.C_string Try.underlying30 Try.underlying5 Try.underlying9 (Kd.C_below hm1' (pw_below_drewN HB.out q))
      have hcv1' : (convert 30 9 (.slice E1 K (c0 - (p + 1)))).run Try.prog wr = .ok (.string (strOfNums ((l0.drop (p + 1)).take K))) wr := Kd.C_string Try.underlying30 Try.underlying5 Try.underlying9 (Kd.C_below hm1' HB.out)
      obtain ⟨S1, hS1⟩ : ∃ S, S = strOfNums ((l0.drop (p + 1)).take K) := ⟨_, rfl⟩
      rw [← hS1] at hcv1 hcv1' hent
      have f1 : (0 : Int) ≤ (p : Int) + 1 := by omega
      have f2 : (p : Int) + 1 ≤ (p : Int) + 1 + (K : Int) := by omega
      have f3 : (p : Int) + 1 + (K : Int) ≤ (L : Int) := by omega
      have f4 : (p : Int) + 1 + (K : Int) ≤ (c0 : Int) := by omega
      clear hi0' hiz0 hsz0 hib0 hm1 hm1' hS1
      by_cases h3 : L - p - 1 - K < 2
      · rw [if_pos h3] at hent
        have HENT := Lib.hid hent
        have D3 := decide_eq_true (show (L : Int) - ((p : Int) + (1 + (K : Int))) < 2 by omega)
        have h3' : (L : Int) - ((p : Int) + (1 + (K : Int))) < 2 := by omega
        clear hent hde h1 h2 h3
        go_wp2
        go_ret2
        exact HRET.out _ HB.out HENT.out
      rw [if_neg h3] at hent
      have D3 := decide_eq_false (show ¬ (L : Int) - ((p : Int) + (1 + (K : Int))) < 2 by omega)
      have cu := pw_cell_below HB.out (HCE.out (p + 1 + K) (by omega))
      have cv := pw_cell_below HB.out (HCE.out (p + 1 + K + 1) (by omega))
      obtain ⟨u, hu⟩ : ∃ u : Nat, (u : Int) = elB l0 (p + 1 + K) := ⟨(elB l0 (p + 1 + K)).toNat, by have := elB_bd HBY.out (p + 1 + K); omega⟩
      obtain ⟨v, hv⟩ : ∃ v : Nat, (v : Int) = elB l0 (p + 1 + K + 1) := ⟨(elB l0 (p + 1 + K + 1)).toNat, by have := elB_bd HBY.out (p + 1 + K + 1); omega⟩
      have hub : (u : Int) < 256 := by have := elB_bd HBY.out (p + 1 + K); omega
      have hvb : (v : Int) < 256 := by have := elB_bd HBY.out (p + 1 + K + 1); omega
      rw [← hu] at cu hent
      rw [← hv] at cv hent
      obtain ⟨V, hV⟩ : ∃ V, V = u * 256 + v := ⟨_, rfl⟩
      have hVi : ((u : Int) * 256 + (v : Int)).toNat = V := by omega
      rw [hVi] at hent
      have cu' : wr.cell? (ad.add (p + (1 + K))) = some (.int .u8 (u : Int)) := by rw [show p + (1 + K) = p + 1 + K by omega]; exact cu
      have cv' : wr.cell? (ad.add (p + (1 + K) + 1)) = some (.int .u8 (v : Int)) := by rw [show p + (1 + K) + 1 = p + 1 + K + 1 by omega]; exact cv
      have cv2 : wr.cell? ⟨ad.block, ad.off + (p + (1 + K) + 1), none⟩ = some (.int .u8 (v : Int)) := by
        have := cv'
        simpa [Addr.add] using this
      have wu : IntKind.i64.wrap (u : Int) = (u : Int) := by rw [IntKind.wrap_i64]; omega
      have wv : IntKind.i64.wrap (v : Int) = (v : Int) := by rw [IntKind.wrap_i64]; omega
      have w1 : IntKind.i64.wrap ((p : Int) + (1 + (K : Int)) + 1) = (p : Int) + (1 + (K : Int)) + 1 := by rw [IntKind.wrap_i64]; omega
      have w2 : IntKind.i64.wrap ((u : Int) * 256) = (u : Int) * 256 := by rw [IntKind.wrap_i64]; omega
      have w3 : IntKind.i64.wrap ((u : Int) * 256 + (v : Int)) = (u : Int) * 256 + (v : Int) := by rw [IntKind.wrap_i64]; omega
      have t1 : ((p : Int) + (1 + (K : Int))).toNat = p + (1 + K) := by omega
      have t2 : ((p : Int) + (1 + (K : Int)) + 1).toNat = p + (1 + K) + 1 := by omega
      have g1 : (0 : Int) ≤ (p : Int) + (1 + (K : Int)) := by omega
      have g2 : (p : Int) + (1 + (K : Int)) < (L : Int) := by omega
      have g3 : (0 : Int) ≤ (p : Int) + (1 + (K : Int)) + 1 := by omega
      have g4 : (p : Int) + (1 + (K : Int)) + 1 < (L : Int) := by omega
      clear hu hv cu cv
      by_cases h4 : L - p - 1 - K - 2 < V
      · rw [if_pos h4] at hent
        have HENT := Lib.hid hent
        have h4' : (L : Int) - ((p : Int) + (1 + (K : Int)) + 2) < (u : Int) * 256 + (v : Int) := by omega
        have D4 := decide_eq_true h4'
        have HVV := Lib.hid hV
        clear hent hde h1 h2 h3 h4 hV hVi
        go_wp2
        go_quiet (fail)
        go_wp2
        go_ret2
        exact HRET.out _ (pw_below_drewN HB.out _) HENT.out
      rw [if_neg h4] at hent
      have D4 := decide_eq_false (show ¬ (L : Int) - ((p : Int) + (1 + (K : Int)) + 2) < (u : Int) * 256 + (v : Int) by omega)
      obtain ⟨i0, hi0', hiz0, hsz0, hib0⟩ := info_parts info5a
      have hcut2 := cut_mid (P := Try.prog) 30 5 .i64 .i64 Try.underlying30 hi0' 1 hsz0 (some ad) L c0 ((p : Int) + (1 + (K : Int)) + 2) ((p : Int) + (1 + (K : Int)) + 2 + ((u : Int) * 256 + (v : Int))) (by omega) (by omega) (by omega) hLc
      have hm2 := Kd.C_mid (lo := p + 1 + K + 2) (hi := p + 1 + K + 2 + V) (c := c0) HR.out (by omega) (by rw [← HLL.out]; omega) hc0
      rw [show ((p : Int) + (1 + (K : Int)) + 2).toNat = p + 1 + K + 2 by omega, show ((p : Int) + (1 + (K : Int)) + 2 + ((u : Int) * 256 + (v : Int))).toNat = p + 1 + K + 2 + V by omega, Nat.add_sub_cancel_left] at hcut2
      rw [mid_eq, List.length_take, List.length_drop, Nat.min_eq_left (by rw [← HLL.out]; omega)] at hm2
      have hm2' : Kd.C (Kd.int .u8) w (if c0 = p + 1 + K + 2 then some ad else Option.map (fun x : Addr => x.add ((p + 1 + K + 2) * 1)) (some ad)) V ((l0.drop (p + 1 + K + 2)).take V) := hm2
      generalize (if c0 = p + 1 + K + 2 then some ad else Option.map (fun x : Addr => x.add ((p + 1 + K + 2) * 1)) (some ad)) = E2 at *
      have hcv2 : ∀ q, (convert 30 9 (.slice E2 V (c0 - (p + 1 + K + 2)))).run Try.prog (wr.drewN q) = .ok (.string (strOfNums ((l0.drop (p + 1 + K + 2)).take V))) (wr.drewN q) := fun q => Kd.C_string Try.underlying30 Try.underlying5 Try.underlying9 (Kd.C_below hm2' (pw_below_drewN HB.out q))
      obtain ⟨S2, hS2⟩ : ∃ S, S = strOfNums ((l0.drop (p + 1 + K + 2)).take V) := ⟨_, rfl⟩
      rw [← hS2] at hcv2 hent
      have q1 : (0 : Int) ≤ (p : Int) + (1 + (K : Int)) + 2 := by omega
      have q2 : (p : Int) + (1 + (K : Int)) + 2 ≤ (p : Int) + (1 + (K : Int)) + 2 + ((u : Int) * 256 + (v : Int)) := by omega
      have q3 : (p : Int) + (1 + (K : Int)) + 2 + ((u : Int) * 256 + (v : Int)) ≤ (L : Int) := by omega
      have q4 : (p : Int) + (1 + (K : Int)) + 2 + ((u : Int) * 256 + (v : Int)) ≤ (c0 : Int) := by omega
      have h4' : ¬ (L : Int) - ((p : Int) + (1 + (K : Int)) + 2) < (u : Int) * 256 + (v : Int) := by omega
      rw [hent] at hde
      have HDE := Lib.hid hde
      have HVV := Lib.hid hV
      have HOL : Hid ((o.length + 1) * 32 ≤ 140737488355328) := Lib.hid (by have := HI.out.2.2.1; omega)
      have HFIN : Hid (p + 1 + K + 2 + V ≤ L) := Lib.hid (by omega)
      clear hent hde h1 h2 h3 h4 hV hVi hi0' hiz0 hsz0 hib0 hm2 hm2' hS2
      go_wp2
      go_quiet (fail)
      go_wp2_with ((with_reducible refine gate_builtin (b := .append) (xs := #[.tmp 87, .tmp 97]) rfl ?_); at_builtin; go_must (refine Kd.R_append k42 (w0 := w) w.heap.size rfl (.tmp 87) (.tmp 97) 22 42 _ 32 rfl Try.underlying22 info42a rfl (by decide) (by omega) _ o ⟨S1, S2⟩ _ (fun _ => True) (fun _ => False) rfl rfl (k42_mkM _ _ _ ⟨S1, S2⟩) (fun _ hk => hk.elim) (fun _ _ => trivial) (Kd.R_drewN HO.out _) (pw_below_drewN HB.out _) (pw_below_drewN HB.out _).size HOL.out ?_); intro v9 w9 hO9 hB9 hg9 hat9)
      go_roundg (gk - 1)
      case measure => have := HI.out; have := HII.out; omega
      case rel => exact ⟨i + 1, p + 1 + K + 2 + V, o ++ [⟨S1, S2⟩], by first | rfl | simp, by congr 1; have := HVV.out; omega, ⟨by have := HII.out; omega, by have := HI.out; have := HII.out; omega, by have := HI.out.2.2.1; simp; omega, HFIN.out, by rw [show n - (i + 1) = d by have := HDD.out; omega]; exact HDE.out⟩, ⟨hO9⟩, ⟨hB9⟩⟩
    · have hi' : ¬ (i : Int) < (n : Int) := by omega
      have hfin : decA n [] (l0.drop 1) = some (o, l0.drop p) := by
        have := HI.out.2.2.2.2
        rw [show n - i = 0 by omega] at this
        exact this.symm
      have hh := HH.out
      rw [hfin] at hh
      obtain ⟨A3, c3, rfl, hc3, hR3⟩ := Kd.R_reads HO.out
      have HR3 := Aside0.mk (And.intro hc3 hR3)
      have hdl : (l0.drop p).length = L - p := by rw [List.length_drop, HLL.out]
      clear hfin hi hc3 hR3
      by_cases hr : 0 < (l0.drop p).length
      · have hh2 : (([] : List S42), (9 : Int)) = (r1, r2) := by
          have := hh
          simp only [if_pos hr] at this
          exact this
        obtain ⟨rfl, rfl⟩ := Prod.mk.inj hh2
        have Z1 : ((p : Int) == (L : Int)) = false := by rw [beq_eq_false_iff_ne]; omega
        have Z2 : ((p : Int) != (L : Int)) = true := by rw [bne_iff_ne]; omega
        clear hh hh2 hr hdl
        go_wp2
        go_ret2
        exact ⟨_, rfl, Kd.R_nil _ _ _ _ _, HB.out⟩
      · have hpe : p = L := by omega
        have hh2 : (if checkP o = 0 then (o, (0 : Int)) else ([], checkP o)) = (r1, r2) := by
          have := hh
          simp only [if_neg hr] at this
          exact this
        have Z1 : ((p : Int) == (L : Int)) = true := by rw [beq_iff_eq]; omega
        have Z2 : ((p : Int) != (L : Int)) = false := by rw [bne_eq_false_iff_eq]; omega
        obtain ⟨kc, hkc⟩ := (rchk o).rounds
        have HKC := Lib.hid hkc
        clear hh hr hkc hpe hdl
        by_cases hz : checkP o = 0
        · rw [if_pos hz] at hh2
          obtain ⟨rfl, rfl⟩ := Prod.mk.inj hh2
          have HZ := Lib.hid hz
          clear hh2 hz
          go_wp2_with (go_at_call 15; (with_reducible refine (waveletref47_Check.calls kc _ _ o (checkP o) _ HR3.out.2 HR3.out.1 HKC.out).mono ?_); rintro e w5 ⟨rfl, hb5⟩; rw [HZ.out])
          go_ret2
          exact ⟨_, rfl, Kd.R_below HO.out hb5, below_then HB.out HB.out.size hb5⟩
        · rw [if_neg hz] at hh2
          obtain ⟨rfl, rfl⟩ := Prod.mk.inj hh2
          have Z : (checkP o == 0) = false := by simpa using hz
          have Z3 : (checkP o != 0) = true := by simpa using hz
          clear hh2 hz
          go_wp2_with (go_at_call 15; (with_reducible refine (waveletref47_Check.calls kc _ _ o (checkP o) _ HR3.out.2 HR3.out.1 HKC.out).mono ?_); rintro e w5 ⟨rfl, hb5⟩)
          go_ret2
          exact ⟨_, rfl, Kd.R_nil _ _ _ _ _, below_then HB.out HB.out.size hb5⟩
end Go.Proofs.Ytnckglnnojcdmaa.P
