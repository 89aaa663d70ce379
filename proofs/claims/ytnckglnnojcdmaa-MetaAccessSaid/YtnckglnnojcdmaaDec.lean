/- What meta.take, meta.entry and meta.Decode answer, in plain terms. -/
import Derived.Test.YtnckglnnojcdmaaChk
import Derived.LoopTactic
import Derived.WalkSpells
import Derived.Outline
import Derived.Lib.Hide
import Derived.Deep.RegionHeld3
import Derived.Deep.DrawnRows
import Derived.Laws.BitsLemmas
set_option linter.unusedVariables false
set_option linter.unusedSimpArgs false
namespace Go.Proofs.Ytnckglnnojcdmaa.P
open Go.RowKit Go.Proofs.YtnckglnnojcdmaaW.PrintWords Go.Proofs.YtnckglnnojcdmaaW.PrintLast Go.Proofs.YtnckglnnojcdmaaW.PrintMore

theorem info5a : (Try.prog.info? 5).map (fun i => (i.zero, i.size, i.bytes)) = some (some (.int .u8 0), 1, 1) := by kernel_rfl
/-- Where the part behind the first n elements of a slice of bytes begins. -/
def cutA (A : Option Addr) (c n : Nat) : Option Addr := if c = n then A else A.map (·.add (n * 1))
theorem cutA_C {w : World} {A : Option Addr} {c : Nat} {l : List Int} (hr : Kd.C (Kd.int .u8) w A l.length l) (hc : l.length ≤ c) {n : Nat} (hn : n ≤ l.length) :
    Kd.C (Kd.int .u8) w A n (l.take n) ∧ Kd.C (Kd.int .u8) w (cutA A c n) (l.length - n) (l.drop n) := by
  have hr1 := Kd.C_take (m := n) hr hn
  have hr2 := Kd.C_drop (m := n) (c := c) hr hn hc
  rw [List.length_take, Nat.min_eq_left hn] at hr1
  rw [List.length_drop] at hr2
  exact ⟨hr1, hr2⟩
set_option maxHeartbeats 1000000 in
theorem take_yes (A : Option Addr) (c L : Nat) (n : Int) (w : World) (hc : L ≤ c) (h0 : 0 ≤ n) (hn : n ≤ L) (hm : L ≤ 9223372036854775807) :
    Calls Try.prog 35 #[.slice A L c, .int .i64 n] w fun e w' => e = .returned (.tuple #[.slice A n.toNat c, .slice (cutA A c n.toNat) (L - n.toNat) (c - n.toNat), .bool true]) ∧ ∃ m, w' = w.drewN m := by
  obtain ⟨i0, hi0, hiz0, hsz0, hib0⟩ := info_parts info5a
  have hcut1 := cut_to (P := Try.prog) 30 5 .i64 Try.underlying30 hi0 A L c n h0 hn hc
  have hcut2 := cut_from (P := Try.prog) 30 5 .i64 Try.underlying30 hi0 1 hsz0 A L c n h0 hn
  obtain ⟨A2, hA2⟩ : ∃ A2, A2 = cutA A c n.toNat := ⟨_, rfl⟩
  have hcut3 : ∀ W : World, (Instr.slice 30 (.slice A L c) (some (.int .i64 n)) none none).run Try.prog W = .ok (.slice A2 (L - n.toNat) (c - n.toNat)) W := by rw [hA2]; exact hcut2
  obtain ⟨N, hN⟩ : ∃ N, N = n.toNat := ⟨_, rfl⟩
  rw [← hN] at hcut1 hcut3
  have HA := Lib.hid hA2
  have HN := Lib.hid hN
  have hlt : ¬ (L : Int) < n := by omega
  have hb3 : n ≤ (c : Int) := by omega
  clear hi0 hsz0 hiz0 hib0 hcut2 hA2 hN
  go_enter Try.func35, Try.ntmps35
  go_wp2
  go_quiet (fail)
  go_wp2
  go_ret3
  exact ⟨by rw [← HA.out, ← HN.out]; rfl, _, rfl⟩
theorem take_no (A : Option Addr) (c L : Nat) (n : Int) (w : World) (hn : (L : Int) < n) :
    Calls Try.prog 35 #[.slice A L c, .int .i64 n] w fun e w' => e = .returned (.tuple #[.slice none 0 0, .slice none 0 0, .bool false]) ∧ w' = w := by
  go_enter Try.func35, Try.ntmps35
  go_wp2
  go_ret3
  exact ⟨rfl, rfl⟩

/-! ### one entry -/
def Byt (l : List Int) : Prop := ∀ z ∈ l, 0 ≤ z ∧ z < 256
instance (l : List Int) : Decidable (Byt l) := by unfold Byt; infer_instance
def elB (l : List Int) (i : Nat) : Int := l.getD i 0
theorem elB_bd {l : List Int} (h : Byt l) (i : Nat) : 0 ≤ elB l i ∧ elB l i < 256 := by
  unfold elB
  rw [List.getD_eq_getElem?_getD]
  cases e : l[i]? with
  | none => simp
  | some z => exact h z (List.mem_of_getElem? e)
/-- An entry, and the bytes behind it. -/
def entP (l : List Int) : Option (S42 × List Int) :=
  if l.length < 1 then none
  else if l.length - 1 < (elB l 0).toNat then none
  else if l.length - 1 - (elB l 0).toNat < 2 then none
  else if l.length - 1 - (elB l 0).toNat - 2 < (elB ((l.drop 1).drop (elB l 0).toNat) 0 * 256 + elB ((l.drop 1).drop (elB l 0).toNat) 1).toNat then none
  else some (⟨strOfNums ((l.drop 1).take (elB l 0).toNat), strOfNums ((((l.drop 1).drop (elB l 0).toNat).drop 2).take (elB ((l.drop 1).drop (elB l 0).toNat) 0 * 256 + elB ((l.drop 1).drop (elB l 0).toNat) 1).toNat)⟩,
    (((l.drop 1).drop (elB l 0).toNat).drop 2).drop (elB ((l.drop 1).drop (elB l 0).toNat) 0 * 256 + elB ((l.drop 1).drop (elB l 0).toNat) 1).toNat)
theorem byte_cell {w : World} {A : Option Addr} {l : List Int} {n : Nat} (h : Kd.C (Kd.int .u8) w A n l) (i : Nat) (hi : i < n) : ∃ ad : Addr, A = some ad ∧ w.cell? (ad.add i) = some (.int .u8 (elB l i)) := by
  obtain ⟨ad, e, hc⟩ := h.2.2 (by omega)
  have hn : l.length = n := h.1
  obtain ⟨c, hl, hk, hg⟩ := hc i _ (List.getElem?_eq_getElem (by omega))
  have hk' : c = [.int .u8 (l[i]'(by omega))] := hk
  have := hg 0 (.int .u8 (l[i]'(by omega))) (by rw [hk']; rfl)
  have this : w.cell? (ad.add (i * 1 + 0)) = some (.int .u8 (l[i]'(by omega))) := this
  rw [Nat.mul_one, Nat.add_zero] at this
  refine ⟨ad, e, ?_⟩
  rw [this]
  simp [elB, List.getD_eq_getElem?_getD, show i < l.length by omega]
theorem quiet_far {P : Program} {f : FuncId} {args : Array Value} {v : Value} (h : ∀ W, Calls P f args W fun e w' => e = .returned v ∧ ∃ m, w' = W.drewN m) (w : World) (a n : Nat) :
    Calls P f args (w.drewN (a + n)) fun e w'' => e = .returned v ∧ ∃ m, w'' = w.drewN (a + m) :=
  (h (w.drewN (a + n))).mono fun _ _ ⟨he, m, hm⟩ => ⟨he, n + m, by rw [hm, World.drewN_drewN, Nat.add_assoc]⟩
def EntPost (w0 : World) (l : List Int) (w : World) (e : Ending) (w' : World) : Prop :=
  match entP l with
  | none => e = .returned (.tuple #[.agg #[.string ⟨#[]⟩, .string ⟨#[]⟩], .slice none 0 0, .bool false]) ∧ Below w.heap.size w w'
  | some (x, r) => ∃ (A2 : Option Addr) (c2 : Nat), e = .returned (.tuple #[.agg #[.string x.f0, .string x.f1], .slice A2 r.length c2, .bool true]) ∧ Kd.C (Kd.int .u8) w0 A2 r.length r ∧ r.length ≤ c2 ∧ Below w.heap.size w w'
theorem nil_str : (Value.string ⟨#[]⟩) = .string ByteArray.empty := rfl
set_option maxRecDepth 1000000 in
set_option maxHeartbeats 4000000 in
theorem entry_calls (w0 : World) (A : Option Addr) (c : Nat) (l : List Int) (w : World) (hbl : Below w0.heap.size w0 w) (hr : Kd.C (Kd.int .u8) w0 A l.length l) (hc : l.length ≤ c) (hm : l.length ≤ 9223372036854775807) (hB : Byt l) :
    Calls Try.prog 36 #[.slice A l.length c] w (EntPost w0 l w) := by
  obtain ⟨L, hL⟩ : ∃ L, L = l.length := ⟨_, rfl⟩
  have HW := Aside0.mk (fun n => pw_below_drewN (below_alloc (Below.refl w.heap.size w) (.cells #[.string ⟨#[]⟩, .string ⟨#[]⟩] 42)) n)
  have HV := Aside0.mk (fun n => below_then hbl hbl.size (HW.out n))
  clear hbl
  by_cases h0 : l.length < 1
  · have hp : entP l = none := by unfold entP; rw [if_pos h0]
    unfold EntPost
    rw [hp]
    rw [← hL] at h0 ⊢
    have h0' : (L : Int) < 1 := by omega
    clear hp hL hr
    go_enter Try.func36, Try.ntmps36
    go_wp2_with (go_at_call 35; (with_reducible refine (take_no A c L 1 _ h0').mono ?_); rintro e w' ⟨rfl, rfl⟩)
    exact bodyPost_ret (v := .tuple #[.agg #[.string ⟨#[]⟩, .string ⟨#[]⟩], .slice none 0 0, .bool false]) (by simp [results, Try.results36, go_sem]) rfl ⟨rfl, (Below.refl _ _).alloc (Nat.le_refl _) _⟩
  -- the key's length
  obtain ⟨kc1, kc2⟩ := cutA_C hr hc (n := 1) (by omega)
  obtain ⟨ad, hAd, hk0⟩ := byte_cell hr 0 (by omega)
  have kb := elB_bd hB 0
  obtain ⟨k, hk⟩ : ∃ k, k = elB l 0 := ⟨_, rfl⟩
  rw [← hk] at hk0 kb
  obtain ⟨l1, hl1⟩ : ∃ l1, l1 = l.drop 1 := ⟨_, rfl⟩
  rw [← hl1] at kc2
  have hl1n : l1.length = L - 1 := by rw [hl1, List.length_drop, hL]
  have hB1 : Byt l1 := fun z hz => hB z (by rw [hl1] at hz; exact List.mem_of_mem_drop hz)
  obtain ⟨A1, hA1⟩ : ∃ A1, A1 = cutA A c 1 := ⟨_, rfl⟩
  rw [← hA1, ← hL, ← hl1n] at kc2
  have kc1' := kc1
  have hL1 : 1 ≤ L := by omega
  have hLc : L ≤ c := by omega
  have hLm : L ≤ 9223372036854775807 := by omega
  have hk1 : ∀ n, ((w.alloc (.cells #[.string ⟨#[]⟩, .string ⟨#[]⟩] 42)).drewN n).cell? ad = some (.int .u8 k) := fun n => by
    have := pw_cell_below (HV.out n) hk0
    simpa [Addr.add] using this
  have T1 : ∀ W : World, Calls Try.prog 35 #[.slice (some ad) L c, .int .i64 1] W fun e w' => e = .returned (.tuple #[.slice (some ad) 1 c, .slice A1 (L - 1) (c - 1), .bool true]) ∧ ∃ m, w' = W.drewN m := fun W => by
    have := take_yes A c L 1 W hLc (by omega) (by omega) hLm
    rw [show (1 : Int).toNat = 1 from rfl, ← hA1, hAd] at this
    exact this
  by_cases h1 : L - 1 < k.toNat
  · have hp : entP l = none := by unfold entP; rw [if_neg h0, ← hk, ← hL, if_pos h1]
    unfold EntPost
    rw [hp, ← hL, hAd]
    have h1' : ((L - 1 : Nat) : Int) < k := by omega
    have hki : (k : Int) < 256 := kb.2
    have hk2 : 0 ≤ k := kb.1
    have HT1 := Aside0.mk T1
    clear hp hL hr kc1 kc2 hk0 hk hl1 hA1 hAd kb h0 T1 hl1n
    go_enter Try.func36, Try.ntmps36
    go_wp2_with (first | (go_at_call 35; (with_reducible refine (HT1.out _).mono ?_); rintro e w' ⟨rfl, m1, rfl⟩) | (go_at_call 35; (with_reducible refine (take_no A1 (c - 1) (L - 1) k _ h1').mono ?_); rintro e w' ⟨rfl, rfl⟩))
    exact bodyPost_ret (v := .tuple #[.agg #[.string ⟨#[]⟩, .string ⟨#[]⟩], .slice none 0 0, .bool false]) (by simp [results, Try.results36, go_sem]) rfl ⟨rfl, below_set (below_set (HW.out _) (Nat.le_refl _)) (Nat.le_refl _)⟩
  -- the key, and the value's length
  obtain ⟨K, hK⟩ : ∃ K, K = k.toNat := ⟨_, rfl⟩
  rw [← hK] at h1
  obtain ⟨vc1, vc2⟩ := cutA_C (A := A1) (c := c - 1) (l := l1) kc2 (by omega) (n := K) (by omega)
  obtain ⟨l2, hl2⟩ : ∃ l2, l2 = l1.drop K := ⟨_, rfl⟩
  obtain ⟨A2, hA2⟩ : ∃ A2, A2 = cutA A1 (c - 1) K := ⟨_, rfl⟩
  have hl2n : l2.length = L - 1 - K := by rw [hl2, List.length_drop, hl1n]
  have hB2 : Byt l2 := fun z hz => hB1 z (by rw [hl2] at hz; exact List.mem_of_mem_drop hz)
  rw [← hl2, ← hA2, hl1n, ← hl2n] at vc2
  have T2 : ∀ W : World, Calls Try.prog 35 #[.slice A1 (L - 1) (c - 1), .int .i64 k] W fun e w' => e = .returned (.tuple #[.slice A1 K (c - 1), .slice A2 (L - 1 - K) (c - 1 - K), .bool true]) ∧ ∃ m, w' = W.drewN m := fun W => by
    have := take_yes A1 (c - 1) (L - 1) k W (by omega) kb.1 (by omega) (by omega)
    rw [← hK, ← hA2] at this
    exact this
  by_cases h2 : L - 1 - K < 2
  · have hp : entP l = none := by unfold entP; rw [if_neg h0, ← hk, ← hK, ← hL, if_neg h1, if_pos h2]
    unfold EntPost
    rw [hp, ← hL, hAd]
    have h2' : ((L - 1 - K : Nat) : Int) < 2 := by omega
    have hki : (k : Int) < 256 := kb.2
    have hk2 : 0 ≤ k := kb.1
    have HT1 := Aside0.mk T1
    have HT2 := Aside0.mk T2
    clear hp hL hr kc1 kc2 hk0 hk hl1 hA1 hAd kb h0 T1 hl1n hK hl2 hA2 hl2n T2 vc1 vc2
    go_enter Try.func36, Try.ntmps36
    go_wp2_with (first | (go_at_call 35; (with_reducible refine (HT1.out _).mono ?_); rintro e w' ⟨rfl, m1, rfl⟩) | (go_at_call 35; (with_reducible refine (HT2.out _).mono ?_); rintro e w' ⟨rfl, m2, rfl⟩) | (go_at_call 35; (with_reducible refine (take_no A2 (c - 1 - K) (L - 1 - K) 2 _ h2').mono ?_); rintro e w' ⟨rfl, rfl⟩))
    exact bodyPost_ret (v := .tuple #[.agg #[.string ⟨#[]⟩, .string ⟨#[]⟩], .slice none 0 0, .bool false]) (by simp [results, Try.results36, go_sem]) rfl ⟨rfl, below_set (below_set (HW.out _) (Nat.le_refl _)) (Nat.le_refl _)⟩
  obtain ⟨wc1, wc2⟩ := cutA_C (A := A2) (c := c - 1 - K) (l := l2) vc2 (by omega) (n := 2) (by omega)
  obtain ⟨ad2, hAd2, hv0⟩ := byte_cell vc2 0 (by omega)
  obtain ⟨ad2', hAd2', hv1⟩ := byte_cell vc2 1 (by omega)
  rw [hAd2] at hAd2'
  obtain rfl := Option.some.inj hAd2'
  have vb0 := elB_bd hB2 0
  have vb1 := elB_bd hB2 1
  obtain ⟨v0, hv0e⟩ : ∃ k, k = elB l2 0 := ⟨_, rfl⟩
  obtain ⟨v1, hv1e⟩ : ∃ k, k = elB l2 1 := ⟨_, rfl⟩
  rw [← hv0e] at hv0 vb0
  rw [← hv1e] at hv1 vb1
  obtain ⟨l3, hl3⟩ : ∃ l3, l3 = l2.drop 2 := ⟨_, rfl⟩
  obtain ⟨A3, hA3⟩ : ∃ A3, A3 = cutA A2 (c - 1 - K) 2 := ⟨_, rfl⟩
  have hl3n : l3.length = L - 1 - K - 2 := by rw [hl3, List.length_drop, hl2n]
  rw [← hl3, ← hA3, hl2n, ← hl3n] at wc2
  have T3 : ∀ W : World, Calls Try.prog 35 #[.slice (some ad2) (L - 1 - K) (c - 1 - K), .int .i64 2] W fun e w' => e = .returned (.tuple #[.slice (some ad2) 2 (c - 1 - K), .slice A3 (L - 1 - K - 2) (c - 1 - K - 2), .bool true]) ∧ ∃ m, w' = W.drewN m := fun W => by
    have := take_yes A2 (c - 1 - K) (L - 1 - K) 2 W (by omega) (by omega) (by omega) (by omega)
    rw [show (2 : Int).toNat = 2 from rfl, ← hA3, hAd2] at this
    exact this
  rw [hAd2] at T2
  have hv0c : ∀ n, ((w.alloc (.cells #[.string ⟨#[]⟩, .string ⟨#[]⟩] 42)).drewN n).cell? ad2 = some (.int .u8 v0) := fun n => by
    have := pw_cell_below (HV.out n) hv0
    simpa [Addr.add] using this
  have hv1c : ∀ n, ((w.alloc (.cells #[.string ⟨#[]⟩, .string ⟨#[]⟩] 42)).drewN n).cell? (ad2.add 1) = some (.int .u8 v1) := fun n => pw_cell_below (HV.out n) hv1
  have hv1d : ∀ n, ((w.alloc (.cells #[.string ⟨#[]⟩, .string ⟨#[]⟩] 42)).drewN n).cell? ⟨ad2.block, ad2.off + 1, none⟩ = some (.int .u8 v1) := fun n => by
    have := hv1c n
    simpa [Addr.add] using this
  have hor : bits .or .i64 (v0 * 256) v1 = v0 * 256 + v1 := bits_join .i64 62 (by decide) (fun n h0 h1 => by rw [IntKind.wrap_i64]; omega) 8 _ _ (by omega) (by omega) (by omega) (by omega) (by omega) (by omega)
  have hsh : IntKind.i64.wrap (v0 * 256) = v0 * 256 := by rw [IntKind.wrap_i64]; omega
  obtain ⟨V, hV⟩ : ∃ V, V = v0 * 256 + v1 := ⟨_, rfl⟩
  by_cases h3 : L - 1 - K - 2 < V.toNat
  · have hp : entP l = none := by unfold entP; rw [if_neg h0, ← hk, ← hK, ← hL, if_neg h1, if_neg h2, ← hl1, ← hl2, ← hv0e, ← hv1e, ← hV, if_pos h3]
    unfold EntPost
    rw [hp, ← hL, hAd]
    have h3' : ((L - 1 - K - 2 : Nat) : Int) < v0 * 256 + v1 := by omega
    have hT4 : ∀ W : World, Calls Try.prog 35 #[.slice A3 (L - 1 - K - 2) (c - 1 - K - 2), .int .i64 (v0 * 256 + v1)] W fun e w' => e = .returned (.tuple #[.slice none 0 0, .slice none 0 0, .bool false]) ∧ ∃ m, w' = W.drewN m := fun W => (take_no A3 (c - 1 - K - 2) (L - 1 - K - 2) _ W h3').mono fun _ _ ⟨a, b⟩ => ⟨a, 0, by rw [b]; rfl⟩
    have hki : (k : Int) < 256 := kb.2
    have hk2 : 0 ≤ k := kb.1
    have b0 := vb0.1
    have b1 := vb0.2
    have b2 := vb1.1
    have b3 := vb1.2
    have HT1 := Aside0.mk T1
    have HT2 := Aside0.mk T2
    have HT3 := Aside0.mk T3
    have HT4 := Aside0.mk hT4
    clear hp hL hr kc1 kc2 hk0 hk hl1 hA1 hAd kb h0 T1 hl1n hK hl2 hA2 hl2n T2 vc1 vc2 wc1 wc2 hAd2 hAd2' hv0 hv1 hv0e hv1e hl3 hA3 hl3n T3 hV vb0 vb1 hT4 h3 h3'
    go_enter Try.func36, Try.ntmps36
    go_wp2_with (first | (go_at_call 35; (with_reducible refine (HT1.out _).mono ?_); rintro e w' ⟨rfl, m1, rfl⟩) | (go_at_call 35; (with_reducible refine (HT2.out _).mono ?_); rintro e w' ⟨rfl, m2, rfl⟩) | (go_at_call 35; (with_reducible refine (HT3.out _).mono ?_); rintro e w' ⟨rfl, m3, rfl⟩))
    go_quiet ((go_at_call 35; first | exact quiet_far HT4.out _ _ _ | exact Calls.quiet_of (HT4.out _)))
    go_wp2
    exact bodyPost_ret (v := .tuple #[.agg #[.string ⟨#[]⟩, .string ⟨#[]⟩], .slice none 0 0, .bool false]) (by simp [results, Try.results36, go_sem]) rfl ⟨rfl, below_set (below_set (HW.out _) (Nat.le_refl _)) (Nat.le_refl _)⟩
  obtain ⟨N, hN⟩ : ∃ N, N = V.toNat := ⟨_, rfl⟩
  rw [← hN] at h3
  obtain ⟨xc1, xc2⟩ := cutA_C (A := A3) (c := c - 1 - K - 2) (l := l3) (by rw [hl3n]; rw [hl3n] at wc2; exact wc2) (by omega) (n := N) (by omega)
  obtain ⟨l4, hl4⟩ : ∃ l4, l4 = l3.drop N := ⟨_, rfl⟩
  obtain ⟨A4, hA4⟩ : ∃ A4, A4 = cutA A3 (c - 1 - K - 2) N := ⟨_, rfl⟩
  have hl4n : l4.length = L - 1 - K - 2 - N := by rw [hl4, List.length_drop, hl3n]
  rw [← hl4, ← hA4, hl3n, ← hl4n] at xc2
  have T4 : ∀ W : World, Calls Try.prog 35 #[.slice A3 (L - 1 - K - 2) (c - 1 - K - 2), .int .i64 (v0 * 256 + v1)] W fun e w' => e = .returned (.tuple #[.slice A3 N (c - 1 - K - 2), .slice A4 (L - 1 - K - 2 - N) (c - 1 - K - 2 - N), .bool true]) ∧ ∃ m, w' = W.drewN m := fun W => by
    have := take_yes A3 (c - 1 - K - 2) (L - 1 - K - 2) (v0 * 256 + v1) W (by omega) (by omega) (by omega) (by omega)
    rw [← hV, ← hN, ← hA4, hV] at this
    exact this
  have hp : entP l = some (⟨strOfNums (l1.take K), strOfNums (l3.take N)⟩, l4) := by
    unfold entP
    rw [if_neg h0, ← hk, ← hK, ← hL, if_neg h1, if_neg h2, ← hl1, ← hl2, ← hv0e, ← hv1e, ← hV, ← hN, if_neg h3, ← hl3, ← hl4]
  have hcv1 : ∀ n, (convert 30 9 (.slice A1 K (c - 1))).run Try.prog ((w.alloc (.cells #[.string ⟨#[]⟩, .string ⟨#[]⟩] 42)).drewN n) = .ok (.string (strOfNums (l1.take K))) ((w.alloc (.cells #[.string ⟨#[]⟩, .string ⟨#[]⟩] 42)).drewN n) := fun n => Kd.C_string Try.underlying30 Try.underlying5 Try.underlying9 (Kd.C_below vc1 (HV.out n))
  have hcv2 : ∀ n, (convert 30 9 (.slice A3 N (c - 1 - K - 2))).run Try.prog ((w.alloc (.cells #[.string ⟨#[]⟩, .string ⟨#[]⟩] 42)).drewN n) = .ok (.string (strOfNums (l3.take N))) ((w.alloc (.cells #[.string ⟨#[]⟩, .string ⟨#[]⟩] 42)).drewN n) := fun n => Kd.C_string Try.underlying30 Try.underlying5 Try.underlying9 (Kd.C_below xc1 (HV.out n))
  unfold EntPost
  rw [hp, ← hL, hAd]
  obtain ⟨S1, hS1⟩ : ∃ S, S = strOfNums (l1.take K) := ⟨_, rfl⟩
  obtain ⟨S2, hS2⟩ : ∃ S, S = strOfNums (l3.take N) := ⟨_, rfl⟩
  rw [← hS1] at hcv1 ⊢
  rw [← hS2] at hcv2 ⊢
  have hki : (k : Int) < 256 := kb.2
  have hk2 : 0 ≤ k := kb.1
  have b0 := vb0.1
  have b1 := vb0.2
  have b2 := vb1.1
  have b3 := vb1.2
  have HT1 := Aside0.mk T1
  have HT2 := Aside0.mk T2
  have HT3 := Aside0.mk T3
  have HT4 := Aside0.mk T4
  have HX := Aside0.mk xc2
  have HN4 := Lib.hid hl4n
  have HCC : Hid (L - 1 - K - 2 - N ≤ c - 1 - K - 2 - N) := Lib.hid (by omega)
  clear hp hL hr kc1 kc1' kc2 hk0 hk hl1 hA1 hAd kb h0 T1 hl1n hK hl2 hA2 hl2n T2 vc1 vc2 wc1 wc2 hAd2 hAd2' hv0 hv1 hv0e hv1e hl3 hA3 hl3n T3 hV vb0 vb1 h3 T4 hN hl4 hA4 xc1 xc2 hl4n hS1 hS2 h1 h2
  go_enter Try.func36, Try.ntmps36
  go_wp2_with (first | (go_at_call 35; (with_reducible refine (HT1.out _).mono ?_); rintro e w' ⟨rfl, m1, rfl⟩) | (go_at_call 35; (with_reducible refine (HT2.out _).mono ?_); rintro e w' ⟨rfl, m2, rfl⟩) | (go_at_call 35; (with_reducible refine (HT3.out _).mono ?_); rintro e w' ⟨rfl, m3, rfl⟩))
  go_quiet ((go_at_call 35; first | exact quiet_far HT4.out _ _ _ | exact Calls.quiet_of (HT4.out _)))
  go_wp2
  refine bodyPost_ret (v := .tuple #[.agg #[.string S1, .string S2], .slice A4 (L - 1 - K - 2 - N) (c - 1 - K - 2 - N), .bool true]) (by simp [results, Try.results36, go_sem]) rfl ⟨A4, c - 1 - K - 2 - N, by rw [HN4.out], HX.out, by rw [HN4.out]; exact HCC.out, below_set (below_set (HW.out _) (Nat.le_refl _)) (Nat.le_refl _)⟩

/-! ### Decode -/
def decA : Nat → List S42 → List Int → Option (List S42 × List Int)
  | 0, acc, l => some (acc, l)
  | n + 1, acc, l => match entP l with
    | none => none
    | some (x, r) => decA n (acc ++ [x]) r
def decP (l : List Int) : List S42 × Int :=
  if l.length < 1 then ([], 7) else match decA (elB l 0).toNat [] (l.drop 1) with
    | none => ([], 7)
    | some (xs, r) => if 0 < r.length then ([], 9) else if checkP xs = 0 then (xs, 0) else ([], checkP xs)
def meta_Decode.f (l0 : List Int) : Option (List S42 × Int) := if Byt l0 then some (decP l0) else none
theorem ent_rest {l : List Int} (h : Byt l) {x : S42} {r : List Int} (he : entP l = some (x, r)) : Byt r ∧ r.length ≤ l.length := by
  unfold entP at he
  split at he
  · cases he
  split at he
  · cases he
  split at he
  · cases he
  split at he
  · cases he
  · have e := Option.some.inj he
    have e2 : r = _ := (congrArg Prod.snd e).symm
    rw [e2]
    exact ⟨fun z hz => h z (List.mem_of_mem_drop (List.mem_of_mem_drop (List.mem_of_mem_drop (List.mem_of_mem_drop hz)))), by simp only [List.length_drop]; omega⟩
theorem info42a : (Try.prog.info? 42).map (fun i => (i.zero, i.size, i.bytes)) = some (some (.agg #[.string ⟨#[]⟩, .string ⟨#[]⟩]), 2, 32) := by kernel_rfl
set_option maxRecDepth 1000000 in
set_option maxHeartbeats 4000000 in
theorem meta_Decode.calls (A0 : Option Addr) (c0 : Nat) (l0 : List Int) (r1 : List S42) (r2 : Int) (w : World) (hr0 : Kd.C (Kd.int .u8) w A0 l0.length l0) (hc0 : l0.length ≤ c0) (h : meta_Decode.f l0 = some (r1, r2)) :
    Calls Try.prog 24 #[.slice A0 l0.length c0] w fun e w' => ∃ v0_ : Value, e = .returned (.tuple #[v0_, .int .i64 r2]) ∧ Kd.R k42 42 w' w.heap.size (fun _ => True) v0_ r1 ∧ Below w.heap.size w w' := by
  unfold meta_Decode.f at h
  by_cases hB : Byt l0
  case neg =>
    rw [if_neg hB] at h
    cases h
  rw [if_pos hB] at h
  have h := Option.some.inj h
  have hmx := hr0.2.1
  obtain ⟨L, hL⟩ : ∃ L, L = l0.length := ⟨_, rfl⟩
  by_cases hn0 : l0.length < 1
  · have hd : decP l0 = ([], 7) := by unfold decP; rw [if_pos hn0]
    rw [hd] at h
    obtain ⟨rfl, rfl⟩ := Prod.mk.inj h
    rw [← hL] at hn0 ⊢
    have h0' : (L : Int) < 1 := by omega
    clear hd h hL hr0
    go_enter Try.func24, Try.ntmps24
    go_wp2_with (go_at_call 35; (with_reducible refine (take_no A0 c0 L 1 _ h0').mono ?_); rintro e w' ⟨rfl, rfl⟩)
    go_ret2
    exact ⟨_, rfl, Kd.R_nil _ _ _ _ _, Below.refl _ _⟩
  obtain ⟨kc1, kc2⟩ := cutA_C hr0 hc0 (n := 1) (by omega)
  obtain ⟨ad, hAd, hk0⟩ := byte_cell hr0 0 (by omega)
  have kb := elB_bd hB 0
  obtain ⟨k, hk⟩ : ∃ k, k = elB l0 0 := ⟨_, rfl⟩
  rw [← hk] at hk0 kb
  obtain ⟨l1, hl1⟩ : ∃ l1, l1 = l0.drop 1 := ⟨_, rfl⟩
  rw [← hl1] at kc2
  have hl1n : l1.length = L - 1 := by rw [hl1, List.length_drop, hL]
  have hB1 : Byt l1 := fun z hz => hB z (by rw [hl1] at hz; exact List.mem_of_mem_drop hz)
  obtain ⟨A1, hA1⟩ : ∃ A1, A1 = cutA A0 c0 1 := ⟨_, rfl⟩
  rw [← hA1, ← hL, ← hl1n] at kc2
  have hL1 : 1 ≤ L := by omega
  have hLc : L ≤ c0 := by omega
  have hLm : L ≤ 9223372036854775807 := by omega
  have hk1 : ∀ n, (w.drewN n).cell? ad = some (.int .u8 k) := fun n => by
    have := pw_cell_below (pw_below_drewN (Below.refl w.heap.size w) n) hk0
    simpa [Addr.add] using this
  have T1 : ∀ W : World, Calls Try.prog 35 #[.slice (some ad) L c0, .int .i64 1] W fun e w' => e = .returned (.tuple #[.slice (some ad) 1 c0, .slice A1 (L - 1) (c0 - 1), .bool true]) ∧ ∃ m, w' = W.drewN m := fun W => by
    have := take_yes A0 c0 L 1 W hLc (by omega) (by omega) hLm
    rw [show (1 : Int).toNat = 1 from rfl, ← hA1, hAd] at this
    exact this
  obtain ⟨n, hn⟩ : ∃ n : Nat, (n : Int) = k := ⟨k.toNat, by omega⟩
  have hdec : decP l0 = match decA n [] l1 with
      | none => ([], 7)
      | some (xs, r) => if 0 < r.length then ([], 9) else if checkP xs = 0 then (xs, 0) else ([], checkP xs) := by
    unfold decP
    rw [if_neg hn0, ← hk, ← hl1, ← hn, Int.toNat_natCast]
  rw [hdec] at h
  rw [← hL, hAd]
  have hn256 : (n : Int) < 256 := by omega
  rw [← hn] at hk1
  have HT1 := Aside0.mk T1
  have HH := Lib.hid h
  have HK2 := Aside0.mk kc2
  have HL1N := Lib.hid hl1n
  clear h hdec hk hk0 hl1 hA1 hAd hr0 kc1 kc2 T1 hL hl1n hB hn kb
  go_enter Try.func24, Try.ntmps24
  go_wp2_with (go_at_call 35; (with_reducible refine (HT1.out _).mono ?_); rintro e w' ⟨rfl, m1, rfl⟩)
  rw [← HL1N.out]
  go_loopg [5, 7, 24] (n + 1) (fun kq v5 v7 v24 w' => ∃ (i : Nat) (o : List S42) (rest : List Int) (A' : Option Addr) (c' : Nat), v24 = .int .i64 i ∧ v5 = .slice A' rest.length c' ∧ Aside0 (i ≤ n ∧ kq + i = n + 1 ∧ o.length = i ∧ decA (n - i) o rest = decA n [] l1 ∧ Byt rest ∧ rest.length ≤ l1.length) ∧ Aside0 (Kd.C (Kd.int .u8) w A' rest.length rest ∧ rest.length ≤ c') ∧ Aside0 (Kd.R k42 42 w' w.heap.size (fun _ => True) v7 o) ∧ Aside0 (Below w.heap.size w w'))
  case atStart => exact ⟨0, [], l1, A1, c0 - 1, by first | rfl | simp, rfl, ⟨by omega, by omega, rfl, rfl, hB1, Nat.le_refl _⟩, ⟨HK2.out, by have := HL1N.out; omega⟩, ⟨Kd.R_nil _ _ _ _ _⟩, ⟨pw_below_drewN (Below.refl _ _) _⟩⟩
  case round =>
    obtain ⟨i, o, rest, A', c', rfl, rfl, HI, HC, HO, HB⟩ := hrel
    have hi0 : (0 : Int) ≤ (i : Int) := by omega
    have hi2 : (i : Int) ≤ 256 := by have := HI.out; omega
    by_cases hi : i < n
    · have hi' : (i : Int) < (n : Int) := by omega
      obtain ⟨d, hd⟩ : ∃ d, n - i = d + 1 := ⟨n - i - 1, by omega⟩
      have hde := HI.out.2.2.2.1
      rw [hd] at hde
      simp only [decA] at hde
      have hBr := HI.out.2.2.2.2.1
      have HBR := Aside0.mk hBr
      have HM : Hid (rest.length ≤ 9223372036854775807) := Lib.hid (by have := HI.out.2.2.2.2.2; have := HL1N.out; omega)
      have HII := Lib.hid hi
      have HDD := Lib.hid hd
      cases hent : entP rest with
      | none =>
        rw [hent] at hde
        have HDE := Lib.hid hde
        have HENT := Lib.hid hent
        clear hde hent hd hi
        go_wp2_with (go_at_call 36; (with_reducible refine (entry_calls w A' c' rest _ HB.out HC.out.1 HC.out.2 HM.out HBR.out).mono ?_); rintro e w2 he; have he2 : e = .returned (.tuple #[.agg #[.string ⟨#[]⟩, .string ⟨#[]⟩], .slice none 0 0, .bool false]) ∧ Below wr.heap.size wr w2 := (by unfold EntPost at he; rw [HENT.out] at he; exact he); obtain ⟨rfl, hb2⟩ := he2; clear he)
        go_ret2
        have hh := HH.out
        rw [← HDE.out] at hh
        obtain ⟨rfl, rfl⟩ := Prod.mk.inj hh
        exact ⟨_, rfl, Kd.R_nil _ _ _ _ _, below_alloc (below_then HB.out HB.out.size hb2) _⟩
      | some xr =>
        obtain ⟨x, r⟩ := xr
        rw [hent] at hde
        have hrest := ent_rest hBr hent
        have HDE := Lib.hid hde
        have HENT := Lib.hid hent
        have HRS := Aside0.mk hrest
        have HOL : Hid ((o.length + 1) * 32 ≤ 140737488355328) := Lib.hid (by have := HI.out.2.2.1; omega)
        clear hde hent hd hi hrest
        go_wp2_with (first | (go_at_call 36; (with_reducible refine (entry_calls w A' c' rest _ HB.out HC.out.1 HC.out.2 HM.out HBR.out).mono ?_); rintro e w2 he; have he2 : ∃ (A2 : Option Addr) (c2 : Nat), e = .returned (.tuple #[.agg #[.string x.f0, .string x.f1], .slice A2 r.length c2, .bool true]) ∧ Kd.C (Kd.int .u8) w A2 r.length r ∧ r.length ≤ c2 ∧ Below wr.heap.size wr w2 := (by unfold EntPost at he; rw [HENT.out] at he; exact he); obtain ⟨A2, c2, rfl, hC2, hc2, hb2⟩ := he2; have HC2 := Aside0.mk (And.intro hC2 hc2); have HO2 := Aside0.mk (Kd.R_alloc (Kd.R_below HO.out hb2) (.cells #[.string x.f0, .string x.f1] 42)); have HB2 := Aside0.mk (below_alloc (below_then HB.out HB.out.size hb2) (.cells #[.string x.f0, .string x.f1] 42)); clear he hC2 hc2 hb2) | ((with_reducible refine gate_builtin (b := .append) (xs := #[.tmp 34, .tmp 36]) rfl ?_); at_builtin; go_must (refine Kd.R_append k42 (w0 := w) w.heap.size rfl (.tmp 34) (.tmp 36) 22 42 _ 32 rfl Try.underlying22 info42a rfl (by decide) (by omega) _ o x _ (fun _ => True) (fun _ => False) rfl (by refine Eq.trans (b := .slice (some ⟨w2.heap.size + 1, 0, none⟩) 1 1) rfl ?_; simp) (k42_mkM _ _ _ x) (fun _ hk => hk.elim) (fun _ _ => trivial) HO2.out HB2.out HB2.out.size HOL.out ?_); intro v9 w9 hO9 hB9 hg9 hat9))
        go_roundg (gk - 1)
        case measure => have := HI.out; have := HII.out; omega
        case rel => exact ⟨i + 1, o ++ [x], r, A2, c2, by first | rfl | simp, rfl, ⟨by have := HII.out; omega, by have := HI.out; have := HII.out; omega, by have := HI.out.2.2.1; simp; omega, by rw [show n - (i + 1) = d by have := HDD.out; omega]; exact HDE.out, HRS.out.1, by have := HRS.out.2; have := HI.out.2.2.2.2.2; omega⟩, HC2, ⟨hO9⟩, ⟨hB9⟩⟩
    · have hi' : ¬ (i : Int) < (n : Int) := by omega
      have hfin : decA n [] l1 = some (o, rest) := by
        have := HI.out.2.2.2.1
        rw [show n - i = 0 by omega] at this
        exact this.symm
      have hh := HH.out
      rw [hfin] at hh
      obtain ⟨A3, c3, rfl, hc3, hR3⟩ := Kd.R_reads HO.out
      have HR3 := Aside0.mk (And.intro hc3 hR3)
      clear hfin hi hc3 hR3
      by_cases hr : 0 < rest.length
      · have hr' : (0 : Int) < (rest.length : Int) := by omega
        have hh2 : (([] : List S42), (9 : Int)) = (r1, r2) := by
          have := hh
          simp only [if_pos hr] at this
          exact this
        obtain ⟨rfl, rfl⟩ := Prod.mk.inj hh2
        clear hh hh2 hr
        go_wp2
        go_ret2
        exact ⟨_, rfl, Kd.R_nil _ _ _ _ _, HB.out⟩
      · have hr' : ¬ (0 : Int) < (rest.length : Int) := by omega
        have hr2 : rest.length = 0 := by omega
        have hh2 : (if checkP o = 0 then (o, (0 : Int)) else ([], checkP o)) = (r1, r2) := by
          have := hh
          simp only [if_neg hr] at this
          exact this
        obtain ⟨kc, hkc⟩ := (chk o).rounds
        have HKC := Lib.hid hkc
        clear hh hr hkc
        by_cases hz : checkP o = 0
        · rw [if_pos hz] at hh2
          obtain ⟨rfl, rfl⟩ := Prod.mk.inj hh2
          have Z : (checkP o == 0) = true := by rw [hz]; rfl
          have HZ := Lib.hid hz
          clear hh2 hz hr2
          go_wp2_with (go_at_call 14; (with_reducible refine (meta_Check.calls kc _ _ o (checkP o) _ HR3.out.2 HR3.out.1 HKC.out).mono ?_); rintro e w5 ⟨rfl, hb5⟩; rw [HZ.out])
          go_ret2
          exact ⟨_, rfl, Kd.R_below HO.out hb5, below_then HB.out HB.out.size hb5⟩
        · rw [if_neg hz] at hh2
          obtain ⟨rfl, rfl⟩ := Prod.mk.inj hh2
          have Z : (checkP o == 0) = false := by simpa using hz
          have Z2 : (checkP o != 0) = true := by simpa using hz
          clear hh2 hz hr2
          go_wp2_with (go_at_call 14; (with_reducible refine (meta_Check.calls kc _ _ o (checkP o) _ HR3.out.2 HR3.out.1 HKC.out).mono ?_); rintro e w5 ⟨rfl, hb5⟩)
          go_ret2
          exact ⟨_, rfl, Kd.R_nil _ _ _ _ _, below_then HB.out HB.out.size hb5⟩
end Go.Proofs.Ytnckglnnojcdmaa.P
