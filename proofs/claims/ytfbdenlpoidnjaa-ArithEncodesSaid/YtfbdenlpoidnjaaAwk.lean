/- awake: the chapter's examples. -/
import Derived.Test.YtfbdenlpoidnjaaTrm
import Derived.Test.YtfbdenlpoidnjaaDec
set_option linter.unusedVariables false
set_option linter.unusedSimpArgs false
namespace Go.Proofs.Ytfbdenlpoidnjaa.P
open Go.RowKit Go.Proofs.YtfbdenlpoidnjaaW.PrintWords Go.Proofs.YtfbdenlpoidnjaaW.PrintLast Go.Proofs.YtfbdenlpoidnjaaW.PrintMore

def aw1 : EncS := ⟨[1984], [], 2147481600, 2147485695, true⟩
theorem aw1_eq : encE (newE 1) 0 1 = aw1 := by rfl
theorem aw1_term : termP aw1 = [128] := by rfl
theorem awd_eq : (decE (startD (newD 1) [128]) 0).1 = 1 := by rfl
theorem same_loop (l : List Int) (hl : l.length ≤ 1000000) : ∀ n i : Nat, i + n = l.length → Ev (fun k => waveletlaw11_same.l0 k l l (l.length : Int) (i : Int)) true
  | 0, i, h => ⟨1, fun k hk => by
      obtain ⟨j, rfl⟩ : ∃ j, k = j + 1 := ⟨k - 1, by omega⟩
      show waveletlaw11_same.l0 (j + 1) _ _ _ _ = _
      rw [waveletlaw11_same.l0, if_neg (by omega)]⟩
  | n + 1, i, h => by
    have ih := same_loop l hl n (i + 1) (by omega)
    refine Ev.step (fun k => ?_) ih
    rw [waveletlaw11_same.l0, if_pos (by omega), if_pos (by omega), if_pos (by omega), if_pos (by omega), if_pos rfl, wrap64_id (by omega) (by omega)]
    rfl
theorem same_self (l : List Int) (hl : l.length ≤ 1000000) : Ev (fun k => waveletlaw11_same.f k l l) true := by
  refine Ev.congr (fun k => ?_) (same_loop l hl l.length 0 (by omega))
  unfold waveletlaw11_same.f
  rw [if_pos rfl]
  rfl
/-- Two equal rows are the same. -/
theorem same_calls (A0 : Option Addr) (c0 : Nat) (A1 : Option Addr) (c1 : Nat) (l : List Int) (hl : l.length ≤ 1000000) (w : World) (hr0 : Kd.C (Kd.int .u8) w A0 l.length l) (hc0 : l.length ≤ c0) (hr1 : Kd.C (Kd.int .u8) w A1 l.length l) (hc1 : l.length ≤ c1) :
    Calls Try.prog 21 #[.slice A0 l.length c0, .slice A1 l.length c1] w fun e w' => e = .returned (.bool true) ∧ Drawn0 w w' := by
  obtain ⟨k, hk⟩ := (same_self l hl).rounds
  exact waveletlaw11_same.calls k A0 c0 l A1 c1 l true w hr0 hc0 hr1 hc1 hk
theorem aw_prob (w : World) (b : Nat) (S : Nat → Prop) (g : Nat) (s : EncS) (v : Int) (h : EncAt b w S g s) (hp : 0 < s.p.length) (hv : probE s.p 0 = v) : Calls Try.prog 30 #[.pointer (some ⟨g, 0, none⟩), .int .i64 0] w fun e w' => e = .returned (.int .i64 v) ∧ w' = w := by
  rw [← hv]; exact Probability.good b w S g s 0 h hp
theorem aw_size (w : World) (b : Nat) (S : Nat → Prop) (g : Nat) (s : EncS) (v : Int) (h : EncAt b w S g s) (hp : 0 < s.p.length) (ho : s.out.length ≤ 1000000000) (hv : sizeE s = v) : Calls Try.prog 28 #[.pointer (some ⟨g, 0, none⟩)] w fun e w' => e = .returned (.int .i64 v) ∧ w' = w := by
  rw [← hv]; exact Size.good b w S g s h hp ho
theorem aw_new (w : World) : Calls Try.prog 15 #[.int .i64 1] w fun e w' => ∃ g : Nat, e = .returned (.tuple #[.pointer (some ⟨g, 0, none⟩), .int .i64 0]) ∧ EncAt w.heap.size w' (fun k => k < w'.heap.size) g (newE 1) ∧ Below w.heap.size w w' :=
  (NewEncoder.good 1 w (by decide) (by decide)).mono fun e w' ⟨g, h1, h2, h3⟩ => ⟨g, h1, h2.bound.mono (fun k hk => hk.2.2), h3⟩
theorem aw_newd (w : World) : Calls Try.prog 16 #[.int .i64 1] w fun e w' => ∃ g : Nat, e = .returned (.tuple #[.pointer (some ⟨g, 0, none⟩), .int .i64 0]) ∧ DecAt w.heap.size w' (fun k => k < w'.heap.size) g (newD 1) ∧ Below w.heap.size w w' :=
  (NewDecoder.good 1 w (by decide) (by decide)).mono fun e w' ⟨g, h1, h2, h3⟩ => ⟨g, h1, h2.bound.mono (fun k hk => hk.2.2), h3⟩
theorem newE1_ok : EncOk (newE 1) := newE_ok 1 (by decide) (by decide)
theorem aw1_ok : EncOk aw1 := by rw [← aw1_eq]; exact encE_ok newE1_ok (by decide) 1
theorem aw_enc (w0 w : World) (S : Nat → Prop) (g : Nat) (hB : Below w0.heap.size w0 w) (h : EncAt w0.heap.size w S g (newE 1)) : Calls Try.prog 26 #[.pointer (some ⟨g, 0, none⟩), .int .i64 0, .int .i64 1] w fun e w' => e = .returned (.int .i64 0) ∧ EncAt w0.heap.size w' (fun k => k < w'.heap.size) g aw1 ∧ Below w0.heap.size w0 w' :=
  (Encode.good w0 w S g (newE 1) 0 1 hB h newE1_ok (by decide) (.inr rfl) (by decide)).mono fun e w' ⟨h1, h2, h3, _⟩ => ⟨h1, by rw [aw1_eq] at h2; exact h2.bound.mono (fun k hk => hk.2.2), h3⟩
theorem aw_trm (w0 w : World) (g : Nat) (hB : Below w0.heap.size w0 w) (h : EncAt w0.heap.size w (fun k => k < w.heap.size) g aw1) : Calls Try.prog 22 #[.pointer (some ⟨g, 0, none⟩)] w fun e w' => ∃ A c, e = .returned (.slice A 1 c) ∧ 1 ≤ c ∧ Kd.C (Kd.int .u8) w' A 1 [128] ∧ EncAt w0.heap.size w' (fun k => k < w'.heap.size) g (termE aw1) ∧ Below w0.heap.size w0 w' :=
  (Terminate.good w0 w _ g aw1 hB h aw1_ok (by decide) (fun k hk => hk)).mono fun e w' ⟨v, h1, h2, h3, h4, _⟩ => by
    rw [aw1_term] at h2
    obtain ⟨A, c, rfl, hc, hC⟩ := Kd.R_reads h2
    exact ⟨A, c, h1, hc, hC, h3.bound.mono (fun k hk => hk.2.2), h4⟩
theorem lit1_C (w : World) (a : Int) : (Kd.int .u8).C (w.alloc (.cells #[.int .u8 a] 5)) (some ⟨w.heap.size, 0, none⟩) 1 [a] := by
  obtain ⟨A, n, hA, hr⟩ := own_reads (own_lit w 0 5 .u8 [a] (Nat.zero_le _) (by simp))
  injection hA with h1 h2 h3
  subst h1
  exact Kd.C_of_reads (enc := Value.int .u8) (d := (0 : Int)) (h1 := fun _ => rfl) hr
theorem aw_same (A0 : Option Addr) (c0 : Nat) (W : World) (hr0 : Kd.C (Kd.int .u8) W A0 1 [128]) (hc0 : 1 ≤ c0) : Calls Try.prog 21 #[.slice A0 1 c0, .slice (some ⟨W.heap.size, 0, none⟩) 1 1] (W.alloc (.cells #[.int .u8 128] 5)) fun e w' => e = .returned (.bool true) ∧ Drawn0 (W.alloc (.cells #[.int .u8 128] 5)) w' :=
  same_calls A0 c0 (some ⟨W.heap.size, 0, none⟩) 1 [128] (by decide) (W.alloc (.cells #[.int .u8 128] 5)) (Kd.C_alloc hr0 _) hc0 (lit1_C W 128) (by decide)
theorem aw_start (w0 W : World) (g : Nat) (hB : Below w0.heap.size w0 W) (h : DecAt w0.heap.size W (fun k => k < W.heap.size) g (newD 1)) : Calls Try.prog 33 #[.pointer (some ⟨g, 0, none⟩), .slice (some ⟨W.heap.size, 0, none⟩) 1 1] (W.alloc (.cells #[.int .u8 128] 5)) fun e w' => e = .returned (.int .i64 0) ∧ DecAt w0.heap.size w' (fun k => k < w'.heap.size) g (startD (newD 1) [128]) ∧ Below w0.heap.size w0 w' :=
  (Start.good w0 (W.alloc (.cells #[.int .u8 128] 5)) (fun k => k < W.heap.size) g (newD 1) (some ⟨W.heap.size, 0, none⟩) 1 [128] (below_alloc hB _) (h.below (below_alloc (Below.refl _ _) _)) (by decide) (lit1_C W 128) (by decide) (by intro z hz; rw [List.mem_singleton.1 hz]; omega) (by decide)).mono fun e w' ⟨h1, h2, h3, _⟩ => ⟨h1, h2.bound.mono (fun k hk => hk.2.2), h3⟩
theorem aw_dec (w0 w : World) (g : Nat) (hB : Below w0.heap.size w0 w) (h : DecAt w0.heap.size w (fun k => k < w.heap.size) g (startD (newD 1) [128])) : Calls Try.prog 37 #[.pointer (some ⟨g, 0, none⟩), .int .i64 0] w fun e w' => e = .returned (.tuple #[.int .i64 1, .int .i64 0]) ∧ Below w0.heap.size w0 w' :=
  (Decode.good w0 w _ g (startD (newD 1) [128]) 0 hB h (startD_ok (newD_p 1 (by decide) (by decide)) (by intro z hz; rw [List.mem_singleton.1 hz]; omega) (by decide)) (by decide)).mono fun e w' ⟨h1, _, h3, _⟩ => ⟨by rw [awd_eq] at h1; exact h1, h3⟩
theorem aw_ad (w : World) (p b r : Int) (h0 : 0 ≤ p) (h1 : p ≤ 4096) (hb : b = 0 ∨ b = 1) (hr : adaptP p b = r) : Calls Try.prog 11 #[.int .i64 p, .int .i64 b] w fun e w' => e = .returned (.int .i64 r) ∧ Drawn0 w w' := by
  obtain ⟨k, hk⟩ := (adapt_f p b h0 h1 hb).rounds
  rw [hr] at hk
  exact arith_Adapt.calls k _ _ _ _ hk
set_option maxHeartbeats 8000000 in
set_option maxRecDepth 100000 in
theorem awake.calls (w : World) : Calls Try.prog 13 #[] w fun e w' => e = .returned (.bool true) ∧ Below w.heap.size w w' := by
  go_enter Try.func13, Try.ntmps13
  go_wp2_with (first
    | (go_at_call 15; (with_reducible refine (aw_new _).mono ?_); rintro e w1 ⟨g, rfl, hE, hb⟩; have HE1 := Aside0.mk hE; have HB1 := Aside0.mk hb; clear hE hb)
    | (go_at_call 30; (with_reducible refine (aw_prob _ _ _ _ _ 2048 HE1.out (by decide) rfl).mono ?_); rintro e w2 ⟨rfl, hw⟩; replace hw := hw.symm; subst hw)
    | (go_at_call 28; (with_reducible refine (aw_size _ _ _ _ _ 0 HE1.out (by decide) (by decide) rfl).mono ?_); rintro e w2 ⟨rfl, hw⟩; replace hw := hw.symm; subst hw)
    | (go_at_call 26; (with_reducible refine (aw_enc _ _ _ _ HB1.out HE1.out).mono ?_); rintro e w2 ⟨rfl, hE, hb⟩; have HE2 := Aside0.mk hE; have HB2 := Aside0.mk hb; clear hE hb)
    | (go_at_call 28; (with_reducible refine (aw_size _ _ _ _ _ 4 HE2.out (by decide) (by decide) rfl).mono ?_); rintro e w3 ⟨rfl, hw⟩; replace hw := hw.symm; subst hw)
    | (go_at_call 30; (with_reducible refine (aw_prob _ _ _ _ _ 1984 HE2.out (by decide) rfl).mono ?_); rintro e w3 ⟨rfl, hw⟩; replace hw := hw.symm; subst hw)
    | (go_at_call 22; (with_reducible refine (aw_trm _ _ _ HB2.out HE2.out).mono ?_); rintro e w3 ⟨A, c, rfl, hc1, hC, hE, hb⟩; have HE3 := Aside0.mk hE; have HB3 := Aside0.mk hb; have HC3 := Aside0.mk hC; clear hE hb hC)
    | (go_at_call 21; (with_reducible refine (aw_same _ _ _ HC3.out (by omega)).mono ?_); rintro e w4 ⟨rfl, ⟨m, rfl⟩⟩; have HE4 := Aside0.mk (HE3.out.below (pw_below_drewN (below_alloc (Below.refl _ _) (.cells #[.int .u8 128] 5)) m)); have HB4 := Aside0.mk (pw_below_drewN (below_alloc HB3.out (.cells #[.int .u8 128] 5)) m))
    | (go_at_call 28; (with_reducible refine (aw_size _ _ _ _ _ 0 HE4.out (by decide) (by decide) rfl).mono ?_); rintro e w5 ⟨rfl, hw⟩; replace hw := hw.symm; subst hw)
    | (go_at_call 16; (with_reducible refine (aw_newd _).mono ?_); rintro e w6 ⟨gd, rfl, hD, hb⟩; have HB6 := Aside0.mk (below_then HB4.out HB4.out.size hb); have HD6 := Aside0.mk (hD.lower HB4.out.size); clear hD hb)
    | (go_at_call 33; (with_reducible refine (aw_start w w6 gd HB6.out HD6.out).mono ?_); rintro e w7 ⟨rfl, hD, hb⟩; have HB7 := Aside0.mk hb; have HD7 := Aside0.mk hD; clear hD hb)
    | (go_at_call 37; (with_reducible refine (aw_dec w w7 gd HB7.out HD7.out).mono ?_); rintro e w8 ⟨rfl, hb⟩; have HB8 := Aside0.mk hb; clear hb)
    | (go_at_call 11; (with_reducible refine (aw_ad _ 2048 0 2112 (by decide) (by decide) (.inl rfl) rfl).mono ?_); rintro e w9 ⟨rfl, ⟨n1, rfl⟩⟩)
    | (go_at_call 11; (with_reducible refine (aw_ad _ 31 1 31 (by decide) (by decide) (.inr rfl) rfl).mono ?_); rintro e w9 ⟨rfl, ⟨n2, rfl⟩⟩))
  go_ret
  exact ⟨rfl, pw_below_drewN HB8.out _⟩
end Go.Proofs.Ytfbdenlpoidnjaa.P
