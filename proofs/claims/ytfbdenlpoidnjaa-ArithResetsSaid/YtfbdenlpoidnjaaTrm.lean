/- Terminate, walked. -/
import Derived.Test.YtfbdenlpoidnjaaTpu
import Derived.Test.YtfbdenlpoidnjaaEnc
import Derived.BigQuiet
set_option linter.unusedVariables false
set_option linter.unusedSimpArgs false
namespace Go.Proofs.Ytfbdenlpoidnjaa.P
open Go.RowKit Go.Proofs.YtfbdenlpoidnjaaW.PrintWords Go.Proofs.YtfbdenlpoidnjaaW.PrintLast Go.Proofs.YtfbdenlpoidnjaaW.PrintMore

set_option maxHeartbeats 8000000 in
set_option maxRecDepth 100000 in
theorem Terminate.good (w0 w : World) (S : Nat → Prop) (g : Nat) (s : EncS) (hB : Below w0.heap.size w0 w) (h : EncAt w0.heap.size w S g s) (hok : EncOk s) (hlen : s.out.length ≤ 1000000) (hS : ∀ k, S k → k < w.heap.size) : Calls Try.prog 22 #[.pointer (some ⟨g, 0, none⟩)] w fun e w' => ∃ v, e = .returned v ∧ Kd.R (Kd.int .u8) 5 w' w0.heap.size (fun k => w.heap.size ≤ k) v (termP s) ∧ EncAt w0.heap.size w' S g (termE s) ∧ Below w0.heap.size w0 w' ∧ Kept w w' S := by
  obtain ⟨vp, vo, h1, h2, h3, h4, h5⟩ := h
  obtain ⟨Ap, cp, rfl⟩ := Kd.R_slice h4
  obtain ⟨Ao, co, eo, hco, hCo⟩ := Kd.R_reads h5
  subst eo
  have x0 : w.cell? ⟨g, 0, none⟩ = some (.slice Ap s.p.length cp) := (blk_cell h1 0).trans rfl
  have x1 : w.cell? ⟨g, 1, none⟩ = some (.slice Ao s.out.length co) := (blk_cell h1 1).trans rfl
  have HV := Aside0.mk (valid.at w g s.p.length cp _ x0 hok.p0)
  have HX := Aside0.mk (And.intro h1 (And.intro h2 (And.intro h3 (And.intro h4 h5))))
  have HBl := Aside0.mk hB
  have HC := Aside0.mk hCo
  have HL := Aside0.mk hlen
  have HOK := Aside0.mk hok
  have HCH := Aside0.mk (fun W => choose.calls W s.low s.size hok.low0 hok.low1 (by have := hok.size0; omega) hok.size1)
  have HBD := Aside0.mk (chooseP_bd (size := s.size) hok.low0 hok.low1)
  have HFU : Aside0 (fullP s = (if (chooseP s.low s.size).2 then carryP s.out else s.out) ++ lit4P (chooseP s.low s.size).1) := ⟨rfl⟩
  have HTE : Aside0 (termP s = trimP (fullP s)) := ⟨rfl⟩
  have HSS := Aside0.mk hS
  generalize chooseP s.low s.size = cz at *
  obtain ⟨v, over⟩ := cz
  dsimp only at HCH HBD HFU
  obtain ⟨v0, v1⟩ := HBD.out
  clear h1 h2 h3 h4 h5 hok hB hlen hCo HBD hS
  have hw1 : IntKind.u8.wrap (v / 16777216) = v / 16777216 := by rw [IntKind.wrap_u8]; omega
  have hw2 : IntKind.u8.wrap (v / 65536) = v / 65536 % 256 := by rw [IntKind.wrap_u8]
  have hw3 : IntKind.u8.wrap (v / 256) = v / 256 % 256 := by rw [IntKind.wrap_u8]
  have hw4 : IntKind.u8.wrap v = v % 256 := by rw [IntKind.wrap_u8]
  cases over
  · go_enter Try.func22, Try.ntmps22
    go_wp2_with (first | (go_at_call 42; (with_reducible refine HV.out.mono ?_); rintro e w1 ⟨rfl, hw⟩; replace hw := hw.symm; subst hw) | ((with_reducible refine gate_builtin (b := .append) (xs := #[.const (.slice none 0 0), .tmp 12]) rfl ?_); at_builtin; refine Kd.R_append_rows (Kd.int .u8) (w0 := w0) w0.heap.size rfl (.const (.slice none 0 0)) (.tmp 12) 34 5 (.int .u8 0) 1 rfl Try.underlying34 info5 rfl (by decide) (by decide) (.slice none 0 0) [] s.out _ _ _ (fun k => w.heap.size ≤ k) (fun _ => False) rfl rfl (Kd.R_nil _ _ _ _ _) HC.out (fun _ _ h => h) (fun _ h => h.elim) (fun _ h => h) HBl.out HBl.out.size (by have := HL.out; simp; omega) ?_; intro v1 w1 hR1 hb1 hg1 hat1; obtain ⟨A6, c6, e6⟩ := Kd.R_slice hR1; have e7 : v1 = .slice A6 s.out.length c6 := (by simpa using e6); clear e6; subst e7; have BK := blk_grown HX.out.1 hg1 (by simp [Value.ownBlock]); have HN := Aside0.mk (And.intro BK (And.intro hR1 (And.intro hb1 hg1))); clear BK hR1 hb1 hg1 hat1))
    have d2 : w1.cell? ⟨g, 2, none⟩ = some (.int .i64 s.low) := (blk_cell HN.out.1 2).trans rfl
    have d3 : w1.cell? ⟨g, 3, none⟩ = some (.int .i64 s.size) := (blk_cell HN.out.1 3).trans rfl
    go_quiet ((go_at_call 43; exact Calls.quiet_of_same (HCH.out _)))
    have HP := Aside0.mk (Kd.R_drewN (Kd.R_grown HX.out.2.2.2.1 HN.out.2.2.2 (fun k _ => by simp [Value.ownBlock])) nq)
    have HO : Aside0 (Kd.R (Kd.int .u8) 5 (w1.drewN nq) w0.heap.size (fun k => w.heap.size ≤ k) (.slice A6 s.out.length c6) s.out) := ⟨by simpa using Kd.R_drewN HN.out.2.1 nq⟩
    have HK : Aside0 (Kept w (w1.drewN nq) S) := ⟨Kept.drewN (Kept.of_grown HN.out.2.2.2 (Kept.refl w S) (fun k hk => by simp [Value.ownBlock] at hk)) nq⟩
    have HB := Aside0.mk (pw_below_drewN HN.out.2.2.1 nq)
    have HBK := Aside0.mk (blk_drewN HN.out.1 nq)
    have HLE : Aside0 (w.heap.size ≤ (w1.drewN nq).heap.size) := ⟨HK.out.1⟩
    clear d2 d3 HN
    generalize w1.drewN nq = W2 at *
    have HFT : Aside0 (fullP s = s.out ++ lit4P v) := ⟨by rw [HFU.out]; rfl⟩
    have HLT : Aside0 ((s.out).length ≤ 1000000) := ⟨HL.out⟩
    go_wp2_with (((with_reducible refine gate_builtin (b := .append) (xs := #[.tmp 29, .tmp 41]) rfl ?_); at_builtin; refine Kd.R_append_rows (Kd.int .u8) (w0 := w0) w0.heap.size rfl (.tmp 29) (.tmp 41) 34 5 (.int .u8 0) 1 rfl Try.underlying34 info5 rfl (by decide) (by omega) (.slice A6 s.out.length c6) (s.out) _ _ _ _ (fun k => w.heap.size ≤ k) (fun _ => False) (by rfl) (by rfl) (Kd.R_alloc HO.out _) (lit4_C W2 _ _ _ _) (fun _ _ h => h) (fun _ h => h.elim) ?aF (Below.alloc HB.out HB.out.size _) ?aS ?aL ?_; (case aF => exact fun k hk => (by have := HK.out.1; simp at hk; omega)); (case aS => have := HB.out.size; simp; omega); (case aL => have := HLT.out; omega); intro v3 w3 hR3 hb3 hg3 hat3; have hgl := HSS.out g HX.out.2.1; have BK := Aside0.mk (blk_grown (blk_alloc HBK.out _) hg3 (fun he => (by have h2 : w.heap.size ≤ g := HO.out.1 g he.symm; omega))); have HP3 := Aside0.mk (Kd.R_grown (Kd.R_alloc HP.out _) hg3 (fun k hk he => (by have h2 : w.heap.size ≤ k := HO.out.1 k he.symm; have h3 := HSS.out k hk; omega))); have HK3 := Aside0.mk (Kept.of_grown hg3 (Kept.alloc HK.out _) (fun k hk => .inr (HO.out.1 k hk))); have HR3 : Aside0 (Kd.R (Kd.int .u8) 5 w3 w0.heap.size (fun k => w.heap.size ≤ k) v3 (fullP s)) := ⟨(by rw [HFT.out]; exact hR3)⟩; have HB3 := Aside0.mk hb3; clear hR3 hb3 hg3 hat3 hgl; obtain ⟨A7, c7, e7⟩ := Kd.R_slice HR3.out; subst e7))
    have HNL : Aside0 ((fullP s).length ≤ 1000004) := ⟨by rw [HFT.out, List.length_append]; have := HLT.out; show _ + 4 ≤ _; omega⟩
    generalize fullP s = B at *
    clear HFT HFU
    go_loopg [3] (B.length + 1) (fun kq v3 w' => ∃ n : Nat, v3 = .slice A7 n c7 ∧ w' = w3 ∧ Aside0 (n ≤ B.length ∧ kq = n + 1 ∧ trimP (B.take n) = trimP B))
    case atStart => exact ⟨B.length, rfl, rfl, ⟨Nat.le_refl _, rfl, by rw [List.take_length]⟩⟩
    case round =>
      obtain ⟨n, rfl, hw3, HI⟩ := hrel
      subst hw3
      by_cases hn : n = 0 ∨ ¬ rd B ((n : Int) - 1) = 0
      · have HTR : Aside0 (termP s = B.take n) := ⟨by
          rw [HTE.out, ← HI.out.2.2]
          rcases hn with rfl | hn
          · rfl
          · cases n with
            | zero => rfl
            | succ m => exact trimP_last (by have := HI.out.1; omega) (by rwa [show (((m + 1 : Nat) : Int) - 1) = (m : Int) by omega] at hn)⟩
        have c1 : wr.cell? ⟨g, 1, none⟩ = some (.slice Ao s.out.length co) := (blk_cell BK.out 1).trans rfl
        have c2 : wr.cell? ⟨g, 2, none⟩ = some (.int .i64 s.low) := (blk_cell BK.out 2).trans rfl
        have c3 : wr.cell? ⟨g, 3, none⟩ = some (.int .i64 s.size) := (blk_cell BK.out 3).trans rfl
        have c4 : wr.cell? ⟨g, 4, none⟩ = some (.bool s.begun) := (blk_cell BK.out 4).trans rfl
        have k1 := blk_frozen BK.out 1
        have k2 := blk_frozen BK.out 2
        have k3 := blk_frozen BK.out 3
        have k4 := blk_frozen BK.out 4
        have HEND : Aside0 (∀ v', v' = Value.slice A7 n c7 → Kd.R (Kd.int .u8) 5 ((((wr.setCell ⟨g, 1, none⟩ (.slice none 0 0)).setCell ⟨g, 2, none⟩ (.int .i64 0)).setCell ⟨g, 3, none⟩ (.int .i64 4294967295)).setCell ⟨g, 4, none⟩ (.bool false)) w0.heap.size (fun k => w.heap.size ≤ k) v' (termP s) ∧ EncAt w0.heap.size ((((wr.setCell ⟨g, 1, none⟩ (.slice none 0 0)).setCell ⟨g, 2, none⟩ (.int .i64 0)).setCell ⟨g, 3, none⟩ (.int .i64 4294967295)).setCell ⟨g, 4, none⟩ (.bool false)) S g (termE s) ∧ Below w0.heap.size w0 ((((wr.setCell ⟨g, 1, none⟩ (.slice none 0 0)).setCell ⟨g, 2, none⟩ (.int .i64 0)).setCell ⟨g, 3, none⟩ (.int .i64 4294967295)).setCell ⟨g, 4, none⟩ (.bool false)) ∧ Kept w ((((wr.setCell ⟨g, 1, none⟩ (.slice none 0 0)).setCell ⟨g, 2, none⟩ (.int .i64 0)).setCell ⟨g, 3, none⟩ (.int .i64 4294967295)).setCell ⟨g, 4, none⟩ (.bool false)) S) := ⟨by
          rintro v' rfl
          have b1 := blk_put BK.out 1 (.slice none 0 0) rfl
          have b2 := blk_put b1 2 (.int .i64 0) rfl
          have b3 := blk_put b2 3 (.int .i64 4294967295) rfl
          have b4 := blk_put b3 4 (.bool false) rfl
          have r0 := Kd.R_take HR3.out HI.out.1
          rw [← HTR.out] at r0
          exact ⟨Kd.R_set (Kd.R_set (Kd.R_set (Kd.R_set r0 BK.out (by decide) 1 _) b1 (by decide) 2 _) b2 (by decide) 3 _) b3 (by decide) 4 _, ⟨_, _, b4, HX.out.2.1, HX.out.2.2.1, Kd.R_set (Kd.R_set (Kd.R_set (Kd.R_set HP3.out BK.out (by decide) 1 _) b1 (by decide) 2 _) b2 (by decide) 3 _) b3 (by decide) 4 _, Kd.R_nil _ _ _ _ _⟩, below_set (below_set (below_set (below_set HB3.out HX.out.2.2.1) HX.out.2.2.1) HX.out.2.2.1) HX.out.2.2.1, Kept.setCell (Kept.setCell (Kept.setCell (Kept.setCell HK3.out (.inl HX.out.2.1) _) (.inl HX.out.2.1) _) (.inl HX.out.2.1) _) (.inl HX.out.2.1) _⟩⟩
        by_cases h0 : n = 0
        · subst h0
          clear hn
          go_wp2
          go_ret
          exact ⟨_, rfl, HEND.out _ rfl⟩
        · obtain ⟨m, rfl⟩ : ∃ m, n = m + 1 := ⟨n - 1, by omega⟩
          have hx : ¬ rd B (m : Int) = 0 := by
            rcases hn with hn | hn
            · exact absurd hn h0
            · rwa [show (((m + 1 : Nat) : Int) - 1) = (m : Int) by omega] at hn
          obtain ⟨b7, c8, e8, hb7, _, _⟩ := Kd.R_form HR3.out (by have := HI.out.1; omega)
          injection e8 with e8a _ e8b
          subst e8a
          obtain ⟨z0, z1⟩ := Kd.R_cell (0 : Int) HR3.out (m : Int) (by omega) (by have := HI.out.1; omega)
          rw [Int.toNat_natCast] at z0 z1
          have z2 : wr.cell? ⟨b7, m, none⟩ = some (.int .u8 (rd B (m : Int))) := z0
          have hm : (m : Int) ≤ 1000004 := by have := HI.out.1; have := HNL.out; omega
          have hxb : (rd B (m : Int) == 0) = false := by simpa using hx
          generalize rd B (m : Int) = xm at *
          clear hn z0 z1 e8b h0 hx
          go_wp2
          go_ret
          exact ⟨_, rfl, HEND.out _ rfl⟩
      · obtain ⟨m, rfl⟩ : ∃ m, n = m + 1 := ⟨n - 1, by omega⟩
        have hx : rd B (m : Int) = 0 := by
          have h1 : ¬ ¬ rd B (((m + 1 : Nat) : Int) - 1) = 0 := fun h => hn (.inr h)
          rw [show (((m + 1 : Nat) : Int) - 1) = (m : Int) by omega] at h1
          exact Decidable.not_not.1 h1
        obtain ⟨b7, c8, e8, hb7, _, _⟩ := Kd.R_form HR3.out (by have := HI.out.1; omega)
        injection e8 with e8a _ e8b
        subst e8a
        obtain ⟨z0, z1⟩ := Kd.R_cell (0 : Int) HR3.out (m : Int) (by omega) (by have := HI.out.1; omega)
        rw [Int.toNat_natCast] at z0 z1
        have z2 : wr.cell? ⟨b7, m, none⟩ = some (.int .u8 0) := by rw [z0]; show some (Value.int .u8 (rd B (m : Int))) = _; rw [hx]
        have hm : (m : Int) ≤ 1000004 := by have := HI.out.1; have := HNL.out; omega
        have hm0 : (0 : Int) ≤ (m : Int) := by omega
        have HTR : Aside0 (trimP (B.take m) = trimP B) := ⟨by rw [← HI.out.2.2]; exact (trimP_zero (by have := HI.out.1; omega) hx).symm⟩
        have hcap : m ≤ c7 := by have h8 := (Kd.R_reads' HR3.out).2.1; have := HI.out.1; omega
        have hcapi : (m : Int) ≤ (c7 : Int) := by omega
        clear hn z0 z1 e8b hx
        go_wp2
        go_roundg (gk - 1)
        case measure => have := HI.out; omega
        case rel => exact ⟨m, by first | rfl | simp, rfl, ⟨by have := HI.out.1; omega, by have := HI.out.2.1; omega, HTR.out⟩⟩
  · go_enter Try.func22, Try.ntmps22
    go_wp2_with (first | (go_at_call 42; (with_reducible refine HV.out.mono ?_); rintro e w1 ⟨rfl, hw⟩; replace hw := hw.symm; subst hw) | ((with_reducible refine gate_builtin (b := .append) (xs := #[.const (.slice none 0 0), .tmp 12]) rfl ?_); at_builtin; refine Kd.R_append_rows (Kd.int .u8) (w0 := w0) w0.heap.size rfl (.const (.slice none 0 0)) (.tmp 12) 34 5 (.int .u8 0) 1 rfl Try.underlying34 info5 rfl (by decide) (by decide) (.slice none 0 0) [] s.out _ _ _ (fun k => w.heap.size ≤ k) (fun _ => False) rfl rfl (Kd.R_nil _ _ _ _ _) HC.out (fun _ _ h => h) (fun _ h => h.elim) (fun _ h => h) HBl.out HBl.out.size (by have := HL.out; simp; omega) ?_; intro v1 w1 hR1 hb1 hg1 hat1; obtain ⟨A6, c6, e6⟩ := Kd.R_slice hR1; have e7 : v1 = .slice A6 s.out.length c6 := (by simpa using e6); clear e6; subst e7; have BK := blk_grown HX.out.1 hg1 (by simp [Value.ownBlock]); have HN := Aside0.mk (And.intro BK (And.intro hR1 (And.intro hb1 hg1))); clear BK hR1 hb1 hg1 hat1))
    have d2 : w1.cell? ⟨g, 2, none⟩ = some (.int .i64 s.low) := (blk_cell HN.out.1 2).trans rfl
    have d3 : w1.cell? ⟨g, 3, none⟩ = some (.int .i64 s.size) := (blk_cell HN.out.1 3).trans rfl
    go_quiet ((go_at_call 43; exact Calls.quiet_of_same (HCH.out _)))
    have HPa := Aside0.mk (Kd.R_drewN (Kd.R_grown HX.out.2.2.2.1 HN.out.2.2.2 (fun k _ => by simp [Value.ownBlock])) nq)
    have HOa : Aside0 (Kd.R (Kd.int .u8) 5 (w1.drewN nq) w0.heap.size (fun k => w.heap.size ≤ k) (.slice A6 s.out.length c6) s.out) := ⟨by simpa using Kd.R_drewN HN.out.2.1 nq⟩
    have HKa : Aside0 (Kept w (w1.drewN nq) S) := ⟨Kept.drewN (Kept.of_grown HN.out.2.2.2 (Kept.refl w S) (fun k hk => by simp [Value.ownBlock] at hk)) nq⟩
    have HBa := Aside0.mk (pw_below_drewN HN.out.2.2.1 nq)
    have HBKa := Aside0.mk (blk_drewN HN.out.1 nq)
    have HLE : Aside0 (w.heap.size ≤ (w1.drewN nq).heap.size) := ⟨HKa.out.1⟩
    clear d2 d3 HN
    generalize w1.drewN nq = W1 at *
    have HFT : Aside0 (fullP s = carryP s.out ++ lit4P v) := ⟨by rw [HFU.out]; rfl⟩
    have HLT : Aside0 ((carryP s.out).length ≤ 1000000) := ⟨by rw [carryP_length]; exact HL.out⟩
    obtain ⟨kc, hkc⟩ := (carry_f s.out HOK.out.out (by have := HL.out; omega)).rounds
    have HKC := Aside0.mk (arith_carry.calls kc (fun k => w.heap.size ≤ k) (.slice A6 s.out.length c6) s.out (carryP s.out) w0 W1 HBa.out HOa.out hkc)
    clear hkc
    go_wp2_with (first | (go_at_call 44; (with_reducible refine HKC.out.mono ?_); rintro e W2 ⟨rfl, hR5, hb5, hk5⟩; have HO := Aside0.mk (Kd.R_mono (ok' := fun k => w.heap.size ≤ k) hR5 (fun k hk => hk.elim (fun h => h) (fun h => Nat.le_trans HLE.out h))); have HB := Aside0.mk hb5; have HK := Aside0.mk (HKa.out.then_ hk5 (fun k hk => .inr hk)); have HP := Aside0.mk (Kd.R_step HPa.out (fun k hs hl => hk5.2 k hl (by have := HSS.out k hs; omega))); have HBK := Aside0.mk ((hk5.2 g (blk_lt HBKa.out) (by have := HSS.out g HX.out.2.1; omega)).trans HBKa.out); clear hR5 hb5 hk5) | ((with_reducible refine gate_builtin (b := .append) (xs := #[.tmp 29, .tmp 41]) rfl ?_); at_builtin; refine Kd.R_append_rows (Kd.int .u8) (w0 := w0) w0.heap.size rfl (.tmp 29) (.tmp 41) 34 5 (.int .u8 0) 1 rfl Try.underlying34 info5 rfl (by decide) (by omega) (.slice A6 s.out.length c6) (carryP s.out) _ _ _ _ (fun k => w.heap.size ≤ k) (fun _ => False) (by rfl) (by rfl) (Kd.R_alloc HO.out _) (lit4_C W2 _ _ _ _) (fun _ _ h => h) (fun _ h => h.elim) ?aF (Below.alloc HB.out HB.out.size _) ?aS ?aL ?_; (case aF => exact fun k hk => (by have := HK.out.1; simp at hk; omega)); (case aS => have := HB.out.size; simp; omega); (case aL => have := HLT.out; omega); intro v3 w3 hR3 hb3 hg3 hat3; have hgl := HSS.out g HX.out.2.1; have BK := Aside0.mk (blk_grown (blk_alloc HBK.out _) hg3 (fun he => (by have h2 : w.heap.size ≤ g := HO.out.1 g he.symm; omega))); have HP3 := Aside0.mk (Kd.R_grown (Kd.R_alloc HP.out _) hg3 (fun k hk he => (by have h2 : w.heap.size ≤ k := HO.out.1 k he.symm; have h3 := HSS.out k hk; omega))); have HK3 := Aside0.mk (Kept.of_grown hg3 (Kept.alloc HK.out _) (fun k hk => .inr (HO.out.1 k hk))); have HR3 : Aside0 (Kd.R (Kd.int .u8) 5 w3 w0.heap.size (fun k => w.heap.size ≤ k) v3 (fullP s)) := ⟨(by rw [HFT.out]; exact hR3)⟩; have HB3 := Aside0.mk hb3; clear hR3 hb3 hg3 hat3 hgl; obtain ⟨A7, c7, e7⟩ := Kd.R_slice HR3.out; subst e7))
    have HNL : Aside0 ((fullP s).length ≤ 1000004) := ⟨by rw [HFT.out, List.length_append]; have := HLT.out; show _ + 4 ≤ _; omega⟩
    generalize fullP s = B at *
    clear HFT HFU
    go_loopg [3] (B.length + 1) (fun kq v3 w' => ∃ n : Nat, v3 = .slice A7 n c7 ∧ w' = w3 ∧ Aside0 (n ≤ B.length ∧ kq = n + 1 ∧ trimP (B.take n) = trimP B))
    case atStart => exact ⟨B.length, rfl, rfl, ⟨Nat.le_refl _, rfl, by rw [List.take_length]⟩⟩
    case round =>
      obtain ⟨n, rfl, hw3, HI⟩ := hrel
      subst hw3
      by_cases hn : n = 0 ∨ ¬ rd B ((n : Int) - 1) = 0
      · have HTR : Aside0 (termP s = B.take n) := ⟨by
          rw [HTE.out, ← HI.out.2.2]
          rcases hn with rfl | hn
          · rfl
          · cases n with
            | zero => rfl
            | succ m => exact trimP_last (by have := HI.out.1; omega) (by rwa [show (((m + 1 : Nat) : Int) - 1) = (m : Int) by omega] at hn)⟩
        have c1 : wr.cell? ⟨g, 1, none⟩ = some (.slice Ao s.out.length co) := (blk_cell BK.out 1).trans rfl
        have c2 : wr.cell? ⟨g, 2, none⟩ = some (.int .i64 s.low) := (blk_cell BK.out 2).trans rfl
        have c3 : wr.cell? ⟨g, 3, none⟩ = some (.int .i64 s.size) := (blk_cell BK.out 3).trans rfl
        have c4 : wr.cell? ⟨g, 4, none⟩ = some (.bool s.begun) := (blk_cell BK.out 4).trans rfl
        have k1 := blk_frozen BK.out 1
        have k2 := blk_frozen BK.out 2
        have k3 := blk_frozen BK.out 3
        have k4 := blk_frozen BK.out 4
        have HEND : Aside0 (∀ v', v' = Value.slice A7 n c7 → Kd.R (Kd.int .u8) 5 ((((wr.setCell ⟨g, 1, none⟩ (.slice none 0 0)).setCell ⟨g, 2, none⟩ (.int .i64 0)).setCell ⟨g, 3, none⟩ (.int .i64 4294967295)).setCell ⟨g, 4, none⟩ (.bool false)) w0.heap.size (fun k => w.heap.size ≤ k) v' (termP s) ∧ EncAt w0.heap.size ((((wr.setCell ⟨g, 1, none⟩ (.slice none 0 0)).setCell ⟨g, 2, none⟩ (.int .i64 0)).setCell ⟨g, 3, none⟩ (.int .i64 4294967295)).setCell ⟨g, 4, none⟩ (.bool false)) S g (termE s) ∧ Below w0.heap.size w0 ((((wr.setCell ⟨g, 1, none⟩ (.slice none 0 0)).setCell ⟨g, 2, none⟩ (.int .i64 0)).setCell ⟨g, 3, none⟩ (.int .i64 4294967295)).setCell ⟨g, 4, none⟩ (.bool false)) ∧ Kept w ((((wr.setCell ⟨g, 1, none⟩ (.slice none 0 0)).setCell ⟨g, 2, none⟩ (.int .i64 0)).setCell ⟨g, 3, none⟩ (.int .i64 4294967295)).setCell ⟨g, 4, none⟩ (.bool false)) S) := ⟨by
          rintro v' rfl
          have b1 := blk_put BK.out 1 (.slice none 0 0) rfl
          have b2 := blk_put b1 2 (.int .i64 0) rfl
          have b3 := blk_put b2 3 (.int .i64 4294967295) rfl
          have b4 := blk_put b3 4 (.bool false) rfl
          have r0 := Kd.R_take HR3.out HI.out.1
          rw [← HTR.out] at r0
          exact ⟨Kd.R_set (Kd.R_set (Kd.R_set (Kd.R_set r0 BK.out (by decide) 1 _) b1 (by decide) 2 _) b2 (by decide) 3 _) b3 (by decide) 4 _, ⟨_, _, b4, HX.out.2.1, HX.out.2.2.1, Kd.R_set (Kd.R_set (Kd.R_set (Kd.R_set HP3.out BK.out (by decide) 1 _) b1 (by decide) 2 _) b2 (by decide) 3 _) b3 (by decide) 4 _, Kd.R_nil _ _ _ _ _⟩, below_set (below_set (below_set (below_set HB3.out HX.out.2.2.1) HX.out.2.2.1) HX.out.2.2.1) HX.out.2.2.1, Kept.setCell (Kept.setCell (Kept.setCell (Kept.setCell HK3.out (.inl HX.out.2.1) _) (.inl HX.out.2.1) _) (.inl HX.out.2.1) _) (.inl HX.out.2.1) _⟩⟩
        by_cases h0 : n = 0
        · subst h0
          clear hn
          go_wp2
          go_ret
          exact ⟨_, rfl, HEND.out _ rfl⟩
        · obtain ⟨m, rfl⟩ : ∃ m, n = m + 1 := ⟨n - 1, by omega⟩
          have hx : ¬ rd B (m : Int) = 0 := by
            rcases hn with hn | hn
            · exact absurd hn h0
            · rwa [show (((m + 1 : Nat) : Int) - 1) = (m : Int) by omega] at hn
          obtain ⟨b7, c8, e8, hb7, _, _⟩ := Kd.R_form HR3.out (by have := HI.out.1; omega)
          injection e8 with e8a _ e8b
          subst e8a
          obtain ⟨z0, z1⟩ := Kd.R_cell (0 : Int) HR3.out (m : Int) (by omega) (by have := HI.out.1; omega)
          rw [Int.toNat_natCast] at z0 z1
          have z2 : wr.cell? ⟨b7, m, none⟩ = some (.int .u8 (rd B (m : Int))) := z0
          have hm : (m : Int) ≤ 1000004 := by have := HI.out.1; have := HNL.out; omega
          have hxb : (rd B (m : Int) == 0) = false := by simpa using hx
          generalize rd B (m : Int) = xm at *
          clear hn z0 z1 e8b h0 hx
          go_wp2
          go_ret
          exact ⟨_, rfl, HEND.out _ rfl⟩
      · obtain ⟨m, rfl⟩ : ∃ m, n = m + 1 := ⟨n - 1, by omega⟩
        have hx : rd B (m : Int) = 0 := by
          have h1 : ¬ ¬ rd B (((m + 1 : Nat) : Int) - 1) = 0 := fun h => hn (.inr h)
          rw [show (((m + 1 : Nat) : Int) - 1) = (m : Int) by omega] at h1
          exact Decidable.not_not.1 h1
        obtain ⟨b7, c8, e8, hb7, _, _⟩ := Kd.R_form HR3.out (by have := HI.out.1; omega)
        injection e8 with e8a _ e8b
        subst e8a
        obtain ⟨z0, z1⟩ := Kd.R_cell (0 : Int) HR3.out (m : Int) (by omega) (by have := HI.out.1; omega)
        rw [Int.toNat_natCast] at z0 z1
        have z2 : wr.cell? ⟨b7, m, none⟩ = some (.int .u8 0) := by rw [z0]; show some (Value.int .u8 (rd B (m : Int))) = _; rw [hx]
        have hm : (m : Int) ≤ 1000004 := by have := HI.out.1; have := HNL.out; omega
        have hm0 : (0 : Int) ≤ (m : Int) := by omega
        have HTR : Aside0 (trimP (B.take m) = trimP B) := ⟨by rw [← HI.out.2.2]; exact (trimP_zero (by have := HI.out.1; omega) hx).symm⟩
        have hcap : m ≤ c7 := by have h8 := (Kd.R_reads' HR3.out).2.1; have := HI.out.1; omega
        have hcapi : (m : Int) ≤ (c7 : Int) := by omega
        clear hn z0 z1 e8b hx
        go_wp2
        go_roundg (gk - 1)
        case measure => have := HI.out; omega
        case rel => exact ⟨m, by first | rfl | simp, rfl, ⟨by have := HI.out.1; omega, by have := HI.out.2.1; omega, HTR.out⟩⟩
end Go.Proofs.Ytfbdenlpoidnjaa.P
