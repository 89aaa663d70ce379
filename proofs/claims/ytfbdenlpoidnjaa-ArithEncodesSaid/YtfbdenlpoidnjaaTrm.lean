/- choose: the highest power of 256 that divides a number of the interval. -/
import Derived.Test.YtfbdenlpoidnjaaEpu
import Derived.Test.YtfbdenlpoidnjaaErs
import Derived.Test.YtfbdenlpoidnjaaEnc
import Derived.BigQuiet
set_option linter.unusedVariables false
set_option linter.unusedSimpArgs false
namespace Go.Proofs.Ytfbdenlpoidnjaa.P
open Go.RowKit Go.Proofs.YtfbdenlpoidnjaaW.PrintWords Go.Proofs.YtfbdenlpoidnjaaW.PrintLast Go.Proofs.YtfbdenlpoidnjaaW.PrintMore

/-- The next multiple from a number on. -/
def ceilP (low m : Int) : Int := (low + m - 1) / m * m
def chooseP (low size : Int) : Int × Bool :=
  if low = 0 then (0, false) else if 4294967296 < low + size then (0, true)
  else if ceilP low 16777216 < low + size then (ceilP low 16777216, false)
  else if ceilP low 65536 < low + size then (ceilP low 65536, false)
  else if ceilP low 256 < low + size then (ceilP low 256, false) else (low, false)
set_option maxHeartbeats 4000000 in
theorem choose.calls (w : World) (low size : Int) (l0 : 0 ≤ low) (l1 : low ≤ 4294967295) (s0 : 0 < size) (s1 : size ≤ 4294967295) : Calls Try.prog 43 #[.int .i64 low, .int .i64 size] w fun e w' => e = .returned (.tuple #[.int .i64 (chooseP low size).1, .bool (chooseP low size).2]) ∧ w' = w := by
  by_cases h0 : low = 0
  · have e : Hid (chooseP low size = (0, false)) := Lib.hid (by unfold chooseP; rw [if_pos h0])
    subst h0
    go_enter Try.func43, Try.ntmps43
    go_wp2
    go_ret2
    exact ⟨by rw [e.out]; rfl, rfl⟩
  · have n0 : (low == 0) = false := by simpa using h0
    by_cases h1 : 4294967296 < low + size
    · have e : Hid (chooseP low size = (0, true)) := Lib.hid (by unfold chooseP; rw [if_neg h0, if_pos h1])
      clear h0
      go_enter Try.func43, Try.ntmps43
      go_wp2
      go_ret2
      exact ⟨by rw [e.out]; rfl, rfl⟩
    · have h0' := Lib.hid h0
      have h1' := Lib.hid h1
      clear h0
      go_enter Try.func43, Try.ntmps43
      go_wp2
      go_loopg [6] 4 (fun kq v6 w' => ∃ sh : Int, v6 = .int .u64 sh ∧ w' = w ∧ Aside0 ((sh = 24 ∧ kq = 4) ∨ (sh = 16 ∧ kq = 3 ∧ ¬ ceilP low 16777216 < low + size) ∨ (sh = 8 ∧ kq = 2 ∧ ¬ ceilP low 16777216 < low + size ∧ ¬ ceilP low 65536 < low + size) ∨ (sh = 0 ∧ kq = 1 ∧ ¬ ceilP low 16777216 < low + size ∧ ¬ ceilP low 65536 < low + size ∧ ¬ ceilP low 256 < low + size)))
      case atStart => exact ⟨24, rfl, rfl, ⟨.inl ⟨rfl, rfl⟩⟩⟩
      case round =>
        obtain ⟨sh, rfl, rfl, HS⟩ := hrel
        rcases HS.out with ⟨rfl, hk⟩ | ⟨rfl, hk, q1⟩ | ⟨rfl, hk, q1, q2⟩ | ⟨rfl, hk, q1, q2, q3⟩
        · clear HS
          by_cases hc : (low + 16777216 - 1) / 16777216 * 16777216 < low + size
          · have e : Hid (chooseP low size = ((low + 16777216 - 1) / 16777216 * 16777216, false)) := Lib.hid (by unfold chooseP; rw [if_neg h0'.out, if_neg (Int.not_lt.2 h1'.out), if_pos (show ceilP low 16777216 < low + size from hc)]; rfl)
            go_wp2
            go_ret2
            exact ⟨by rw [e.out]; rfl, rfl⟩
          · have HC : Aside0 (¬ ceilP low 16777216 < low + size) := ⟨hc⟩
            go_wp2
            go_roundg (gk - 1)
            case measure => omega
            case rel => exact ⟨16, by first | rfl | simp, rfl, ⟨.inr (.inl ⟨rfl, by omega, HC.out⟩)⟩⟩
        · clear HS
          have Q1 := Aside0.mk q1
          clear q1
          by_cases hc : (low + 65536 - 1) / 65536 * 65536 < low + size
          · have e : Hid (chooseP low size = ((low + 65536 - 1) / 65536 * 65536, false)) := Lib.hid (by unfold chooseP; rw [if_neg h0'.out, if_neg (Int.not_lt.2 h1'.out), if_neg Q1.out, if_pos (show ceilP low 65536 < low + size from hc)]; rfl)
            go_wp2
            go_ret2
            exact ⟨by rw [e.out]; rfl, rfl⟩
          · have HC : Aside0 (¬ ceilP low 65536 < low + size) := ⟨hc⟩
            go_wp2
            go_roundg (gk - 1)
            case measure => omega
            case rel => exact ⟨8, by first | rfl | simp, rfl, ⟨.inr (.inr (.inl ⟨rfl, by omega, Q1.out, HC.out⟩))⟩⟩
        · clear HS
          have Q1 := Aside0.mk q1
          have Q2 := Aside0.mk q2
          clear q1 q2
          by_cases hc : (low + 256 - 1) / 256 * 256 < low + size
          · have e : Hid (chooseP low size = ((low + 256 - 1) / 256 * 256, false)) := Lib.hid (by unfold chooseP; rw [if_neg h0'.out, if_neg (Int.not_lt.2 h1'.out), if_neg Q1.out, if_neg Q2.out, if_pos (show ceilP low 256 < low + size from hc)]; rfl)
            go_wp2
            go_ret2
            exact ⟨by rw [e.out]; rfl, rfl⟩
          · have HC : Aside0 (¬ ceilP low 256 < low + size) := ⟨hc⟩
            go_wp2
            go_roundg (gk - 1)
            case measure => omega
            case rel => exact ⟨0, by first | rfl | simp, rfl, ⟨.inr (.inr (.inr ⟨rfl, by omega, Q1.out, Q2.out, HC.out⟩))⟩⟩
        · clear HS
          have e : Hid (chooseP low size = (low, false)) := Lib.hid (by unfold chooseP; rw [if_neg h0'.out, if_neg (Int.not_lt.2 h1'.out), if_neg q1, if_neg q2, if_neg q3])
          clear q1 q2 q3
          go_wp2
          go_ret2
          exact ⟨by rw [e.out]; rfl, rfl⟩
end Go.Proofs.Ytfbdenlpoidnjaa.P
-- Terminate's codeword in plain terms.
set_option linter.unusedVariables false
set_option linter.unusedSimpArgs false
namespace Go.Proofs.Ytfbdenlpoidnjaa.P
open Go.RowKit Go.Proofs.YtfbdenlpoidnjaaW.PrintWords

/-- Without the zeros at the end. -/
def trimR : List Int → List Int
  | [] => []
  | x :: r => if x = 0 then trimR r else x :: r
def trimP (l : List Int) : List Int := (trimR l.reverse).reverse
def lit4P (v : Int) : List Int := [v / 16777216, v / 65536 % 256, v / 256 % 256, v % 256]
def fullP (s : EncS) : List Int := (if (chooseP s.low s.size).2 then carryP s.out else s.out) ++ lit4P (chooseP s.low s.size).1
def termP (s : EncS) : List Int := trimP (fullP s)
def termE (s : EncS) : EncS := ⟨s.p, [], 0, 4294967295, false⟩
theorem chooseP_bd {low size : Int} (l0 : 0 ≤ low) (l1 : low ≤ 4294967295) : 0 ≤ (chooseP low size).1 ∧ (chooseP low size).1 ≤ 4294967295 := by
  have hc : ∀ m : Int, 0 < m → 0 ≤ ceilP low m := fun m hm => Int.mul_nonneg (Int.ediv_nonneg (by omega) (by omega)) (by omega)
  have c1 := hc 16777216 (by decide)
  have c2 := hc 65536 (by decide)
  have c3 := hc 256 (by decide)
  unfold chooseP
  split
  · exact ⟨Int.le_refl _, by decide⟩
  · split
    · exact ⟨Int.le_refl _, by decide⟩
    · split
      · exact ⟨c1, by omega⟩
      · split
        · exact ⟨c2, by omega⟩
        · split
          · exact ⟨c3, by omega⟩
          · exact ⟨l0, l1⟩
theorem termE_ok {s : EncS} (h : EncOk s) : EncOk (termE s) := ⟨h.p0, h.p1, h.p, (fun z hz => by cases hz), by show (0 : Int) ≤ 0; omega, by show (0 : Int) ≤ 4294967295; omega, by show (16777216 : Int) ≤ 4294967295; omega, by show (4294967295 : Int) ≤ 4294967295; omega⟩
theorem take_last {l : List Int} {n : Nat} (h : n < l.length) : l.take (n + 1) = l.take n ++ [rd l (n : Int)] := by
  rw [List.take_succ_eq_append_getElem h]
  unfold rd
  rw [Int.toNat_natCast, List.getD_eq_getElem?_getD, List.getElem?_eq_getElem h]
  rfl
theorem trimP_zero {l : List Int} {n : Nat} (h : n < l.length) (hz : rd l (n : Int) = 0) : trimP (l.take (n + 1)) = trimP (l.take n) := by
  rw [take_last h, hz]
  unfold trimP
  rw [List.reverse_append, List.reverse_singleton, List.singleton_append, trimR, if_pos rfl]
theorem trimP_last {l : List Int} {n : Nat} (h : n < l.length) (hz : ¬ rd l (n : Int) = 0) : trimP (l.take (n + 1)) = l.take (n + 1) := by
  rw [take_last h]
  unfold trimP
  rw [List.reverse_append, List.reverse_singleton, List.singleton_append, trimR, if_neg hz, List.reverse_cons, List.reverse_reverse]
theorem lit4_C (w : World) (a b c d : Int) : (Kd.int .u8).C (w.alloc (.cells #[.int .u8 a, .int .u8 b, .int .u8 c, .int .u8 d] 5)) (some ⟨w.heap.size, 0, none⟩) 4 [a, b, c, d] := by
  obtain ⟨A, n, hA, hr⟩ := own_reads (own_lit w 0 5 .u8 [a, b, c, d] (Nat.zero_le _) (by simp))
  injection hA with h1 h2 h3
  subst h1
  exact Kd.C_of_reads (enc := Value.int .u8) (d := (0 : Int)) (h1 := fun _ => rfl) hr
end Go.Proofs.Ytfbdenlpoidnjaa.P
-- Terminate, walked.
set_option linter.unusedVariables false
set_option linter.unusedSimpArgs false
namespace Go.Proofs.Ytfbdenlpoidnjaa.P
open Go.RowKit Go.Proofs.YtfbdenlpoidnjaaW.PrintWords Go.Proofs.YtfbdenlpoidnjaaW.PrintLast Go.Proofs.YtfbdenlpoidnjaaW.PrintMore

set_option maxHeartbeats 8000000 in
set_option maxRecDepth 100000 in
theorem Terminate.good (w0 w : World) (S : Nat → Prop) (g : Nat) (s : EncS) (hB : Below w0.heap.size w0 w) (h : EncAt w0.heap.size w S g s) (hok : EncOk s) (hlen : s.out.length ≤ 1000000) (hS : ∀ k, S k → k < w.heap.size) : Calls Try.prog 22 #[.pointer (some ⟨g, 0, none⟩)] w fun e w' => ∃ v, e = .returned v ∧ Kd.R (Kd.int .u8) 5 w' w0.heap.size (fun k => w.heap.size ≤ k) v (termP s) ∧ EncAt w0.heap.size w' S g (termE s) ∧ Below w0.heap.size w0 w' ∧ Kept w w' S := by
  obtain ⟨vp, vo, h1, h2, h3, h4, h5⟩ := h
  obtain ⟨Ap, cp, rfl⟩ := Kd.R_slice h4
  obtain ⟨Ao, co, eo, hco, hCo⟩ := Kd.R_reads h5
  subst eo
  have x0 : w.cell? ⟨g, 0, none⟩ = some (.slice Ap s.p.length cp) := (blk_cell h1 0).trans rfl
  have x1 : w.cell? ⟨g, 1, none⟩ = some (.slice Ao s.out.length co) := (blk_cell h1 1).trans rfl
  have HV := Aside0.mk (valid.at w g s.p.length cp _ x0 hok.p0)
  have HX := Aside0.mk (And.intro h1 (And.intro h2 (And.intro h3 (And.intro h4 h5))))
  have HBl := Aside0.mk hB
  have HC := Aside0.mk hCo
  have HL := Aside0.mk hlen
  have HOK := Aside0.mk hok
  have HCH := Aside0.mk (fun W => choose.calls W s.low s.size hok.low0 hok.low1 (by have := hok.size0; omega) hok.size1)
  have HBD := Aside0.mk (chooseP_bd (size := s.size) hok.low0 hok.low1)
  have HFU : Aside0 (fullP s = (if (chooseP s.low s.size).2 then carryP s.out else s.out) ++ lit4P (chooseP s.low s.size).1) := ⟨rfl⟩
  have HTE : Aside0 (termP s = trimP (fullP s)) := ⟨rfl⟩
  have HSS := Aside0.mk hS
  generalize chooseP s.low s.size = cz at *
  obtain ⟨v, over⟩ := cz
  dsimp only at HCH HBD HFU
  obtain ⟨v0, v1⟩ := HBD.out
  clear h1 h2 h3 h4 h5 hok hB hlen hCo HBD hS
  have hw1 : IntKind.u8.wrap (v / 16777216) = v / 16777216 := by rw [IntKind.wrap_u8]; omega
  have hw2 : IntKind.u8.wrap (v / 65536) = v / 65536 % 256 := by rw [IntKind.wrap_u8]
  have hw3 : IntKind.u8.wrap (v / 256) = v / 256 % 256 := by rw [IntKind.wrap_u8]
  have hw4 : IntKind.u8.wrap v = v % 256 := by rw [IntKind.wrap_u8]
  cases over
  · go_enter Try.func22, Try.ntmps22
    go_wp2_with (first | (go_at_call 42; (with_reducible refine HV.out.mono ?_); rintro e w1 ⟨rfl, hw⟩; replace hw := hw.symm; subst hw) | ((with_reducible refine gate_builtin (b := .append) (xs := #[.const (.slice none 0 0), .tmp 12]) rfl ?_); at_builtin; refine Kd.R_append_rows (Kd.int .u8) (w0 := w0) w0.heap.size rfl (.const (.slice none 0 0)) (.tmp 12) 34 5 (.int .u8 0) 1 rfl Try.underlying34 info5 rfl (by decide) (by decide) (.slice none 0 0) [] s.out _ _ _ (fun k => w.heap.size ≤ k) (fun _ => False) rfl rfl (Kd.R_nil _ _ _ _ _) HC.out (fun _ _ h => h) (fun _ h => h.elim) (fun _ h => h) HBl.out HBl.out.size (by have := HL.out; simp; omega) ?_; intro v1 w1 hR1 hb1 hg1 hat1; obtain ⟨A6, c6, e6⟩ := Kd.R_slice hR1; have e7 : v1 = .slice A6 s.out.length c6 := (by simpa using e6); clear e6; subst e7; have BK := blk_grown HX.out.1 hg1 (by simp [Value.ownBlock]); have HN := Aside0.mk (And.intro BK (And.intro hR1 (And.intro hb1 hg1))); clear BK hR1 hb1 hg1 hat1))
    have d2 : w1.cell? ⟨g, 2, none⟩ = some (.int .i64 s.low) := (blk_cell HN.out.1 2).trans rfl
    have d3 : w1.cell? ⟨g, 3, none⟩ = some (.int .i64 s.size) := (blk_cell HN.out.1 3).trans rfl
    go_quiet ((go_at_call 43; exact Calls.quiet_of_same (HCH.out _)))
    have HP := Aside0.mk (Kd.R_drewN (Kd.R_grown HX.out.2.2.2.1 HN.out.2.2.2 (fun k _ => by simp [Value.ownBlock])) nq)
    have HO : Aside0 (Kd.R (Kd.int .u8) 5 (w1.drewN nq) w0.heap.size (fun k => w.heap.size ≤ k) (.slice A6 s.out.length c6) s.out) := ⟨by simpa using Kd.R_drewN HN.out.2.1 nq⟩
    have HK : Aside0 (Kept w (w1.drewN nq) S) := ⟨Kept.drewN (Kept.of_grown HN.out.2.2.2 (Kept.refl w S) (fun k hk => by simp [Value.ownBlock] at hk)) nq⟩
    have HB := Aside0.mk (pw_below_drewN HN.out.2.2.1 nq)
    have HBK := Aside0.mk (blk_drewN HN.out.1 nq)
    have HLE : Aside0 (w.heap.size ≤ (w1.drewN nq).heap.size) := ⟨HK.out.1⟩
    clear d2 d3 HN
    generalize w1.drewN nq = W2 at *
    have HFT : Aside0 (fullP s = s.out ++ lit4P v) := ⟨by rw [HFU.out]; rfl⟩
    have HLT : Aside0 ((s.out).length ≤ 1000000) := ⟨HL.out⟩
    go_wp2_with (((with_reducible refine gate_builtin (b := .append) (xs := #[.tmp 29, .tmp 41]) rfl ?_); at_builtin; refine Kd.R_append_rows (Kd.int .u8) (w0 := w0) w0.heap.size rfl (.tmp 29) (.tmp 41) 34 5 (.int .u8 0) 1 rfl Try.underlying34 info5 rfl (by decide) (by omega) (.slice A6 s.out.length c6) (s.out) _ _ _ _ (fun k => w.heap.size ≤ k) (fun _ => False) (by rfl) (by rfl) (Kd.R_alloc HO.out _) (lit4_C W2 _ _ _ _) (fun _ _ h => h) (fun _ h => h.elim) ?aF (Below.alloc HB.out HB.out.size _) ?aS ?aL ?_; (case aF => exact fun k hk => (by have := HK.out.1; simp at hk; omega)); (case aS => have := HB.out.size; simp; omega); (case aL => have := HLT.out; omega); intro v3 w3 hR3 hb3 hg3 hat3; have hgl := HSS.out g HX.out.2.1; have BK := Aside0.mk (blk_grown (blk_alloc HBK.out _) hg3 (fun he => (by have h2 : w.heap.size ≤ g := HO.out.1 g he.symm; omega))); have HP3 := Aside0.mk (Kd.R_grown (Kd.R_alloc HP.out _) hg3 (fun k hk he => (by have h2 : w.heap.size ≤ k := HO.out.1 k he.symm; have h3 := HSS.out k hk; omega))); have HK3 := Aside0.mk (Kept.of_grown hg3 (Kept.alloc HK.out _) (fun k hk => .inr (HO.out.1 k hk))); have HR3 : Aside0 (Kd.R (Kd.int .u8) 5 w3 w0.heap.size (fun k => w.heap.size ≤ k) v3 (fullP s)) := ⟨(by rw [HFT.out]; exact hR3)⟩; have HB3 := Aside0.mk hb3; clear hR3 hb3 hg3 hat3 hgl; obtain ⟨A7, c7, e7⟩ := Kd.R_slice HR3.out; subst e7))
    have HNL : Aside0 ((fullP s).length ≤ 1000004) := ⟨by rw [HFT.out, List.length_append]; have := HLT.out; show _ + 4 ≤ _; omega⟩
    generalize fullP s = B at *
    clear HFT HFU
    go_loopg [3] (B.length + 1) (fun kq v3 w' => ∃ n : Nat, v3 = .slice A7 n c7 ∧ w' = w3 ∧ Aside0 (n ≤ B.length ∧ kq = n + 1 ∧ trimP (B.take n) = trimP B))
    case atStart => exact ⟨B.length, rfl, rfl, ⟨Nat.le_refl _, rfl, by rw [List.take_length]⟩⟩
    case round =>
      obtain ⟨n, rfl, hw3, HI⟩ := hrel
      subst hw3
      by_cases hn : n = 0 ∨ ¬ rd B ((n : Int) - 1) = 0
      · have HTR : Aside0 (termP s = B.take n) := ⟨by
          rw [HTE.out, ← HI.out.2.2]
          rcases hn with rfl | hn
          · rfl
          · cases n with
            | zero => rfl
            | succ m => exact trimP_last (by have := HI.out.1; omega) (by rwa [show (((m + 1 : Nat) : Int) - 1) = (m : Int) by omega] at hn)⟩
        have c1 : wr.cell? ⟨g, 1, none⟩ = some (.slice Ao s.out.length co) := (blk_cell BK.out 1).trans rfl
        have c2 : wr.cell? ⟨g, 2, none⟩ = some (.int .i64 s.low) := (blk_cell BK.out 2).trans rfl
        have c3 : wr.cell? ⟨g, 3, none⟩ = some (.int .i64 s.size) := (blk_cell BK.out 3).trans rfl
        have c4 : wr.cell? ⟨g, 4, none⟩ = some (.bool s.begun) := (blk_cell BK.out 4).trans rfl
        have k1 := blk_frozen BK.out 1
        have k2 := blk_frozen BK.out 2
        have k3 := blk_frozen BK.out 3
        have k4 := blk_frozen BK.out 4
        have HEND : Aside0 (∀ v', v' = Value.slice A7 n c7 → Kd.R (Kd.int .u8) 5 ((((wr.setCell ⟨g, 1, none⟩ (.slice none 0 0)).setCell ⟨g, 2, none⟩ (.int .i64 0)).setCell ⟨g, 3, none⟩ (.int .i64 4294967295)).setCell ⟨g, 4, none⟩ (.bool false)) w0.heap.size (fun k => w.heap.size ≤ k) v' (termP s) ∧ EncAt w0.heap.size ((((wr.setCell ⟨g, 1, none⟩ (.slice none 0 0)).setCell ⟨g, 2, none⟩ (.int .i64 0)).setCell ⟨g, 3, none⟩ (.int .i64 4294967295)).setCell ⟨g, 4, none⟩ (.bool false)) S g (termE s) ∧ Below w0.heap.size w0 ((((wr.setCell ⟨g, 1, none⟩ (.slice none 0 0)).setCell ⟨g, 2, none⟩ (.int .i64 0)).setCell ⟨g, 3, none⟩ (.int .i64 4294967295)).setCell ⟨g, 4, none⟩ (.bool false)) ∧ Kept w ((((wr.setCell ⟨g, 1, none⟩ (.slice none 0 0)).setCell ⟨g, 2, none⟩ (.int .i64 0)).setCell ⟨g, 3, none⟩ (.int .i64 4294967295)).setCell ⟨g, 4, none⟩ (.bool false)) S) := ⟨by
          rintro v' rfl
          have b1 := blk_put BK.out 1 (.slice none 0 0) rfl
          have b2 := blk_put b1 2 (.int .i64 0) rfl
          have b3 := blk_put b2 3 (.int .i64 4294967295) rfl
          have b4 := blk_put b3 4 (.bool false) rfl
          have r0 := Kd.R_take HR3.out HI.out.1
          rw [← HTR.out] at r0
          exact ⟨Kd.R_set (Kd.R_set (Kd.R_set (Kd.R_set r0 BK.out (by decide) 1 _) b1 (by decide) 2 _) b2 (by decide) 3 _) b3 (by decide) 4 _, ⟨_, _, b4, HX.out.2.1, HX.out.2.2.1, Kd.R_set (Kd.R_set (Kd.R_set (Kd.R_set HP3.out BK.out (by decide) 1 _) b1 (by decide) 2 _) b2 (by decide) 3 _) b3 (by decide) 4 _, Kd.R_nil _ _ _ _ _⟩, below_set (below_set (below_set (below_set HB3.out HX.out.2.2.1) HX.out.2.2.1) HX.out.2.2.1) HX.out.2.2.1, Kept.setCell (Kept.setCell (Kept.setCell (Kept.setCell HK3.out (.inl HX.out.2.1) _) (.inl HX.out.2.1) _) (.inl HX.out.2.1) _) (.inl HX.out.2.1) _⟩⟩
        by_cases h0 : n = 0
        · subst h0
          clear hn
          go_wp2
          go_ret
          exact ⟨_, rfl, HEND.out _ rfl⟩
        · obtain ⟨m, rfl⟩ : ∃ m, n = m + 1 := ⟨n - 1, by omega⟩
          have hx : ¬ rd B (m : Int) = 0 := by
            rcases hn with hn | hn
            · exact absurd hn h0
            · rwa [show (((m + 1 : Nat) : Int) - 1) = (m : Int) by omega] at hn
          obtain ⟨b7, c8, e8, hb7, _, _⟩ := Kd.R_form HR3.out (by have := HI.out.1; omega)
          injection e8 with e8a _ e8b
          subst e8a
          obtain ⟨z0, z1⟩ := Kd.R_cell (0 : Int) HR3.out (m : Int) (by omega) (by have := HI.out.1; omega)
          rw [Int.toNat_natCast] at z0 z1
          have z2 : wr.cell? ⟨b7, m, none⟩ = some (.int .u8 (rd B (m : Int))) := z0
          have hm : (m : Int) ≤ 1000004 := by have := HI.out.1; have := HNL.out; omega
          have hxb : (rd B (m : Int) == 0) = false := by simpa using hx
          generalize rd B (m : Int) = xm at *
          clear hn z0 z1 e8b h0 hx
          go_wp2
          go_ret
          exact ⟨_, rfl, HEND.out _ rfl⟩
      · obtain ⟨m, rfl⟩ : ∃ m, n = m + 1 := ⟨n - 1, by omega⟩
        have hx : rd B (m : Int) = 0 := by
          have h1 : ¬ ¬ rd B (((m + 1 : Nat) : Int) - 1) = 0 := fun h => hn (.inr h)
          rw [show (((m + 1 : Nat) : Int) - 1) = (m : Int) by omega] at h1
          exact Decidable.not_not.1 h1
        obtain ⟨b7, c8, e8, hb7, _, _⟩ := Kd.R_form HR3.out (by have := HI.out.1; omega)
        injection e8 with e8a _ e8b
        subst e8a
        obtain ⟨z0, z1⟩ := Kd.R_cell (0 : Int) HR3.out (m : Int) (by omega) (by have := HI.out.1; omega)
        rw [Int.toNat_natCast] at z0 z1
        have z2 : wr.cell? ⟨b7, m, none⟩ = some (.int .u8 0) := by rw [z0]; show some (Value.int .u8 (rd B (m : Int))) = _; rw [hx]
        have hm : (m : Int) ≤ 1000004 := by have := HI.out.1; have := HNL.out; omega
        have hm0 : (0 : Int) ≤ (m : Int) := by omega
        have HTR : Aside0 (trimP (B.take m) = trimP B) := ⟨by rw [← HI.out.2.2]; exact (trimP_zero (by have := HI.out.1; omega) hx).symm⟩
        have hcap : m ≤ c7 := by have h8 := (Kd.R_reads' HR3.out).2.1; have := HI.out.1; omega
        have hcapi : (m : Int) ≤ (c7 : Int) := by omega
        clear hn z0 z1 e8b hx
        go_wp2
        go_roundg (gk - 1)
        case measure => have := HI.out; omega
        case rel => exact ⟨m, by first | rfl | simp, rfl, ⟨by have := HI.out.1; omega, by have := HI.out.2.1; omega, HTR.out⟩⟩
  · go_enter Try.func22, Try.ntmps22
    go_wp2_with (first | (go_at_call 42; (with_reducible refine HV.out.mono ?_); rintro e w1 ⟨rfl, hw⟩; replace hw := hw.symm; subst hw) | ((with_reducible refine gate_builtin (b := .append) (xs := #[.const (.slice none 0 0), .tmp 12]) rfl ?_); at_builtin; refine Kd.R_append_rows (Kd.int .u8) (w0 := w0) w0.heap.size rfl (.const (.slice none 0 0)) (.tmp 12) 34 5 (.int .u8 0) 1 rfl Try.underlying34 info5 rfl (by decide) (by decide) (.slice none 0 0) [] s.out _ _ _ (fun k => w.heap.size ≤ k) (fun _ => False) rfl rfl (Kd.R_nil _ _ _ _ _) HC.out (fun _ _ h => h) (fun _ h => h.elim) (fun _ h => h) HBl.out HBl.out.size (by have := HL.out; simp; omega) ?_; intro v1 w1 hR1 hb1 hg1 hat1; obtain ⟨A6, c6, e6⟩ := Kd.R_slice hR1; have e7 : v1 = .slice A6 s.out.length c6 := (by simpa using e6); clear e6; subst e7; have BK := blk_grown HX.out.1 hg1 (by simp [Value.ownBlock]); have HN := Aside0.mk (And.intro BK (And.intro hR1 (And.intro hb1 hg1))); clear BK hR1 hb1 hg1 hat1))
    have d2 : w1.cell? ⟨g, 2, none⟩ = some (.int .i64 s.low) := (blk_cell HN.out.1 2).trans rfl
    have d3 : w1.cell? ⟨g, 3, none⟩ = some (.int .i64 s.size) := (blk_cell HN.out.1 3).trans rfl
    go_quiet ((go_at_call 43; exact Calls.quiet_of_same (HCH.out _)))
    have HPa := Aside0.mk (Kd.R_drewN (Kd.R_grown HX.out.2.2.2.1 HN.out.2.2.2 (fun k _ => by simp [Value.ownBlock])) nq)
    have HOa : Aside0 (Kd.R (Kd.int .u8) 5 (w1.drewN nq) w0.heap.size (fun k => w.heap.size ≤ k) (.slice A6 s.out.length c6) s.out) := ⟨by simpa using Kd.R_drewN HN.out.2.1 nq⟩
    have HKa : Aside0 (Kept w (w1.drewN nq) S) := ⟨Kept.drewN (Kept.of_grown HN.out.2.2.2 (Kept.refl w S) (fun k hk => by simp [Value.ownBlock] at hk)) nq⟩
    have HBa := Aside0.mk (pw_below_drewN HN.out.2.2.1 nq)
    have HBKa := Aside0.mk (blk_drewN HN.out.1 nq)
    have HLE : Aside0 (w.heap.size ≤ (w1.drewN nq).heap.size) := ⟨HKa.out.1⟩
    clear d2 d3 HN
    generalize w1.drewN nq = W1 at *
    have HFT : Aside0 (fullP s = carryP s.out ++ lit4P v) := ⟨by rw [HFU.out]; rfl⟩
    have HLT : Aside0 ((carryP s.out).length ≤ 1000000) := ⟨by rw [carryP_length]; exact HL.out⟩
    obtain ⟨kc, hkc⟩ := (carry_f s.out HOK.out.out (by have := HL.out; omega)).rounds
    have HKC := Aside0.mk (arith_carry.calls kc (fun k => w.heap.size ≤ k) (.slice A6 s.out.length c6) s.out (carryP s.out) w0 W1 HBa.out HOa.out hkc)
    clear hkc
    go_wp2_with (first | (go_at_call 44; (with_reducible refine HKC.out.mono ?_); rintro e W2 ⟨rfl, hR5, hb5, hk5⟩; have HO := Aside0.mk (Kd.R_mono (ok' := fun k => w.heap.size ≤ k) hR5 (fun k hk => hk.elim (fun h => h) (fun h => Nat.le_trans HLE.out h))); have HB := Aside0.mk hb5; have HK := Aside0.mk (HKa.out.then_ hk5 (fun k hk => .inr hk)); have HP := Aside0.mk (Kd.R_step HPa.out (fun k hs hl => hk5.2 k hl (by have := HSS.out k hs; omega))); have HBK := Aside0.mk ((hk5.2 g (blk_lt HBKa.out) (by have := HSS.out g HX.out.2.1; omega)).trans HBKa.out); clear hR5 hb5 hk5) | ((with_reducible refine gate_builtin (b := .append) (xs := #[.tmp 29, .tmp 41]) rfl ?_); at_builtin; refine Kd.R_append_rows (Kd.int .u8) (w0 := w0) w0.heap.size rfl (.tmp 29) (.tmp 41) 34 5 (.int .u8 0) 1 rfl Try.underlying34 info5 rfl (by decide) (by omega) (.slice A6 s.out.length c6) (carryP s.out) _ _ _ _ (fun k => w.heap.size ≤ k) (fun _ => False) (by rfl) (by rfl) (Kd.R_alloc HO.out _) (lit4_C W2 _ _ _ _) (fun _ _ h => h) (fun _ h => h.elim) ?aF (Below.alloc HB.out HB.out.size _) ?aS ?aL ?_; (case aF => exact fun k hk => (by have := HK.out.1; simp at hk; omega)); (case aS => have := HB.out.size; simp; omega); (case aL => have := HLT.out; omega); intro v3 w3 hR3 hb3 hg3 hat3; have hgl := HSS.out g HX.out.2.1; have BK := Aside0.mk (blk_grown (blk_alloc HBK.out _) hg3 (fun he => (by have h2 : w.heap.size ≤ g := HO.out.1 g he.symm; omega))); have HP3 := Aside0.mk (Kd.R_grown (Kd.R_alloc HP.out _) hg3 (fun k hk he => (by have h2 : w.heap.size ≤ k := HO.out.1 k he.symm; have h3 := HSS.out k hk; omega))); have HK3 := Aside0.mk (Kept.of_grown hg3 (Kept.alloc HK.out _) (fun k hk => .inr (HO.out.1 k hk))); have HR3 : Aside0 (Kd.R (Kd.int .u8) 5 w3 w0.heap.size (fun k => w.heap.size ≤ k) v3 (fullP s)) := ⟨(by rw [HFT.out]; exact hR3)⟩; have HB3 := Aside0.mk hb3; clear hR3 hb3 hg3 hat3 hgl; obtain ⟨A7, c7, e7⟩ := Kd.R_slice HR3.out; subst e7))
    have HNL : Aside0 ((fullP s).length ≤ 1000004) := ⟨by rw [HFT.out, List.length_append]; have := HLT.out; show _ + 4 ≤ _; omega⟩
    generalize fullP s = B at *
    clear HFT HFU
    go_loopg [3] (B.length + 1) (fun kq v3 w' => ∃ n : Nat, v3 = .slice A7 n c7 ∧ w' = w3 ∧ Aside0 (n ≤ B.length ∧ kq = n + 1 ∧ trimP (B.take n) = trimP B))
    case atStart => exact ⟨B.length, rfl, rfl, ⟨Nat.le_refl _, rfl, by rw [List.take_length]⟩⟩
    case round =>
      obtain ⟨n, rfl, hw3, HI⟩ := hrel
      subst hw3
      by_cases hn : n = 0 ∨ ¬ rd B ((n : Int) - 1) = 0
      · have HTR : Aside0 (termP s = B.take n) := ⟨by
          rw [HTE.out, ← HI.out.2.2]
          rcases hn with rfl | hn
          · rfl
          · cases n with
            | zero => rfl
            | succ m => exact trimP_last (by have := HI.out.1; omega) (by rwa [show (((m + 1 : Nat) : Int) - 1) = (m : Int) by omega] at hn)⟩
        have c1 : wr.cell? ⟨g, 1, none⟩ = some (.slice Ao s.out.length co) := (blk_cell BK.out 1).trans rfl
        have c2 : wr.cell? ⟨g, 2, none⟩ = some (.int .i64 s.low) := (blk_cell BK.out 2).trans rfl
        have c3 : wr.cell? ⟨g, 3, none⟩ = some (.int .i64 s.size) := (blk_cell BK.out 3).trans rfl
        have c4 : wr.cell? ⟨g, 4, none⟩ = some (.bool s.begun) := (blk_cell BK.out 4).trans rfl
        have k1 := blk_frozen BK.out 1
        have k2 := blk_frozen BK.out 2
        have k3 := blk_frozen BK.out 3
        have k4 := blk_frozen BK.out 4
        have HEND : Aside0 (∀ v', v' = Value.slice A7 n c7 → Kd.R (Kd.int .u8) 5 ((((wr.setCell ⟨g, 1, none⟩ (.slice none 0 0)).setCell ⟨g, 2, none⟩ (.int .i64 0)).setCell ⟨g, 3, none⟩ (.int .i64 4294967295)).setCell ⟨g, 4, none⟩ (.bool false)) w0.heap.size (fun k => w.heap.size ≤ k) v' (termP s) ∧ EncAt w0.heap.size ((((wr.setCell ⟨g, 1, none⟩ (.slice none 0 0)).setCell ⟨g, 2, none⟩ (.int .i64 0)).setCell ⟨g, 3, none⟩ (.int .i64 4294967295)).setCell ⟨g, 4, none⟩ (.bool false)) S g (termE s) ∧ Below w0.heap.size w0 ((((wr.setCell ⟨g, 1, none⟩ (.slice none 0 0)).setCell ⟨g, 2, none⟩ (.int .i64 0)).setCell ⟨g, 3, none⟩ (.int .i64 4294967295)).setCell ⟨g, 4, none⟩ (.bool false)) ∧ Kept w ((((wr.setCell ⟨g, 1, none⟩ (.slice none 0 0)).setCell ⟨g, 2, none⟩ (.int .i64 0)).setCell ⟨g, 3, none⟩ (.int .i64 4294967295)).setCell ⟨g, 4, none⟩ (.bool false)) S) := ⟨by
          rintro v' rfl
          have b1 := blk_put BK.out 1 (.slice none 0 0) rfl
          have b2 := blk_put b1 2 (.int .i64 0) rfl
          have b3 := blk_put b2 3 (.int .i64 4294967295) rfl
          have b4 := blk_put b3 4 (.bool false) rfl
          have r0 := Kd.R_take HR3.out HI.out.1
          rw [← HTR.out] at r0
          exact ⟨Kd.R_set (Kd.R_set (Kd.R_set (Kd.R_set r0 BK.out (by decide) 1 _) b1 (by decide) 2 _) b2 (by decide) 3 _) b3 (by decide) 4 _, ⟨_, _, b4, HX.out.2.1, HX.out.2.2.1, Kd.R_set (Kd.R_set (Kd.R_set (Kd.R_set HP3.out BK.out (by decide) 1 _) b1 (by decide) 2 _) b2 (by decide) 3 _) b3 (by decide) 4 _, Kd.R_nil _ _ _ _ _⟩, below_set (below_set (below_set (below_set HB3.out HX.out.2.2.1) HX.out.2.2.1) HX.out.2.2.1) HX.out.2.2.1, Kept.setCell (Kept.setCell (Kept.setCell (Kept.setCell HK3.out (.inl HX.out.2.1) _) (.inl HX.out.2.1) _) (.inl HX.out.2.1) _) (.inl HX.out.2.1) _⟩⟩
        by_cases h0 : n = 0
        · subst h0
          clear hn
          go_wp2
          go_ret
          exact ⟨_, rfl, HEND.out _ rfl⟩
        · obtain ⟨m, rfl⟩ : ∃ m, n = m + 1 := ⟨n - 1, by omega⟩
          have hx : ¬ rd B (m : Int) = 0 := by
            rcases hn with hn | hn
            · exact absurd hn h0
            · rwa [show (((m + 1 : Nat) : Int) - 1) = (m : Int) by omega] at hn
          obtain ⟨b7, c8, e8, hb7, _, _⟩ := Kd.R_form HR3.out (by have := HI.out.1; omega)
          injection e8 with e8a _ e8b
          subst e8a
          obtain ⟨z0, z1⟩ := Kd.R_cell (0 : Int) HR3.out (m : Int) (by omega) (by have := HI.out.1; omega)
          rw [Int.toNat_natCast] at z0 z1
          have z2 : wr.cell? ⟨b7, m, none⟩ = some (.int .u8 (rd B (m : Int))) := z0
          have hm : (m : Int) ≤ 1000004 := by have := HI.out.1; have := HNL.out; omega
          have hxb : (rd B (m : Int) == 0) = false := by simpa using hx
          generalize rd B (m : Int) = xm at *
          clear hn z0 z1 e8b h0 hx
          go_wp2
          go_ret
          exact ⟨_, rfl, HEND.out _ rfl⟩
      · obtain ⟨m, rfl⟩ : ∃ m, n = m + 1 := ⟨n - 1, by omega⟩
        have hx : rd B (m : Int) = 0 := by
          have h1 : ¬ ¬ rd B (((m + 1 : Nat) : Int) - 1) = 0 := fun h => hn (.inr h)
          rw [show (((m + 1 : Nat) : Int) - 1) = (m : Int) by omega] at h1
          exact Decidable.not_not.1 h1
        obtain ⟨b7, c8, e8, hb7, _, _⟩ := Kd.R_form HR3.out (by have := HI.out.1; omega)
        injection e8 with e8a _ e8b
        subst e8a
        obtain ⟨z0, z1⟩ := Kd.R_cell (0 : Int) HR3.out (m : Int) (by omega) (by have := HI.out.1; omega)
        rw [Int.toNat_natCast] at z0 z1
        have z2 : wr.cell? ⟨b7, m, none⟩ = some (.int .u8 0) := by rw [z0]; show some (Value.int .u8 (rd B (m : Int))) = _; rw [hx]
        have hm : (m : Int) ≤ 1000004 := by have := HI.out.1; have := HNL.out; omega
        have hm0 : (0 : Int) ≤ (m : Int) := by omega
        have HTR : Aside0 (trimP (B.take m) = trimP B) := ⟨by rw [← HI.out.2.2]; exact (trimP_zero (by have := HI.out.1; omega) hx).symm⟩
        have hcap : m ≤ c7 := by have h8 := (Kd.R_reads' HR3.out).2.1; have := HI.out.1; omega
        have hcapi : (m : Int) ≤ (c7 : Int) := by omega
        clear hn z0 z1 e8b hx
        go_wp2
        go_roundg (gk - 1)
        case measure => have := HI.out; omega
        case rel => exact ⟨m, by first | rfl | simp, rfl, ⟨by have := HI.out.1; omega, by have := HI.out.2.1; omega, HTR.out⟩⟩
end Go.Proofs.Ytfbdenlpoidnjaa.P
