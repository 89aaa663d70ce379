/- The law ArithResets, walked. -/
import Derived.Test.YtfbdenlpoidnjaaAwk
import Derived.Test.YtfbdenlpoidnjaaEcd
import Derived.Test.YtfbdenlpoidnjaaBit
set_option linter.unusedVariables false
set_option linter.unusedSimpArgs false
namespace Go.Proofs.Ytfbdenlpoidnjaa.P
open Go.RowKit Go.Proofs.YtfbdenlpoidnjaaW.PrintWords Go.Proofs.YtfbdenlpoidnjaaW.PrintLast Go.Proofs.YtfbdenlpoidnjaaW.PrintMore

theorem NewEncoder.sep (w0 w : World) (n : Nat) (hB : Below w0.heap.size w0 w) (h0 : 1 ≤ n) (h1 : n ≤ 64) : Calls Try.prog 15 #[.int .i64 n] w fun e w' => ∃ g : Nat, e = .returned (.tuple #[.pointer (some ⟨g, 0, none⟩), .int .i64 0]) ∧ EncAt w0.heap.size w' (fun k => w.heap.size ≤ k ∧ k < w'.heap.size) g (newE n) ∧ Below w0.heap.size w0 w' ∧ Below w.heap.size w w' :=
  (NewEncoder.good n w h0 h1).mono fun e w' ⟨g, h1, h2, h3⟩ => ⟨g, h1, (h2.bound.mono (fun k hk => hk.2)).lower hB.size, below_then hB hB.size h3, h3⟩
theorem reset_newE {n : Nat} {s : EncS} (h : s.p.length = n) : (⟨List.replicate (termE s).p.length 2048, (termE s).out, (termE s).low, (termE s).size, (termE s).begun⟩ : EncS) = newE n := by
  show (⟨List.replicate s.p.length 2048, [], 0, 4294967295, false⟩ : EncS) = ⟨List.replicate n 2048, [], 0, 4294967295, false⟩
  rw [h]
def waveletlaw11_ArithResets.f (a0 : Int) (l1 l2 : List S69) : Option Bool := some true
theorem termP_len (s : EncS) : (termP s).length ≤ s.out.length + 4 := by
  have h : ∀ l : List Int, (trimR l).length ≤ l.length := by
    intro l
    induction l with
    | nil => exact Nat.le_refl _
    | cons x r ih =>
      rw [trimR]
      split
      · rw [List.length_cons]; omega
      · exact Nat.le_refl _
  unfold termP trimP
  rw [List.length_reverse]
  refine Nat.le_trans (h _) ?_
  rw [List.length_reverse]
  unfold fullP
  rw [List.length_append]
  have h2 : (if (chooseP s.low s.size).2 then carryP s.out else s.out).length = s.out.length := by
    split
    · exact carryP_length _
    · rfl
  rw [h2]
  exact Nat.le_refl _
set_option maxHeartbeats 8000000 in
set_option maxRecDepth 100000 in
theorem resets_good (n : Nat) (A1 : Option Addr) (c1 : Nat) (l1 : List S69) (A2 : Option Addr) (c2 : Nat) (l2 : List S69) (w : World) (hr1 : Kd.C k69 w A1 l1.length l1) (hc1 : l1.length ≤ c1) (hr2 : Kd.C k69 w A2 l2.length l2) (hc2 : l2.length ≤ c2) (g1 : GoodB l1 n) (g2 : GoodB l2 n)
    (hb1 : ∀ w : World, Kd.C k69 w A1 l1.length l1 → l1.length ≤ c1 → Calls Try.prog 14 #[.slice A1 l1.length c1, .int .i64 n] w fun e w' => e = .returned (.bool true) ∧ Drawn0 w w')
    (hb2 : ∀ w : World, Kd.C k69 w A2 l2.length l2 → l2.length ≤ c2 → Calls Try.prog 14 #[.slice A2 l2.length c2, .int .i64 n] w fun e w' => e = .returned (.bool true) ∧ Drawn0 w w') :
    Calls Try.prog 9 #[.int .i64 n, .slice A1 l1.length c1, .slice A2 l2.length c2] w fun e w' => e = .returned (.bool true) ∧ Below w.heap.size w w' := by
  have hn0 : 1 ≤ n := by have := g1.2.2.1; omega
  have hn1 : n ≤ 64 := by have := g1.2.2.2; omega
  have hok := newE_ok n hn0 hn1
  have hpl : (newE n).p.length = n := List.length_replicate
  have hs1 : SymOk (newE n).p.length l1 := by rw [hpl]; have := g1.1; rwa [Int.toNat_natCast] at this
  have hs2 : SymOk (newE n).p.length l2 := by rw [hpl]; have := g2.1; rwa [Int.toNat_natCast] at this
  have HN := Aside0.mk (And.intro hn0 hn1)
  have HB1 := Aside0.mk (fun W (h : Kd.C k69 W A1 l1.length l1) => hb1 W h hc1)
  have HB2 := Aside0.mk (fun W (h : Kd.C k69 W A2 l2.length l2) => hb2 W h hc2)
  have HC1 := Aside0.mk hr1
  have HC2 := Aside0.mk hr2
  have HEN1 := Aside0.mk (fun (W : World) (S : Nat → Prop) (g : Nat) (hB : Below w.heap.size w W) (h : EncAt w.heap.size W S g (newE n)) (hS : ∀ k, S k → k < W.heap.size) => encoded.calls w W S g (newE n) A1 c1 l1 hB h hok hs1 g1.2.1 (by simp [newE]) hr1 hc1 hS)
  have HEN2 := Aside0.mk (fun (W : World) (S : Nat → Prop) (g : Nat) (hB : Below w.heap.size w W) (h : EncAt w.heap.size W S g (newE n)) (hS : ∀ k, S k → k < W.heap.size) => encoded.calls w W S g (newE n) A2 c2 l2 hB h hok hs2 g2.2.1 (by simp [newE]) hr2 hc2 hS)
  have HNE := Aside0.mk (fun (W : World) (hB : Below w.heap.size w W) => NewEncoder.sep w W n hB hn0 hn1)
  have HRN := Aside0.mk (reset_newE ((encL_ok hok hs1).2.1.trans hpl))
  have HP0 : Aside0 (0 < (termE (encL (newE n) l1)).p.length ∧ (termE (encL (newE n) l1)).p.length ≤ 1000) := ⟨by have h := (encL_ok hok hs1).2.1.trans hpl; have e : (termE (encL (newE n) l1)).p.length = (encL (newE n) l1).p.length := rfl; omega⟩
  have HTL : Aside0 ((termP (encL (newE n) l2)).length ≤ 1000000 ∧ (sizesL (newE n) l2).length ≤ 2000) := ⟨by
    have h := (encL_ok hok hs2).2.2
    have h3 := termP_len (encL (newE n) l2)
    have h4 : (newE n).out.length = 0 := rfl
    have h5 := g2.2.1
    rw [sizesL_length]
    omega⟩
  clear hr1 hr2 g1 g2 hb1 hb2 hok hpl hs1 hs2 hn0 hn1 hc1 hc2
  generalize termE (encL (newE n) l1) = se1 at *
  generalize termP (encL (newE n) l1) = te1 at *
  generalize sizesL (newE n) l1 = si1 at *
  generalize termP (encL (newE n) l2) = te2 at *
  generalize sizesL (newE n) l2 = si2 at *
  generalize termE (encL (newE n) l2) = se2 at *
  generalize newE n = ne at *
  go_enter Try.func9, Try.ntmps9
  go_wp2_with (first
    | (go_at_call 14; (with_reducible refine (HB1.out _ ?qa).mono ?_); (case qa => exact HC1.out); rintro e w1 ⟨rfl, ⟨m1, rfl⟩⟩)
    | (go_at_call 14; (with_reducible refine (HB2.out _ ?qb).mono ?_); (case qb => exact HC2.out); rintro e w1 ⟨rfl, ⟨m2, rfl⟩⟩)
    | (go_at_call 15; (with_reducible refine (HNE.out _ (pw_below_drewN (Below.refl _ _) _)).mono ?_); rintro e W1 ⟨p1, rfl, hE, hb, hb'⟩; have HE1 : Aside0 (EncAt w.heap.size W1 (fun k => k < W1.heap.size) p1 ne) := ⟨hE.mono (fun k hk => hk.2)⟩; have HBa := Aside0.mk hb; clear hE hb hb')
    | (go_at_call 15; (with_reducible refine (HNE.out _ HBa.out).mono ?_); rintro e W2 ⟨p2, rfl, hE, hb, hb'⟩; have HE2 := Aside0.mk hE; have HBb := Aside0.mk hb; have HE1b := Aside0.mk (HE1.out.below hb'); have HL1 : Aside0 (W1.heap.size ≤ W2.heap.size) := ⟨hb'.size⟩; clear hE hb hb')
    | (go_at_call 17; (with_reducible refine (HEN1.out _ _ _ HBb.out HE1b.out ?s1).mono ?_); (case s1 => exact fun k hk => Nat.lt_of_lt_of_le hk HL1.out); rintro e W3 ⟨v1, u1, T1, rfl, hE, hT, hv, hu, hb, hk⟩; have HE3 := Aside0.mk hE; have HT1 := Aside0.mk hT; have HBc := Aside0.mk hb; have HE2c := Aside0.mk (HE2.out.kept hk (fun k h1 h2 => Nat.lt_irrefl _ (Nat.lt_of_lt_of_le h2 h1.1))); have HL2 : Aside0 (W2.heap.size ≤ W3.heap.size) := ⟨hk.1⟩; clear hE hT hv hu hb hk)
    | (go_at_call 24; (with_reducible refine (Reset.good w W3 T1 p1 se1 HBc.out HE3.out HP0.out.1 HP0.out.2).mono ?_); rintro e W4 ⟨rfl, hE, hb, hk⟩; rw [HRN.out] at hE; have HE4 := Aside0.mk hE; have HBd := Aside0.mk hb; have HL3 : Aside0 (W3.heap.size ≤ W4.heap.size) := ⟨hk.1⟩; have HE2d := Aside0.mk (HE2c.out.kept hk (fun k h1 h2 => (HT1.out k h2).1.elim (fun h => Nat.lt_irrefl _ (Nat.lt_of_lt_of_le h h1.1)) (fun h => Nat.lt_irrefl _ (Nat.lt_of_lt_of_le h1.2 h)))); clear hE hb hk)
    | (go_at_call 17; (with_reducible refine (HEN2.out _ _ _ HBd.out HE4.out ?s2).mono ?_); (case s2 => exact fun k hk => Nat.lt_of_lt_of_le (HT1.out k hk).2 HL3.out); rintro e W5 ⟨v3, u3, T3, rfl, hE, hT, hv, hu, hb, hk⟩; have HV3 := Aside0.mk hv; have HU3 := Aside0.mk hu; have HBe := Aside0.mk hb; have HL4 : Aside0 (W4.heap.size ≤ W5.heap.size) := ⟨hk.1⟩; have HE2e := Aside0.mk (HE2d.out.kept hk (fun k h1 h2 => (HT1.out k h2).1.elim (fun h => Nat.lt_irrefl _ (Nat.lt_of_lt_of_le h h1.1)) (fun h => Nat.lt_irrefl _ (Nat.lt_of_lt_of_le h1.2 h)))); clear hE hT hv hu hb hk)
    | (go_at_call 17; (with_reducible refine (HEN2.out _ _ _ HBe.out HE2e.out ?s3).mono ?_); (case s3 => exact fun k hk => (by have h1 := hk.2; have h2 := HL2.out; have h3 := HL3.out; have h4 := HL4.out; omega)); rintro e W6 ⟨v4, u4, T4, rfl, hE, hT, hv, hu, hb, hk⟩; have HV4 := Aside0.mk hv; have HU4 := Aside0.mk hu; have HBf := Aside0.mk hb; have HV5 := Aside0.mk (Kd.R_step HV3.out (fun k hs hl => hk.2 k hl (fun h => (by have h1 := h.2; have h2 := hs.1; have h3 := HL2.out; have h4 := HL3.out; omega)))); have HU5 := Aside0.mk (Kd.R_step HU3.out (fun k hs hl => hk.2 k hl (fun h => (by have h1 := h.2; have h2 := hs.1; have h3 := HL2.out; have h4 := HL3.out; omega)))); clear hE hT hv hu hb hk; obtain ⟨Au, cu, eu⟩ := Kd.R_slice HU5.out; obtain ⟨Aw, cw, ew⟩ := Kd.R_slice HU4.out; subst eu; subst ew)
    | fail)
  have hsl : (si2.length : Int) ≤ 2000 := by have := HTL.out.2; omega
  go_loopg [67] (si2.length + 1) (fun kq v67 w' => ∃ i nd : Nat, v67 = .int .i64 i ∧ w' = W6.drewN nd ∧ Aside0 (i ≤ si2.length ∧ kq + i = si2.length + 1))
  case atStart => exact ⟨0, 0, by first | rfl | simp, rfl, ⟨by omega, by omega⟩⟩
  case round =>
    obtain ⟨i, nd, rfl, rfl, HI⟩ := hrel
    by_cases hlt : i < si2.length
    · have hil : (i : Int) < (si2.length : Int) := by omega
      have hi0 : (0 : Int) ≤ (i : Int) := by omega
      obtain ⟨b3, k3, e3, _, _, _⟩ := Kd.R_form HU5.out (by omega)
      obtain ⟨b4, k4, e4, _, _, _⟩ := Kd.R_form HU4.out (by omega)
      injection e3 with e3a _ e3b
      injection e4 with e4a _ e4b
      subst e3a
      subst e4a
      have z3 := (Kd.R_cell (0 : Int) HU5.out (i : Int) (by omega) hil).1
      have z4 := (Kd.R_cell (0 : Int) HU4.out (i : Int) (by omega) hil).1
      rw [Int.toNat_natCast] at z3 z4
      generalize rdOf (0 : Int) si2 (i : Int) = x at *
      have y3 : (W6.drewN nd).cell? ⟨b3, i, none⟩ = some (.int .i64 x) := z3
      have y4 : (W6.drewN nd).cell? ⟨b4, i, none⟩ = some (.int .i64 x) := z4
      clear e3b e4b
      go_wp2
      go_quiet (fail)
      go_wp2
      go_roundg (gk - 1)
      case measure => have := HI.out; omega
      case rel => exact ⟨i + 1, _, by first | rfl | simp, by first | rfl | simp, ⟨by omega, by have := HI.out; omega⟩⟩
    · have hil : ¬ (i : Int) < (si2.length : Int) := by omega
      obtain ⟨Av, cv, ev, lv, Cv⟩ := Kd.R_reads HV5.out
      obtain ⟨Ax, cx, ex, lx, Cx⟩ := Kd.R_reads HV4.out
      subst ev
      subst ex
      have HSM := Aside0.mk (fun (W : World) (h1 : Kd.C (Kd.int .u8) W Av te2.length te2) (h2 : Kd.C (Kd.int .u8) W Ax te2.length te2) => same_calls Av cv Ax cx te2 HTL.out.1 W h1 lv h2 lx)
      have HCv := Aside0.mk (Kd.C_drewN Cv nd)
      have HCx := Aside0.mk (Kd.C_drewN Cx nd)
      clear Cv Cx lv lx
      go_wp2_with (first
        | (go_at_call 21; (with_reducible refine (HSM.out _ HCv.out HCx.out).mono ?_); rintro e W7 ⟨rfl, ⟨m7, rfl⟩⟩)
        | (go_at_call 13; (with_reducible refine (awake.calls _).mono ?_); rintro e W8 ⟨rfl, hb⟩; have HB8 := Aside0.mk hb; clear hb))
      go_ret
      exact ⟨rfl, below_then (pw_below_drewN HBf.out _) (pw_below_drewN HBf.out _).size HB8.out⟩
set_option maxHeartbeats 4000000 in
theorem waveletlaw11_ArithResets.calls (a0 : Int) (A1 : Option Addr) (c1 : Nat) (l1 : List S69) (A2 : Option Addr) (c2 : Nat) (l2 : List S69) (r : Bool) (w : World) (hr1 : Kd.C k69 w A1 l1.length l1) (hc1 : l1.length ≤ c1) (hr2 : Kd.C k69 w A2 l2.length l2) (hc2 : l2.length ≤ c2) (h : waveletlaw11_ArithResets.f a0 l1 l2 = some r) :
    Calls Try.prog 9 #[.int .i64 a0, .slice A1 l1.length c1, .slice A2 l2.length c2] w fun e w' => e = .returned (.bool r) ∧ Below w.heap.size w w' := by
  obtain rfl : true = r := Option.some.inj h
  clear h
  obtain ⟨r1, g1, hb1⟩ := bits.calls A1 c1 l1 a0
  obtain ⟨r2, g2, hb2⟩ := bits.calls A2 c2 l2 a0
  cases r1
  · have HB1 := Aside0.mk (hb1 w hr1 hc1)
    clear hb1 hb2 g1 g2 hr1 hr2 hc1 hc2
    generalize l1.length = L1 at *
    generalize l2.length = L2 at *
    go_enter Try.func9, Try.ntmps9
    go_wp2_with (first
      | (go_at_call 14; (with_reducible refine HB1.out.mono ?_); rintro e w1 ⟨rfl, ⟨m1, rfl⟩⟩)
      | (go_at_call 13; (with_reducible refine (awake.calls _).mono ?_); rintro e W8 ⟨rfl, hb⟩; have HB8 := Aside0.mk hb; clear hb))
    go_ret
    exact ⟨rfl, below_then (pw_below_drewN (Below.refl w.heap.size w) m1) (Nat.le_refl _) HB8.out⟩
  · cases r2
    · have HB1 := Aside0.mk (hb1 w hr1 hc1)
      have HB2 := Aside0.mk (fun W (h : Kd.C k69 W A2 l2.length l2) => hb2 W h hc2)
      have HC2 := Aside0.mk hr2
      clear hb1 hb2 g1 g2 hr1 hr2 hc1 hc2
      go_enter Try.func9, Try.ntmps9
      go_wp2_with (first
        | (go_at_call 14; (with_reducible refine HB1.out.mono ?_); rintro e w1 ⟨rfl, ⟨m1, rfl⟩⟩)
        | (go_at_call 14; (with_reducible refine (HB2.out _ ?qb).mono ?_); (case qb => exact HC2.out); rintro e w1 ⟨rfl, ⟨m2, rfl⟩⟩)
        | (go_at_call 13; (with_reducible refine (awake.calls _).mono ?_); rintro e W8 ⟨rfl, hb⟩; have HB8 := Aside0.mk hb; clear hb))
      go_ret
      exact ⟨rfl, below_then (pw_below_drewN (Below.refl w.heap.size w) (m1 + m2)) (Nat.le_refl _) HB8.out⟩
    · have G1 := g1 rfl
      have G2 := g2 rfl
      obtain ⟨n, rfl⟩ : ∃ n : Nat, a0 = (n : Int) := ⟨a0.toNat, by have := G1.2.2.1; omega⟩
      exact resets_good n A1 c1 l1 A2 c2 l2 w hr1 hc1 hr2 hc2 G1 G2 hb1 hb2
end Go.Proofs.Ytfbdenlpoidnjaa.P
