/- The law ArithShortest, walked. -/
import Derived.Test.YtfbdenlpoidnjaaLcm
set_option linter.unusedVariables false
set_option linter.unusedSimpArgs false
namespace Go.Proofs.Ytfbdenlpoidnjaa.P
open Go.RowKit Go.Proofs.YtfbdenlpoidnjaaW.PrintWords Go.Proofs.YtfbdenlpoidnjaaW.PrintLast Go.Proofs.YtfbdenlpoidnjaaW.PrintMore

open Classical in
noncomputable def waveletlaw11_ArithShortest.f (l0 : List S69) (l1 : List Int) : Option Bool := if Byt l1 then some true else none
theorem row_shape {w : World} {b : Nat} {ok : Nat → Prop} {v : Value} {te : List Int} {q : Nat} (h : Kd.R (Kd.int .u8) 5 w b ok v te) (hq : te.length = q + 1) : ∃ b7 c7, v = .slice (some ⟨b7, 0, none⟩) (q + 1) c7 ∧ w.cell? ⟨b7, q, none⟩ = some (.int .u8 (rd te (q : Int))) := by
  obtain ⟨b7, c7, e7, _, _, _⟩ := Kd.R_form h (by omega)
  subst e7
  have z0 := (Kd.R_cell (0 : Int) h (q : Int) (by omega) (by omega)).1
  rw [Int.toNat_natCast] at z0
  exact ⟨b7, c7, by rw [hq], z0⟩
attribute [local go_sem] min2_int min_two
set_option maxHeartbeats 8000000 in
set_option maxRecDepth 100000 in
theorem shortest_good (A0 : Option Addr) (c0 : Nat) (l0 : List S69) (A1 : Option Addr) (c1 : Nat) (l1 : List Int) (w : World) (hr0 : Kd.C k69 w A0 l0.length l0) (hc0 : l0.length ≤ c0) (hr1 : Kd.C (Kd.int .u8) w A1 l1.length l1) (hc1 : l1.length ≤ c1) (hby : Byt l1) (g0 : GoodB l0 20) (hl1 : l1.length ≤ 2000)
    (hb0 : ∀ w : World, Kd.C k69 w A0 l0.length l0 → l0.length ≤ c0 → Calls Try.prog 14 #[.slice A0 l0.length c0, .int .i64 20] w fun e w' => e = .returned (.bool true) ∧ Drawn0 w w') :
    Calls Try.prog 6 #[.slice A0 l0.length c0, .slice A1 l1.length c1] w fun e w' => e = .returned (.bool true) ∧ Below w.heap.size w w' := by
  have hok := newE_ok 20 (by decide) (by decide)
  have hpl : (newE 20).p.length = 20 := List.length_replicate
  have hs0 : SymOk (newE 20).p.length l0 := by rw [hpl]; exact g0.1
  obtain ⟨eo1, eo2, eo3⟩ := encL_ok hok hs0
  obtain ⟨tb, _, tl⟩ := term_in eo1 (encL_inv hok (newE_beg 20).inv hs0)
  have hdp := newD_p 20 (by decide) (by decide)
  have e0 : (newE 20).out.length = 0 := rfl
  have tl' : (termP (encL (newE 20) l0)).length ≤ 3000 := by have := g0.2.1; omega
  have hds : SymOk (newD 20).p.length l0 := hs0
  obtain ⟨ra, _⟩ := restores (d := newD 20) hok (newE_beg 20) rfl hs0
  have HB0 := Aside0.mk (fun W (h : Kd.C k69 W A0 l0.length l0) => hb0 W h hc0)
  have HC0 := Aside0.mk hr0
  have HC1 := Aside0.mk hr1
  have HNE := Aside0.mk (fun (W : World) (hB : Below w.heap.size w W) => (show Calls Try.prog 15 #[.int .i64 20] W _ from NewEnc.sep w W 20 hB (by decide) (by decide)))
  have HND := Aside0.mk (fun (W : World) (hB : Below w.heap.size w W) => (show Calls Try.prog 16 #[.int .i64 20] W _ from NewDec.sep w W 20 hB (by decide) (by decide)))
  have HEN := Aside0.mk (fun (W : World) (S : Nat → Prop) (g : Nat) (hB : Below w.heap.size w W) (h : EncAt w.heap.size W S g (newE 20)) (hS : ∀ k, S k → k < W.heap.size) => encoded.calls w W S g (newE 20) A0 c0 l0 hB h hok hs0 g0.2.1 (by omega) hr0 hc0 hS)
  have hlast := term_last (s := encL (newE 20) l0)
  have hsh := fun b hb hbl hlt => shortest (s := newE 20) (d := newD 20) (l := l0) (b := b) hok (newE_beg 20) rfl hdp hs0 hb hbl hlt
  by_cases h0 : (termP (encL (newE 20) l0)).length = 0
  · have ht : termP (encL (newE 20) l0) = [] := List.eq_nil_of_length_eq_zero h0
    rw [ht] at ra
    have HDE := Aside0.mk (fun (W : World) (S : Nat → Prop) (g : Nat) (hB : Below w.heap.size w W) (h : DecAt w.heap.size W S g (newD 20)) => (show Calls Try.prog 18 #[.pointer (some ⟨g, 0, none⟩), .slice A0 l0.length c0, .slice none 0 0] W _ from decoded.all w W S g (newD 20) A0 c0 l0 none 0 [] hB h hdp hds g0.2.1 hr0 hc0 (Kd.C_nil _ _) (Nat.le_refl _) (fun z hz => by cases hz) (by decide) ra))
    rw [ht] at HEN
    clear hr0 hr1 g0 hb0 hok hpl hs0 eo1 eo2 eo3 tb tl hdp e0 tl' hds ra hlast hsh h0 ht hc0 hc1 hby
    generalize (decL (startD (newD 20) []) l0).2 = sd2 at *
    generalize sizesL (newE 20) l0 = si at *
    generalize termE (encL (newE 20) l0) = se at *
    generalize newE 20 = ne at *
    generalize newD 20 = nd at *
    have hl1' : (l1.length : Int) ≤ 2000 := by omega
    go_enter Try.func6, Try.ntmps6
    go_wp2_with (first
      | (go_at_call 14; (with_reducible refine (HB0.out _ ?qa).mono ?_); (case qa => exact HC0.out); rintro e w1 ⟨rfl, ⟨m1, rfl⟩⟩)
      | (go_at_call 15; (with_reducible refine (HNE.out _ (pw_below_drewN (Below.refl _ _) _)).mono ?_); rintro e W1 ⟨p1, rfl, hE, hb, hb'⟩; have HE1 : Aside0 (EncAt w.heap.size W1 (fun k => k < W1.heap.size) p1 ne) := ⟨hE.mono (fun k hk => hk.2)⟩; have HBa := Aside0.mk hb; clear hE hb hb')
      | (go_at_call 16; (with_reducible refine (HND.out _ HBa.out).mono ?_); rintro e W2 ⟨p2, rfl, hD, hb, hb'⟩; have HD2 := Aside0.mk hD; have HBb := Aside0.mk hb; have HE1b := Aside0.mk (HE1.out.below hb'); have HL1 : Aside0 (W1.heap.size ≤ W2.heap.size) := ⟨hb'.size⟩; clear hD hb hb')
      | (go_at_call 17; (with_reducible refine (HEN.out _ _ _ HBb.out HE1b.out ?s1).mono ?_); (case s1 => exact fun k hk => Nat.lt_of_lt_of_le hk HL1.out); rintro e W3 ⟨v1, u1, T1, rfl, hE, hT, hv, hu, hb, hk⟩; have HV1 := Aside0.mk hv; have HBc := Aside0.mk hb; have HD2c := Aside0.mk (HD2.out.kept hk (fun k h1 h2 => Nat.lt_irrefl _ (Nat.lt_of_lt_of_le h2 h1.1))); clear hE hT hv hu hb hk; obtain ⟨Av, cv, ev⟩ := Kd.R_slice HV1.out; subst ev)
      | (go_at_call 18; (with_reducible refine (HDE.out _ _ _ HBc.out HD2c.out).mono ?_); rintro e W5 ⟨rfl, hD, hb, hk⟩; have HBe := Aside0.mk hb; clear hD hb hk)
      | (go_at_call 13; (with_reducible refine (awake.calls _).mono ?_); rintro e W8 ⟨rfl, hb⟩; have HB8 := Aside0.mk hb; clear hb))
    go_ret
    exact ⟨rfl, below_then HBe.out HBe.out.size HB8.out⟩
  · obtain ⟨q, hq⟩ : ∃ q, (termP (encL (newE 20) l0)).length = q + 1 := ⟨(termP (encL (newE 20) l0)).length - 1, by omega⟩
    have hl := hlast (by omega)
    rw [hq, show (((q + 1 : Nat) : Int) - 1) = (q : Int) by omega] at hl
    obtain ⟨m, hm⟩ : ∃ m, m = min l1.length q := ⟨_, rfl⟩
    have hml : (l1.take m).length = m := by rw [List.length_take]; omega
    have hbt : Byt (l1.take m) := fun z hz => hby z (List.mem_of_mem_take hz)
    have hcount := hsh (l1.take m) hbt (by rw [hml]; omega) (by rw [hml, hq]; omega)
    have HCT := Aside0.mk (Kd.C_take hr1 (m := m) (by omega))
    have HDE := Aside0.mk (fun (W : World) (S : Nat → Prop) (g : Nat) (hB : Below w.heap.size w W) (h : DecAt w.heap.size W S g (newD 20)) => decoded.calls w W S g (newD 20) A0 c0 l0 A1 c1 (l1.take m) hB h hdp hds g0.2.1 hr0 hc0 (Kd.C_below HCT.out hB) (by rw [hml]; omega) hbt (by rw [hml]; omega))
    rw [hml] at HDE
    have HQT : Aside0 ((termP (encL (newE 20) l0)).length = q + 1) := ⟨hq⟩
    have hq3 : (q : Int) ≤ 3000 := by omega
    have hc1' : (l1.length : Int) ≤ (c1 : Int) := by omega
    clear hr0 hr1 g0 hb0 hok hpl hs0 eo1 eo2 eo3 tb tl hdp e0 tl' hds ra hlast hsh h0 hby hq hml hbt
    generalize hdc : (decL (startD (newD 20) (l1.take m)) l0) = dc at *
    clear hdc
    obtain ⟨cnt, sd2⟩ := dc
    dsimp only at HDE hcount
    generalize sizesL (newE 20) l0 = si at *
    generalize termP (encL (newE 20) l0) = te at *
    generalize termE (encL (newE 20) l0) = se at *
    generalize newE 20 = ne at *
    generalize newD 20 = nd at *
    have hl1' : (l1.length : Int) ≤ 2000 := by omega
    have hcn : (cnt : Int) < (l0.length : Int) := by omega
    have HL := Aside0.mk hl
    have hlb : (rd te (q : Int) == 0) = false := by simpa using hl
    clear hl
    by_cases hqm : q < l1.length
    · have hmq : m = q := by omega
      subst hmq
      have hqi : (m : Int) < (l1.length : Int) := by omega
      clear hm
      go_enter Try.func6, Try.ntmps6
      go_wp2_with (first
        | (go_at_call 14; (with_reducible refine (HB0.out _ ?qa).mono ?_); (case qa => exact HC0.out); rintro e w1 ⟨rfl, ⟨m1, rfl⟩⟩)
        | (go_at_call 15; (with_reducible refine (HNE.out _ (pw_below_drewN (Below.refl _ _) _)).mono ?_); rintro e W1 ⟨p1, rfl, hE, hb, hb'⟩; have HE1 : Aside0 (EncAt w.heap.size W1 (fun k => k < W1.heap.size) p1 ne) := ⟨hE.mono (fun k hk => hk.2)⟩; have HBa := Aside0.mk hb; clear hE hb hb')
        | (go_at_call 16; (with_reducible refine (HND.out _ HBa.out).mono ?_); rintro e W2 ⟨p2, rfl, hD, hb, hb'⟩; have HD2 := Aside0.mk hD; have HBb := Aside0.mk hb; have HE1b := Aside0.mk (HE1.out.below hb'); have HL1 : Aside0 (W1.heap.size ≤ W2.heap.size) := ⟨hb'.size⟩; clear hD hb hb')
        | (go_at_call 17; (with_reducible refine (HEN.out _ _ _ HBb.out HE1b.out ?s1).mono ?_); (case s1 => exact fun k hk => Nat.lt_of_lt_of_le hk HL1.out); rintro e W3 ⟨v1, u1, T1, rfl, hE, hT, hv, hu, hb, hk⟩; have HV1 := Aside0.mk hv; have HBc := Aside0.mk hb; have HD2c := Aside0.mk (HD2.out.kept hk (fun k h1 h2 => Nat.lt_irrefl _ (Nat.lt_of_lt_of_le h2 h1.1))); clear hE hT hv hu hb hk; obtain ⟨b7, c7, e7, z0⟩ := row_shape HV1.out HQT.out; subst e7)
        | (go_at_call 18; (with_reducible refine (HDE.out _ _ _ HBc.out HD2c.out).mono ?_); rintro e W5 ⟨rfl, hD, hb, hk⟩; have HBe := Aside0.mk hb; clear hD hb hk)
        | (go_at_call 13; (with_reducible refine (awake.calls _).mono ?_); rintro e W8 ⟨rfl, hb⟩; have HB8 := Aside0.mk hb; clear hb))
      go_ret
      exact ⟨rfl, below_then HBe.out HBe.out.size HB8.out⟩
    · have hmq : m = l1.length := by omega
      subst hmq
      rw [List.take_length] at *
      have hqi : ¬ (q : Int) < (l1.length : Int) := by omega
      clear hm
      go_enter Try.func6, Try.ntmps6
      go_wp2_with (first
        | (go_at_call 14; (with_reducible refine (HB0.out _ ?qa).mono ?_); (case qa => exact HC0.out); rintro e w1 ⟨rfl, ⟨m1, rfl⟩⟩)
        | (go_at_call 15; (with_reducible refine (HNE.out _ (pw_below_drewN (Below.refl _ _) _)).mono ?_); rintro e W1 ⟨p1, rfl, hE, hb, hb'⟩; have HE1 : Aside0 (EncAt w.heap.size W1 (fun k => k < W1.heap.size) p1 ne) := ⟨hE.mono (fun k hk => hk.2)⟩; have HBa := Aside0.mk hb; clear hE hb hb')
        | (go_at_call 16; (with_reducible refine (HND.out _ HBa.out).mono ?_); rintro e W2 ⟨p2, rfl, hD, hb, hb'⟩; have HD2 := Aside0.mk hD; have HBb := Aside0.mk hb; have HE1b := Aside0.mk (HE1.out.below hb'); have HL1 : Aside0 (W1.heap.size ≤ W2.heap.size) := ⟨hb'.size⟩; clear hD hb hb')
        | (go_at_call 17; (with_reducible refine (HEN.out _ _ _ HBb.out HE1b.out ?s1).mono ?_); (case s1 => exact fun k hk => Nat.lt_of_lt_of_le hk HL1.out); rintro e W3 ⟨v1, u1, T1, rfl, hE, hT, hv, hu, hb, hk⟩; have HV1 := Aside0.mk hv; have HBc := Aside0.mk hb; have HD2c := Aside0.mk (HD2.out.kept hk (fun k h1 h2 => Nat.lt_irrefl _ (Nat.lt_of_lt_of_le h2 h1.1))); clear hE hT hv hu hb hk; obtain ⟨b7, c7, e7, z0⟩ := row_shape HV1.out HQT.out; subst e7)
        | (go_at_call 18; (with_reducible refine (HDE.out _ _ _ HBc.out HD2c.out).mono ?_); rintro e W5 ⟨rfl, hD, hb, hk⟩; have HBe := Aside0.mk hb; clear hD hb hk)
        | (go_at_call 13; (with_reducible refine (awake.calls _).mono ?_); rintro e W8 ⟨rfl, hb⟩; have HB8 := Aside0.mk hb; clear hb))
      go_ret
      exact ⟨rfl, below_then HBe.out HBe.out.size HB8.out⟩
set_option maxHeartbeats 4000000 in
theorem waveletlaw11_ArithShortest.calls (A0 : Option Addr) (c0 : Nat) (l0 : List S69) (A1 : Option Addr) (c1 : Nat) (l1 : List Int) (r : Bool) (w : World) (hr0 : Kd.C k69 w A0 l0.length l0) (hc0 : l0.length ≤ c0) (hr1 : Kd.C (Kd.int .u8) w A1 l1.length l1) (hc1 : l1.length ≤ c1) (h : waveletlaw11_ArithShortest.f l0 l1 = some r) :
    Calls Try.prog 6 #[.slice A0 l0.length c0, .slice A1 l1.length c1] w fun e w' => e = .returned (.bool r) ∧ Below w.heap.size w w' := by
  unfold waveletlaw11_ArithShortest.f at h
  by_cases hby : Byt l1
  · rw [if_pos hby] at h
    obtain rfl : true = r := Option.some.inj h
    clear h
    obtain ⟨r0, g0, hb0⟩ := bits.calls A0 c0 l0 20
    cases r0
    · have HB0 := Aside0.mk (hb0 w hr0 hc0)
      clear hb0 g0 hr0 hr1 hc0 hc1 hby
      generalize l0.length = L0 at *
      generalize l1.length = L1 at *
      go_enter Try.func6, Try.ntmps6
      go_wp2_with (first
        | (go_at_call 14; (with_reducible refine HB0.out.mono ?_); rintro e w1 ⟨rfl, ⟨m1, rfl⟩⟩)
        | (go_at_call 13; (with_reducible refine (awake.calls _).mono ?_); rintro e W8 ⟨rfl, hb⟩; have HB8 := Aside0.mk hb; clear hb))
      go_ret
      exact ⟨rfl, below_then (pw_below_drewN (Below.refl w.heap.size w) m1) (Nat.le_refl _) HB8.out⟩
    · by_cases hl : l1.length ≤ 2000
      · exact shortest_good A0 c0 l0 A1 c1 l1 w hr0 hc0 hr1 hc1 hby (g0 rfl) hl hb0
      · have HB0 := Aside0.mk (hb0 w hr0 hc0)
        have hl' : (2000 : Int) < (l1.length : Int) := by omega
        clear hb0 g0 hr0 hr1 hc0 hc1 hby hl
        generalize l0.length = L0 at *
        generalize l1.length = L1 at *
        go_enter Try.func6, Try.ntmps6
        go_wp2_with (first
          | (go_at_call 14; (with_reducible refine HB0.out.mono ?_); rintro e w1 ⟨rfl, ⟨m1, rfl⟩⟩)
          | (go_at_call 13; (with_reducible refine (awake.calls _).mono ?_); rintro e W8 ⟨rfl, hb⟩; have HB8 := Aside0.mk hb; clear hb))
        go_ret
        exact ⟨rfl, below_then (pw_below_drewN (Below.refl w.heap.size w) m1) (Nat.le_refl _) HB8.out⟩
  · rw [if_neg hby] at h
    cases h
end Go.Proofs.Ytfbdenlpoidnjaa.P
