/- The law ArithRestores, walked. -/
import Derived.Test.YtfbdenlpoidnjaaLcm
set_option linter.unusedVariables false
set_option linter.unusedSimpArgs false
namespace Go.Proofs.Ytfbdenlpoidnjaa.P
open Go.RowKit Go.Proofs.YtfbdenlpoidnjaaW.PrintWords Go.Proofs.YtfbdenlpoidnjaaW.PrintLast Go.Proofs.YtfbdenlpoidnjaaW.PrintMore

def waveletlaw11_ArithRestores.f (a0 : Int) (l1 l2 : List S69) : Option Bool := some true
set_option maxHeartbeats 8000000 in
set_option maxRecDepth 100000 in
theorem restores_good (n : Nat) (A1 : Option Addr) (c1 : Nat) (l1 : List S69) (A2 : Option Addr) (c2 : Nat) (l2 : List S69) (w : World) (hr1 : Kd.C k69 w A1 l1.length l1) (hc1 : l1.length ≤ c1) (hr2 : Kd.C k69 w A2 l2.length l2) (hc2 : l2.length ≤ c2) (g1 : GoodB l1 n) (g2 : GoodB l2 n)
    (hb1 : ∀ w : World, Kd.C k69 w A1 l1.length l1 → l1.length ≤ c1 → Calls Try.prog 14 #[.slice A1 l1.length c1, .int .i64 n] w fun e w' => e = .returned (.bool true) ∧ Drawn0 w w')
    (hb2 : ∀ w : World, Kd.C k69 w A2 l2.length l2 → l2.length ≤ c2 → Calls Try.prog 14 #[.slice A2 l2.length c2, .int .i64 n] w fun e w' => e = .returned (.bool true) ∧ Drawn0 w w') :
    Calls Try.prog 4 #[.int .i64 n, .slice A1 l1.length c1, .slice A2 l2.length c2] w fun e w' => e = .returned (.bool true) ∧ Below w.heap.size w w' := by
  have hn0 : 1 ≤ n := by have := g1.2.2.1; omega
  have hn1 : n ≤ 64 := by have := g1.2.2.2; omega
  have hok := newE_ok n hn0 hn1
  have hpl : (newE n).p.length = n := List.length_replicate
  have hs1 : SymOk (newE n).p.length l1 := by rw [hpl]; have := g1.1; rwa [Int.toNat_natCast] at this
  obtain ⟨eo1, eo2, eo3⟩ := encL_ok hok hs1
  have hok2 := termE_ok eo1
  have hpl2 : (termE (encL (newE n) l1)).p.length = n := eo2.trans hpl
  have hs2 : SymOk (termE (encL (newE n) l1)).p.length l2 := by rw [hpl2]; have := g2.1; rwa [Int.toNat_natCast] at this
  obtain ⟨fo1, fo2, fo3⟩ := encL_ok hok2 hs2
  obtain ⟨tb1, _, tl1⟩ := term_in eo1 (encL_inv hok (newE_beg n).inv hs1)
  obtain ⟨tb2, _, tl2⟩ := term_in fo1 (encL_inv hok2 (termE_beg _).inv hs2)
  have hdp := newD_p n hn0 hn1
  obtain ⟨ra, rb⟩ := restores (d := newD n) hok (newE_beg n) rfl hs1
  have e0 : (newE n).out.length = 0 := rfl
  have e1 : (termE (encL (newE n) l1)).out.length = 0 := rfl
  have tl1' : (termP (encL (newE n) l1)).length ≤ 1000000 := by have := g1.2.1; omega
  have tl2' : (termP (encL (termE (encL (newE n) l1)) l2)).length ≤ 1000000 := by have := g2.2.1; omega
  have hds1 : SymOk (newD n).p.length l1 := hs1
  have hdk := decL_ok (startD_ok hdp tb1 tl1') (l := l1) hds1
  have hsd2 : (decL (startD (newD n) (termP (encL (newE n) l1))) l1).2.p = (termE (encL (newE n) l1)).p := rb
  obtain ⟨rc, _⟩ := restores (d := (decL (startD (newD n) (termP (encL (newE n) l1))) l1).2) hok2 (termE_beg _) hsd2 hs2
  have hds2 : SymOk (decL (startD (newD n) (termP (encL (newE n) l1))) l1).2.p.length l2 := by rw [hsd2]; exact hs2
  have HB1 := Aside0.mk (fun W (h : Kd.C k69 W A1 l1.length l1) => hb1 W h hc1)
  have HB2 := Aside0.mk (fun W (h : Kd.C k69 W A2 l2.length l2) => hb2 W h hc2)
  have HC1 := Aside0.mk hr1
  have HC2 := Aside0.mk hr2
  have HNE := Aside0.mk (fun (W : World) (hB : Below w.heap.size w W) => NewEnc.sep w W n hB hn0 hn1)
  have HND := Aside0.mk (fun (W : World) (hB : Below w.heap.size w W) => NewDec.sep w W n hB hn0 hn1)
  have HEN1 := Aside0.mk (fun (W : World) (S : Nat → Prop) (g : Nat) (hB : Below w.heap.size w W) (h : EncAt w.heap.size W S g (newE n)) (hS : ∀ k, S k → k < W.heap.size) => encoded.calls w W S g (newE n) A1 c1 l1 hB h hok hs1 g1.2.1 (by omega) hr1 hc1 hS)
  have HEN2 := Aside0.mk (fun (W : World) (S : Nat → Prop) (g : Nat) (hB : Below w.heap.size w W) (h : EncAt w.heap.size W S g (termE (encL (newE n) l1))) (hS : ∀ k, S k → k < W.heap.size) => encoded.calls w W S g (termE (encL (newE n) l1)) A2 c2 l2 hB h hok2 hs2 g2.2.1 (by omega) hr2 hc2 hS)
  have HDE1 := Aside0.mk (fun (W : World) (S : Nat → Prop) (g : Nat) (A : Option Addr) (c : Nat) (hB : Below w.heap.size w W) (h : DecAt w.heap.size W S g (newD n)) (hD : Kd.C (Kd.int .u8) W A (termP (encL (newE n) l1)).length (termP (encL (newE n) l1))) (hcc : (termP (encL (newE n) l1)).length ≤ c) => decoded.all w W S g (newD n) A1 c1 l1 A c (termP (encL (newE n) l1)) hB h hdp hds1 g1.2.1 hr1 hc1 hD hcc tb1 tl1' ra)
  have HDE2 := Aside0.mk (fun (W : World) (S : Nat → Prop) (g : Nat) (A : Option Addr) (c : Nat) (hB : Below w.heap.size w W) (h : DecAt w.heap.size W S g (decL (startD (newD n) (termP (encL (newE n) l1))) l1).2) (hD : Kd.C (Kd.int .u8) W A (termP (encL (termE (encL (newE n) l1)) l2)).length (termP (encL (termE (encL (newE n) l1)) l2))) (hcc : (termP (encL (termE (encL (newE n) l1)) l2)).length ≤ c) => decoded.all w W S g _ A2 c2 l2 A c (termP (encL (termE (encL (newE n) l1)) l2)) hB h hdk.toDecP hds2 g2.2.1 hr2 hc2 hD hcc tb2 tl2' rc)
  clear hr1 hr2 g1 g2 hb1 hb2 hok hpl hs1 hs2 hn0 hn1 hc1 hc2 eo1 eo2 eo3 hok2 hpl2 fo1 fo2 fo3 tb1 tl1 tb2 tl2 hdp ra rb e0 e1 tl1' tl2' hds1 hdk hsd2 rc hds2
  generalize (decL (startD (newD n) (termP (encL (newE n) l1))) l1).2 = sd2 at *
  generalize termP (encL (newE n) l1) = te1 at *
  generalize sizesL (newE n) l1 = si1 at *
  generalize termE (encL (newE n) l1) = se1 at *
  generalize termP (encL se1 l2) = te2 at *
  generalize termE (encL se1 l2) = se2 at *
  generalize sizesL se1 l2 = si2 at *
  generalize newE n = ne at *
  generalize newD n = nd at *
  go_enter Try.func4, Try.ntmps4
  go_wp2_with (first
    | (go_at_call 14; (with_reducible refine (HB1.out _ ?qa).mono ?_); (case qa => exact HC1.out); rintro e w1 ⟨rfl, ⟨m1, rfl⟩⟩)
    | (go_at_call 14; (with_reducible refine (HB2.out _ ?qb).mono ?_); (case qb => exact HC2.out); rintro e w1 ⟨rfl, ⟨m2, rfl⟩⟩)
    | (go_at_call 15; (with_reducible refine (HNE.out _ (pw_below_drewN (Below.refl _ _) _)).mono ?_); rintro e W1 ⟨p1, rfl, hE, hb, hb'⟩; have HE1 : Aside0 (EncAt w.heap.size W1 (fun k => k < W1.heap.size) p1 ne) := ⟨hE.mono (fun k hk => hk.2)⟩; have HBa := Aside0.mk hb; clear hE hb hb')
    | (go_at_call 16; (with_reducible refine (HND.out _ HBa.out).mono ?_); rintro e W2 ⟨p2, rfl, hD, hb, hb'⟩; have HD2 := Aside0.mk hD; have HBb := Aside0.mk hb; have HE1b := Aside0.mk (HE1.out.below hb'); have HL1 : Aside0 (W1.heap.size ≤ W2.heap.size) := ⟨hb'.size⟩; clear hD hb hb')
    | (go_at_call 17; (with_reducible refine (HEN1.out _ _ _ HBb.out HE1b.out ?s1).mono ?_); (case s1 => exact fun k hk => Nat.lt_of_lt_of_le hk HL1.out); rintro e W3 ⟨v1, u1, T1, rfl, hE, hT, hv, hu, hb, hk⟩; have HE3 := Aside0.mk hE; have HT1 := Aside0.mk hT; have HV1 := Aside0.mk hv; have HBc := Aside0.mk hb; have HD2c := Aside0.mk (HD2.out.kept hk (fun k h1 h2 => Nat.lt_irrefl _ (Nat.lt_of_lt_of_le h2 h1.1))); have HL2 : Aside0 (W2.heap.size ≤ W3.heap.size) := ⟨hk.1⟩; clear hE hT hv hu hb hk)
    | (go_at_call 17; (with_reducible refine (HEN2.out _ _ _ HBc.out HE3.out ?s2).mono ?_); (case s2 => exact fun k hk => (HT1.out k hk).2); rintro e W4 ⟨v2, u2, T2, rfl, hE, hT, hv, hu, hb, hk⟩; have HV2 := Aside0.mk hv; have HBd := Aside0.mk hb; have HL3 : Aside0 (W3.heap.size ≤ W4.heap.size) := ⟨hk.1⟩; have HD2d := Aside0.mk (HD2c.out.kept hk (fun k h1 h2 => (HT1.out k h2).1.elim (fun h => Nat.lt_irrefl _ (Nat.lt_of_lt_of_le h h1.1)) (fun h => Nat.lt_irrefl _ (Nat.lt_of_lt_of_le h1.2 h)))); have HV1d := Aside0.mk (Kd.R_step HV1.out (fun k hs hl => hk.2 k hl hs.2)); clear hE hT hv hu hb hk; obtain ⟨Av, cv, ev, lv, Cv⟩ := Kd.R_reads HV1d.out; subst ev; have HCv := Aside0.mk Cv; have HLv := Aside0.mk lv; clear Cv lv)
    | (go_at_call 18; (with_reducible refine (HDE1.out _ _ _ _ _ HBd.out HD2d.out HCv.out HLv.out).mono ?_); rintro e W5 ⟨rfl, hD, hb, hk⟩; have HD5 := Aside0.mk hD; have HBe := Aside0.mk hb; have HV2e := Aside0.mk (Kd.R_step HV2.out (fun k hs hl => hk.2 k hl (fun h => (by have h1 := h.2; have h2 := hs.1; have h3 := HL2.out; omega)))); clear hD hb hk; obtain ⟨Aw, cw, ew, lw, Cw⟩ := Kd.R_reads HV2e.out; subst ew; have HCw := Aside0.mk Cw; have HLw := Aside0.mk lw; clear Cw lw)
    | (go_at_call 18; (with_reducible refine (HDE2.out _ _ _ _ _ HBe.out HD5.out HCw.out HLw.out).mono ?_); rintro e W6 ⟨rfl, hD, hb, hk⟩; have HBf := Aside0.mk hb; clear hD hb hk)
    | (go_at_call 13; (with_reducible refine (awake.calls _).mono ?_); rintro e W8 ⟨rfl, hb⟩; have HB8 := Aside0.mk hb; clear hb))
  go_ret
  exact ⟨rfl, below_then HBf.out HBf.out.size HB8.out⟩
set_option maxHeartbeats 4000000 in
theorem waveletlaw11_ArithRestores.calls (a0 : Int) (A1 : Option Addr) (c1 : Nat) (l1 : List S69) (A2 : Option Addr) (c2 : Nat) (l2 : List S69) (r : Bool) (w : World) (hr1 : Kd.C k69 w A1 l1.length l1) (hc1 : l1.length ≤ c1) (hr2 : Kd.C k69 w A2 l2.length l2) (hc2 : l2.length ≤ c2) (h : waveletlaw11_ArithRestores.f a0 l1 l2 = some r) :
    Calls Try.prog 4 #[.int .i64 a0, .slice A1 l1.length c1, .slice A2 l2.length c2] w fun e w' => e = .returned (.bool r) ∧ Below w.heap.size w w' := by
  obtain rfl : true = r := Option.some.inj h
  clear h
  obtain ⟨r1, g1, hb1⟩ := bits.calls A1 c1 l1 a0
  obtain ⟨r2, g2, hb2⟩ := bits.calls A2 c2 l2 a0
  cases r1
  · have HB1 := Aside0.mk (hb1 w hr1 hc1)
    clear hb1 hb2 g1 g2 hr1 hr2 hc1 hc2
    generalize l1.length = L1 at *
    generalize l2.length = L2 at *
    go_enter Try.func4, Try.ntmps4
    go_wp2_with (first
      | (go_at_call 14; (with_reducible refine HB1.out.mono ?_); rintro e w1 ⟨rfl, ⟨m1, rfl⟩⟩)
      | (go_at_call 13; (with_reducible refine (awake.calls _).mono ?_); rintro e W8 ⟨rfl, hb⟩; have HB8 := Aside0.mk hb; clear hb))
    go_ret
    exact ⟨rfl, below_then (pw_below_drewN (Below.refl w.heap.size w) m1) (Nat.le_refl _) HB8.out⟩
  · cases r2
    · have HB1 := Aside0.mk (hb1 w hr1 hc1)
      have HB2 := Aside0.mk (fun W (h : Kd.C k69 W A2 l2.length l2) => hb2 W h hc2)
      have HC2 := Aside0.mk hr2
      clear hb1 hb2 g1 g2 hr1 hr2 hc1 hc2
      go_enter Try.func4, Try.ntmps4
      go_wp2_with (first
        | (go_at_call 14; (with_reducible refine HB1.out.mono ?_); rintro e w1 ⟨rfl, ⟨m1, rfl⟩⟩)
        | (go_at_call 14; (with_reducible refine (HB2.out _ ?qb).mono ?_); (case qb => exact HC2.out); rintro e w1 ⟨rfl, ⟨m2, rfl⟩⟩)
        | (go_at_call 13; (with_reducible refine (awake.calls _).mono ?_); rintro e W8 ⟨rfl, hb⟩; have HB8 := Aside0.mk hb; clear hb))
      go_ret
      exact ⟨rfl, below_then (pw_below_drewN (Below.refl w.heap.size w) (m1 + m2)) (Nat.le_refl _) HB8.out⟩
    · have G1 := g1 rfl
      have G2 := g2 rfl
      obtain ⟨n, rfl⟩ : ∃ n : Nat, a0 = (n : Int) := ⟨a0.toNat, by have := G1.2.2.1; omega⟩
      exact restores_good n A1 c1 l1 A2 c2 l2 w hr1 hc1 hr2 hc2 G1 G2 hb1 hb2
end Go.Proofs.Ytfbdenlpoidnjaa.P
