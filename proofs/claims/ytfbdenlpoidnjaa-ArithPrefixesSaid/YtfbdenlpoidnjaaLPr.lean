/- The law ArithPrefixes, walked. -/
import Derived.Test.YtfbdenlpoidnjaaLcm
import Derived.BigQuiet
import Derived.Deep.RegionLaw
set_option linter.unusedVariables false
set_option linter.unusedSimpArgs false
namespace Go.Proofs.Ytfbdenlpoidnjaa.P
open Go.RowKit Go.Proofs.YtfbdenlpoidnjaaW.PrintWords Go.Proofs.YtfbdenlpoidnjaaW.PrintLast Go.Proofs.YtfbdenlpoidnjaaW.PrintMore

open Classical in
noncomputable def waveletlaw11_ArithPrefixes.f (l0 : List S69) (a1 : Int) (l2 : List Int) : Option Bool := if Byt l2 then some true else none
theorem sizesL_get : ∀ (s : EncS) (l : List S69) (k : Nat), k < l.length → rd (sizesL s l) (k : Int) = sizeE (encL s (l.take (k + 1)))
  | s, [], k, h => by simp at h
  | s, x :: r, 0, h => rfl
  | s, x :: r, k + 1, h => by
    have ih := sizesL_get (encStep s x) r k (by rw [List.length_cons] at h; omega)
    have e : rd (sizesL s (x :: r)) (((k + 1 : Nat)) : Int) = rd (sizesL (encStep s x) r) (k : Int) := by
      unfold rd
      rw [Int.toNat_natCast, Int.toNat_natCast]
      rfl
    rw [e, ih]
    rfl
theorem encL_begun : ∀ (s : EncS) (l : List S69), 0 < l.length → (encL s l).begun = true
  | s, [], h => by simp at h
  | s, x :: r, _ => by
    cases r with
    | nil => rfl
    | cons y q => exact encL_begun (encStep s x) (y :: q) (by simp)
theorem row_at3 {w : World} {b : Nat} {ok : Nat → Prop} {v : Value} {xs : List Int} {n k : Nat} {z : Int} (h : Kd.R (Kd.int .i64) 3 w b ok v xs) (hn : xs.length = n) (hk : k < n) (hz : rd xs (k : Int) = z) : ∃ b7 c7, v = .slice (some ⟨b7, 0, none⟩) n c7 ∧ w.cell? ⟨b7, k, none⟩ = some (.int .i64 z) := by
  obtain ⟨b7, c7, e7, _, _, _⟩ := Kd.R_form h (by omega)
  subst e7
  have z0 := (Kd.R_cell (0 : Int) h (k : Int) (by omega) (by omega)).1
  rw [Int.toNat_natCast] at z0
  exact ⟨b7, c7, by rw [hn], by rw [z0, ← hz]; rfl⟩
theorem gate_law {ops : Array Oper} {o : Oper} {a : Act} {w : World} {Kc : Act → World → Prop} {Q : Exit → Act → World → Prop} (s x : Operand) (t : TypeId) (ho : o.op = .call { callee := .builtin .append, args := #[s, x], argTypes := #[t, t] }) (h : if Region.wanted o (yielded ops a.tmps) = true then Oper.wp Try.prog o a w Kc Q else Kc (a.put o.dst undef) w) : if Region.wanted o (yielded ops a.tmps) = true then Oper.wp Try.prog o a w Kc Q else Kc (a.put o.dst undef) w := h
theorem below_grown {w w' : World} (h : w.grownBy w' none) : Below w.heap.size w w' := ⟨h.os, h.tape, h.output, h.size, fun k hk => h.block k hk (by simp)⟩
theorem row_reads {w : World} {b : Nat} {ok : Nat → Prop} {v : Value} {xs : List Int} (h : Kd.R (Kd.int .u8) 5 w b ok v xs) : ∃ A c, v = .slice A xs.length c ∧ xs.length ≤ c ∧ Kd.C (Kd.int .u8) w A xs.length xs := Kd.R_reads h
set_option maxHeartbeats 3000000 in
set_option maxRecDepth 100000 in
theorem prefixes_good (A0 : Option Addr) (c0 : Nat) (l0 : List S69) (k : Nat) (A2 : Option Addr) (c2 : Nat) (l2 : List Int) (w : World) (hr0 : Kd.C k69 w A0 l0.length l0) (hc0 : l0.length ≤ c0) (hr2 : Kd.C (Kd.int .u8) w A2 l2.length l2) (hc2 : l2.length ≤ c2) (hby : Byt l2) (g0 : GoodB l0 20) (hk : k < l0.length) (hl2 : l2.length ≤ 300)
    (hb0 : ∀ w : World, Kd.C k69 w A0 l0.length l0 → l0.length ≤ c0 → Calls Try.prog 14 #[.slice A0 l0.length c0, .int .i64 20] w fun e w' => e = .returned (.bool true) ∧ Drawn0 w w') :
    Calls Try.prog 5 #[.slice A0 l0.length c0, .int .i64 ((k : Int) + 1), .slice A2 l2.length c2] w fun e w' => e = .returned (.bool true) ∧ Below w.heap.size w w' := by
  have hok := newE_ok 20 (by decide) (by decide)
  have hpl : (newE 20).p.length = 20 := List.length_replicate
  have hs0 : SymOk (newE 20).p.length l0 := by rw [hpl]; exact g0.1
  obtain ⟨eo1, eo2, eo3⟩ := encL_ok hok hs0
  obtain ⟨tb, _, tl⟩ := term_in eo1 (encL_inv hok (newE_beg 20).inv hs0)
  have hdp := newD_p 20 (by decide) (by decide)
  have e0 : (newE 20).out.length = 0 := rfl
  have tl' : (termP (encL (newE 20) l0)).length ≤ 3000 := by have := g0.2.1; omega
  have hsplit : l0.take (k + 1) ++ l0.drop (k + 1) = l0 := List.take_append_drop _ _
  have hsl : (l0.take (k + 1)).length = k + 1 := by rw [List.length_take]; omega
  have hds : SymOk (newD 20).p.length (l0.take (k + 1)) := hs0.take (k + 1)
  have hsz : rd (sizesL (newE 20) l0) (k : Int) = ((encL (newE 20) (l0.take (k + 1))).out.length : Int) + 4 := by
    rw [sizesL_get _ _ _ hk]
    unfold sizeE
    rw [encL_begun _ _ (by omega)]
    rfl
  obtain ⟨fo1, fo2, fo3⟩ := encL_ok hok (hs0.take (k + 1))
  have hpre := fun (b : List Int) (hb : Byt b) (hq : ∀ a, a < (encL (newE 20) (l0.take (k + 1))).out.length + 4 → nextP (termP (encL (newE 20) l0)) a = nextP b a) => prefixes (s := newE 20) (d := newD 20) (l := l0.take (k + 1)) (m := l0.drop (k + 1)) (b := b) hok (newE_beg 20) rfl (by rw [hsplit]; exact hs0) hb (by rw [hsplit]; exact hq)
  rw [hsl] at hpre fo3
  obtain ⟨z, hz⟩ : ∃ z, z = (encL (newE 20) (l0.take (k + 1))).out.length + 4 := ⟨_, rfl⟩
  rw [← hz] at hpre
  have hsz' : rd (sizesL (newE 20) l0) (k : Int) = (z : Int) := by rw [hsz, hz]; omega
  have hCt := Kd.C_take hr0 (m := k + 1) (by omega)
  have hDEC := fun (W : World) (S : Nat → Prop) (g : Nat) (A : Option Addr) (c : Nat) (b : List Int) (hB : Below w.heap.size w W) (h : DecAt w.heap.size W S g (newD 20)) (hD : Kd.C (Kd.int .u8) W A b.length b) (hcc : b.length ≤ c) (hbb : Byt b) (hbl : b.length ≤ 1000000) (hall : (decL (startD (newD 20) b) (l0.take (k + 1))).1 = k + 1) => decoded.all w W S g (newD 20) A0 c0 (l0.take (k + 1)) A c b hB h hdp hds (by rw [hsl]; have := g0.2.1; omega) hCt (by rw [hsl]; omega) hD hcc hbb hbl (by rw [hsl]; exact hall)
  rw [hsl] at hDEC
  have HB0 := Aside0.mk (fun W (h : Kd.C k69 W A0 l0.length l0) => hb0 W h hc0)
  have HC0 := Aside0.mk hr0
  have HC2 := Aside0.mk hr2
  have HNE := Aside0.mk (fun (W : World) (hB : Below w.heap.size w W) => (show Calls Try.prog 15 #[.int .i64 20] W _ from NewEnc.sep w W 20 hB (by decide) (by decide)))
  have HND := Aside0.mk (fun (W : World) (hB : Below w.heap.size w W) => (show Calls Try.prog 16 #[.int .i64 20] W _ from NewDec.sep w W 20 hB (by decide) (by decide)))
  have HEN := Aside0.mk (fun (W : World) (S : Nat → Prop) (g : Nat) (hB : Below w.heap.size w W) (h : EncAt w.heap.size W S g (newE 20)) (hS : ∀ k, S k → k < W.heap.size) => encoded.calls w W S g (newE 20) A0 c0 l0 hB h hok hs0 g0.2.1 (by omega) hr0 hc0 hS)
  have HSL : Aside0 ((sizesL (newE 20) l0).length = l0.length) := ⟨sizesL_length _ _⟩
  obtain ⟨te, hte⟩ : ∃ te, te = termP (encL (newE 20) l0) := ⟨_, rfl⟩
  rw [← hte] at tb tl tl' hpre HEN
  have hll : l0.length ≤ 2000 := g0.2.1
  clear hte
  have HSZ := Aside0.mk hsz'
  have HK := Aside0.mk hk
  by_cases hc : te.length ≤ z
  · have HDE := Aside0.mk (fun (W : World) (S : Nat → Prop) (g : Nat) (A : Option Addr) (c : Nat) (hB : Below w.heap.size w W) (h : DecAt w.heap.size W S g (newD 20)) (hD : Kd.C (Kd.int .u8) W A te.length te) (hcc : te.length ≤ c) => hDEC W S g A c te hB h hD hcc tb (by omega) (hpre te tb (fun _ _ => rfl)))
    have hc2 : (te.length : Int) ≤ (z : Int) := by omega
    clear hr0 hr2 g0 hb0 hok hpl hs0 eo1 eo2 eo3 tb tl hdp e0 hsplit hsl hds hsz fo1 fo2 fo3 hpre hz hsz' hCt hDEC hby hc
    generalize (decL (startD (newD 20) te) (l0.take (k + 1))).2 = sd2 at *
    generalize sizesL (newE 20) l0 = si at *
    generalize termE (encL (newE 20) l0) = se at *
    generalize newE 20 = ne at *
    generalize newD 20 = nd at *
    have hk2 : (k : Int) < (l0.length : Int) := by omega
    have hl2' : (l2.length : Int) ≤ 300 := by omega
    have hlc : (l0.length : Int) ≤ (c0 : Int) := by omega
    have hkc : (k : Int) + 1 ≤ (c0 : Int) := by omega
    have hk0 : (0 : Int) ≤ (k : Int) := by omega
    have hkb : (k : Int) ≤ 2000 := by omega
    go_enter Try.func5, Try.ntmps5
    go_wp2_with (first
      | (go_at_call 14; (with_reducible refine (HB0.out _ ?qa).mono ?_); (case qa => exact HC0.out); rintro e w1 ⟨rfl, ⟨m1, rfl⟩⟩)
      | (go_at_call 15; (with_reducible refine (HNE.out _ (pw_below_drewN (Below.refl _ _) _)).mono ?_); rintro e W1 ⟨p1, rfl, hE, hb, hb'⟩; have HE1 : Aside0 (EncAt w.heap.size W1 (fun k => k < W1.heap.size) p1 ne) := ⟨hE.mono (fun k hk => hk.2)⟩; have HBa := Aside0.mk hb; clear hE hb hb')
      | (go_at_call 16; (with_reducible refine (HND.out _ HBa.out).mono ?_); rintro e W2 ⟨p2, rfl, hD, hb, hb'⟩; have HD2 := Aside0.mk hD; have HBb := Aside0.mk hb; have HE1b := Aside0.mk (HE1.out.below hb'); have HL1 : Aside0 (W1.heap.size ≤ W2.heap.size) := ⟨hb'.size⟩; clear hD hb hb')
      | (go_at_call 16; (with_reducible refine (HND.out _ HBb.out).mono ?_); rintro e W3 ⟨p3, rfl, hD, hb, hb'⟩; have HG3 := Aside0.mk hD; have HD3 := Aside0.mk (HD2.out.below hb'); have HBc := Aside0.mk hb; have HE1c := Aside0.mk (HE1b.out.below hb'); have HL2 : Aside0 (W2.heap.size ≤ W3.heap.size) := ⟨hb'.size⟩; clear hD hb hb')
      | (go_at_call 17; (with_reducible refine (HEN.out _ _ _ HBc.out HE1c.out ?s1).mono ?_); (case s1 => exact fun k hk => Nat.lt_of_lt_of_le hk (Nat.le_trans HL1.out HL2.out)); rintro e W4 ⟨v1, u1, T1, rfl, hE, hT, hv, hu, hb, hk⟩; have HV1 := Aside0.mk hv; have HBd := Aside0.mk hb; have HL3 : Aside0 (W3.heap.size ≤ W4.heap.size) := ⟨hk.1⟩; have HD4 := Aside0.mk (HD3.out.kept hk (fun k h1 h2 => Nat.lt_irrefl _ (Nat.lt_of_lt_of_le h2 h1.1))); have HG4 := Aside0.mk (HG3.out.kept hk (fun k h1 h2 => Nat.lt_irrefl _ (Nat.lt_of_lt_of_le (Nat.lt_of_lt_of_le h2 HL1.out) h1.1))); obtain ⟨bu, cu, eu, zu⟩ := row_at3 hu HSL.out HK.out HSZ.out; subst eu; clear hE hT hv hu hb hk; obtain ⟨Av, cv, ev, lv, Cv⟩ := row_reads HV1.out; subst ev; have HCv := Aside0.mk Cv; have HLv := Aside0.mk lv; clear Cv lv)
      | (go_at_call 18; (with_reducible refine (HDE.out _ _ _ _ _ HBd.out HD4.out HCv.out HLv.out).mono ?_); rintro e W5 ⟨rfl, hD, hb, hk⟩; have HBe := Aside0.mk hb; clear hD hb hk)
      | (go_at_call 13; (with_reducible refine (awake.calls _).mono ?_); rintro e W8 ⟨rfl, hb⟩; have HB8 := Aside0.mk hb; clear hb))
    go_ret
    exact ⟨rfl, below_then HBe.out HBe.out.size HB8.out⟩
  · have hzt : z < te.length := by omega
    have hzl : (te.take z).length = z := by rw [List.length_take]; omega
    have htb : Byt (te.take z) := fun y hy => tb y (List.mem_of_mem_take hy)
    have hn1 : ∀ a, a < z → nextP te a = nextP (te.take z) a := by
      intro a ha
      unfold nextP
      rw [hzl, if_pos (by omega), if_pos ha]
      unfold rd
      rw [Int.toNat_natCast, List.getD_eq_getElem?_getD, List.getD_eq_getElem?_getD, List.getElem?_take, if_pos ha]
    have hn2 : ∀ a, a < z → nextP te a = nextP (te.take z ++ l2) a := by
      intro a ha
      rw [hn1 a ha]
      unfold nextP
      rw [hzl, if_pos ha, List.length_append, hzl, if_pos (by omega)]
      unfold rd
      rw [Int.toNat_natCast, List.getD_eq_getElem?_getD, List.getD_eq_getElem?_getD, List.getElem?_append_left (by rw [hzl]; exact ha)]
    have hbb2 : Byt (te.take z ++ l2) := by
      intro y hy
      rcases List.mem_append.1 hy with hy | hy
      · exact htb y hy
      · exact hby y hy
    have hq1 := hpre (te.take z) htb hn1
    have hq2 := hpre (te.take z ++ l2) hbb2 hn2
    have hal : (te.take z ++ l2).length = z + l2.length := by rw [List.length_append, hzl]
    have HDE1 := Aside0.mk (fun (W : World) (S : Nat → Prop) (g : Nat) (A : Option Addr) (c : Nat) (hB : Below w.heap.size w W) (h : DecAt w.heap.size W S g (newD 20)) (hD : Kd.C (Kd.int .u8) W A (te.take z).length (te.take z)) (hcc : (te.take z).length ≤ c) => hDEC W S g A c (te.take z) hB h hD hcc htb (by rw [hzl]; omega) hq1)
    have HDE2 := Aside0.mk (fun (W : World) (S : Nat → Prop) (g : Nat) (A : Option Addr) (c : Nat) (hB : Below w.heap.size w W) (h : DecAt w.heap.size W S g (newD 20)) (hD : Kd.C (Kd.int .u8) W A (te.take z ++ l2).length (te.take z ++ l2)) (hcc : (te.take z ++ l2).length ≤ c) => hDEC W S g A c (te.take z ++ l2) hB h hD hcc hbb2 (by rw [hal]; omega) hq2)
    have HZL := Aside0.mk (And.intro hzl hal)
    have HTL := Aside0.mk tl'
    have hcz : ¬ (te.length : Int) ≤ (z : Int) := by omega
    have hcz2 : (z : Int) < (te.length : Int) := by omega
    have hz0 : (0 : Int) ≤ (z : Int) := by omega
    clear hr0 hr2 g0 hb0 hok hpl hs0 eo1 eo2 eo3 tb tl hdp e0 hsplit hsl hds hsz fo1 fo2 fo3 hpre hz hsz' hCt hDEC hby hc hn1 hn2 hbb2 htb hq1 hq2 hal hzl
    generalize (decL (startD (newD 20) (te.take z)) (l0.take (k + 1))).2 = sd2 at *
    generalize (decL (startD (newD 20) (te.take z ++ l2)) (l0.take (k + 1))).2 = sd3 at *
    generalize sizesL (newE 20) l0 = si at *
    generalize termE (encL (newE 20) l0) = se at *
    generalize newE 20 = ne at *
    generalize newD 20 = nd at *
    have hk2 : (k : Int) < (l0.length : Int) := by omega
    have hl2' : (l2.length : Int) ≤ 300 := by omega
    have hlc : (l0.length : Int) ≤ (c0 : Int) := by omega
    have hkc : (k : Int) + 1 ≤ (c0 : Int) := by omega
    have hk0 : (0 : Int) ≤ (k : Int) := by omega
    have hkb : (k : Int) ≤ 2000 := by omega
    have hz3 : (z : Int) ≤ 3000 := by omega
    go_enter Try.func5, Try.ntmps5
    go_wp2_with (first
      | (go_at_call 14; (with_reducible refine (HB0.out _ ?qa).mono ?_); (case qa => exact HC0.out); rintro e w1 ⟨rfl, ⟨m1, rfl⟩⟩)
      | (go_at_call 15; (with_reducible refine (HNE.out _ (pw_below_drewN (Below.refl _ _) _)).mono ?_); rintro e W1 ⟨p1, rfl, hE, hb, hb'⟩; have HE1 : Aside0 (EncAt w.heap.size W1 (fun k => k < W1.heap.size) p1 ne) := ⟨hE.mono (fun k hk => hk.2)⟩; have HBa := Aside0.mk hb; clear hE hb hb')
      | (go_at_call 16; (with_reducible refine (HND.out _ HBa.out).mono ?_); rintro e W2 ⟨p2, rfl, hD, hb, hb'⟩; have HD2 := Aside0.mk hD; have HBb := Aside0.mk hb; have HE1b := Aside0.mk (HE1.out.below hb'); have HL1 : Aside0 (W1.heap.size ≤ W2.heap.size) := ⟨hb'.size⟩; clear hD hb hb')
      | (go_at_call 16; (with_reducible refine (HND.out _ HBb.out).mono ?_); rintro e W3 ⟨p3, rfl, hD, hb, hb'⟩; have HG3 := Aside0.mk hD; have HD3 := Aside0.mk (HD2.out.below hb'); have HBc := Aside0.mk hb; have HE1c := Aside0.mk (HE1b.out.below hb'); have HL2 : Aside0 (W2.heap.size ≤ W3.heap.size) := ⟨hb'.size⟩; clear hD hb hb')
      | (go_at_call 17; (with_reducible refine (HEN.out _ _ _ HBc.out HE1c.out ?s1).mono ?_); (case s1 => exact fun k hk => Nat.lt_of_lt_of_le hk (Nat.le_trans HL1.out HL2.out)); rintro e W4 ⟨v1, u1, T1, rfl, hE, hT, hv, hu, hb, hk⟩; have HV1 := Aside0.mk hv; have HBd := Aside0.mk hb; have HL3 : Aside0 (W3.heap.size ≤ W4.heap.size) := ⟨hk.1⟩; have HD4 := Aside0.mk (HD3.out.kept hk (fun k h1 h2 => Nat.lt_irrefl _ (Nat.lt_of_lt_of_le h2 h1.1))); have HG4 := Aside0.mk (HG3.out.kept hk (fun k h1 h2 => Nat.lt_irrefl _ (Nat.lt_of_lt_of_le (Nat.lt_of_lt_of_le h2 HL1.out) h1.1))); obtain ⟨bu, cu, eu, zu⟩ := row_at3 hu HSL.out HK.out HSZ.out; subst eu; clear hE hT hv hu hb hk; obtain ⟨Av, cv, ev, lv, Cv⟩ := row_reads HV1.out; subst ev; have HCv := Aside0.mk Cv; have HLv := Aside0.mk lv; have hcv : (te.length : Int) ≤ (cv : Int) := (by omega); have HCt : Aside0 (Kd.C (Kd.int .u8) W4 Av z (te.take z)) := ⟨(by have h := Kd.C_take HCv.out (m := z) (by omega); rw [HZL.out.1] at h; exact h)⟩; clear Cv lv)
      | ((with_reducible refine gate_dst (N := 91) rfl ?_); refine Kd.R_lit (Kd.int .u8) (w0 := w) w.heap.size 5 ?hg (N := 91) ?hd (xs := ([] : List Int)) (inner := []) (ok := fun k => W4.heap.size ≤ k) (okp := fun k => W4.heap.size ≤ k) ?hr ?hp (fun _ hk => hk) (Nat.le_refl _) HBd.out HBd.out.size (by simp) ?_; (case hd => rfl); (case hg => rfl); (case hr => first | (go_simp; done) | (go_simp; rfl)); (case hp => exact (Reps.none _ _)); intro v6 W5 ho hb hg_ hnew_; have HO5 := Aside0.mk ho; have HB5 := Aside0.mk hb; have HG5 := Aside0.mk (below_grown hg_); clear ho hb hg_ hnew_)
      | ((with_reducible refine gate_builtin (b := .append) (xs := #[.tmp 91, .tmp 94]) rfl ?_); at_builtin; refine Kd.R_append_rows (Kd.int .u8) (w0 := w) w.heap.size rfl (.tmp 91) (.tmp 94) 34 5 (.int .u8 0) 1 rfl Try.underlying34 info5 rfl (by decide) (by decide) v6 [] (te.take z) _ _ _ (fun k => W4.heap.size ≤ k) (fun _ => False) rfl rfl HO5.out (Kd.C_below HCt.out HG5.out) (fun _ _ h => h) (fun _ h => h.elim) (fun k hk => Nat.le_trans HG5.out.size hk) HB5.out HB5.out.size (by simp; omega) ?_; intro v16 W6 ho hb hg hat; have HO6 : Aside0 (Kd.R (Kd.int .u8) 5 W6 w.heap.size (fun k => W4.heap.size ≤ k) v16 (te.take z)) := ⟨ho⟩; have HB6 := Aside0.mk hb; have HK6 : Aside0 (Kept W4 W6 (fun k => W4.heap.size ≤ k)) := ⟨Kept.of_grown hg (Kept.of_below HG5.out _) (fun k hk => .inr (HO5.out.1 k hk))⟩; clear ho hb hg hat; obtain ⟨A6, c6, e6, l6, C6⟩ := row_reads HO6.out; rw [HZL.out.1] at e6; subst e6; have HC6 := Aside0.mk C6; have HL6 := Aside0.mk l6; clear C6 l6)
      | fail)
    have HD6 := Aside0.mk ((HD4.out.kept HK6.out (fun k h1 h2 => (by have h3 := h1.2; have h4 := HL2.out; have h5 := HL3.out; omega))).below (below_drew (Below.refl _ _)))
    have HG6 := Aside0.mk ((HG4.out.kept HK6.out (fun k h1 h2 => (by have h3 := h1.2; have h4 := HL2.out; have h5 := HL3.out; omega))).below (below_drew (Below.refl _ _)))
    have HR6 := Aside0.mk (Kd.R_drew HO6.out)
    have HC6d := Aside0.mk (Kd.C_drew HC6.out)
    have HB6d := Aside0.mk (below_drew HB6.out)
    rw [HZL.out.1] at HDE1 HC6d HL6
    rw [HZL.out.2] at HDE2
    have hkp : (0 : Int) ≤ (k : Int) + 1 := by omega
    have hkt : ((k : Int) + 1).toNat = k + 1 := by omega
    go_region_held3 (fun _ => True) (first | exact trivial | go_keep) (first
      | ((with_reducible refine gate_law (.tmp 109) (.tmp 110) 34 rfl ?_); refine Kd.R_append_rows_step (Kd.int .u8) (w0 := w) w.heap.size (by first | rfl | (simp [Region.wanted, yielded]; done)) (.tmp 109) (.tmp 110) 34 5 (.int .u8 0) 1 rfl Try.underlying34 info5 rfl (by decide) (by decide) (.slice A6 z c6) (te.take z) l2 _ _ _ (fun k => W4.heap.size ≤ k) (fun _ => False) rfl rfl HR7.out (Kd.C_below HC2.out HB7.out) (fun _ _ h => h) (fun _ h => h.elim) (fun k hk => (by have h3 := HL7.out; omega)) HB7.out HB7.out.size (by have h3 := HZL.out.1; omega) ?_; intro v17 W8 ho hb hg hat; have HO8 : Aside0 (Kd.R (Kd.int .u8) 5 W8 w.heap.size (fun k => W4.heap.size ≤ k) v17 (te.take z ++ l2)) := ⟨ho⟩; have HB8 := Aside0.mk hb; have HG8 := Aside0.mk (HG7.out.kept (Kept.of_grown hg (Kept.refl W7 (fun k => W4.heap.size ≤ k)) (fun k hk => .inl (HR7.out.1 k hk))) (fun k h1 h2 => (by have h3 := h1.2; have h4 := HL3.out; omega))); clear ho hb hg hat; obtain ⟨A8, c8, e8, l8, C8⟩ := row_reads HO8.out; rw [HZL.out.2] at e8 l8 C8; subst e8; have HC8 := Aside0.mk C8; have HL8 := Aside0.mk l8; clear C8 l8)
      | (go_at_call 18; (with_reducible refine (HDE1.out _ _ _ _ _ HB6d.out HD6.out HC6d.out HL6.out).mono ?_); rintro e W7 ⟨rfl, hD, hb, hk⟩; have HB7 := Aside0.mk hb; have HL7 : Aside0 (W4.heap.size ≤ W7.heap.size) := ⟨Nat.le_trans HK6.out.1 hk.1⟩; have HG7 := Aside0.mk (HG6.out.kept hk (fun k h1 h2 => (by have h3 := h1.1; have h4 := h2.2; omega))); have HR7 := Aside0.mk (Kd.R_step HR6.out (fun k hs hl => hk.2 k hl (fun h => (by have h3 := h.2; have h4 := HL2.out; have h5 := HL3.out; omega)))); clear hD hb hk)
      | (go_at_call 18; (with_reducible refine (HDE2.out _ _ _ _ _ HB8.out HG8.out HC8.out HL8.out).mono ?_); rintro e W9 ⟨rfl, hD, hb, hk⟩; have HB9 := Aside0.mk hb; clear hD hb hk)
      | (go_at_call 13; (with_reducible refine (awake.calls _).mono ?_); rintro e W10 ⟨rfl, hb⟩; have HB10 := Aside0.mk (below_then HB9.out HB9.out.size hb); clear hb))
    go_wp2
    go_ret
    exact ⟨rfl, HB10.out⟩
set_option maxHeartbeats 4000000 in
theorem waveletlaw11_ArithPrefixes.calls (A0 : Option Addr) (c0 : Nat) (l0 : List S69) (a1 : Int) (A2 : Option Addr) (c2 : Nat) (l2 : List Int) (r : Bool) (w : World) (hr0 : Kd.C k69 w A0 l0.length l0) (hc0 : l0.length ≤ c0) (hr2 : Kd.C (Kd.int .u8) w A2 l2.length l2) (hc2 : l2.length ≤ c2) (h : waveletlaw11_ArithPrefixes.f l0 a1 l2 = some r) :
    Calls Try.prog 5 #[.slice A0 l0.length c0, .int .i64 a1, .slice A2 l2.length c2] w fun e w' => e = .returned (.bool r) ∧ Below w.heap.size w w' := by
  unfold waveletlaw11_ArithPrefixes.f at h
  by_cases hby : Byt l2
  · rw [if_pos hby] at h
    obtain rfl : true = r := Option.some.inj h
    clear h
    obtain ⟨r0, g0, hb0⟩ := bits.calls A0 c0 l0 20
    by_cases hg : r0 = true ∧ 1 ≤ a1 ∧ a1 ≤ l0.length ∧ l2.length ≤ 300
    · obtain ⟨rfl, h1, h2, h3⟩ := hg
      obtain ⟨k, rfl⟩ : ∃ k : Nat, a1 = (k : Int) + 1 := ⟨(a1 - 1).toNat, by omega⟩
      exact prefixes_good A0 c0 l0 k A2 c2 l2 w hr0 hc0 hr2 hc2 hby (g0 rfl) (by omega) h3 hb0
    · have HB0 := Aside0.mk (hb0 w hr0 hc0)
      have hcs : r0 = false ∨ r0 = true ∧ (a1 < 1 ∨ ¬ a1 < 1 ∧ ((l0.length : Int) < a1 ∨ ¬ (l0.length : Int) < a1 ∧ (300 : Int) < (l2.length : Int))) := by
        cases r0
        · exact .inl rfl
        · refine .inr ⟨rfl, ?_⟩
          simp only [true_and] at hg
          omega
      clear hb0 g0 hr0 hr2 hc0 hc2 hby hg
      generalize l0.length = L0 at *
      generalize l2.length = L2 at *
      rcases hcs with rfl | ⟨rfl, h1 | ⟨h1, h2 | ⟨h2, h3⟩⟩⟩
      all_goals
        go_enter Try.func5, Try.ntmps5
        go_wp2_with (first
          | (go_at_call 14; (with_reducible refine HB0.out.mono ?_); rintro e w1 ⟨rfl, ⟨m1, rfl⟩⟩)
          | (go_at_call 13; (with_reducible refine (awake.calls _).mono ?_); rintro e W8 ⟨rfl, hb⟩; have HB8 := Aside0.mk hb; clear hb))
        go_ret
        exact ⟨rfl, below_then (pw_below_drewN (Below.refl w.heap.size w) m1) (Nat.le_refl _) HB8.out⟩
  · rw [if_neg hby] at h
    cases h
end Go.Proofs.Ytfbdenlpoidnjaa.P
