/- encoded: the codeword of symbols, walked. -/
import Derived.Test.YtfbdenlpoidnjaaEpl
import Derived.Test.YtfbdenlpoidnjaaTrm
set_option linter.unusedVariables false
set_option linter.unusedSimpArgs false
namespace Go.Proofs.Ytfbdenlpoidnjaa.P
open Go.RowKit Go.Proofs.YtfbdenlpoidnjaaW.PrintWords Go.Proofs.YtfbdenlpoidnjaaW.PrintLast Go.Proofs.YtfbdenlpoidnjaaW.PrintMore

def EncPost (w0 w : World) (S : Nat → Prop) (g : Nat) (out us : List Int) (s' : EncS) (e : Ending) (w' : World) : Prop :=
  ∃ (v u : Value) (T : Nat → Prop), e = .returned (.tuple #[v, u]) ∧ EncAt w0.heap.size w' T g s' ∧ (∀ k, T k → (S k ∨ w.heap.size ≤ k) ∧ k < w'.heap.size) ∧ Kd.R (Kd.int .u8) 5 w' w0.heap.size (fun k => w.heap.size ≤ k ∧ ¬ T k) v out ∧ Kd.R (Kd.int .i64) 3 w' w0.heap.size (fun k => w.heap.size ≤ k ∧ ¬ T k) u us ∧ Below w0.heap.size w0 w' ∧ Kept w w' S
theorem Encode.sym (w0 w : World) (S : Nat → Prop) (g : Nat) (s : EncS) (x : S69) (hB : Below w0.heap.size w0 w) (h : EncAt w0.heap.size w S g s) (hok : EncOk s) (h0 : 0 ≤ x.f0) (h1 : x.f0 < s.p.length) (hb : x.f1 = 0 ∨ x.f1 = 1) (hlen : s.out.length ≤ 1000000) : Calls Try.prog 26 #[.pointer (some ⟨g, 0, none⟩), .int .i64 x.f0, .int .i64 x.f1] w fun e w' => e = .returned (.int .i64 0) ∧ EncAt w0.heap.size w' (fun k => S k ∨ w.heap.size ≤ k) g (encStep s x) ∧ Below w0.heap.size w0 w' ∧ Kept w w' S := by
  have h := Encode.good w0 w S g s x.f0.toNat x.f1 hB h hok (by omega) hb hlen
  rw [show ((x.f0.toNat : Nat) : Int) = x.f0 by omega] at h
  exact h
set_option maxHeartbeats 8000000 in
set_option maxRecDepth 100000 in
theorem encoded.calls (w0 w : World) (S : Nat → Prop) (g : Nat) (s : EncS) (A : Option Addr) (c : Nat) (l : List S69) (hB : Below w0.heap.size w0 w) (h : EncAt w0.heap.size w S g s) (hok : EncOk s) (hso : SymOk s.p.length l) (hl : l.length ≤ 2000) (hlen : s.out.length ≤ 10000) (hC : Kd.C k69 w0 A l.length l) (hc : l.length ≤ c) (hS : ∀ k, S k → k < w.heap.size) : Calls Try.prog 17 #[.pointer (some ⟨g, 0, none⟩), .slice A l.length c] w (EncPost w0 w S g (termP (encL s l)) (sizesL s l) (termE (encL s l))) := by
  have HB := Aside0.mk hB
  have HE := Aside0.mk h
  have HOK := Aside0.mk hok
  have HSO := Aside0.mk hso
  have HL := Aside0.mk hl
  have HLEN := Aside0.mk hlen
  have HC := Aside0.mk hC
  have HS := Aside0.mk hS
  have hl2 : (l.length : Int) ≤ 2000 := by omega
  clear hB h hok hso hl hlen hC hS
  go_enter Try.func17, Try.ntmps17
  go_wp2_with (first | ((with_reducible refine gate_dst (N := 9) rfl ?_); refine Kd.R_lit (Kd.int .i64) (w0 := w0) w0.heap.size 3 ?hg (N := 9) ?hd (xs := ([] : List Int)) (inner := []) (ok := fun k => w.heap.size ≤ k) (okp := fun k => w.heap.size ≤ k) ?hr ?hp (fun _ hk => hk) (Nat.le_refl _) HB.out HB.out.size (by simp) ?_; (case hd => rfl); (case hg => rfl); (case hr => first | (go_simp; done) | (go_simp; rfl)); (case hp => exact (Reps.none _ _)); intro v6 w2 ho hb hg_ hnew_; have HO2 := Aside0.mk ho; have HB2 := Aside0.mk hb; have HG2 := Aside0.mk hg_; clear ho hb hg_ hnew_))
  go_loopg [6, 12] (l.length + 1) (fun kq v6 v12 w' => ∃ (i : Nat) (T : Nat → Prop), v12 = .int .i64 i ∧ Aside0 (i ≤ l.length ∧ kq + i = l.length + 1) ∧ Aside0 (EncAt w0.heap.size w' T g (encL s (l.take i)) ∧ ∀ k, T k → (S k ∨ w.heap.size ≤ k) ∧ k < w'.heap.size) ∧ Aside0 (Kd.R (Kd.int .i64) 3 w' w0.heap.size (fun k => w.heap.size ≤ k ∧ ¬ T k) v6 (sizesL s (l.take i))) ∧ Aside0 (Below w0.heap.size w0 w') ∧ Aside0 (Kept w w' S))
  case atStart =>
    refine ⟨0, fun k => S k ∧ k < w2.heap.size, by first | rfl | simp, ⟨by omega, by omega⟩, ⟨?_, fun k hk => ⟨.inl hk.1, hk.2⟩⟩, ⟨Kd.R_mono HO2.out (fun k hk => ⟨hk, fun h => by have := HS.out k h.1; omega⟩)⟩, HB2, ⟨Kept.of_grown HG2.out (Kept.refl w S) (fun k hk => by simp at hk)⟩⟩
    have h1 := HE.out.kept (Kept.of_grown HG2.out (Kept.refl w (fun _ => False)) (fun k hk => by simp at hk)) (fun _ _ h => h)
    exact h1.bound.mono (fun k hk => ⟨hk.1, hk.2.2⟩)
  case round =>
    obtain ⟨i, T, rfl, HI, HEi, HR, HBi, HK⟩ := hrel
    by_cases hlt : i < l.length
    · have hil : (i : Int) < (l.length : Int) := by omega
      have hCw := Kd.C_below HC.out HBi.out
      obtain ⟨ad, rfl, z0, z1⟩ := at_T69 hCw (i : Int) (by omega) (by omega)
      rw [Int.toNat_natCast] at z0 z1
      obtain ⟨eo1, eo2, eo3⟩ := encL_ok HOK.out (HSO.out.take i)
      have hsx := HSO.out _ (rdT_mem hlt)
      have HEN := Aside0.mk (Encode.sym w0 (wr.alloc (.cells #[.int .i64 (rd_T69 l (i : Int)).f0, .int .i64 (rd_T69 l (i : Int)).f1] 69)) T g (encL s (l.take i)) (rd_T69 l (i : Int)) (below_alloc HBi.out _) (HEi.out.1.below (below_alloc (Below.refl _ _) _)) eo1 hsx.1 (by rw [eo2]; exact hsx.2.1) hsx.2.2 (by have := HLEN.out; have := HL.out; rw [List.length_take] at eo3; omega))
      rw [← encL_snoc, ← take_snocT hlt] at HEN
      have HOL : Aside0 (0 < (encL s (l.take (i + 1))).p.length ∧ (encL s (l.take (i + 1))).out.length ≤ 1000000000) := ⟨by
        obtain ⟨e1, e2, e3⟩ := encL_ok HOK.out (HSO.out.take (i + 1))
        exact ⟨e1.p0, by have := HLEN.out; have := HL.out; rw [List.length_take] at e3; omega⟩⟩
      have HSZ : Aside0 (sizesL s (l.take i) ++ [sizeE (encL s (l.take (i + 1)))] = sizesL s (l.take (i + 1))) := ⟨by rw [take_snocT hlt, encL_snoc, sizesL_snoc]⟩
      have HSL : Aside0 ((sizesL s (l.take i)).length ≤ 2000) := ⟨by rw [sizesL_length, List.length_take]; have := HL.out; omega⟩
      generalize sizesL s (l.take i) = us at *
      have HSN : ∃ x, Aside0 (x = encL s (l.take (i + 1))) := ⟨_, ⟨rfl⟩⟩
      obtain ⟨sn, HSN⟩ := HSN
      rw [← HSN.out] at HEN HOL HSZ
      have HWB : Aside0 (wr.heap.size + 1 = (wr.alloc (.cells #[.int .i64 (rd_T69 l (i : Int)).f0, .int .i64 (rd_T69 l (i : Int)).f1] 69)).heap.size) := ⟨by simp⟩
      have HR1 := Aside0.mk (Kd.R_bound (Kd.R_alloc HR.out (.cells #[.int .i64 (rd_T69 l (i : Int)).f0, .int .i64 (rd_T69 l (i : Int)).f1] 69)))
      have HK1 := Aside0.mk (Kept.alloc HK.out (.cells #[.int .i64 (rd_T69 l (i : Int)).f0, .int .i64 (rd_T69 l (i : Int)).f1] 69))
      clear eo1 eo2 eo3 hsx hCw
      have HKw := Aside0.mk (HEi.out.2)
      have HLEw : Aside0 (w.heap.size ≤ wr.heap.size) := ⟨HK.out.1⟩
      go_wp2_with (first
        | (go_at_call 26; (with_reducible refine HEN.out.mono ?_); rintro e w3 ⟨rfl, hE, hb, hk⟩; have HE3 : Aside0 (EncAt w0.heap.size w3 (fun k => (T k ∨ wr.heap.size + 1 ≤ k) ∧ k < w3.heap.size) g sn) := ⟨hE.bound.mono (fun k h => ⟨h.1.imp (fun h => h) (fun h => (by rw [HWB.out]; exact h)), h.2.2⟩)⟩; have HR3 : Aside0 (Kd.R (Kd.int .i64) 3 w3 w0.heap.size (fun k => w.heap.size ≤ k ∧ ¬ ((T k ∨ wr.heap.size + 1 ≤ k) ∧ k < w3.heap.size)) u6 us) := ⟨Kd.R_mono (Kd.R_step HR1.out (fun k hs hl => hk.2 k hl hs.1.2)) (fun k hs => ⟨hs.1.1, fun ht => ht.1.elim hs.1.2 (fun h => (by have h2 := hs.2.2.1; have h3 := HWB.out; omega))⟩)⟩; have HB3 := Aside0.mk hb; have HK3 : Aside0 (Kept w w3 S) := ⟨HK1.out.then_ hk (fun k h => (HKw.out k h).1)⟩; have HLE3 : Aside0 (w.heap.size ≤ w3.heap.size) := ⟨HK3.out.1⟩; clear hE hb hk)
        | (go_at_call 28; (with_reducible refine (Size.good _ _ _ _ _ HE3.out HOL.out.1 HOL.out.2).mono ?_); rintro e w4 ⟨rfl, hw⟩; replace hw := hw.symm; subst hw)
        | ((with_reducible refine gate_builtin (b := .append) (xs := #[.tmp 23, .tmp 26]) rfl ?_); at_builtin; refine Kd.R_append (Kd.int .i64) (w0 := w0) w0.heap.size rfl (.tmp 23) (.tmp 26) 35 3 (.int .i64 0) 8 rfl Try.underlying35 info3 rfl (by decide) (by omega) u6 us (sizeE sn) [.int .i64 (sizeE sn)] (fun k => w.heap.size ≤ k ∧ ¬ ((T k ∨ wr.heap.size + 1 ≤ k) ∧ k < w3.heap.size)) (fun _ => False) rfl rfl rfl (fun _ hk => hk.elim) (fun k hk => ⟨Nat.le_trans HLE3.out hk, fun h => (by have h2 := h.2; omega)⟩) HR3.out HB3.out HB3.out.size (by have := HSL.out; omega) ?_; intro v7 w5 ho hb hg hat; have HR5 := Aside0.mk ho; have HB5 := Aside0.mk hb; have HG5 := Aside0.mk hg; clear ho hb hg hat))
      go_roundg (gk - 1)
      case measure => have := HI.out; omega
      case rel =>
        have h1 := HE3.out.kept (Kept.of_grown HG5.out (Kept.refl w3 (fun k => some k = u6.ownBlock)) (fun k hk => .inl hk.symm)) (fun k hk he => (HR3.out.1 k he.symm).2 hk)
        refine ⟨i + 1, fun k => (T k ∨ wr.heap.size + 1 ≤ k) ∧ k < w3.heap.size, by first | rfl | simp, ⟨by omega, by have := HI.out; omega⟩, ⟨by rw [← HSN.out]; exact h1, fun k hk => ⟨?_, ?_⟩⟩, ⟨by rw [← HSZ.out]; exact HR5.out⟩, HB5, ⟨Kept.of_grown HG5.out HK3.out (fun k hk => .inr (HR3.out.1 k hk).1)⟩⟩
        · exact hk.1.elim (fun h => (HKw.out k h).1) (fun h => .inr (by have := HLEw.out; omega))
        · have := HG5.out.size; omega
    · have hil : ¬ (i : Int) < (l.length : Int) := by omega
      have hie : i = l.length := by have := HI.out; omega
      subst hie
      rw [List.take_length] at HEi HR
      obtain ⟨eo1, eo2, eo3⟩ := encL_ok HOK.out HSO.out
      have HTR := Aside0.mk (Terminate.good w0 wr T g (encL s l) HBi.out HEi.out.1 eo1 (by have := HLEN.out; have := HL.out; omega) (fun k hk => (HEi.out.2 k hk).2))
      clear eo1 eo2 eo3
      go_wp2_with (go_at_call 22; (with_reducible refine HTR.out.mono ?_); rintro e w3 ⟨v, rfl, hv, hE, hb, hk⟩; have HV := Aside0.mk hv; have HE3 := Aside0.mk hE; have HB3 := Aside0.mk hb; have HK3 := Aside0.mk hk; clear hv hE hb hk)
      go_ret2
      refine ⟨v, u6, T, rfl, HE3.out, fun k hk => ⟨(HEi.out.2 k hk).1, ?_⟩, ?_, ?_, HB3.out, HK.out.then_ HK3.out (fun k hk => (HEi.out.2 k hk).1)⟩
      · have h1 := (HEi.out.2 k hk).2
        have h2 := HK3.out.1
        omega
      · exact Kd.R_mono HV.out (fun k hk => ⟨Nat.le_trans HK.out.1 hk, fun h => by have h2 := (HEi.out.2 k h).2; omega⟩)
      · exact Kd.R_step HR.out (fun k hs hl => HK3.out.2 k hl hs.2)
end Go.Proofs.Ytfbdenlpoidnjaa.P
