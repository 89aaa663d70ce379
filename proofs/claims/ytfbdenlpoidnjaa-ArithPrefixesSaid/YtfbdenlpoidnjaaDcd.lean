/- decoded: how many symbols a codeword restores, walked. -/
import Derived.Test.YtfbdenlpoidnjaaEpl
import Derived.Test.YtfbdenlpoidnjaaDec
set_option linter.unusedVariables false
set_option linter.unusedSimpArgs false
namespace Go.Proofs.Ytfbdenlpoidnjaa.P
open Go.RowKit Go.Proofs.YtfbdenlpoidnjaaW.PrintWords Go.Proofs.YtfbdenlpoidnjaaW.PrintLast Go.Proofs.YtfbdenlpoidnjaaW.PrintMore

theorem Decode.sym (w0 w : World) (S : Nat → Prop) (g : Nat) (s : DecS) (x : Int) (hB : Below w0.heap.size w0 w) (h : DecAt w0.heap.size w S g s) (hok : DecOk s) (h0 : 0 ≤ x) (h1 : x < s.p.length) : Calls Try.prog 37 #[.pointer (some ⟨g, 0, none⟩), .int .i64 x] w fun e w' => e = .returned (.tuple #[.int .i64 (decE s x.toNat).1, .int .i64 0]) ∧ DecAt w0.heap.size w' (fun k => S k ∨ w.heap.size ≤ k) g (decE s x.toNat).2 ∧ Below w0.heap.size w0 w' ∧ Kept w w' S := by
  have h := Decode.good w0 w S g s x.toNat hB h hok (by omega)
  rw [show ((x.toNat : Nat) : Int) = x by omega] at h
  exact h
theorem decE_plen (s : DecS) (i : Nat) : (decE s i).2.p.length = s.p.length := by show (s.p.set i _).length = _; rw [List.length_set]
theorem drop_consT {l : List S69} {i : Nat} (h : i < l.length) : l.drop i = rd_T69 l (i : Int) :: l.drop (i + 1) := by
  rw [List.drop_eq_getElem_cons h]
  unfold rd_T69
  rw [Int.toNat_natCast, List.getD_eq_getElem?_getD, List.getElem?_eq_getElem h]
  rfl
set_option maxHeartbeats 8000000 in
set_option maxRecDepth 100000 in
theorem decoded.calls (w0 w : World) (S : Nat → Prop) (g : Nat) (s : DecS) (A1 : Option Addr) (c1 : Nat) (l : List S69) (A2 : Option Addr) (c2 : Nat) (data : List Int) (hB : Below w0.heap.size w0 w) (h : DecAt w0.heap.size w S g s) (hp : DecP s) (hso : SymOk s.p.length l) (hl : l.length ≤ 2000) (hC : Kd.C k69 w0 A1 l.length l) (hc : l.length ≤ c1) (hD : Kd.C (Kd.int .u8) w A2 data.length data) (hc2 : data.length ≤ c2) (hby : Byt data) (hdl : data.length ≤ 1000000) :
    Calls Try.prog 18 #[.pointer (some ⟨g, 0, none⟩), .slice A1 l.length c1, .slice A2 data.length c2] w fun e w' => e = .returned (.int .i64 ((decL (startD s data) l).1 : Int)) ∧ DecAt w0.heap.size w' (fun k => S k ∨ w.heap.size ≤ k) g (decL (startD s data) l).2 ∧ Below w0.heap.size w0 w' ∧ Kept w w' S := by
  have HST := Aside0.mk (Start.good w0 w S g s A2 c2 data hB h hp.p0 hD hc2 hby hdl)
  have HOK := Aside0.mk (startD_ok hp hby hdl)
  have HSO := Aside0.mk hso
  have HC := Aside0.mk hC
  have HPL : Aside0 ((startD s data).p.length = s.p.length) := ⟨rfl⟩
  have hl2 : (l.length : Int) ≤ 2000 := by omega
  clear hB h hp hso hC hD hby hdl
  generalize startD s data = sd at *
  generalize data.length = DL at *
  go_enter Try.func18, Try.ntmps18
  go_wp2_with (go_at_call 33; (with_reducible refine HST.out.mono ?_); rintro e w1 ⟨rfl, hE, hb, hk⟩; have HE1 := Aside0.mk hE; have HB1 := Aside0.mk hb; have HK1 := Aside0.mk hk; clear hE hb hk)
  go_loopg [17] (l.length + 1) (fun kq v17 w' => ∃ (i : Nat) (sc : DecS) (T : Nat → Prop), v17 = .int .i64 i ∧ Aside0 (i ≤ l.length ∧ kq + i = l.length + 1 ∧ (decL sd l).1 = (decL sc (l.drop i)).1 + i ∧ (decL sd l).2 = (decL sc (l.drop i)).2 ∧ sc.p.length = s.p.length) ∧ Aside0 (DecOk sc) ∧ Aside0 (DecAt w0.heap.size w' T g sc ∧ ∀ k, T k → (S k ∨ w.heap.size ≤ k) ∧ k < w'.heap.size) ∧ Aside0 (Below w0.heap.size w0 w') ∧ Aside0 (Kept w w' S))
  case atStart => exact ⟨0, sd, _, by first | rfl | simp, ⟨by omega, by omega, rfl, rfl, HPL.out⟩, HOK, ⟨HE1.out.bound, fun k hk => ⟨hk.1, hk.2.2⟩⟩, HB1, HK1⟩
  case round =>
    obtain ⟨i, sc, T, rfl, HI, HO, HEi, HBi, HK⟩ := hrel
    by_cases hlt : i < l.length
    · have hil : (i : Int) < (l.length : Int) := by omega
      have hCw := Kd.C_below HC.out HBi.out
      obtain ⟨ad, rfl, z0, z1⟩ := at_T69 hCw (i : Int) (by omega) (by omega)
      rw [Int.toNat_natCast] at z0 z1
      have hsx := HSO.out _ (rdT_mem hlt)
      have HDR := Aside0.mk (drop_consT hlt)
      have HDE := Aside0.mk (Decode.sym w0 (wr.alloc (.cells #[.int .i64 (rd_T69 l (i : Int)).f0, .int .i64 (rd_T69 l (i : Int)).f1] 69)) T g sc (rd_T69 l (i : Int)).f0 (below_alloc HBi.out _) (HEi.out.1.below (below_alloc (Below.refl _ _) _)) HO.out hsx.1 (by rw [HI.out.2.2.2.2]; exact hsx.2.1))
      have HOK2 := Aside0.mk (decE_ok HO.out (i := (rd_T69 l (i : Int)).f0.toNat) (by have := HI.out.2.2.2.2; have := hsx.2.1; have := hsx.1; omega))
      have HPL2 := Aside0.mk (decE_plen sc (rd_T69 l (i : Int)).f0.toNat)
      have HLEw : Aside0 (w.heap.size ≤ wr.heap.size) := ⟨HK.out.1⟩
      have HK0 := Aside0.mk (Kept.alloc HK.out (.cells #[.int .i64 (rd_T69 l (i : Int)).f0, .int .i64 (rd_T69 l (i : Int)).f1] 69))
      have HTB := Aside0.mk HEi.out.2
      clear hsx hCw
      by_cases hbit : (decE sc (rd_T69 l (i : Int)).f0.toNat).1 = (rd_T69 l (i : Int)).f1
      · have HDL : Aside0 ((decL sc (l.drop i)).1 = (decL (decE sc (rd_T69 l (i : Int)).f0.toNat).2 (l.drop (i + 1))).1 + 1 ∧ (decL sc (l.drop i)).2 = (decL (decE sc (rd_T69 l (i : Int)).f0.toNat).2 (l.drop (i + 1))).2) := ⟨by rw [HDR.out]; show (if _ then _ else _ : Nat × DecS).1 = _ ∧ (if _ then _ else _ : Nat × DecS).2 = _; rw [if_pos hbit]; exact ⟨rfl, rfl⟩⟩
        have hb1 : ((decE sc (rd_T69 l (i : Int)).f0.toNat).1 == (rd_T69 l (i : Int)).f1) = true := by simpa using hbit
        have hb2 : ((decE sc (rd_T69 l (i : Int)).f0.toNat).1 != (rd_T69 l (i : Int)).f1) = false := by rw [bne, hb1]; rfl
        clear hbit
        generalize decE sc (rd_T69 l (i : Int)).f0.toNat = dd at *
        obtain ⟨bit, sn⟩ := dd
        dsimp only at HDE HOK2 HPL2 HDL hb1 hb2
        go_wp2_with (go_at_call 37; (with_reducible refine HDE.out.mono ?_); rintro e w3 ⟨rfl, hE, hb, hk⟩; have BK3 := (hk.2 wr.heap.size (by simp) (fun h => Nat.lt_irrefl _ (HTB.out _ h).2)).trans (heap_alloc_new wr (.cells #[.int .i64 (rd_T69 l (i : Int)).f0, .int .i64 (rd_T69 l (i : Int)).f1] 69)); have y1 : w3.cell? ⟨wr.heap.size, 1, none⟩ = some (.int .i64 (rd_T69 l (i : Int)).f1) := (blk_cell BK3 1).trans rfl; have HE3 := Aside0.mk hE.bound; have HB3 := Aside0.mk hb; have HK3 := Aside0.mk (HK0.out.then_ hk (fun k h => (HTB.out k h).1)); clear hE hb hk BK3)
        go_roundg (gk - 1)
        case measure => have := HI.out; omega
        case rel =>
          refine ⟨i + 1, sn, _, by first | rfl | simp, ⟨by omega, by have := HI.out; omega, ?_, HI.out.2.2.2.1.trans HDL.out.2, HPL2.out.trans HI.out.2.2.2.2⟩, HOK2, ⟨HE3.out, fun k hk => ⟨?_, hk.2.2⟩⟩, HB3, HK3⟩
          · have h1 := HI.out.2.2.1
            have h2 := HDL.out.1
            omega
          · exact hk.1.elim (fun h => (HTB.out k h).1) (fun h => .inr (by have h2 := HLEw.out; simp at h; omega))
      · have HDL : Aside0 ((decL sc (l.drop i)).1 = 0 ∧ (decL sc (l.drop i)).2 = (decE sc (rd_T69 l (i : Int)).f0.toNat).2) := ⟨by rw [HDR.out]; show (if _ then _ else _ : Nat × DecS).1 = _ ∧ (if _ then _ else _ : Nat × DecS).2 = _; rw [if_neg hbit]; exact ⟨rfl, rfl⟩⟩
        have hb1 : ((decE sc (rd_T69 l (i : Int)).f0.toNat).1 == (rd_T69 l (i : Int)).f1) = false := by simpa using hbit
        have hb2 : ((decE sc (rd_T69 l (i : Int)).f0.toNat).1 != (rd_T69 l (i : Int)).f1) = true := by rw [bne, hb1]; rfl
        clear hbit
        generalize decE sc (rd_T69 l (i : Int)).f0.toNat = dd at *
        obtain ⟨bit, sn⟩ := dd
        dsimp only at HDE HOK2 HPL2 HDL hb1 hb2
        go_wp2_with (go_at_call 37; (with_reducible refine HDE.out.mono ?_); rintro e w3 ⟨rfl, hE, hb, hk⟩; have BK3 := (hk.2 wr.heap.size (by simp) (fun h => Nat.lt_irrefl _ (HTB.out _ h).2)).trans (heap_alloc_new wr (.cells #[.int .i64 (rd_T69 l (i : Int)).f0, .int .i64 (rd_T69 l (i : Int)).f1] 69)); have y1 : w3.cell? ⟨wr.heap.size, 1, none⟩ = some (.int .i64 (rd_T69 l (i : Int)).f1) := (blk_cell BK3 1).trans rfl; have HE3 := Aside0.mk hE.bound; have HB3 := Aside0.mk hb; have HK3 := Aside0.mk (HK0.out.then_ hk (fun k h => (HTB.out k h).1)); clear hE hb hk BK3)
        go_ret
        refine ⟨?_, ?_, HB3.out, HK3.out⟩
        · rw [HI.out.2.2.1, HDL.out.1, Nat.zero_add]; rfl
        · rw [HI.out.2.2.2.1, HDL.out.2]
          exact HE3.out.mono (fun k hk => hk.1.elim (fun h => (HTB.out k h).1) (fun h => .inr (by have h2 := HLEw.out; simp at h; omega)))
    · have hil : ¬ (i : Int) < (l.length : Int) := by omega
      have hie : i = l.length := by have := HI.out; omega
      subst hie
      rw [List.drop_length] at HI
      go_wp2
      go_ret
      refine ⟨?_, ?_, HBi.out, HK.out⟩
      · rw [HI.out.2.2.1]; show _ = Ending.returned (Value.int .i64 (((0 + l.length : Nat)) : Int)); rw [Nat.zero_add]; rfl
      · rw [HI.out.2.2.2.1]
        exact HEi.out.1.mono (fun k hk => (HEi.out.2 k hk).1)
end Go.Proofs.Ytfbdenlpoidnjaa.P
