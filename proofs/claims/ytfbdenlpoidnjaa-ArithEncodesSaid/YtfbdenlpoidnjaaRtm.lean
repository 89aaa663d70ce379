/- The reference's Terminate, walked. -/
import Derived.Test.YtfbdenlpoidnjaaUtm
set_option linter.unusedVariables false
set_option linter.unusedSimpArgs false
namespace Go.Proofs.Ytfbdenlpoidnjaa.P
open Go.RowKit Go.Proofs.YtfbdenlpoidnjaaW.PrintWords Go.Proofs.YtfbdenlpoidnjaaW.PrintLast Go.Proofs.YtfbdenlpoidnjaaW.PrintMore

theorem upK_calls {s : EncS} (h : EncOk s) (hI : Inv s) (hl : s.out.length ≤ 1000000) {k : Nat} (hk : k ≤ (digP s).length) (A : Option Addr) (c : Nat) (hc : (digP s).length ≤ c) (W : World) (hC : Kd.C (Kd.int .i64) W A (digP s).length (digP s)) : Calls Try.prog 45 #[.slice A (digP s).length c, .int .i64 k, .int .i64 s.size] W fun e w' => ∃ v0 : Value, e = .returned (.tuple #[v0, .bool (upK s k).2]) ∧ Kd.R (Kd.int .i64) 3 w' W.heap.size (fun _ => True) v0 (upK s k).1 ∧ Below W.heap.size W w' := by
  obtain ⟨t1, t2, t3, t4, _, _⟩ := upK_spec h hI hk
  have hs0 := h.size0
  have hD := digP_length s
  have h1 := up_f t2 t3 (w := s.size) (by omega) h.size1 (by rw [← List.length_append, List.take_append_drop]; omega) t4 (awC_bd (by omega) h.size1 _ 0 (by omega) (by omega) t3)
  rw [List.take_append_drop, t1] at h1
  obtain ⟨kr, hkr⟩ := h1.rounds
  exact waveletref11_up.calls kr A c (digP s) k s.size _ _ W hC hc hkr
theorem take_trim (l : List Int) : l.take (trimP l).length = trimP l := by
  obtain ⟨k, hk⟩ := trimP_form l
  have h := congrArg (fun q => List.take (trimP l).length q) hk
  rw [show List.take (trimP l).length l = List.take (trimP l).length (trimP l ++ List.replicate k 0) from h, List.take_left']
  rfl
def RTermPost (w0 w : World) (S : Nat → Prop) (g : Nat) (s : EncS) (e : Ending) (w' : World) : Prop :=
  ∃ (v : Value) (T : Nat → Prop), e = .returned v ∧ Kd.R (Kd.int .u8) 5 w' w0.heap.size (fun k => w.heap.size ≤ k ∧ ¬ T k) v (termP s) ∧ REncAt w0.heap.size w' T g (termE s) ∧ (∀ k, T k → (S k ∨ w.heap.size ≤ k) ∧ k < w'.heap.size) ∧ Below w0.heap.size w0 w' ∧ Kept w w' S
set_option maxHeartbeats 8000000 in
set_option maxRecDepth 100000 in
theorem RTerminate.good (w0 w : World) (S : Nat → Prop) (g : Nat) (s : EncS) (hB : Below w0.heap.size w0 w) (h : REncAt w0.heap.size w S g s) (hok : EncOk s) (hinv : Inv s) (hlen : s.out.length ≤ 1000000) (hS : ∀ k, S k → k < w.heap.size) : Calls Try.prog 23 #[.pointer (some ⟨g, 0, none⟩)] w (RTermPost w0 w S g s) := by
  obtain ⟨vp, vl, h1, h2, h3, h4, h5⟩ := h
  obtain ⟨Ap, cp, rfl⟩ := Kd.R_slice h4
  obtain ⟨Al, cl, el, hcl, hCl⟩ := Kd.R_reads h5
  subst el
  have hp := hok.p0
  have hp1 : ((s.p.length : Int) == 0) = false := by simp; intro e; rw [e] at hp; simp at hp
  have HUP := Aside0.mk (fun (k : Nat) (hk : k ≤ (digP s).length) (W : World) (hC : Kd.C (Kd.int .i64) W Al (digP s).length (digP s)) => upK_calls hok hinv hlen hk Al cl hcl W hC)
  have HFF := Aside0.mk (fun (k : Nat) (hk : k ≤ (digP s).length) (ha : (upK s k).2 = true) (hr : k < (digP s).length → (upK s (k + 1)).2 = false) => first_full hok hinv hk ha hr)
  have HFV := Aside0.mk (full_val hok hinv)
  have x0 : w.cell? ⟨g, 0, none⟩ = some (.slice Ap s.p.length cp) := (blk_cell h1 0).trans rfl
  have x1 : w.cell? ⟨g, 1, none⟩ = some (.slice Al (digP s).length cl) := (blk_cell h1 1).trans rfl
  have HX := Aside0.mk (And.intro h1 (And.intro h2 (And.intro h3 (And.intro h4 h5))))
  have HB := Aside0.mk hB
  have HSS := Aside0.mk hS
  have HDL : Aside0 ((digP s).length = (fullP s).length ∧ (digP s).length ≤ 1000004) := ⟨by rw [HFV.out.2.2.2.1, digP_length], by rw [digP_length]; omega⟩
  have hdl : ((digP s).length : Int) ≤ 1000004 := by have := HDL.out.2; omega
  have HZ0 : Aside0 ((upK s 0).2 = true) := ⟨upK_zero s⟩
  have HCl := Aside0.mk hCl
  clear h1 h2 h3 h4 h5 hB hok hinv hlen hS hp hcl hCl
  go_enter Try.func23, Try.ntmps23
  go_wp2_with (((with_reducible refine gate_dst (N := 19) rfl ?_); refine Kd.R_lit (Kd.int .u8) (w0 := w0) w0.heap.size 5 ?hg (N := 19) ?hd (xs := ([] : List Int)) (inner := []) (ok := fun k => w.heap.size ≤ k) (okp := fun k => w.heap.size ≤ k) ?hr ?hp (fun _ hk => hk) (Nat.le_refl _) HB.out HB.out.size (by simp) ?_; (case hd => rfl); (case hg => rfl); (case hr => first | (go_simp; done) | (go_simp; rfl)); (case hp => exact (Reps.none _ _)); intro v19 w3 ho hb hg_ hnew_; obtain ⟨A3, c3, e3⟩ := Kd.R_slice ho; subst e3; have BK3 := blk_grown HX.out.1 hg_ (by simp); have y0 : w3.cell? ⟨g, 0, none⟩ = some (.slice Ap s.p.length cp) := (blk_cell BK3 0).trans rfl; have y1 : w3.cell? ⟨g, 1, none⟩ = some (.slice Al (digP s).length cl) := (blk_cell BK3 1).trans rfl; have HO3 := Aside0.mk ho; have HB3 := Aside0.mk hb; have HBK3 := Aside0.mk BK3; have HG3 : Aside0 (Below w.heap.size w w3) := ⟨⟨hg_.os, hg_.tape, hg_.output, hg_.size, fun k hk => hg_.block k hk (by simp)⟩⟩; clear ho hb hg_ hnew_ BK3))
  clear x0 x1 y0 y1
  go_loopg [3, 4] ((digP s).length + 1) (fun kq v3 v4 w' => ∃ k : Nat, v3 = .slice A3 0 c3 ∧ v4 = .int .i64 k ∧ Aside0 (k ≤ (digP s).length ∧ kq = k + 1 ∧ (k < (digP s).length → (upK s (k + 1)).2 = false)) ∧ Aside0 (Below w3.heap.size w3 w'))
  case atStart => exact ⟨(digP s).length, by first | rfl | simp, rfl, ⟨Nat.le_refl _, rfl, fun h => absurd h (Nat.lt_irrefl _)⟩, ⟨Below.refl _ _⟩⟩
  case round =>
    obtain ⟨k, rfl, rfl, HI, HBr⟩ := hrel
    have hk0 : (0 : Int) ≤ (k : Int) := by omega
    have hBK := blk_below HBK3.out HBr.out
    have y1 : wr.cell? ⟨g, 1, none⟩ = some (.slice Al (digP s).length cl) := (blk_cell hBK 1).trans rfl
    have y2 : wr.cell? ⟨g, 2, none⟩ = some (.int .i64 s.size) := (blk_cell hBK 2).trans rfl
    have HCr := Aside0.mk (Kd.C_drew (Kd.C_below (Kd.C_below HCl.out HG3.out) HBr.out))
    have HUK := Aside0.mk (HUP.out k HI.out.1)
    have HFK := Aside0.mk (fun ha => HFF.out k HI.out.1 ha HI.out.2.2)
    have HZK : Aside0 (k = 0 → (upK s k).2 = true) := ⟨fun h => by rw [h]; exact HZ0.out⟩
    have HIK := Aside0.mk (And.intro HI.out.1 HI.out.2.1)
    have HRJ : Aside0 (∀ m, k = m + 1 → (upK s (m + 1)).2 = (upK s k).2) := ⟨fun m h => by rw [h]⟩
    clear hBK
    generalize upK s k = uk at *
    obtain ⟨r1, r2⟩ := uk
    dsimp only at HUK HFK HZK HRJ
    go_wp2
    go_region_held3 (fun W => W.cell? ⟨g, 1, none⟩ = some (.slice Al (digP s).length cl) ∧ W.cell? ⟨g, 2, none⟩ = some (.int .i64 s.size)) (first | exact ⟨pw_cell_below hb y1, pw_cell_below hb y2⟩ | go_keep | assumption)
      ((go_at_call 45; (with_reducible refine (HUK.out _ HCr.out).mono ?_); rintro e w4 ⟨v5, rfl, hR, hb⟩; obtain ⟨A5, c5, e5⟩ := Kd.R_slice hR; subst e5; have HR5 := Aside0.mk hR; have HB4 := Aside0.mk hb))
    -- behind up
    have HW4 : Aside0 (Below w3.heap.size w3 w4) := ⟨below_then (below_drew HBr.out) HBr.out.size HB4.out⟩
    have HO4 : Aside0 (Kd.R (Kd.int .u8) 5 w4 w0.heap.size (fun k => w.heap.size ≤ k) (.slice A3 0 c3) []) := ⟨Kd.R_below HO3.out HW4.out⟩
    have HBW : Aside0 (Below w.heap.size w w4) := ⟨below_then HG3.out HG3.out.size HW4.out⟩
    have HB04 : Aside0 (Below w0.heap.size w0 w4) := ⟨below_then HB.out HB.out.size HBW.out⟩
    have HR4 : Aside0 (Kd.R (Kd.int .i64) 3 w4 w.heap.size (fun _ => True) (.slice A5 r1.length c5) r1) := ⟨Kd.R_lower HR5.out (Nat.le_trans HG3.out.size HBr.out.size)⟩
    clear HB4 HR5 HUK HCr
    cases r2
    · obtain ⟨m, rfl⟩ : ∃ m, k = m + 1 := ⟨k - 1, by have : k ≠ 0 := fun h => (by have h9 := HZK.out h; cases h9); omega⟩
      have hm0 : (0 : Int) ≤ (m : Int) := by omega
      have hm1 : (m : Int) ≤ 1000004 := by have := HIK.out.1; omega
      go_wp2
      go_roundg (gk - 1)
      case measure => have := HIK.out; omega
      case rel => exact ⟨m, by first | rfl | simp, by first | rfl | simp, ⟨by have := HIK.out; omega, by have := HIK.out; omega, fun _ => HRJ.out m rfl⟩, HW4⟩
    · obtain rfl : r1 = fullP s := HFK.out rfl
      have HFL : Aside0 ((fullP s).length ≤ 1000004 ∧ (digP s).length = (fullP s).length ∧ Byt (fullP s)) := ⟨⟨by have := HDL.out; omega, HDL.out.1, HFV.out.2.2.1⟩⟩
      have HTP : Aside0 (termP s = trimP (fullP s)) := ⟨rfl⟩
      have HTE : Aside0 (termE s = ⟨s.p, [], 0, 4294967295, false⟩) := ⟨rfl⟩
      clear HFK HZK HRJ HUP HFF HDL HFV HZ0
      generalize fullP s = F at *
      have hfl : (F.length : Int) ≤ 1000004 := by have := HFL.out.1; omega
      have P4 := Aside0.mk (Kd.R_below HX.out.2.2.2.1 HBW.out)
      have BK4 := Aside0.mk (blk_below HX.out.1 HBW.out)
      go_wp2
      go_loopg [3, 7, 8] (F.length + 1) (fun kq v3 v7 v8 w' => ∃ i en : Nat, v8 = .int .i64 i ∧ v7 = .int .i64 en ∧ Aside0 (i ≤ F.length ∧ kq + i = F.length + 1 ∧ en = (trimP (F.take i)).length) ∧ Aside0 (Kd.R (Kd.int .u8) 5 w' w0.heap.size (fun k => w.heap.size ≤ k) v3 (F.take i)) ∧ Aside0 (Kd.R (Kd.int .i64) 3 w' w.heap.size (fun _ => True) (.slice A5 F.length c5) F) ∧ Aside0 (Kd.R (Kd.int .i64) 3 w' w0.heap.size S (.slice Ap s.p.length cp) s.p) ∧ Aside0 (w'.heap[g]? = some (.cells #[.slice Ap s.p.length cp, .slice Al (digP s).length cl, .int .i64 s.size, .bool s.begun] 73)) ∧ Aside0 (Below w0.heap.size w0 w') ∧ Aside0 (Kept w w' S))
      case atStart => exact ⟨0, 0, by first | rfl | simp, by first | rfl | simp, ⟨by omega, by omega, rfl⟩, HO4, HR4, P4, BK4, HB04, ⟨Kept.of_below HBW.out S⟩⟩
      case round =>
        obtain ⟨i, en, rfl, rfl, HI2, HO, HR, HP, HBK, HB2, HK2⟩ := hrel
        by_cases hlt : i < F.length
        · have hil : (i : Int) < (F.length : Int) := by omega
          have hi0 : (0 : Int) ≤ (i : Int) := by omega
          obtain ⟨b5, k5, e5, _, _, _⟩ := Kd.R_form HR.out (by omega)
          injection e5 with e5a _ e5b
          subst e5a
          obtain ⟨z0, z1⟩ := Kd.R_cell (0 : Int) (by rw [e5b] at HR; exact HR.out) (i : Int) (by omega) hil
          rw [Int.toNat_natCast] at z0 z1
          have hx := HFL.out.2.2 (rd F (i : Int)) (rd_mem hlt)
          have z2 : wr.cell? ⟨b5, i, none⟩ = some (.int .i64 (rd F (i : Int))) := z0
          have HTK := Aside0.mk (take_last hlt)
          have HTZ := Aside0.mk (fun hz => trimP_zero hlt hz)
          have HTL := Aside0.mk (fun hz => trimP_last hlt hz)
          have hw8 : IntKind.u8.wrap (rd F (i : Int)) = rd F (i : Int) := by rw [IntKind.wrap_u8]; omega
          obtain ⟨A9, c9, e9⟩ := Kd.R_slice HO.out
          have hti : (F.take i).length = i := by rw [List.length_take]; omega
          rw [hti] at e9
          subst e9
          have HRA := Aside0.mk (Kd.R_apartR HR.out HO.out (by decide))
          have HZN : Aside0 (∀ W : World, wr.grownBy W (Value.slice A9 i c9).ownBlock → W.cell? ⟨b5, i, none⟩ = some (.int .i64 (rd F (i : Int)))) := ⟨fun W hg => by
            have h1 := Kd.R_grown HRA.out hg (fun k hk => hk.2)
            have h2 := (Kd.R_cell (0 : Int) (by rw [e5b] at h1; exact h1) (i : Int) (by omega) hil).1
            rw [Int.toNat_natCast] at h2
            exact h2⟩
          have HLT := Aside0.mk hlt
          have HTLn : Aside0 ((F.take i).length ≤ 1000004) := ⟨by rw [List.length_take]; have := HFL.out.1; omega⟩
          clear z0 z1 e5b hlt hti
          generalize rd F (i : Int) = x at *
          by_cases hx0 : x = 0
          · subst hx0
            go_wp2_with (((with_reducible refine gate_builtin (b := .append) (xs := #[.tmp 50, .tmp 56]) rfl ?_); at_builtin; refine Kd.R_append (Kd.int .u8) (w0 := w0) w0.heap.size rfl (.tmp 50) (.tmp 56) 34 5 (.int .u8 0) 1 rfl Try.underlying34 info5 rfl (by decide) (by omega) (.slice A9 i c9) (F.take i) 0 [.int .u8 0] (fun k => w.heap.size ≤ k) (fun _ => False) rfl rfl rfl (fun _ hk => hk.elim) (fun k hk => Nat.le_trans HK2.out.1 hk) HO.out HB2.out HB2.out.size (by have := HTLn.out; omega) ?_; intro v3' w9 ho hb hg hat; have zz := HZN.out _ hg; have HN := Aside0.mk (And.intro ho (And.intro hb hg)); clear ho hb hg hat))
            go_roundg (gk - 1)
            case measure => have := HI2.out; omega
            case rel => exact ⟨i + 1, en, by first | rfl | simp, by first | rfl | simp, ⟨by have := HLT.out; omega, by have := HI2.out; have := HLT.out; omega, by rw [HTZ.out (by first | trivial | rfl)]; exact HI2.out.2.2⟩, ⟨by rw [HTK.out]; exact HN.out.1⟩, ⟨Kd.R_mono (Kd.R_grown HRA.out HN.out.2.2 (fun k hk => hk.2)) (fun _ _ => trivial)⟩, ⟨Kd.R_grown HP.out HN.out.2.2 (fun k hk he => by have h8 := HO.out.1 k he.symm; have h9 := HSS.out k hk; omega)⟩, ⟨blk_grown HBK.out HN.out.2.2 (Kd.R_ne HO.out HBK.out (by decide))⟩, ⟨HN.out.2.1⟩, ⟨Kept.of_grown HN.out.2.2 HK2.out (fun k hk => .inr (HO.out.1 k hk))⟩⟩
          · have hxb : (x == 0) = false := by simpa using hx0
            go_wp2_with (((with_reducible refine gate_builtin (b := .append) (xs := #[.tmp 50, .tmp 56]) rfl ?_); at_builtin; refine Kd.R_append (Kd.int .u8) (w0 := w0) w0.heap.size rfl (.tmp 50) (.tmp 56) 34 5 (.int .u8 0) 1 rfl Try.underlying34 info5 rfl (by decide) (by omega) (.slice A9 i c9) (F.take i) x [.int .u8 x] (fun k => w.heap.size ≤ k) (fun _ => False) rfl rfl rfl (fun _ hk => hk.elim) (fun k hk => Nat.le_trans HK2.out.1 hk) HO.out HB2.out HB2.out.size (by have := HTLn.out; omega) ?_; intro v3' w9 ho hb hg hat; have zz := HZN.out _ hg; have HN := Aside0.mk (And.intro ho (And.intro hb hg)); clear ho hb hg hat))
            go_roundg (gk - 1)
            case measure => have := HI2.out; omega
            case rel => exact ⟨i + 1, i + 1, by first | rfl | simp, by first | rfl | simp, ⟨by have := HLT.out; omega, by have := HI2.out; have := HLT.out; omega, by rw [HTL.out hx0, List.length_take]; have := HLT.out; omega⟩, ⟨by rw [HTK.out]; exact HN.out.1⟩, ⟨Kd.R_mono (Kd.R_grown HRA.out HN.out.2.2 (fun k hk => hk.2)) (fun _ _ => trivial)⟩, ⟨Kd.R_grown HP.out HN.out.2.2 (fun k hk he => by have h8 := HO.out.1 k he.symm; have h9 := HSS.out k hk; omega)⟩, ⟨blk_grown HBK.out HN.out.2.2 (Kd.R_ne HO.out HBK.out (by decide))⟩, ⟨HN.out.2.1⟩, ⟨Kept.of_grown HN.out.2.2 HK2.out (fun k hk => .inr (HO.out.1 k hk))⟩⟩
        · have hil : ¬ (i : Int) < (F.length : Int) := by omega
          have hie : i = F.length := by have := HI2.out.1; omega
          subst hie
          rw [List.take_length] at HO HI2
          have HEN := Aside0.mk HI2.out.2.2
          have henl : en ≤ F.length := by obtain ⟨kz, hkz⟩ := trimP_form F; have h8 := congrArg List.length hkz; rw [List.length_append] at h8; have h9 := HI2.out.2.2; omega
          obtain ⟨A9, c9, e9⟩ := Kd.R_slice HO.out
          subst e9
          have hcap : F.length ≤ c9 := (Kd.R_reads' HO.out).2.1
          have hen2 : (en : Int) ≤ (c9 : Int) := by omega
          have hen0 : (0 : Int) ≤ (en : Int) := by omega
          have HTT := Aside0.mk (Kd.R_take HO.out henl)
          have HBG := Aside0.mk (begin.calls w0 wr S g _ _ s.p s.size s.begun HB2.out HBK.out HX.out.2.1 HX.out.2.2.1 HP.out ⟨_, _, _, rfl⟩)
          clear henl hcap
          go_wp2_with (go_at_call 41; (with_reducible refine HBG.out.mono ?_); rintro e w7 ⟨rfl, hE, hb, hk⟩; have HE7 := Aside0.mk hE.bound; have HB7 := Aside0.mk hb; have HK7 := Aside0.mk hk; clear hE hb hk)
          go_ret
          refine ⟨.slice A9 en c9, (fun k => (S k ∨ wr.heap.size ≤ k) ∧ w0.heap.size ≤ k ∧ k < w7.heap.size), rfl, ?_, by rw [HTE.out]; exact HE7.out, fun k hk => ⟨hk.1.elim .inl (fun h => .inr (Nat.le_trans HK2.out.1 h)), hk.2.2⟩, HB7.out, HK2.out.then_ HK7.out (fun k hk => .inl hk)⟩
          rw [HTP.out]
          have h9 := HTT.out
          rw [HEN.out, take_trim] at h9
          rw [HEN.out]
          refine Kd.R_mono (Kd.R_step (Kd.R_bound h9) (fun k hs hl => HK7.out.2 k hl (fun h => by have h1 := HSS.out k h; have h2 := hs.1; omega))) (fun k hk => ⟨hk.1, fun h => ?_⟩)
          rcases h.1 with h1 | h1
          · have h2 := HSS.out k h1
            have h3 := hk.1
            omega
          · have h3 := hk.2.2.1
            omega
end Go.Proofs.Ytfbdenlpoidnjaa.P
