/- Encode, walked. -/
import Derived.Test.YtfbdenlpoidnjaaEpu
import Derived.Test.YtfbdenlpoidnjaaErs
import Derived.Deep.RegionLaw
set_option linter.unusedVariables false
set_option linter.unusedSimpArgs false
namespace Go.Proofs.Ytfbdenlpoidnjaa.P
open Go.RowKit Go.Proofs.YtfbdenlpoidnjaaW.PrintWords Go.Proofs.YtfbdenlpoidnjaaW.PrintLast Go.Proofs.YtfbdenlpoidnjaaW.PrintMore

set_option maxHeartbeats 4000000 in
set_option maxRecDepth 100000 in
/-- A context or a bit that is none. -/
theorem Encode.range (b : Nat) (w : World) (S : Nat → Prop) (g : Nat) (s : EncS) (i bit : Int) (h : EncAt b w S g s) (hp : 0 < s.p.length) (hr : ¬ ((0 ≤ i ∧ i < s.p.length) ∧ (bit = 0 ∨ bit = 1))) : Calls Try.prog 26 #[.pointer (some ⟨g, 0, none⟩), .int .i64 i, .int .i64 bit] w fun e w' => e = .returned (.int .i64 2) ∧ w' = w := by
  obtain ⟨vp, vo, h1, h2, h3, h4, h5⟩ := h
  obtain ⟨A, c, rfl⟩ := Kd.R_slice h4
  have x0 : w.cell? ⟨g, 0, none⟩ = some (.slice A s.p.length c) := (blk_cell h1 0).trans rfl
  have HV := Aside0.mk (valid.at w g s.p.length c _ x0 hp)
  by_cases hi : 0 ≤ i ∧ i < s.p.length
  · have HH := Aside0.mk (has.yes w g s.p.length c _ x0 i hi.1 hi.2)
    have n0 : (bit == 0) = false := by simp; intro e; exact hr ⟨hi, .inl e⟩
    have n1 : (bit == 1) = false := by simp; intro e; exact hr ⟨hi, .inr e⟩
    have m0 : (bit != 0) = true := by rw [bne, n0]; rfl
    have m1 : (bit != 1) = true := by rw [bne, n1]; rfl
    generalize s.p.length = L at *
    clear h1 h2 h3 h4 h5 hi hr
    go_enter Try.func26, Try.ntmps26
    go_wp2_with (first | (go_at_call 42; (with_reducible refine HV.out.mono ?_); rintro e w1 ⟨rfl, rfl⟩) | (go_at_call 47; (with_reducible refine HH.out.mono ?_); rintro e w2 ⟨rfl, rfl⟩))
    go_ret
    exact ⟨rfl, rfl⟩
  · have HH := Aside0.mk (has.no w g s.p.length c _ x0 i hi)
    generalize s.p.length = L at *
    clear h1 h2 h3 h4 h5 hi hr
    go_enter Try.func26, Try.ntmps26
    go_wp2_with (first | (go_at_call 42; (with_reducible refine HV.out.mono ?_); rintro e w1 ⟨rfl, rfl⟩) | (go_at_call 47; (with_reducible refine HH.out.mono ?_); rintro e w2 ⟨rfl, rfl⟩))
    go_ret
    exact ⟨rfl, rfl⟩
/-- The encoder between the split and the end of Encode. -/
def MidAt (w0 w : World) (S : Nat → Prop) (g : Nat) (vp : Value) (p : List Int) (bg : Bool) (t : List Int × Int × Int) (w' : World) : Prop :=
  ∃ vo : Value, w'.heap[g]? = some (.cells #[vp, vo, .int .i64 t.2.1, .int .i64 t.2.2, .bool bg] 64) ∧ Kd.R (Kd.int .i64) 3 w' w0.heap.size (fun k => S k ∨ w.heap.size ≤ k) vp p ∧ Kd.R (Kd.int .u8) 5 w' w0.heap.size (fun k => S k ∨ w.heap.size ≤ k) vo t.1 ∧ Below w0.heap.size w0 w' ∧ Kept w w' S
theorem info5 : (Try.prog.info? 5).map (fun i => (i.zero, i.size, i.bytes)) = some (some (.int .u8 0), 1, 1) := by kernel_rfl
/-- A byte is appended to a row of one's own, in a region that has drawn. -/
theorem out_append {ops : Array Oper} {o : Oper} {a : Act} {Q : Exit → Act → World → Prop} {Kc : Act → World → Prop} {w0 W : World} {ok : Nat → Prop} (hw : Region.wanted o (yielded ops a.tmps) = true) (s x : Operand) (ho : o.op = .call { callee := .builtin .append, args := #[s, x], argTypes := #[34, 34] })
    (v : Value) (out : List Int) (y : Int) (hs : a.eval s = v) (hx : a.eval x = .slice (some ⟨W.heap.size, 0, none⟩) 1 1) (hfresh : ∀ k, W.heap.size ≤ k → ok k) (HO : Kd.R (Kd.int .u8) 5 W w0.heap.size ok v out) (HB : Below w0.heap.size w0 W) (hl : out.length + 1 ≤ 140737488355328)
    (h : ∀ v1 w1, Kd.R (Kd.int .u8) 5 w1 w0.heap.size ok v1 (out ++ [y]) → Below w0.heap.size w0 w1 → W.drew.grownBy w1 v.ownBlock → Kc (a.put o.dst v1) w1) :
    if Region.wanted o (yielded ops a.tmps) = true then Oper.wp Try.prog o a (W.alloc (.cells #[.int .u8 y] 5)).drew Kc Q else Kc (a.put o.dst undef) (W.alloc (.cells #[.int .u8 y] 5)).drew := by
  have := Kd.R_append_step (P := Try.prog) (ops := ops) (o := o) (a := a) (Q := Q) (Kc := Kc) (w0 := w0) (W := W.drew) (Kd.int .u8) w0.heap.size hw s x 34 5 (.int .u8 0) 1 ho Try.underlying34 info5 rfl (by decide) (by decide) v out y [.int .u8 y] ok (fun _ => False) hs hx rfl (fun _ h => h.elim) hfresh (Kd.R_drew HO) (below_drew HB) HB.size (by omega) (fun v1 w1 h1 h2 h3 _ => h v1 w1 h1 h2 h3)
  exact this
/-- A store into the encoder's own cells. -/
theorem MidAt.of {w0 w : World} {S : Nat → Prop} {g : Nat} {vp vo : Value} {p : List Int} {bg : Bool} {out : List Int} {low size : Int} {w' : World} (h : w'.heap[g]? = some (.cells #[vp, vo, .int .i64 low, .int .i64 size, .bool bg] 64)) (h1 : Kd.R (Kd.int .i64) 3 w' w0.heap.size (fun k => S k ∨ w.heap.size ≤ k) vp p) (h2 : Kd.R (Kd.int .u8) 5 w' w0.heap.size (fun k => S k ∨ w.heap.size ≤ k) vo out) (h3 : Below w0.heap.size w0 w') (h4 : Kept w w' S) : MidAt w0 w S g vp p bg (out, low, size) w' := ⟨vo, h, h1, h2, h3, h4⟩
theorem MidAt.step {w0 w : World} {S : Nat → Prop} {g : Nat} {vp v : Value} {p : List Int} {bg : Bool} {out : List Int} {low size y : Int} {wr w1 : World} {v1 : Value} (m1 : wr.heap[g]? = some (.cells #[vp, v, .int .i64 low, .int .i64 size, .bool bg] 64)) (m2 : Kd.R (Kd.int .i64) 3 wr w0.heap.size (fun k => S k ∨ w.heap.size ≤ k) vp p) (m3 : Kd.R (Kd.int .u8) 5 wr w0.heap.size (fun k => S k ∨ w.heap.size ≤ k) v out) (m5 : Kept w wr S)
    (BK : w1.heap[g]? = some (.cells #[vp, v, .int .i64 low, .int .i64 size, .bool bg] 64)) (hR1 : Kd.R (Kd.int .u8) 5 w1 w0.heap.size (fun k => S k ∨ w.heap.size ≤ k) v1 (out ++ [y])) (hb1 : Below w0.heap.size w0 w1) (hg1 : wr.drew.grownBy w1 v.ownBlock) (hS : S g) (hge : w0.heap.size ≤ g) (low' size' : Int) :
    MidAt w0 w S g vp p bg (out ++ [y], low', size') (((w1.setCell ⟨g, 1, none⟩ v1).setCell ⟨g, 2, none⟩ (.int .i64 low')).setCell ⟨g, 3, none⟩ (.int .i64 size')) := by
  have hp : Kd.R (Kd.int .i64) 3 w1 w0.heap.size (fun k => S k ∨ w.heap.size ≤ k) vp p := Kd.R_mono (Kd.R_grown (Kd.R_drew (Kd.R_apartR m2 m3 (by decide))) hg1 (fun k hk => hk.2)) (fun k hk => hk.1)
  have hk : Kept w w1 S := Kept.of_grown hg1 (Kept.drew m5) (fun k hk => m3.1 k hk)
  have b1 := blk_put BK 1 v1 rfl
  have b2 := blk_put b1 2 (.int .i64 low') rfl
  have b3 := blk_put b2 3 (.int .i64 size') rfl
  exact ⟨v1, b3, Kd.R_set (Kd.R_set (Kd.R_set hp BK (by decide) 1 _) b1 (by decide) 2 _) b2 (by decide) 3 _, Kd.R_set (Kd.R_set (Kd.R_set hR1 BK (by decide) 1 _) b1 (by decide) 2 _) b2 (by decide) 3 _,
    below_set (below_set (below_set hb1 hge) hge) hge, Kept.setCell (Kept.setCell (Kept.setCell hk (.inl hS) _) (.inl hS) _) (.inl hS) _⟩
/-- Behind a carry. -/
theorem MidAt.carry {w0 w : World} {S : Nat → Prop} {g : Nat} {vp vo : Value} {p : List Int} {bg : Bool} {out q : List Int} {low size : Int} {W w6 : World} (c1 : W.heap[g]? = some (.cells #[vp, vo, .int .i64 low, .int .i64 size, .bool bg] 64)) (c2 : Kd.R (Kd.int .i64) 3 W w0.heap.size (fun k => S k ∨ w.heap.size ≤ k) vp p) (c3 : Kd.R (Kd.int .u8) 5 W w0.heap.size (fun k => S k ∨ w.heap.size ≤ k) vo out) (c5 : Kept w W S)
    (hR : Kd.R (Kd.int .u8) 5 w6 w0.heap.size (fun k_ => some k_ = vo.ownBlock ∨ W.heap.size ≤ k_) vo q) (hb : Below w0.heap.size w0 w6) (hk : Kept W w6 (fun k => some k = vo.ownBlock)) : MidAt w0 w S g vp p bg (q, low, size) w6 :=
  ⟨vo, (hk.2 g (blk_lt c1) (Kd.R_ne c3 c1 (by decide))).trans c1, Kd.R_mono (Kd.R_step (Kd.R_apartR c2 c3 (by decide)) (fun k hs hl => hk.2 k hl hs.2)) (fun k hs => hs.1), Kd.R_flat (fun h => h) hR (fun k hk _ => c3.1 k hk), hb, c5.then_ hk (fun k hk => c3.1 k hk.symm)⟩
theorem and_low {low : Int} (h0 : 0 ≤ low) (h1 : low ≤ 4294967295) : bits BinOp.and IntKind.i64 (low * 256) 4294967295 = low * 256 % 4294967296 := by
  have hm : (BitVec.ofInt 64 4294967295).toNat = 2 ^ 32 - 1 := by decide
  have key : (BitVec.ofInt 64 (low * 256) &&& BitVec.ofInt 64 4294967295).toNat = ((low * 256) % ((2 ^ 64 : Nat) : Int)).toNat % 2 ^ 32 := by
    rw [BitVec.toNat_and, BitVec.toNat_ofInt, hm, Nat.and_two_pow_sub_one_eq_mod]
  show IntKind.i64.wrap ((BitVec.ofInt 64 (low * 256) &&& BitVec.ofInt 64 4294967295).toNat : Nat) = _
  rw [key, IntKind.wrap_i64]
  omega
/-- The end of Encode. -/
theorem enc_done {w0 w : World} {S : Nat → Prop} {g bb c : Nat} {v : Value} {p : List Int} {bg : Bool} {out : List Int} {low size : Int} {wr : World} (m1 : wr.heap[g]? = some (.cells #[.slice (some ⟨bb, 0, none⟩) p.length c, v, .int .i64 low, .int .i64 size, .bool bg] 64)) (m2 : Kd.R (Kd.int .i64) 3 wr w0.heap.size (fun k => S k ∨ w.heap.size ≤ k) (.slice (some ⟨bb, 0, none⟩) p.length c) p) (m3 : Kd.R (Kd.int .u8) 5 wr w0.heap.size (fun k => S k ∨ w.heap.size ≤ k) v out) (m4 : Below w0.heap.size w0 wr) (m5 : Kept w wr S) (hS : S g) (hge : w0.heap.size ≤ g) (hbb : w0.heap.size ≤ bb) (hp : 0 < p.length) (nd i : Nat) (y : Int) :
    EncAt w0.heap.size (((wr.setCell ⟨g, 4, none⟩ (.bool true)).drewN nd).setCell ⟨bb, i, none⟩ (.int .i64 y)) (fun k => S k ∨ w.heap.size ≤ k) g ⟨p.set i y, out, low, size, true⟩ ∧ Below w0.heap.size w0 (((wr.setCell ⟨g, 4, none⟩ (.bool true)).drewN nd).setCell ⟨bb, i, none⟩ (.int .i64 y)) ∧ Kept w (((wr.setCell ⟨g, 4, none⟩ (.bool true)).drewN nd).setCell ⟨bb, i, none⟩ (.int .i64 y)) S := by
  have hne : g ≠ bb := fun e => Kd.R_ne m2 m1 (by decide) (by rw [e]; rfl)
  have b1 := blk_put m1 4 (.bool true) rfl
  have p1 := Kd.R_drewN (Kd.R_set m2 m1 (by decide) 4 (.bool true)) nd
  have o1 := Kd.R_drewN (Kd.R_set m3 m1 (by decide) 4 (.bool true)) nd
  obtain ⟨gg, cc, ee, _, _, cells, hcells⟩ := Kd.R_form p1 hp
  injection ee with ea
  injection ea with ea
  injection ea with ea
  subst ea
  have p2 := (Kd.R_put p1 (i : Int) y).1
  rw [Int.toNat_natCast] at p2
  refine ⟨⟨_, v, blk_far (blk_drewN b1 nd) hne _, .inl hS, hge, ?_, Kd.R_set o1 hcells (by decide) i _⟩, below_set (pw_below_drewN (below_set m4 hge) nd) hbb, Kept.setCell (Kept.drewN (Kept.setCell m5 (.inl hS) _) nd) (m2.1 bb rfl) _⟩
  exact p2
theorem rnE_step {out : List Int} {low size : Int} (h : MidOk (out, low, size)) (hlt : size < 16777216) : rnE (out, low, size) = (out ++ [low / 16777216], low * 256 % 4294967296, size * 256) ∧ MidOk (out ++ [low / 16777216], low * 256 % 4294967296, size * 256) ∧ rnE (out ++ [low / 16777216], low * 256 % 4294967296, size * 256) = rnE (out, low, size) ∧ ¬ size * 256 < 16777216 := by
  have e : rnE (out, low, size) = (out ++ [low / 16777216], low * 256 % 4294967296, size * 256) := by unfold rnE; rw [if_pos hlt]
  obtain ⟨h1, h2⟩ := rnE_ok h
  rw [e] at h1 h2
  have h3 : ¬ size * 256 < 16777216 := by have : 16777216 ≤ size * 256 := h2; omega
  refine ⟨e, h1, ?_, h3⟩
  rw [e]
  unfold rnE
  rw [if_neg h3]
set_option maxHeartbeats 8000000 in
set_option maxRecDepth 100000 in
/-- A bit is encoded. -/
theorem Encode.good (w0 w : World) (S : Nat → Prop) (g : Nat) (s : EncS) (i : Nat) (bit : Int) (hB : Below w0.heap.size w0 w) (h : EncAt w0.heap.size w S g s) (hok : EncOk s) (hi : i < s.p.length) (hbit : bit = 0 ∨ bit = 1) (hlen : s.out.length ≤ 1000000) : Calls Try.prog 26 #[.pointer (some ⟨g, 0, none⟩), .int .i64 i, .int .i64 bit] w fun e w' => e = .returned (.int .i64 0) ∧ EncAt w0.heap.size w' (fun k => S k ∨ w.heap.size ≤ k) g (encE s i bit) ∧ Below w0.heap.size w0 w' ∧ Kept w w' S := by
  obtain ⟨vp, vo, h1, h2, h3, h4, h5⟩ := h
  obtain ⟨bb, c, rfl, hb0, hb1, _⟩ := Kd.R_form h4 hok.p0
  have x0 : w.cell? ⟨g, 0, none⟩ = some (.slice (some ⟨bb, 0, none⟩) s.p.length c) := (blk_cell h1 0).trans rfl
  have x1 : w.cell? ⟨g, 1, none⟩ = some vo := (blk_cell h1 1).trans rfl
  have x2 : w.cell? ⟨g, 2, none⟩ = some (.int .i64 s.low) := (blk_cell h1 2).trans rfl
  have x3 : w.cell? ⟨g, 3, none⟩ = some (.int .i64 s.size) := (blk_cell h1 3).trans rfl
  have f2 := blk_frozen h1 2
  have f3 := blk_frozen h1 3
  have hil : (i : Int) < (s.p.length : Int) := by omega
  obtain ⟨y0, y1⟩ := Kd.R_cell (0 : Int) h4 (i : Int) (by omega) hil
  rw [Int.toNat_natCast] at y0 y1
  have e1 : rdOf (0 : Int) s.p (i : Int) = rd s.p (i : Int) := rfl
  rw [e1] at y0
  have hx := hok.p.get hi
  have HV := Aside0.mk (valid.at w g s.p.length c _ x0 hok.p0)
  have HH := Aside0.mk (has.yes w g s.p.length c _ x0 (i : Int) (by omega) hil)
  have HSP := Aside0.mk (fun W (h0 : W.cell? ⟨g, 0, none⟩ = some (.slice (some ⟨bb, 0, none⟩) s.p.length c)) (hy : W.cell? ⟨bb, i, none⟩ = some (.int .i64 (rd s.p (i : Int)))) => split.calls W g s.p.length c bb h0 i (rd s.p (i : Int)) s.size hi hy (by have := hok.size0; omega) (by have := hok.size1; omega) (by omega) (by omega))
  have HX := Aside0.mk (And.intro h1 (And.intro h2 (And.intro h3 (And.intro (Kd.R_mono (ok' := fun k => S k ∨ w.heap.size ≤ k) h4 (fun _ hk => .inl hk)) (Kd.R_mono (ok' := fun k => S k ∨ w.heap.size ≤ k) h5 (fun _ hk => .inl hk))))))
  have HOK := Aside0.mk hok
  have HI := Aside0.mk hi
  have HBl := Aside0.mk hB
  have HLEN := Aside0.mk hlen
  have hsp : s.size / 4096 * rd s.p (i : Int) = splitP s.size (rd s.p (i : Int)) := rfl
  clear h1 h2 h3 h4 h5 hok hi hB hlen hx e1
  rcases hbit with rfl | rfl
  · have HT : Hid (midE s.out s.low s.size (rd s.p (i : Int)) 0 = (s.out, s.low, splitP s.size (rd s.p (i : Int)))) := Lib.hid (by unfold midE; rw [if_pos rfl])
    have HM := Aside0.mk (midE_ok (bit := 0) HOK.out.out HOK.out.low0 HOK.out.low1 HOK.out.size0 HOK.out.size1 (HOK.out.p.get HI.out))
    rw [HT.out] at HM
    go_enter Try.func26, Try.ntmps26
    go_wp2_with (first | (go_at_call 42; (with_reducible refine HV.out.mono ?_); rintro e w1 ⟨rfl, hw⟩; replace hw := hw.symm; subst hw) | (go_at_call 47; (with_reducible refine HH.out.mono ?_); rintro e w2 ⟨rfl, hw⟩; replace hw := hw.symm; subst hw))
    go_region_held3 (fun W => W.cell? ⟨g, 3, none⟩ = some (.int .i64 s.size)) (first | go_keep | assumption)
      ((go_at_call 48; (with_reducible refine (HSP.out _ ?qa ?qb).mono ?_); (case qa => exact x0); (case qb => exact y0); rintro e w3 ⟨rfl, hw⟩; replace hw := hw.symm; subst hw))
    go_wp2
    have HMID : Aside0 (MidAt w0 w S g (.slice (some ⟨bb, 0, none⟩) s.p.length c) s.p s.begun (s.out, s.low, splitP s.size (rd s.p (i : Int))) (w.setCell ⟨g, 3, none⟩ (.int .i64 (splitP s.size (rd s.p (i : Int))))).drew) := ⟨MidAt.of (blk_drew (blk_put HX.out.1 3 _ rfl)) (Kd.R_drew (Kd.R_set HX.out.2.2.2.1 HX.out.1 (by decide) 3 _)) (Kd.R_drew (Kd.R_set HX.out.2.2.2.2 HX.out.1 (by decide) 3 _)) (below_drew (below_set HBl.out HX.out.2.2.1)) (Kept.drew (Kept.setCell (Kept.refl _ _) (.inl HX.out.2.1) _))⟩
    have HL0 := Aside0.mk HLEN.out
    have HL1 : Aside0 ((s.out, s.low, splitP s.size (rd s.p (i : Int))).1.length ≤ 1000000) := HLEN
    generalize (s.out, s.low, splitP s.size (rd s.p (i : Int))) = t0 at *
    generalize (w.setCell ⟨g, 3, none⟩ (.int .i64 (splitP s.size (rd s.p (i : Int))))).drew = W1 at *
    clear x0 x1 x2 x3 f2 f3 y0 y1 hsp
    go_loopg [] 2 (fun kq w' => ∃ t : List Int × Int × Int, Aside0 (MidOk t ∧ rnE t = rnE t0 ∧ (t.2.2 < 16777216 → 2 ≤ kq) ∧ 1 ≤ kq ∧ t.1.length + kq ≤ 1000002) ∧ Aside0 (MidAt w0 w S g (.slice (some ⟨bb, 0, none⟩) s.p.length c) s.p s.begun t w'))
    case atStart => exact ⟨t0, ⟨HM.out, rfl, fun _ => by omega, by omega, by have := HL1.out; omega⟩, HMID⟩
    case round =>
      obtain ⟨⟨out, low, size⟩, HI2, HMt⟩ := hrel
      obtain ⟨vo2, m1, m2, m3, m4, m5⟩ := HMt.out
      obtain ⟨A5, c5, rfl⟩ := Kd.R_slice m3
      have c1 : wr.cell? ⟨g, 1, none⟩ = some (.slice A5 out.length c5) := (blk_cell m1 1).trans rfl
      have c2 : wr.cell? ⟨g, 2, none⟩ = some (.int .i64 low) := (blk_cell m1 2).trans rfl
      have c3 : wr.cell? ⟨g, 3, none⟩ = some (.int .i64 size) := (blk_cell m1 3).trans rfl
      have c4 : wr.cell? ⟨g, 4, none⟩ = some (.bool s.begun) := (blk_cell m1 4).trans rfl
      have k4 := blk_frozen m1 4
      have k1 := blk_frozen m1 1
      have k2 := blk_frozen m1 2
      have k3 := blk_frozen m1 3
      have lo0 : 0 ≤ low := HI2.out.1.low0
      have lo1 : low ≤ 4294967295 := HI2.out.1.low1
      have HMM := Aside0.mk (And.intro m1 (And.intro m2 (And.intro m3 (And.intro m4 m5))))
      by_cases hlt : size < 16777216
      · have HLT := Aside0.mk hlt
        have a1 : (wr.alloc (.cells #[.int .u8 (low / 16777216)] 5)).cell? ⟨g, 1, none⟩ = some (.slice A5 out.length c5) := (blk_cell (blk_alloc m1 _) 1).trans rfl
        clear m1 m2 m3 m4 m5
        have hwr : IntKind.u8.wrap (low / 16777216) = low / 16777216 := by rw [IntKind.wrap_u8]; omega
        go_wp2
        go_region_law (refine out_append (w0 := w0) (W := wr) (ok := fun k => S k ∨ w.heap.size ≤ k) (by rfl) (.tmp 82) (.tmp 89) rfl (.slice A5 out.length c5) out (low / 16777216) rfl rfl ?fr HMM.out.2.2.1 HMM.out.2.2.2.1 ?hl ?_; (case fr => exact fun k hk => .inr (Nat.le_trans HMM.out.2.2.2.2.1 hk)); (case hl => have h9 := HI2.out.2.2.2.2; have h8 : (out, low, size).1.length = out.length := rfl; omega); intro v1 w1 hR1 hb1 hg1; obtain ⟨A6, c6, e6⟩ := Kd.R_slice hR1; have e7 : v1 = .slice A6 (out.length + 1) c6 := (by rw [e6, List.length_append]; rfl); clear e6; subst e7; have BK := blk_grown (blk_drew HMM.out.1) hg1 (Kd.R_ne HMM.out.2.2.1 HMM.out.1 (by decide)); have d1 : w1.cell? ⟨g, 1, none⟩ = some (.slice A5 out.length c5) := (blk_cell BK 1).trans rfl; have d2 : w1.cell? ⟨g, 2, none⟩ = some (.int .i64 low) := (blk_cell BK 2).trans rfl; have d3 : w1.cell? ⟨g, 3, none⟩ = some (.int .i64 size) := (blk_cell BK 3).trans rfl; have g1 := blk_frozen BK 1; have g2 := blk_frozen BK 2; have g3 := blk_frozen BK 3; have HN := Aside0.mk (And.intro BK (And.intro hR1 (And.intro hb1 hg1))); clear BK hR1 hb1 hg1)
        all_goals go_wp2
        all_goals go_roundg (gk - 1)
        case' measure => have h9 := HI2.out.2.2.2.1; omega
        all_goals first | (have h9 := HI2.out.2.2.2.1; omega) | skip
        all_goals
          obtain ⟨q1, q2, q3, q4⟩ := rnE_step HI2.out.1 HLT.out
          have hand : bits BinOp.and IntKind.i64 (low * 256) 4294967295 = low * 256 % 4294967296 := and_low lo0 lo1
          have hw64 : wrap64 (size * 256) = size * 256 := by have h9 := HI2.out.1.size1; have h8 := HI2.out.1.size0; have h7 : (out, low, size).2.2 = size := rfl; rw [h7] at h9 h8; exact wrap64_id (by omega) (by omega)
          refine ⟨(out ++ [low / 16777216], low * 256 % 4294967296, size * 256), ⟨q2, q3.trans HI2.out.2.1, fun h => absurd h q4, ?_, ?_⟩, ?_⟩
          · have h9 := HI2.out.2.2.1 HLT.out; omega
          · have h9 := HI2.out.2.2.2.2; have h8 := HI2.out.2.2.1 HLT.out; have h7 : (out, low, size).1.length = out.length := rfl; rw [h7] at h9; show (out ++ [low / 16777216]).length + (gk - 1) ≤ 1000002; rw [List.length_append, List.length_singleton]; omega
          · rw [hand, hw64]
            exact ⟨MidAt.step HMM.out.1 HMM.out.2.1 HMM.out.2.2.1 HMM.out.2.2.2.2 HN.out.1 HN.out.2.1 HN.out.2.2.1 HN.out.2.2.2 HX.out.2.1 HX.out.2.2.1 _ _⟩
      · have W0 : (wr.setCell ⟨g, 4, none⟩ (.bool true)).cell? ⟨g, 0, none⟩ = some (.slice (some ⟨bb, 0, none⟩) s.p.length c) := (blk_cell (blk_put m1 4 (.bool true) rfl) 0).trans rfl
        obtain ⟨z0, z1⟩ := Kd.R_cell (0 : Int) (Kd.R_set m2 m1 (by decide) 4 (.bool true)) (i : Int) (by omega) hil
        rw [Int.toNat_natCast] at z0 z1
        have hgb : g ≠ bb := fun e => Kd.R_ne m2 m1 (by decide) (by rw [e]; rfl)
        have HAD := Aside0.mk (adapt.calls (wr.setCell ⟨g, 4, none⟩ (.bool true)) g s.p.length c bb W0 i (rd s.p (i : Int)) 0 HI.out z0 z1 (by have h9 := HOK.out.p.get HI.out; omega) (by have h9 := HOK.out.p.get HI.out; omega) (.inl rfl) hgb)
        have HNL := Aside0.mk hlt
        clear m1 m2 m3 m4 m5 W0 z0 z1
        go_wp2_with (go_at_call 49; (with_reducible refine HAD.out.mono ?_); rintro e w9 ⟨rfl, ⟨nd, rfl⟩⟩)
        go_ret
        have hee : encE s i 0 = ⟨s.p.set i (adaptP (rd s.p (i : Int)) 0), out, low, size, true⟩ := by
          have h9 : rnE (out, low, size) = (out, low, size) := by unfold rnE; rw [if_neg (show ¬ size < 16777216 by have h8 := HNL.out; omega)]
          unfold encE
          rw [HT.out, ← HI2.out.2.1, h9]
        rw [hee]
        exact ⟨rfl, enc_done HMM.out.1 HMM.out.2.1 HMM.out.2.2.1 HMM.out.2.2.2.1 HMM.out.2.2.2.2 HX.out.2.1 HX.out.2.2.1 hb0 HOK.out.p0 nd i _⟩
  · by_cases hc : s.low + splitP s.size (rd s.p (i : Int)) > 4294967295
    · have HT : Hid (midE s.out s.low s.size (rd s.p (i : Int)) 1 = (carryP s.out, s.low + splitP s.size (rd s.p (i : Int)) - 4294967296, s.size - splitP s.size (rd s.p (i : Int)))) := Lib.hid (by unfold midE; rw [if_neg (by decide), if_pos hc])
      have HM := Aside0.mk (midE_ok (bit := 1) HOK.out.out HOK.out.low0 HOK.out.low1 HOK.out.size0 HOK.out.size1 (HOK.out.p.get HI.out))
      rw [HT.out] at HM
      have hbd := splitP_bd HOK.out.size0 HOK.out.size1 (HOK.out.p.get HI.out)
      have hl0 := HOK.out.low0
      have hl1 := HOK.out.low1
      have hz1 := HOK.out.size1
      have hw1 : wrap64 (s.low + splitP s.size (rd s.p (i : Int))) = s.low + splitP s.size (rd s.p (i : Int)) := wrap64_id (by omega) (by omega)
      have hw2 : wrap64 (s.size - splitP s.size (rd s.p (i : Int))) = s.size - splitP s.size (rd s.p (i : Int)) := wrap64_id (by omega) (by omega)
      have hw3 : wrap64 (s.low + splitP s.size (rd s.p (i : Int)) - 4294967296) = s.low + splitP s.size (rd s.p (i : Int)) - 4294967296 := wrap64_id (by omega) (by omega)
      have hcm :  (4294967295 : Int) < s.low + splitP s.size (rd s.p (i : Int)) := by omega
      have B1 := Aside0.mk (blk_put HX.out.1 2 (.int .i64 (s.low + splitP s.size (rd s.p (i : Int)))) rfl)
      have B2 := Aside0.mk (blk_put B1.out 3 (.int .i64 (s.size - splitP s.size (rd s.p (i : Int)))) rfl)
      have P2 := Aside0.mk (Kd.R_set (Kd.R_set HX.out.2.2.2.1 HX.out.1 (by decide) 2 (.int .i64 (s.low + splitP s.size (rd s.p (i : Int))))) B1.out (by decide) 3 (.int .i64 (s.size - splitP s.size (rd s.p (i : Int)))))
      have O2 := Aside0.mk (Kd.R_set (Kd.R_set HX.out.2.2.2.2 HX.out.1 (by decide) 2 (.int .i64 (s.low + splitP s.size (rd s.p (i : Int))))) B1.out (by decide) 3 (.int .i64 (s.size - splitP s.size (rd s.p (i : Int)))))
      have BB2 : Aside0 (Below w0.heap.size w0 ((w.setCell ⟨g, 2, none⟩ (.int .i64 (s.low + splitP s.size (rd s.p (i : Int))))).setCell ⟨g, 3, none⟩ (.int .i64 (s.size - splitP s.size (rd s.p (i : Int)))))) := ⟨below_set (below_set HBl.out HX.out.2.2.1) HX.out.2.2.1⟩
      have KK2 : Aside0 (Kept w ((w.setCell ⟨g, 2, none⟩ (.int .i64 (s.low + splitP s.size (rd s.p (i : Int))))).setCell ⟨g, 3, none⟩ (.int .i64 (s.size - splitP s.size (rd s.p (i : Int))))) S) := ⟨Kept.setCell (Kept.setCell (Kept.refl w S) (.inl HX.out.2.1) _) (.inl HX.out.2.1) _⟩
      clear hc
      go_enter Try.func26, Try.ntmps26
      go_wp2_with (first | (go_at_call 42; (with_reducible refine HV.out.mono ?_); rintro e w1 ⟨rfl, hw⟩; replace hw := hw.symm; subst hw) | (go_at_call 47; (with_reducible refine HH.out.mono ?_); rintro e w2 ⟨rfl, hw⟩; replace hw := hw.symm; subst hw))
      go_region_held3 (fun W => W.cell? ⟨g, 3, none⟩ = some (.int .i64 s.size)) (first | go_keep | assumption)
        ((go_at_call 48; (with_reducible refine (HSP.out _ ?qa ?qb).mono ?_); (case qa => exact x0); (case qb => exact y0); rintro e w3 ⟨rfl, hw⟩; replace hw := hw.symm; subst hw))
      obtain ⟨kc, hkc⟩ := (carry_f s.out HOK.out.out (by have h9 := HLEN.out; omega)).rounds
      have B3 := Aside0.mk (blk_put B2.out 2 (.int .i64 (s.low + splitP s.size (rd s.p (i : Int)) - 4294967296)) rfl)
      have P3 := Aside0.mk (Kd.R_set P2.out B2.out (by decide) 2 (.int .i64 (s.low + splitP s.size (rd s.p (i : Int)) - 4294967296)))
      have O3 := Aside0.mk (Kd.R_set O2.out B2.out (by decide) 2 (.int .i64 (s.low + splitP s.size (rd s.p (i : Int)) - 4294967296)))
      have BB3 : Aside0 (Below w0.heap.size w0 (((w.setCell ⟨g, 2, none⟩ (.int .i64 (s.low + splitP s.size (rd s.p (i : Int))))).setCell ⟨g, 3, none⟩ (.int .i64 (s.size - splitP s.size (rd s.p (i : Int))))).setCell ⟨g, 2, none⟩ (.int .i64 (s.low + splitP s.size (rd s.p (i : Int)) - 4294967296)))) := ⟨below_set BB2.out HX.out.2.2.1⟩
      have KK3 : Aside0 (Kept w (((w.setCell ⟨g, 2, none⟩ (.int .i64 (s.low + splitP s.size (rd s.p (i : Int))))).setCell ⟨g, 3, none⟩ (.int .i64 (s.size - splitP s.size (rd s.p (i : Int))))).setCell ⟨g, 2, none⟩ (.int .i64 (s.low + splitP s.size (rd s.p (i : Int)) - 4294967296))) S) := ⟨Kept.setCell KK2.out (.inl HX.out.2.1) _⟩
      have HCR := Aside0.mk (arith_carry.calls kc (fun k => some k = vo.ownBlock) vo s.out (carryP s.out) w0 (((w.setCell ⟨g, 2, none⟩ (.int .i64 (s.low + splitP s.size (rd s.p (i : Int))))).setCell ⟨g, 3, none⟩ (.int .i64 (s.size - splitP s.size (rd s.p (i : Int))))).setCell ⟨g, 2, none⟩ (.int .i64 (s.low + splitP s.size (rd s.p (i : Int)) - 4294967296))).drew (below_drew BB3.out) (Kd.R_drew (Kd.R_flat (fun h => h) O3.out (fun k hk _ => hk.symm))) hkc)
      clear hkc
      go_wp2_with (go_at_call 44; (with_reducible refine HCR.out.mono ?_); rintro e w6 ⟨rfl, hR6, hb6, hk6⟩; have HMID := Aside0.mk (MidAt.carry (bg := s.begun) (blk_drew B3.out) (Kd.R_drew P3.out) (Kd.R_drew O3.out) (Kept.drew KK3.out) hR6 hb6 hk6); clear hR6 hb6 hk6)
      have HL0 := Aside0.mk HLEN.out
      have HL1 : Aside0 ((carryP s.out, s.low + splitP s.size (rd s.p (i : Int)) - 4294967296, s.size - splitP s.size (rd s.p (i : Int))).1.length ≤ 1000000) := ⟨by show (carryP s.out).length ≤ 1000000; rw [carryP_length]; exact HLEN.out⟩
      generalize (carryP s.out, s.low + splitP s.size (rd s.p (i : Int)) - 4294967296, s.size - splitP s.size (rd s.p (i : Int))) = t0 at *
      clear x0 x1 x2 x3 f2 f3 y0 y1 hsp
      go_loopg [] 2 (fun kq w' => ∃ t : List Int × Int × Int, Aside0 (MidOk t ∧ rnE t = rnE t0 ∧ (t.2.2 < 16777216 → 2 ≤ kq) ∧ 1 ≤ kq ∧ t.1.length + kq ≤ 1000002) ∧ Aside0 (MidAt w0 w S g (.slice (some ⟨bb, 0, none⟩) s.p.length c) s.p s.begun t w'))
      case atStart => exact ⟨t0, ⟨HM.out, rfl, fun _ => by omega, by omega, by have := HL1.out; omega⟩, HMID⟩
      case round =>
        obtain ⟨⟨out, low, size⟩, HI2, HMt⟩ := hrel
        obtain ⟨vo2, m1, m2, m3, m4, m5⟩ := HMt.out
        obtain ⟨A5, c5, rfl⟩ := Kd.R_slice m3
        have c1 : wr.cell? ⟨g, 1, none⟩ = some (.slice A5 out.length c5) := (blk_cell m1 1).trans rfl
        have c2 : wr.cell? ⟨g, 2, none⟩ = some (.int .i64 low) := (blk_cell m1 2).trans rfl
        have c3 : wr.cell? ⟨g, 3, none⟩ = some (.int .i64 size) := (blk_cell m1 3).trans rfl
        have c4 : wr.cell? ⟨g, 4, none⟩ = some (.bool s.begun) := (blk_cell m1 4).trans rfl
        have k4 := blk_frozen m1 4
        have k1 := blk_frozen m1 1
        have k2 := blk_frozen m1 2
        have k3 := blk_frozen m1 3
        have lo0 : 0 ≤ low := HI2.out.1.low0
        have lo1 : low ≤ 4294967295 := HI2.out.1.low1
        have HMM := Aside0.mk (And.intro m1 (And.intro m2 (And.intro m3 (And.intro m4 m5))))
        by_cases hlt : size < 16777216
        · have HLT := Aside0.mk hlt
          have a1 : (wr.alloc (.cells #[.int .u8 (low / 16777216)] 5)).cell? ⟨g, 1, none⟩ = some (.slice A5 out.length c5) := (blk_cell (blk_alloc m1 _) 1).trans rfl
          clear m1 m2 m3 m4 m5
          have hwr : IntKind.u8.wrap (low / 16777216) = low / 16777216 := by rw [IntKind.wrap_u8]; omega
          go_wp2
          go_region_law (refine out_append (w0 := w0) (W := wr) (ok := fun k => S k ∨ w.heap.size ≤ k) (by rfl) (.tmp 82) (.tmp 89) rfl (.slice A5 out.length c5) out (low / 16777216) rfl rfl ?fr HMM.out.2.2.1 HMM.out.2.2.2.1 ?hl ?_; (case fr => exact fun k hk => .inr (Nat.le_trans HMM.out.2.2.2.2.1 hk)); (case hl => have h9 := HI2.out.2.2.2.2; have h8 : (out, low, size).1.length = out.length := rfl; omega); intro v1 w1 hR1 hb1 hg1; obtain ⟨A6, c6, e6⟩ := Kd.R_slice hR1; have e7 : v1 = .slice A6 (out.length + 1) c6 := (by rw [e6, List.length_append]; rfl); clear e6; subst e7; have BK := blk_grown (blk_drew HMM.out.1) hg1 (Kd.R_ne HMM.out.2.2.1 HMM.out.1 (by decide)); have d1 : w1.cell? ⟨g, 1, none⟩ = some (.slice A5 out.length c5) := (blk_cell BK 1).trans rfl; have d2 : w1.cell? ⟨g, 2, none⟩ = some (.int .i64 low) := (blk_cell BK 2).trans rfl; have d3 : w1.cell? ⟨g, 3, none⟩ = some (.int .i64 size) := (blk_cell BK 3).trans rfl; have g1 := blk_frozen BK 1; have g2 := blk_frozen BK 2; have g3 := blk_frozen BK 3; have HN := Aside0.mk (And.intro BK (And.intro hR1 (And.intro hb1 hg1))); clear BK hR1 hb1 hg1)
          all_goals go_wp2
          all_goals go_roundg (gk - 1)
          case' measure => have h9 := HI2.out.2.2.2.1; omega
          all_goals first | (have h9 := HI2.out.2.2.2.1; omega) | skip
          all_goals
            obtain ⟨q1, q2, q3, q4⟩ := rnE_step HI2.out.1 HLT.out
            have hand : bits BinOp.and IntKind.i64 (low * 256) 4294967295 = low * 256 % 4294967296 := and_low lo0 lo1
            have hw64 : wrap64 (size * 256) = size * 256 := by have h9 := HI2.out.1.size1; have h8 := HI2.out.1.size0; have h7 : (out, low, size).2.2 = size := rfl; rw [h7] at h9 h8; exact wrap64_id (by omega) (by omega)
            refine ⟨(out ++ [low / 16777216], low * 256 % 4294967296, size * 256), ⟨q2, q3.trans HI2.out.2.1, fun h => absurd h q4, ?_, ?_⟩, ?_⟩
            · have h9 := HI2.out.2.2.1 HLT.out; omega
            · have h9 := HI2.out.2.2.2.2; have h8 := HI2.out.2.2.1 HLT.out; have h7 : (out, low, size).1.length = out.length := rfl; rw [h7] at h9; show (out ++ [low / 16777216]).length + (gk - 1) ≤ 1000002; rw [List.length_append, List.length_singleton]; omega
            · rw [hand, hw64]
              exact ⟨MidAt.step HMM.out.1 HMM.out.2.1 HMM.out.2.2.1 HMM.out.2.2.2.2 HN.out.1 HN.out.2.1 HN.out.2.2.1 HN.out.2.2.2 HX.out.2.1 HX.out.2.2.1 _ _⟩
        · have W0 : (wr.setCell ⟨g, 4, none⟩ (.bool true)).cell? ⟨g, 0, none⟩ = some (.slice (some ⟨bb, 0, none⟩) s.p.length c) := (blk_cell (blk_put m1 4 (.bool true) rfl) 0).trans rfl
          obtain ⟨z0, z1⟩ := Kd.R_cell (0 : Int) (Kd.R_set m2 m1 (by decide) 4 (.bool true)) (i : Int) (by omega) hil
          rw [Int.toNat_natCast] at z0 z1
          have hgb : g ≠ bb := fun e => Kd.R_ne m2 m1 (by decide) (by rw [e]; rfl)
          have HAD := Aside0.mk (adapt.calls (wr.setCell ⟨g, 4, none⟩ (.bool true)) g s.p.length c bb W0 i (rd s.p (i : Int)) 1 HI.out z0 z1 (by have h9 := HOK.out.p.get HI.out; omega) (by have h9 := HOK.out.p.get HI.out; omega) (.inr rfl) hgb)
          have HNL := Aside0.mk hlt
          clear m1 m2 m3 m4 m5 W0 z0 z1
          go_wp2_with (go_at_call 49; (with_reducible refine HAD.out.mono ?_); rintro e w9 ⟨rfl, ⟨nd, rfl⟩⟩)
          go_ret
          have hee : encE s i 1 = ⟨s.p.set i (adaptP (rd s.p (i : Int)) 1), out, low, size, true⟩ := by
            have h9 : rnE (out, low, size) = (out, low, size) := by unfold rnE; rw [if_neg (show ¬ size < 16777216 by have h8 := HNL.out; omega)]
            unfold encE
            rw [HT.out, ← HI2.out.2.1, h9]
          rw [hee]
          exact ⟨rfl, enc_done HMM.out.1 HMM.out.2.1 HMM.out.2.2.1 HMM.out.2.2.2.1 HMM.out.2.2.2.2 HX.out.2.1 HX.out.2.2.1 hb0 HOK.out.p0 nd i _⟩
    · have HT : Hid (midE s.out s.low s.size (rd s.p (i : Int)) 1 = (s.out, s.low + splitP s.size (rd s.p (i : Int)), s.size - splitP s.size (rd s.p (i : Int)))) := Lib.hid (by unfold midE; rw [if_neg (by decide), if_neg hc])
      have HM := Aside0.mk (midE_ok (bit := 1) HOK.out.out HOK.out.low0 HOK.out.low1 HOK.out.size0 HOK.out.size1 (HOK.out.p.get HI.out))
      rw [HT.out] at HM
      have hbd := splitP_bd HOK.out.size0 HOK.out.size1 (HOK.out.p.get HI.out)
      have hl0 := HOK.out.low0
      have hl1 := HOK.out.low1
      have hz1 := HOK.out.size1
      have hw1 : wrap64 (s.low + splitP s.size (rd s.p (i : Int))) = s.low + splitP s.size (rd s.p (i : Int)) := wrap64_id (by omega) (by omega)
      have hw2 : wrap64 (s.size - splitP s.size (rd s.p (i : Int))) = s.size - splitP s.size (rd s.p (i : Int)) := wrap64_id (by omega) (by omega)
      have hw3 : wrap64 (s.low + splitP s.size (rd s.p (i : Int)) - 4294967296) = s.low + splitP s.size (rd s.p (i : Int)) - 4294967296 := wrap64_id (by omega) (by omega)
      have hcm : ¬ (4294967295 : Int) < s.low + splitP s.size (rd s.p (i : Int)) := by omega
      have B1 := Aside0.mk (blk_put HX.out.1 2 (.int .i64 (s.low + splitP s.size (rd s.p (i : Int)))) rfl)
      have B2 := Aside0.mk (blk_put B1.out 3 (.int .i64 (s.size - splitP s.size (rd s.p (i : Int)))) rfl)
      have P2 := Aside0.mk (Kd.R_set (Kd.R_set HX.out.2.2.2.1 HX.out.1 (by decide) 2 (.int .i64 (s.low + splitP s.size (rd s.p (i : Int))))) B1.out (by decide) 3 (.int .i64 (s.size - splitP s.size (rd s.p (i : Int)))))
      have O2 := Aside0.mk (Kd.R_set (Kd.R_set HX.out.2.2.2.2 HX.out.1 (by decide) 2 (.int .i64 (s.low + splitP s.size (rd s.p (i : Int))))) B1.out (by decide) 3 (.int .i64 (s.size - splitP s.size (rd s.p (i : Int)))))
      have BB2 : Aside0 (Below w0.heap.size w0 ((w.setCell ⟨g, 2, none⟩ (.int .i64 (s.low + splitP s.size (rd s.p (i : Int))))).setCell ⟨g, 3, none⟩ (.int .i64 (s.size - splitP s.size (rd s.p (i : Int)))))) := ⟨below_set (below_set HBl.out HX.out.2.2.1) HX.out.2.2.1⟩
      have KK2 : Aside0 (Kept w ((w.setCell ⟨g, 2, none⟩ (.int .i64 (s.low + splitP s.size (rd s.p (i : Int))))).setCell ⟨g, 3, none⟩ (.int .i64 (s.size - splitP s.size (rd s.p (i : Int))))) S) := ⟨Kept.setCell (Kept.setCell (Kept.refl w S) (.inl HX.out.2.1) _) (.inl HX.out.2.1) _⟩
      clear hc
      go_enter Try.func26, Try.ntmps26
      go_wp2_with (first | (go_at_call 42; (with_reducible refine HV.out.mono ?_); rintro e w1 ⟨rfl, hw⟩; replace hw := hw.symm; subst hw) | (go_at_call 47; (with_reducible refine HH.out.mono ?_); rintro e w2 ⟨rfl, hw⟩; replace hw := hw.symm; subst hw))
      go_region_held3 (fun W => W.cell? ⟨g, 3, none⟩ = some (.int .i64 s.size)) (first | go_keep | assumption)
        ((go_at_call 48; (with_reducible refine (HSP.out _ ?qa ?qb).mono ?_); (case qa => exact x0); (case qb => exact y0); rintro e w3 ⟨rfl, hw⟩; replace hw := hw.symm; subst hw))
      go_wp2
      have HMID : Aside0 (MidAt w0 w S g (.slice (some ⟨bb, 0, none⟩) s.p.length c) s.p s.begun (s.out, s.low + splitP s.size (rd s.p (i : Int)), s.size - splitP s.size (rd s.p (i : Int))) ((w.setCell ⟨g, 2, none⟩ (.int .i64 (s.low + splitP s.size (rd s.p (i : Int))))).setCell ⟨g, 3, none⟩ (.int .i64 (s.size - splitP s.size (rd s.p (i : Int))))).drew) := ⟨MidAt.of (blk_drew B2.out) (Kd.R_drew P2.out) (Kd.R_drew O2.out) (below_drew BB2.out) (Kept.drew KK2.out)⟩
      have HL0 := Aside0.mk HLEN.out
      have HL1 : Aside0 ((s.out, s.low + splitP s.size (rd s.p (i : Int)), s.size - splitP s.size (rd s.p (i : Int))).1.length ≤ 1000000) := HLEN
      generalize (s.out, s.low + splitP s.size (rd s.p (i : Int)), s.size - splitP s.size (rd s.p (i : Int))) = t0 at *
      generalize ((w.setCell ⟨g, 2, none⟩ (.int .i64 (s.low + splitP s.size (rd s.p (i : Int))))).setCell ⟨g, 3, none⟩ (.int .i64 (s.size - splitP s.size (rd s.p (i : Int))))).drew = W1 at *
      clear x0 x1 x2 x3 f2 f3 y0 y1 hsp
      go_loopg [] 2 (fun kq w' => ∃ t : List Int × Int × Int, Aside0 (MidOk t ∧ rnE t = rnE t0 ∧ (t.2.2 < 16777216 → 2 ≤ kq) ∧ 1 ≤ kq ∧ t.1.length + kq ≤ 1000002) ∧ Aside0 (MidAt w0 w S g (.slice (some ⟨bb, 0, none⟩) s.p.length c) s.p s.begun t w'))
      case atStart => exact ⟨t0, ⟨HM.out, rfl, fun _ => by omega, by omega, by have := HL1.out; omega⟩, HMID⟩
      case round =>
        obtain ⟨⟨out, low, size⟩, HI2, HMt⟩ := hrel
        obtain ⟨vo2, m1, m2, m3, m4, m5⟩ := HMt.out
        obtain ⟨A5, c5, rfl⟩ := Kd.R_slice m3
        have c1 : wr.cell? ⟨g, 1, none⟩ = some (.slice A5 out.length c5) := (blk_cell m1 1).trans rfl
        have c2 : wr.cell? ⟨g, 2, none⟩ = some (.int .i64 low) := (blk_cell m1 2).trans rfl
        have c3 : wr.cell? ⟨g, 3, none⟩ = some (.int .i64 size) := (blk_cell m1 3).trans rfl
        have c4 : wr.cell? ⟨g, 4, none⟩ = some (.bool s.begun) := (blk_cell m1 4).trans rfl
        have k4 := blk_frozen m1 4
        have k1 := blk_frozen m1 1
        have k2 := blk_frozen m1 2
        have k3 := blk_frozen m1 3
        have lo0 : 0 ≤ low := HI2.out.1.low0
        have lo1 : low ≤ 4294967295 := HI2.out.1.low1
        have HMM := Aside0.mk (And.intro m1 (And.intro m2 (And.intro m3 (And.intro m4 m5))))
        by_cases hlt : size < 16777216
        · have HLT := Aside0.mk hlt
          have a1 : (wr.alloc (.cells #[.int .u8 (low / 16777216)] 5)).cell? ⟨g, 1, none⟩ = some (.slice A5 out.length c5) := (blk_cell (blk_alloc m1 _) 1).trans rfl
          clear m1 m2 m3 m4 m5
          have hwr : IntKind.u8.wrap (low / 16777216) = low / 16777216 := by rw [IntKind.wrap_u8]; omega
          go_wp2
          go_region_law (refine out_append (w0 := w0) (W := wr) (ok := fun k => S k ∨ w.heap.size ≤ k) (by rfl) (.tmp 82) (.tmp 89) rfl (.slice A5 out.length c5) out (low / 16777216) rfl rfl ?fr HMM.out.2.2.1 HMM.out.2.2.2.1 ?hl ?_; (case fr => exact fun k hk => .inr (Nat.le_trans HMM.out.2.2.2.2.1 hk)); (case hl => have h9 := HI2.out.2.2.2.2; have h8 : (out, low, size).1.length = out.length := rfl; omega); intro v1 w1 hR1 hb1 hg1; obtain ⟨A6, c6, e6⟩ := Kd.R_slice hR1; have e7 : v1 = .slice A6 (out.length + 1) c6 := (by rw [e6, List.length_append]; rfl); clear e6; subst e7; have BK := blk_grown (blk_drew HMM.out.1) hg1 (Kd.R_ne HMM.out.2.2.1 HMM.out.1 (by decide)); have d1 : w1.cell? ⟨g, 1, none⟩ = some (.slice A5 out.length c5) := (blk_cell BK 1).trans rfl; have d2 : w1.cell? ⟨g, 2, none⟩ = some (.int .i64 low) := (blk_cell BK 2).trans rfl; have d3 : w1.cell? ⟨g, 3, none⟩ = some (.int .i64 size) := (blk_cell BK 3).trans rfl; have g1 := blk_frozen BK 1; have g2 := blk_frozen BK 2; have g3 := blk_frozen BK 3; have HN := Aside0.mk (And.intro BK (And.intro hR1 (And.intro hb1 hg1))); clear BK hR1 hb1 hg1)
          all_goals go_wp2
          all_goals go_roundg (gk - 1)
          case' measure => have h9 := HI2.out.2.2.2.1; omega
          all_goals first | (have h9 := HI2.out.2.2.2.1; omega) | skip
          all_goals
            obtain ⟨q1, q2, q3, q4⟩ := rnE_step HI2.out.1 HLT.out
            have hand : bits BinOp.and IntKind.i64 (low * 256) 4294967295 = low * 256 % 4294967296 := and_low lo0 lo1
            have hw64 : wrap64 (size * 256) = size * 256 := by have h9 := HI2.out.1.size1; have h8 := HI2.out.1.size0; have h7 : (out, low, size).2.2 = size := rfl; rw [h7] at h9 h8; exact wrap64_id (by omega) (by omega)
            refine ⟨(out ++ [low / 16777216], low * 256 % 4294967296, size * 256), ⟨q2, q3.trans HI2.out.2.1, fun h => absurd h q4, ?_, ?_⟩, ?_⟩
            · have h9 := HI2.out.2.2.1 HLT.out; omega
            · have h9 := HI2.out.2.2.2.2; have h8 := HI2.out.2.2.1 HLT.out; have h7 : (out, low, size).1.length = out.length := rfl; rw [h7] at h9; show (out ++ [low / 16777216]).length + (gk - 1) ≤ 1000002; rw [List.length_append, List.length_singleton]; omega
            · rw [hand, hw64]
              exact ⟨MidAt.step HMM.out.1 HMM.out.2.1 HMM.out.2.2.1 HMM.out.2.2.2.2 HN.out.1 HN.out.2.1 HN.out.2.2.1 HN.out.2.2.2 HX.out.2.1 HX.out.2.2.1 _ _⟩
        · have W0 : (wr.setCell ⟨g, 4, none⟩ (.bool true)).cell? ⟨g, 0, none⟩ = some (.slice (some ⟨bb, 0, none⟩) s.p.length c) := (blk_cell (blk_put m1 4 (.bool true) rfl) 0).trans rfl
          obtain ⟨z0, z1⟩ := Kd.R_cell (0 : Int) (Kd.R_set m2 m1 (by decide) 4 (.bool true)) (i : Int) (by omega) hil
          rw [Int.toNat_natCast] at z0 z1
          have hgb : g ≠ bb := fun e => Kd.R_ne m2 m1 (by decide) (by rw [e]; rfl)
          have HAD := Aside0.mk (adapt.calls (wr.setCell ⟨g, 4, none⟩ (.bool true)) g s.p.length c bb W0 i (rd s.p (i : Int)) 1 HI.out z0 z1 (by have h9 := HOK.out.p.get HI.out; omega) (by have h9 := HOK.out.p.get HI.out; omega) (.inr rfl) hgb)
          have HNL := Aside0.mk hlt
          clear m1 m2 m3 m4 m5 W0 z0 z1
          go_wp2_with (go_at_call 49; (with_reducible refine HAD.out.mono ?_); rintro e w9 ⟨rfl, ⟨nd, rfl⟩⟩)
          go_ret
          have hee : encE s i 1 = ⟨s.p.set i (adaptP (rd s.p (i : Int)) 1), out, low, size, true⟩ := by
            have h9 : rnE (out, low, size) = (out, low, size) := by unfold rnE; rw [if_neg (show ¬ size < 16777216 by have h8 := HNL.out; omega)]
            unfold encE
            rw [HT.out, ← HI2.out.2.1, h9]
          rw [hee]
          exact ⟨rfl, enc_done HMM.out.1 HMM.out.2.1 HMM.out.2.2.1 HMM.out.2.2.2.1 HMM.out.2.2.2.2 HX.out.2.1 HX.out.2.2.1 hb0 HOK.out.p0 nd i _⟩
end Go.Proofs.Ytfbdenlpoidnjaa.P
