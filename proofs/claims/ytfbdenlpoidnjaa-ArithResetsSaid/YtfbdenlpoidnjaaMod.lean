/- The methods of arith's models, in plain terms: restart, has, split, adapt. -/
import Derived.Test.YtfbdenlpoidnjaaPx1
import Derived.LoopTactic
import Derived.WalkSpells
import Derived.Outline
import Derived.Lib.Hide
import Derived.Deep.RegionHeld3
import Derived.Deep.DrawnRows
set_option linter.unusedVariables false
set_option linter.unusedSimpArgs false
namespace Go.Proofs.Ytfbdenlpoidnjaa.P
open Go.RowKit Go.Proofs.YtfbdenlpoidnjaaW.PrintWords Go.Proofs.YtfbdenlpoidnjaaW.PrintLast Go.Proofs.YtfbdenlpoidnjaaW.PrintMore

/-- What lies behind a pointer to models: the row p, which is the call's own. -/
def Mods (w0 w : World) (S : Nat → Prop) (g : Nat) (vp : Value) (p : List Int) : Prop :=
  w.cell? ⟨g, 0, none⟩ = some vp ∧ (∃ cells t, w.heap[g]? = some (.cells cells t (0, 0)) ∧ t ≠ 3) ∧ Kd.R (Kd.int .i64) 3 w w0.heap.size S vp p ∧ p.length ≤ 1000
theorem rep_set (p : List Int) (i : Nat) (h : i < p.length) (x : Int) : (List.replicate i x ++ p.drop i).set i x = List.replicate (i + 1) x ++ p.drop (i + 1) := by
  rw [List.set_append_right _ _ (by simp), List.length_replicate, Nat.sub_self, List.drop_eq_getElem_cons h, List.set_cons_zero, List.replicate_succ', List.append_assoc]
  rfl
set_option maxHeartbeats 8000000 in
set_option maxRecDepth 100000 in
theorem restart.calls (w0 w : World) (S : Nat → Prop) (g : Nat) (vp : Value) (p : List Int) (hB : Below w0.heap.size w0 w) (h : Mods w0 w S g vp p) :
    Calls Try.prog 46 #[.pointer (some ⟨g, 0, none⟩)] w fun e w' => e = .returned (.tuple #[]) ∧ Kd.R (Kd.int .i64) 3 w' w0.heap.size S vp (List.replicate p.length 2048) ∧ Below w0.heap.size w0 w' ∧ Kept w w' (fun k => some k = vp.ownBlock) := by
  obtain ⟨hc, ⟨cells, t, hb, ht⟩, hR, hl⟩ := h
  have hne := Kd.R_ne hR hb (fun e => ht e.symm)
  by_cases hp : p.length = 0
  · have hp0 : p = [] := List.eq_nil_of_length_eq_zero hp
    subst hp0
    have HR := Aside0.mk hR
    have HB := Aside0.mk hB
    obtain ⟨A, c, rfl⟩ := Kd.R_slice hR
    have hc0 : w.cell? ⟨g, 0, none⟩ = some (.slice A 0 c) := hc
    clear hR hB hb hne hc
    go_enter Try.func46, Try.ntmps46
    go_wp2
    go_loopg [8] 1 (fun kq v8 w' => v8 = .int .i64 0 ∧ w' = w)
    case atStart => exact ⟨by first | rfl | simp, rfl⟩
    case round =>
      obtain ⟨rfl, rfl⟩ := hrel
      go_wp2
      first | go_end0 | ((try simp only [Exit.inBlock, Exit.then]); refine bodyPost_ret (results_none rfl _ _ _) rfl ?_)
      exact ⟨rfl, HR.out, HB.out, Kept.refl _ _⟩
  · obtain ⟨b, cap, rfl, hb0, hb1, _⟩ := Kd.R_form hR (by omega)
    have hgb : g ≠ b := fun e => hne (by subst e; rfl)
    have hgl := blk_lt hb
    have HB := Aside0.mk hB
    have HR := Aside0.mk hR
    have HL := Lib.hid hl
    have hl2 : (p.length : Int) ≤ 1000 := by omega
    have HC := Aside0.mk hc
    have HG := Aside0.mk (And.intro hgb (And.intro hgl (And.intro hb0 hb1)))
    clear hB hR hl hb ht hne hp hb0 hb1 hgl
    go_enter Try.func46, Try.ntmps46
    go_wp2
    go_loopg [8] (p.length + 1) (fun kq v8 w' => ∃ i : Nat, v8 = .int .i64 i ∧ Aside0 (i ≤ p.length ∧ kq + i = p.length + 1) ∧ Aside0 (Kd.R (Kd.int .i64) 3 w' w0.heap.size S (.slice (some ⟨b, 0, none⟩) (List.replicate i 2048 ++ p.drop i).length cap) (List.replicate i 2048 ++ p.drop i)) ∧ Aside0 (Kept w w' (fun k => some k = some b)) ∧ Aside0 (Below w0.heap.size w0 w'))
    case atStart => exact ⟨0, by first | rfl | simp, ⟨by omega, by omega⟩, ⟨by simpa using HR.out⟩, ⟨Kept.refl _ _⟩, HB⟩
    case round =>
      obtain ⟨i, rfl, HI, HRi, HKi, HBi⟩ := hrel
      have hil : (List.replicate i (2048 : Int) ++ p.drop i).length = p.length := by have := HI.out; simp; omega
      have hcr : wr.cell? ⟨g, 0, none⟩ = some (.slice (some ⟨b, 0, none⟩) p.length cap) := by
        rw [← HC.out]
        exact World.cell?_of_block (HKi.out.2 g HG.out.2.1 (fun e => hgb (Option.some.inj e)))
      by_cases hi : i < p.length
      · have hlt : (i : Int) < (p.length : Int) := by omega
        have hi0 : (0 : Int) ≤ (i : Int) := by omega
        obtain ⟨x1, x2⟩ := Kd.R_cell (0 : Int) HRi.out (i : Int) (by omega) (by rw [hil]; omega)
        rw [Int.toNat_natCast] at x1 x2
        have hput := Kd.R_put HRi.out (i : Int) (2048 : Int)
        rw [Int.toNat_natCast, rep_set p i hi] at hput
        have HPUT := Aside0.mk hput
        have HIL := Lib.hid hil
        have HLT := Aside0.mk hi
        clear hput hil hi
        go_wp2
        go_roundg (gk - 1)
        case measure => have := HI.out; omega
        case rel => exact ⟨i + 1, by first | rfl | simp, ⟨by have := HLT.out; omega, by have := HI.out; have := HLT.out; omega⟩, ⟨by have h := HPUT.out; rw [HIL.out] at h; have hl : (List.replicate (i + 1) (2048 : Int) ++ p.drop (i + 1)).length = p.length := (by have := HLT.out; simp; omega); rw [hl]; exact h.1⟩, ⟨Kept.setCell HKi.out (.inl rfl) _⟩, ⟨below_set HBi.out HG.out.2.2.1⟩⟩
      · have hge : ¬ (i : Int) < (p.length : Int) := by omega
        have hie : i = p.length := by have := HI.out; omega
        subst hie
        go_wp2
        first | go_end0 | ((try simp only [Exit.inBlock, Exit.then]); refine bodyPost_ret (results_none rfl _ _ _) rfl ?_)
        exact ⟨rfl, by have := HRi.out; rw [List.drop_length, List.append_nil] at this; simpa using this, HBi.out, HKi.out⟩
end Go.Proofs.Ytfbdenlpoidnjaa.P
