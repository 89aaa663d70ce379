/- What box.Parse answers: the list that the reader finds, or its error. -/
import Derived.Test.YtfemdpjgglhpnaaPx4
import Derived.Outline
import Derived.Lib.Hide
set_option linter.unusedVariables false
set_option linter.unusedSimpArgs false
namespace Go.Proofs.Ytfemdpjgglhpnaa.P
open Go.RowKit Go.Proofs.YtfemdpjgglhpnaaW.PrintWords Go.Proofs.YtfemdpjgglhpnaaW.PrintLast Go.Proofs.YtfemdpjgglhpnaaW.PrintMore
def box_Parse.f (k : Nat) (l0 : List Int) : Option (List S37 × Int) :=
  if l0.length > 67108864 then some ([], 5) else (box_reader_list.f k 0 l0 false).bind fun t => some (t.1, t.2.1)
theorem box_Parse.mono : ∀ a0 k, LeO (box_Parse.f k a0) (box_Parse.f (k + 1) a0) := by
  intro a0 k
  unfold box_Parse.f
  exact LeO.ite (LeO.refl _) (LeO.bind (box_reader_list.mono _ _ _ _) (fun _ => LeO.refl _))
set_option maxHeartbeats 1000000 in
theorem box_Parse.calls (k : Nat) (A0 : Option Addr) (c0 : Nat) (l0 : List Int) (r1 : List S37) (r2 : Int) (w : World) (hr0 : Kd.C (Kd.int .u8) w A0 l0.length l0) (hc0 : l0.length ≤ c0) (h : box_Parse.f k l0 = some (r1, r2)) :
    Calls Try.prog 19 #[.slice A0 l0.length c0] w fun e w' => ∃ v0_ : Value, e = .returned (.tuple #[v0_, .int .i64 r2]) ∧ Kd.R k37 37 w' w.heap.size (fun _ => True) v0_ r1 ∧ Below w.heap.size w w' := by
  unfold box_Parse.f at h
  by_cases hl : l0.length > 67108864
  · rw [if_pos hl] at h
    obtain ⟨rfl, rfl⟩ := Prod.mk.inj (Option.some.inj h)
    have h1 : 67108864 < (l0.length : Int) := by omega
    generalize l0.length = L at *
    clear hl h hr0
    go_enter Try.func19, Try.ntmps19
    go_wp2
    go_ret2
    exact ⟨_, rfl, Kd.R_nil _ _ _ _ _, Below.refl _ _⟩
  · rw [if_neg hl] at h
    obtain ⟨⟨x1, x2, x3⟩, hk, he⟩ := Option.bind_eq_some_iff.1 h
    obtain ⟨rfl, rfl⟩ := Prod.mk.inj (Option.some.inj he)
    have HK := Aside0.mk hk
    have hI : IsS48 w (w.alloc (.cells #[.int .i64 0] 48)) w.heap.size 0 := ⟨heap_alloc_new w _, Nat.le_refl _⟩
    have hV : Kd.V (Kd.int .u8) 5 (w.alloc (.cells #[.int .i64 0] 48)) (w.alloc (.cells #[.int .i64 0] 48)).heap.size (fun k_ => k_ < w.heap.size ∧ k_ ≠ w.heap.size) (.slice A0 l0.length c0) l0 :=
      Kd.V_mk hc0 (Kd.F_below (Kd.F_mono (Kd.C_F (Kd.heap_int .u8) hr0) (fun k hk => ⟨hk, by omega⟩)) (below_alloc (Below.refl _ _) _))
    have HI := Aside0.mk hI
    have HV := Aside0.mk hV
    have HB := Aside0.mk (below_alloc (Below.refl w.heap.size w) (.cells #[.int .i64 0] 48))
    have h1 : ¬ 67108864 < (l0.length : Int) := by omega
    clear hl h hr0 hk he hI hV hc0
    go_enter Try.func19, Try.ntmps19
    go_wp2_with (go_at_call 33; (with_reducible refine (box_reader_list.calls k w.heap.size 0 _ A0 c0 l0 false x1 x2 x3 w _ HI.out HB.out HV.out HK.out).mono ?_); rintro e w' ⟨v0_, rfl, hR, hS, hb, _⟩; have HR2 := Aside0.mk (Kd.R_lower (Kd.R_mono (ok' := fun _ => True) hR (fun _ _ => trivial)) HB.out.size); have HB2 := Aside0.mk hb; clear hR hS hb)
    go_ret2
    exact ⟨_, rfl, HR2.out, HB2.out⟩
end Go.Proofs.Ytfemdpjgglhpnaa.P
