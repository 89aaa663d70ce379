-- The row of HullOrders (an array of arrays), after the rows that wip/gen/rowgen.py writes.
import Derived.Test.YtgijikbekckanaaRows
import Derived.Test.YtgijikbekckanaaOrdI
import Derived.Test.YtgijikbekckanaaOrdJ
import Derived.Test.YtgijikbekckanaaOrdP
import Derived.Test.YtgijikbekckanaaPO
import Derived.Test.YtgijikbekckanaaWOpens
import Derived.Test.YtgijikbekckanaaWArr
import Derived.WalkKit
import Derived.ProofKit
import Derived.OpenShut
import Derived.ShutString
import Derived.ChangeOld
import Derived.Below
import Derived.SizedLaws
namespace Go.Proofs.Ytgijikbekckanaa.P
open Go.RowKit Go.Proofs.YtgijikbekckanaaW.PrintWords Go.Proofs.YtgijikbekckanaaW.Opens
theorem opens27a : Opens Try.prog 27 (Kd.arr 2 (Kd.int .i64) (by decide)) (fun xs => xs.length = 2 ∧ ∀ x ∈ xs, (Lit.int .i64 x).wf = true) := Opens.of fun fuel => opens_arr Try.underlying27 (by kernel_rfl) (by kernel_rfl) (opens_int Try.underlying3 fuel)
theorem opens34a : Opens Try.prog 34 (Kd.arr 3 (Kd.arr 2 (Kd.int .i64) (by decide)) (by decide)) (fun xs => xs.length = 3 ∧ ∀ x ∈ xs, x.length = 2 ∧ ∀ y ∈ x, (Lit.int .i64 y).wf = true) := Opens.of fun fuel => opens_arr Try.underlying34 (by kernel_rfl) (by kernel_rfl) (opens27a fuel)
theorem two_in {W : World} {xs : List Int} {cs : List Value} (h : (Kd.arr 2 (Kd.int .i64) (by decide)).K W xs cs) : ∃ a b, cs = [.int .i64 a, .int .i64 b] := by
  obtain ⟨h1, h2⟩ := Kd.arr_cells h
  match xs, h1 with
  | [a, b], _ => exact ⟨a, b, by simpa [encs] using h2⟩
theorem six_cells {W : World} {xs : List (List Int)} {cs : Array Value} (h : (Kd.arr 3 (Kd.arr 2 (Kd.int .i64) (by decide)) (by decide)).K W xs cs.toList) : ∃ a b c d e f, cs = #[.int .i64 a, .int .i64 b, .int .i64 c, .int .i64 d, .int .i64 e, .int .i64 f] := by
  obtain ⟨h1, h2, h3⟩ := h
  match xs, h1 with
  | [x, y, z], _ =>
    have q0 := h3 0 x rfl
    have q1 := h3 1 y rfl
    have q2 := h3 2 z rfl
    obtain ⟨a, b, e0⟩ := two_in q0
    obtain ⟨c, d, e1⟩ := two_in q1
    obtain ⟨e, f, e2⟩ := two_in q2
    obtain ⟨l⟩ := cs
    have hl : l.length = 6 := h2
    match l, hl with
    | [v0, v1, v2, v3, v4, v5], _ =>
      have e0 : [v0, v1] = [.int .i64 a, .int .i64 b] := e0
      have e1 : [v2, v3] = [.int .i64 c, .int .i64 d] := e1
      have e2 : [v4, v5] = [.int .i64 e, .int .i64 f] := e2
      cases e0
      cases e1
      cases e2
      exact ⟨a, b, c, d, e, f, rfl⟩
theorem orders_calls (a0 a1 b0 b1 c0 c1 : Int) (w : World) : Calls Try.prog 7 #[.agg #[.int .i64 a0, .int .i64 a1, .int .i64 b0, .int .i64 b1, .int .i64 c0, .int .i64 c1]] w fun e w' => e = .returned (.bool true) ∧ Below w.heap.size w w' := by
  by_cases h : ranged a0 a1 ∧ ranged b0 b1 ∧ ranged c0 c1
  · obtain ⟨hA, hB, hC⟩ := h
    have f1 := st_three hA hB
    have f2 := st_three hB hC
    have f3 := st_three hA hC
    have f4 := st_neg hA hB
    have f5 := st_trans hA hB hC
    have f6 := st_self hA
    obtain ⟨p1, p2, p3, p4⟩ := hA
    obtain ⟨q1, q2, q3, q4⟩ := hB
    obtain ⟨r1, r2, r3, r4⟩ := hC
    have g : OrdCases (stP a0 a1 b0 b1) (stP b0 b1 c0 c1) (stP a0 a1 c0 c1) (stP b0 b1 a0 a1) := by
      generalize stP a0 a1 b0 b1 = x at *
      generalize stP b0 b1 c0 c1 = y at *
      generalize stP a0 a1 c0 c1 = z at *
      generalize stP b0 b1 a0 a1 = v at *
      clear p1 p2 p3 p4 q1 q2 q3 q4 r1 r2 r3 r4 f6
      rcases f1 with hx | hx | hx
      · exact .inl ⟨hx, by omega⟩
      · rcases f2 with hy | hy | hy
        · exact .inr (.inl ⟨hx, by omega, hy⟩)
        · have q := f5 (by omega) (by omega)
          rcases f3 with hz | hz | hz
          · omega
          · exact .inr (.inr (.inr (.inl ⟨hx, by omega, hy, hz⟩)))
          · exact .inr (.inr (.inr (.inr (.inl ⟨hx, by omega, hy, hz⟩))))
        · have q := f5 (by omega) (by omega)
          exact .inr (.inr (.inr (.inr (.inr (.inl ⟨hx, by omega, hy, by omega⟩)))))
      · rcases f2 with hy | hy | hy
        · exact .inr (.inr (.inl ⟨hx, by omega, hy⟩))
        · have q := f5 (by omega) (by omega)
          exact .inr (.inr (.inr (.inr (.inr (.inr (.inl ⟨hx, by omega, hy, by omega⟩))))))
        · have q := f5 (by omega) (by omega)
          exact .inr (.inr (.inr (.inr (.inr (.inr (.inr ⟨hx, by omega, hy, by omega⟩))))))
    have e1 : decide (a0 < 0) = false := decide_eq_false (by omega)
    have e2 : decide (70368744177664 < a0) = false := decide_eq_false (by omega)
    have e3 : decide (a1 < 0) = false := decide_eq_false (by omega)
    have e4 : decide (65535 < a1) = false := decide_eq_false (by omega)
    have e5 : decide (b0 < 0) = false := decide_eq_false (by omega)
    have e6 : decide (70368744177664 < b0) = false := decide_eq_false (by omega)
    have e7 : decide (b1 < 0) = false := decide_eq_false (by omega)
    have e8 : decide (65535 < b1) = false := decide_eq_false (by omega)
    have e9 : decide (c0 < 0) = false := decide_eq_false (by omega)
    have e10 : decide (70368744177664 < c0) = false := decide_eq_false (by omega)
    have e11 : decide (c1 < 0) = false := decide_eq_false (by omega)
    have e12 : decide (65535 < c1) = false := decide_eq_false (by omega)
    rcases g with ⟨x, v⟩ | ⟨x, v, y⟩ | ⟨x, v, y⟩ | ⟨x, v, y, z⟩ | ⟨x, v, y, z⟩ | ⟨x, v, y, z⟩ | ⟨x, v, y, z⟩ | ⟨x, v, y, z⟩
    · exact orders_in1 a0 a1 b0 b1 c0 c1 _ _ e1 e2 e3 e4 e5 e6 e7 e8 e9 e10 e11 e12 x rfl rfl v f6 w
    · exact orders_in2 a0 a1 b0 b1 c0 c1 _ e1 e2 e3 e4 e5 e6 e7 e8 e9 e10 e11 e12 x y rfl v f6 w
    · exact orders_in3 a0 a1 b0 b1 c0 c1 _ e1 e2 e3 e4 e5 e6 e7 e8 e9 e10 e11 e12 x y rfl v f6 w
    · exact orders_in4 a0 a1 b0 b1 c0 c1 e1 e2 e3 e4 e5 e6 e7 e8 e9 e10 e11 e12 x y z v f6 w
    · exact orders_in5 a0 a1 b0 b1 c0 c1 e1 e2 e3 e4 e5 e6 e7 e8 e9 e10 e11 e12 x y z v f6 w
    · exact orders_in6 a0 a1 b0 b1 c0 c1 e1 e2 e3 e4 e5 e6 e7 e8 e9 e10 e11 e12 x y z v f6 w
    · exact orders_in7 a0 a1 b0 b1 c0 c1 e1 e2 e3 e4 e5 e6 e7 e8 e9 e10 e11 e12 x y z v f6 w
    · exact orders_in8 a0 a1 b0 b1 c0 c1 e1 e2 e3 e4 e5 e6 e7 e8 e9 e10 e11 e12 x y z v f6 w
  · exact orders_out a0 a1 b0 b1 c0 c1 h w
end Go.Proofs.Ytgijikbekckanaa.P
namespace Go.Proofs.Ytgijikbekckanaa.hullOrders
open Go.ChangeShapes Go.WideShapes Go.ChangeAt Go.RowKit Go.Proofs.YtgijikbekckanaaW.PrintWords Go.Proofs.YtgijikbekckanaaW.Opens Go.Proofs.Ytgijikbekckanaa.P
open Go.ChangeMaps (open_string shut_string)
set_option linter.unusedVariables false
theorem own : ownKnob Try.prog.godebug = none := by kernel_rfl
theorem laidOut : laidOutB Try.prog = true := by kernel_rfl
set_option maxRecDepth 100000 in
theorem lifted (os : Os) (started : os.Started) (H : Type) (enc : TypeId × Value → H) :
  ReturnsInHanded {} Try.checked os 7 .any (Rows.hullOrdersSpec.pre6 enc Try.prog Try.f7 Rows.hullOrdersRow.domain false) (Rows.hullOrdersSpec.post enc Try.prog Try.f7 false true false false) := by
 refine returnsInHanded_of_change_sized (C := Try.checked) own started (by kernel_rfl) Try.func7
  (ChangeSpec.witness6 (enc := enc) (C := Try.checked) false ⟨#[], #[.agg #[.int .i64 0, .int .i64 0, .int .i64 0, .int .i64 0, .int .i64 0, .int .i64 0]], []⟩ 8 (by kernel_rfl) (by kernel_rfl) (by kernel_rfl) (by kernel_rfl)) ?_
 intro W base args ds gs before hval0 hW hcnd hsz0 _
 have hsz : (DataW.weightsEach Try.prog (Try.f7.params.toList ++ Rows.hullOrdersSpec.plain.varTypes Try.prog) (ds ++ gs)).all (· ≤ reachBytes) = true := hsz0
 have hval : ∀ (j : Nat) t v, Try.f7.params[j]? = some t → args[j]? = some v → Value.okWide Try.prog W .any base t v := hval0
 have hW' := hW
 obtain ⟨p, q, hA0, hV, rfl, hfz, hnd⟩ := hW
 have hA : DataW.TrodAll enc Try.prog W 0 (fun _ => true) true Try.f7.params.toList args.toList ds p := hA0
 rw [Try.params7] at hA hval hsz
 obtain ⟨v0, vs0, d0, ds0, p0, q0, hargs, rfl, rfl, h0, r0⟩ := trodAll_cons hA
 obtain ⟨rfl, rfl, rfl⟩ := trodAll_nil r0
 obtain rfl : args = #[v0] := by cases args; simp_all
 obtain ⟨rfl, rfl⟩ := trodVars_none hV
 have k0 := h0
 have lt0 : ∀ x ∈ p0, x.block < W.heap.size := by obtain ⟨m, hm⟩ := k0; exact DataW.trod_lt m _ _ _ hm
 obtain ⟨cs0, rfl⟩ := okWide_array Try.underlying34 (hval 0 34 v0 rfl rfl)
 obtain ⟨x0, hK0, g0⟩ := arg_agg P.opens34a h0 (weighed hsz (j := 0) (t := 34) rfl rfl)
 obtain ⟨a, b, c, d, e, f, rfl⟩ := P.six_cells hK0
 clear hA0 hval0 hsz0
 refine (P.orders_calls a b c d e f W).mono fun e W' ⟨he, bel⟩ => ?_
 subst he
 exact ⟨_, rfl, _, _, _, [], _, [], hW', trodAll_mk1 (shut_bool Try.underlying4 _), (trodAll_cons_mk (Below.trod laidOut (by kernel_rfl) (of_decide_eq_true (by kernel_rfl)) k0 bel lt0) trodAll_mk0), rfl, bel.frame _, fun h => by cases h⟩
theorem over : Rows.hullOrdersRow.holds Try.pinned (OpenSpec.ofChange Rows.hullOrdersSpec) :=
 OpenClaim.holds_of_wide 7 Try.f7 rfl rfl rfl rfl rfl rfl rfl ⟨rfl, rfl, rfl, rfl, rfl⟩ rfl rfl rfl rfl rfl (by kernel_rfl) Try.func7 (by kernel_rfl)
  (of_decide_eq_true (by kernel_rfl)) (by unfold Func.isWrapper; first | (rw [if_pos (by decide +kernel)]; kernel_rfl) | (rw [if_neg (by decide +kernel)]; exact ⟨rfl, rfl⟩))
  (fun os started H enc _ => lifted os started H enc)
theorem proved : Rows.HullOrdersSaid := over
#print axioms proved
end Go.Proofs.Ytgijikbekckanaa.hullOrders
namespace Go.Proofs.Ytgijikbekckanaa
/-- The row, under a short name, for the claim. -/
theorem hullOrders_holds : Rows.HullOrdersSaid := hullOrders.proved
end Go.Proofs.Ytgijikbekckanaa
