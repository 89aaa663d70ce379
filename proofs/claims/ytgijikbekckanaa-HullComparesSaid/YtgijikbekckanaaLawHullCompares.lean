-- The row of HullCompares (two arrays), after the rows that wip/gen/rowgen.py writes.
import Derived.Test.YtgijikbekckanaaRows
import Derived.Test.YtgijikbekckanaaCmp
import Derived.Test.YtgijikbekckanaaPO
import Derived.Test.YtgijikbekckanaaWOpens
import Derived.Test.YtgijikbekckanaaWArr
import Derived.WalkKit
import Derived.ProofKit
import Derived.OpenShut
import Derived.ShutString
import Derived.ChangeOld
import Derived.Below
import Derived.SizedLaws
namespace Go.Proofs.Ytgijikbekckanaa.P
open Go.RowKit Go.Proofs.YtgijikbekckanaaW.PrintWords Go.Proofs.YtgijikbekckanaaW.Opens
theorem opens27a : Opens Try.prog 27 (Kd.arr 2 (Kd.int .i64) (by decide)) (fun xs => xs.length = 2 ∧ ∀ x ∈ xs, (Lit.int .i64 x).wf = true) := Opens.of fun fuel => opens_arr Try.underlying27 (by kernel_rfl) (by kernel_rfl) (opens_int Try.underlying3 fuel)
theorem two_cells {W : World} {xs : List Int} {cs : Array Value} (h : (Kd.arr 2 (Kd.int .i64) (by decide)).K W xs cs.toList) : ∃ a b, cs = #[.int .i64 a, .int .i64 b] := by
  obtain ⟨h1, h2⟩ := Kd.arr_cells h
  match xs, h1 with
  | [a, b], _ => exact ⟨a, b, by cases cs; simpa [encs] using h2⟩
end Go.Proofs.Ytgijikbekckanaa.P
namespace Go.Proofs.Ytgijikbekckanaa.hullCompares
open Go.ChangeShapes Go.WideShapes Go.ChangeAt Go.RowKit Go.Proofs.YtgijikbekckanaaW.PrintWords Go.Proofs.YtgijikbekckanaaW.Opens Go.Proofs.Ytgijikbekckanaa.P
open Go.ChangeMaps (open_string shut_string)
set_option linter.unusedVariables false
theorem own : ownKnob Try.prog.godebug = none := by kernel_rfl
theorem laidOut : laidOutB Try.prog = true := by kernel_rfl
set_option maxRecDepth 100000 in
theorem lifted (os : Os) (started : os.Started) (H : Type) (enc : TypeId × Value → H) :
  ReturnsInHanded {} Try.checked os 4 .any (Rows.hullComparesSpec.pre6 enc Try.prog Try.f4 Rows.hullComparesRow.domain false) (Rows.hullComparesSpec.post enc Try.prog Try.f4 false true false false) := by
 refine returnsInHanded_of_change_sized (C := Try.checked) own started (by kernel_rfl) Try.func4
  (ChangeSpec.witness6 (enc := enc) (C := Try.checked) false ⟨#[], #[.agg #[.int .i64 0, .int .i64 0], .agg #[.int .i64 0, .int .i64 0]], []⟩ 8 (by kernel_rfl) (by kernel_rfl) (by kernel_rfl) (by kernel_rfl)) ?_
 intro W base args ds gs before hval0 hW hcnd hsz0 _
 have hsz : (DataW.weightsEach Try.prog (Try.f4.params.toList ++ Rows.hullComparesSpec.plain.varTypes Try.prog) (ds ++ gs)).all (· ≤ reachBytes) = true := hsz0
 have hval : ∀ (j : Nat) t v, Try.f4.params[j]? = some t → args[j]? = some v → Value.okWide Try.prog W .any base t v := hval0
 have hW' := hW
 obtain ⟨p, q, hA0, hV, rfl, hfz, hnd⟩ := hW
 have hA : DataW.TrodAll enc Try.prog W 0 (fun _ => true) true Try.f4.params.toList args.toList ds p := hA0
 rw [Try.params4] at hA hval hsz
 obtain ⟨v0, vs0, d0, ds0, p0, q0, hargs, rfl, rfl, h0, r0⟩ := trodAll_cons hA
 obtain ⟨v1, vs1, d1, ds1, p1, q1, rfl, rfl, rfl, h1, r1⟩ := trodAll_cons r0
 obtain ⟨rfl, rfl, rfl⟩ := trodAll_nil r1
 obtain rfl : args = #[v0, v1] := by cases args; simp_all
 obtain ⟨rfl, rfl⟩ := trodVars_none hV
 have k0 := h0
 have lt0 : ∀ x ∈ p0, x.block < W.heap.size := by obtain ⟨m, hm⟩ := k0; exact DataW.trod_lt m _ _ _ hm
 have k1 := h1
 have lt1 : ∀ x ∈ p1, x.block < W.heap.size := by obtain ⟨m, hm⟩ := k1; exact DataW.trod_lt m _ _ _ hm
 obtain ⟨cs0, rfl⟩ := okWide_array Try.underlying27 (hval 0 27 v0 rfl rfl)
 obtain ⟨cs1, rfl⟩ := okWide_array Try.underlying27 (hval 1 27 v1 rfl rfl)
 obtain ⟨x0, hK0, g0⟩ := arg_agg P.opens27a h0 (weighed hsz (j := 0) (t := 27) rfl rfl)
 obtain ⟨x1, hK1, g1⟩ := arg_agg P.opens27a h1 (weighed hsz (j := 1) (t := 27) rfl rfl)
 obtain ⟨a0, a1, rfl⟩ := P.two_cells hK0
 obtain ⟨b0, b1, rfl⟩ := P.two_cells hK1
 clear hA0 hval0 hsz0
 refine (P.compares_walk a0 a1 b0 b1 W).mono fun e W' ⟨he, bel⟩ => ?_
 subst he
 exact ⟨_, rfl, _, _, _, [], _, [], hW', trodAll_mk1 (shut_bool Try.underlying4 _), (trodAll_cons_mk (Below.trod laidOut (by kernel_rfl) (of_decide_eq_true (by kernel_rfl)) k0 bel lt0) (trodAll_cons_mk (Below.trod laidOut (by kernel_rfl) (of_decide_eq_true (by kernel_rfl)) k1 bel lt1) trodAll_mk0)), rfl, bel.frame _, fun h => by cases h⟩
theorem over : Rows.hullComparesRow.holds Try.pinned (OpenSpec.ofChange Rows.hullComparesSpec) :=
 OpenClaim.holds_of_wide 4 Try.f4 rfl rfl rfl rfl rfl rfl rfl ⟨rfl, rfl, rfl, rfl, rfl⟩ rfl rfl rfl rfl rfl (by kernel_rfl) Try.func4 (by kernel_rfl)
  (of_decide_eq_true (by kernel_rfl)) (by unfold Func.isWrapper; first | (rw [if_pos (by decide +kernel)]; kernel_rfl) | (rw [if_neg (by decide +kernel)]; exact ⟨rfl, rfl⟩))
  (fun os started H enc _ => lifted os started H enc)
theorem proved : Rows.HullComparesSaid := over
#print axioms proved
end Go.Proofs.Ytgijikbekckanaa.hullCompares
namespace Go.Proofs.Ytgijikbekckanaa
/-- The row, under a short name, for the claim. -/
theorem hullCompares_holds : Rows.HullComparesSaid := hullCompares.proved
end Go.Proofs.Ytgijikbekckanaa
