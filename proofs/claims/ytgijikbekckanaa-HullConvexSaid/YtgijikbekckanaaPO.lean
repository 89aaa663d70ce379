-- Written by a program of this session (wip/gen/pr.py, over the kit's print): Lean checks it.
import Derived.Test.YtgijikbekckanaaPx0
import Derived.Test.YtgijikbekckanaaWOpens
import Derived.KernelRfl
namespace Go.Proofs.Ytgijikbekckanaa.P
open Go.RowKit Go.Proofs.YtgijikbekckanaaW.PrintWords Go.Proofs.YtgijikbekckanaaW.Opens
set_option linter.unusedVariables false
theorem opens3 : Opens Try.prog 3 (Kd.int .i64) (fun x => (Lit.int .i64 x).wf = true) := opens_int Try.underlying3
theorem opens22 : Opens Try.prog 22 (Kd.slice 3 (Kd.int .i64)) (fun x => x.length * 8 ≤ 140737488351232 ∧ ∀ z ∈ x, ((Lit.int .i64 z).wf = true)) := Opens.of fun fuel => opens_slice Try.underlying22 (by kernel_rfl) (by kernel_rfl) (opens3 fuel)
def G24 (x : S24) : Prop := (x.f0.length * 8 ≤ 140737488351232 ∧ ∀ z ∈ x.f0, ((Lit.int .i64 z).wf = true)) ∧ (x.f1.length * 8 ≤ 140737488351232 ∧ ∀ z ∈ x.f1, ((Lit.int .i64 z).wf = true))
theorem opens24 : Opens Try.prog 24 k24 G24 := Opens.of fun fuel => opens_struct Try.underlying24 (by kernel_rfl) (opens_cons rfl (by kernel_rfl) (opens22 fuel) (opens_last rfl (by kernel_rfl) (opens22 fuel))) (fun a => ⟨a.1, a.2⟩) (fun _ => rfl) (fun _ h => h)
end Go.Proofs.Ytgijikbekckanaa.P
