-- Written by a program of this session (wip/gen/pr.py, over the kit's print): Lean checks it.
import Derived.Test.YtgmadhlebpbcpaaPx0
import Derived.Test.YtgmadhlebpbcpaaWOpens
import Derived.KernelRfl
namespace Go.Proofs.Ytgmadhlebpbcpaa.P
open Go.RowKit Go.Proofs.YtgmadhlebpbcpaaW.PrintWords Go.Proofs.YtgmadhlebpbcpaaW.Opens
set_option linter.unusedVariables false
theorem opens3 : Opens Try.prog 3 (Kd.int .i64) (fun x => (Lit.int .i64 x).wf = true) := opens_int Try.underlying3
theorem opens23 : Opens Try.prog 23 (Kd.slice 3 (Kd.int .i64)) (fun x => x.length * 8 ≤ 140737488351232 ∧ ∀ z ∈ x, ((Lit.int .i64 z).wf = true)) := Opens.of fun fuel => opens_slice Try.underlying23 (by kernel_rfl) (by kernel_rfl) (opens3 fuel)
def G37 (x : S37) : Prop := (x.f0.length * 8 ≤ 140737488351232 ∧ ∀ z ∈ x.f0, ((Lit.int .i64 z).wf = true)) ∧ (x.f1.length * 8 ≤ 140737488351232 ∧ ∀ z ∈ x.f1, ((Lit.int .i64 z).wf = true))
theorem opens37 : Opens Try.prog 37 k37 G37 := Opens.of fun fuel => opens_struct Try.underlying37 (by kernel_rfl) (opens_cons rfl (by kernel_rfl) (opens23 fuel) (opens_last rfl (by kernel_rfl) (opens23 fuel))) (fun a => ⟨a.1, a.2⟩) (fun _ => rfl) (fun _ h => h)
theorem opens22 : Opens Try.prog 22 (Kd.slice 37 k37) (fun x => x.length * 48 ≤ 140737488351232 ∧ ∀ z ∈ x, G37 z) := Opens.of fun fuel => opens_slice Try.underlying22 (by kernel_rfl) (by kernel_rfl) (opens37 fuel)
end Go.Proofs.Ytgmadhlebpbcpaa.P
