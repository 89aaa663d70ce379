-- Written by a program of this session (wip/gen/pr.py, over the kit's print): Lean checks it.
import Derived.Test.YtnckglnnojcdmaaPx0
import Derived.Test.YtnckglnnojcdmaaWOpens
import Derived.KernelRfl
namespace Go.Proofs.Ytnckglnnojcdmaa.P
open Go.RowKit Go.Proofs.YtnckglnnojcdmaaW.PrintWords Go.Proofs.YtnckglnnojcdmaaW.Opens
set_option linter.unusedVariables false
theorem opens9 : Opens Try.prog 9 Kd.string (fun x => x.size ≤ 140737488351232) := opens_string Try.underlying9
def G42 (x : S42) : Prop := (x.f0.size ≤ 140737488351232) ∧ (x.f1.size ≤ 140737488351232)
theorem opens42 : Opens Try.prog 42 k42 G42 := Opens.of fun fuel => opens_struct Try.underlying42 (by kernel_rfl) (opens_cons rfl (by kernel_rfl) (opens9 fuel) (opens_last rfl (by kernel_rfl) (opens9 fuel))) (fun a => ⟨a.1, a.2⟩) (fun _ => rfl) (fun _ h => h)
theorem opens22 : Opens Try.prog 22 (Kd.slice 42 k42) (fun x => x.length * 32 ≤ 140737488351232 ∧ ∀ z ∈ x, G42 z) := Opens.of fun fuel => opens_slice Try.underlying22 (by kernel_rfl) (by kernel_rfl) (opens42 fuel)
theorem opens5 : Opens Try.prog 5 (Kd.int .u8) (fun x => (Lit.int .u8 x).wf = true) := opens_int Try.underlying5
theorem opens30 : Opens Try.prog 30 (Kd.slice 5 (Kd.int .u8)) (fun x => x.length * 1 ≤ 140737488351232 ∧ ∀ z ∈ x, ((Lit.int .u8 z).wf = true)) := Opens.of fun fuel => opens_slice Try.underlying30 (by kernel_rfl) (by kernel_rfl) (opens5 fuel)
end Go.Proofs.Ytnckglnnojcdmaa.P
