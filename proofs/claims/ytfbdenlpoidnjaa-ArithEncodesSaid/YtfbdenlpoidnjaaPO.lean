-- Written by a program of this session (wip/gen/pr.py, over the kit's print): Lean checks it.
import Derived.Test.YtfbdenlpoidnjaaPx0
import Derived.Test.YtfbdenlpoidnjaaWOpens
import Derived.KernelRfl
namespace Go.Proofs.Ytfbdenlpoidnjaa.P
open Go.RowKit Go.Proofs.YtfbdenlpoidnjaaW.PrintWords Go.Proofs.YtfbdenlpoidnjaaW.Opens
set_option linter.unusedVariables false
theorem opens3 : Opens Try.prog 3 (Kd.int .i64) (fun x => (Lit.int .i64 x).wf = true) := opens_int Try.underlying3
def G69 (x : S69) : Prop := ((Lit.int .i64 x.f0).wf = true) ∧ ((Lit.int .i64 x.f1).wf = true)
theorem opens69 : Opens Try.prog 69 k69 G69 := Opens.of fun fuel => opens_struct Try.underlying69 (by kernel_rfl) (opens_cons rfl (by kernel_rfl) (opens3 fuel) (opens_last rfl (by kernel_rfl) (opens3 fuel))) (fun a => ⟨a.1, a.2⟩) (fun _ => rfl) (fun _ h => h)
theorem opens25 : Opens Try.prog 25 (Kd.slice 69 k69) (fun x => x.length * 16 ≤ 140737488351232 ∧ ∀ z ∈ x, G69 z) := Opens.of fun fuel => opens_slice Try.underlying25 (by kernel_rfl) (by kernel_rfl) (opens69 fuel)
theorem opens5 : Opens Try.prog 5 (Kd.int .u8) (fun x => (Lit.int .u8 x).wf = true) := opens_int Try.underlying5
theorem opens34 : Opens Try.prog 34 (Kd.slice 5 (Kd.int .u8)) (fun x => x.length * 1 ≤ 140737488351232 ∧ ∀ z ∈ x, ((Lit.int .u8 z).wf = true)) := Opens.of fun fuel => opens_slice Try.underlying34 (by kernel_rfl) (by kernel_rfl) (opens5 fuel)
def G48 (x : S48) : Prop := ((Lit.int .i64 x.f0).wf = true) ∧ ((Lit.int .i64 x.f1).wf = true) ∧ ((Lit.int .i64 x.f2).wf = true) ∧ (x.f3.length * 1 ≤ 140737488351232 ∧ ∀ z ∈ x.f3, ((Lit.int .u8 z).wf = true))
theorem opens48 : Opens Try.prog 48 k48 G48 := Opens.of fun fuel => opens_struct Try.underlying48 (by kernel_rfl) (opens_cons rfl (by kernel_rfl) (opens3 fuel) (opens_cons rfl (by kernel_rfl) (opens3 fuel) (opens_cons rfl (by kernel_rfl) (opens3 fuel) (opens_last rfl (by kernel_rfl) (opens34 fuel))))) (fun a => ⟨a.1, a.2.1, a.2.2.1, a.2.2.2⟩) (fun _ => rfl) (fun _ h => h)
theorem opens42 : Opens Try.prog 42 (Kd.slice 48 k48) (fun x => x.length * 48 ≤ 140737488351232 ∧ ∀ z ∈ x, G48 z) := Opens.of fun fuel => opens_slice Try.underlying42 (by kernel_rfl) (by kernel_rfl) (opens48 fuel)
end Go.Proofs.Ytfbdenlpoidnjaa.P
