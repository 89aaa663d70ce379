/- For every string, box.Super and box.Known answer what the reference's Super and Known answer, and the chapter's examples hold: the printed law BoxKinds is true, under no condition but the size that memory allows. -/
import Derived.Test.YtfemdpjgglhpnaaPx7
import Derived.Test.YtfemdpjgglhpnaaPuC
namespace Go.Proofs.Ytfemdpjgglhpnaa.Pure
open Go.Proofs.Ytfemdpjgglhpnaa.P
theorem BoxKinds : waveletlaw45_BoxKinds.Pure := by
  intro a _
  have h1 : waveletref45_Super.f a = some (superP a) := by unfold waveletref45_Super.f superP; rw [tlB]
  have h2 : waveletref45_Known.f a = some (knownP a) := by
    unfold waveletref45_Known.f knownP
    simp only [tlB]
    repeat' split
    all_goals simp_all
  unfold waveletlaw45_BoxKinds.f
  rw [super_f, known_f, h1, h2]
  simp [waveletlaw45_awake.f]
end Go.Proofs.Ytfemdpjgglhpnaa.Pure
