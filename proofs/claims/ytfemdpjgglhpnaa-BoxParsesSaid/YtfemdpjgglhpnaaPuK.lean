/- What the reference's Super and Known answer. -/
import Derived.Test.YtfemdpjgglhpnaaPuA
import Derived.Test.YtfemdpjgglhpnaaPx1
set_option linter.unusedVariables false
set_option linter.unusedSimpArgs false
namespace Go.Proofs.Ytfemdpjgglhpnaa.P
open Go.RowKit Go.Proofs.YtfemdpjgglhpnaaW.PrintWords
theorem rsuper_f (a : ByteArray) : waveletref45_Super.f a = some (superP a) := by unfold waveletref45_Super.f superP; rw [tlB]
theorem rknown_f (a : ByteArray) : waveletref45_Known.f a = some (knownP a) := by
  unfold waveletref45_Known.f knownP
  simp only [tlB]
  repeat' split
  all_goals simp_all
end Go.Proofs.Ytfemdpjgglhpnaa.P
