/-
  No cell of these rows narrows 'for every input' (looked for: loops, veiled, ifaces, maps, wideKeys, modest, calm, conditions, laid).
  DERIVED. THE GIVEN ROWS OF THIS SEAT. 9 by the template 'for every input the law returns true; each argument reads behind the call as it read before'; 0 by the template 'total and deterministic' (their statements: YtnckglnnojcdmaaTotals.lean).
  GIVEN WITH THE SEED: the statements are not yours to turn. If you find one false, say at which input.
  Laid BY PROGRAM, IN A SANDBOX (cutbox-rows.mjs): the forced cells as the released guide's own fill.sh prints them over the translation ad355f126d02ff60… (all of the seat's roots in one cut). By AI agents, Wed Nov 11 2026. No macro, syntax, notation, axiom, sorry.
-/
import Derived.Test.YtnckglnnojcdmaaChecked
import GoSem.Claim
import GoSem.ClaimJoined
import GoSem.ClaimMapViews
import Derived.JoinedTies
import Derived.KernelRfl
namespace Go.Proofs.Ytnckglnnojcdmaa
/- THE CELL 'sum', in the pinned program and in every row, IS THE sha256 OF THE DUMP (.gsa) THAT YtnckglnnojcdmaaProg.lean LOADS. Nothing in Lean hashes anything: it is a label: what it is worth is what the hold of that sum in a sandbox is worth. -/
noncomputable def Try.pinned : Pinned := { name := "ytnckglnnojcdmaa", sum := "ad355f126d02ff600bdd93ca5e097a452ce9d3eb5da2e9cd47561c41dc96ab3a", checked := Try.checked }
namespace Rows
def none {H : Type} : Left H := { results := [], args := [] }

/-- 'waveletlaw47.MetaChecks': WHATEVER THE INPUT: true; the input reads as it did. -/
def metaChecksSpec : ChangeSpec := { name := "metaChecks", fn := fun _ => fun
  | [d] => { results := [.lit (.bool true)], args := [d] }
  | _ => none }
def metaChecksRow : OpenClaim := { program := "ytnckglnnojcdmaa", sum := "ad355f126d02ff600bdd93ca5e097a452ce9d3eb5da2e9cd47561c41dc96ab3a", func := "wavelet/waveletlaw47.MetaChecks", spec := "metaChecks", apart := false }
def MetaChecksSaid : Prop := metaChecksRow.holds Try.pinned (OpenSpec.ofChange metaChecksSpec)

/-- ITS FALSE NEIGHBOUR: 'it returns false'. Refute it at one input. -/
def metaChecksWrong : ChangeSpec := { name := "metaChecks", fn := fun _ => fun
  | [d] => { results := [.lit (.bool false)], args := [d] }
  | _ => none }
def MetaChecksWrongFalsely : Prop := metaChecksRow.holds Try.pinned (OpenSpec.ofChange metaChecksWrong)

/-- 'waveletlaw47.MetaFinds': WHATEVER THE INPUT: true; the input reads as it did. -/
def metaFindsSpec : ChangeSpec := { name := "metaFinds", fn := fun _ => fun
  | [d1, d2] => { results := [.lit (.bool true)], args := [d1, d2] }
  | _ => none }
def metaFindsRow : OpenClaim := { program := "ytnckglnnojcdmaa", sum := "ad355f126d02ff600bdd93ca5e097a452ce9d3eb5da2e9cd47561c41dc96ab3a", func := "wavelet/waveletlaw47.MetaFinds", spec := "metaFinds", apart := false }
def MetaFindsSaid : Prop := metaFindsRow.holds Try.pinned (OpenSpec.ofChange metaFindsSpec)

/-- ITS FALSE NEIGHBOUR: 'it returns false'. Refute it at one input. -/
def metaFindsWrong : ChangeSpec := { name := "metaFinds", fn := fun _ => fun
  | [d1, d2] => { results := [.lit (.bool false)], args := [d1, d2] }
  | _ => none }
def MetaFindsWrongFalsely : Prop := metaFindsRow.holds Try.pinned (OpenSpec.ofChange metaFindsWrong)

/-- 'waveletlaw47.MetaEncodes': WHATEVER THE INPUT: true; the input reads as it did. -/
def metaEncodesSpec : ChangeSpec := { name := "metaEncodes", fn := fun _ => fun
  | [d] => { results := [.lit (.bool true)], args := [d] }
  | _ => none }
def metaEncodesRow : OpenClaim := { program := "ytnckglnnojcdmaa", sum := "ad355f126d02ff600bdd93ca5e097a452ce9d3eb5da2e9cd47561c41dc96ab3a", func := "wavelet/waveletlaw47.MetaEncodes", spec := "metaEncodes", apart := false }
def MetaEncodesSaid : Prop := metaEncodesRow.holds Try.pinned (OpenSpec.ofChange metaEncodesSpec)

/-- ITS FALSE NEIGHBOUR: 'it returns false'. Refute it at one input. -/
def metaEncodesWrong : ChangeSpec := { name := "metaEncodes", fn := fun _ => fun
  | [d] => { results := [.lit (.bool false)], args := [d] }
  | _ => none }
def MetaEncodesWrongFalsely : Prop := metaEncodesRow.holds Try.pinned (OpenSpec.ofChange metaEncodesWrong)

/-- 'waveletlaw47.MetaMerges': WHATEVER THE INPUT: true; the input reads as it did. -/
def metaMergesSpec : ChangeSpec := { name := "metaMerges", fn := fun _ => fun
  | [d1, d2] => { results := [.lit (.bool true)], args := [d1, d2] }
  | _ => none }
def metaMergesRow : OpenClaim := { program := "ytnckglnnojcdmaa", sum := "ad355f126d02ff600bdd93ca5e097a452ce9d3eb5da2e9cd47561c41dc96ab3a", func := "wavelet/waveletlaw47.MetaMerges", spec := "metaMerges", apart := false }
def MetaMergesSaid : Prop := metaMergesRow.holds Try.pinned (OpenSpec.ofChange metaMergesSpec)

/-- ITS FALSE NEIGHBOUR: 'it returns false'. Refute it at one input. -/
def metaMergesWrong : ChangeSpec := { name := "metaMerges", fn := fun _ => fun
  | [d1, d2] => { results := [.lit (.bool false)], args := [d1, d2] }
  | _ => none }
def MetaMergesWrongFalsely : Prop := metaMergesRow.holds Try.pinned (OpenSpec.ofChange metaMergesWrong)

/-- 'waveletlaw47.MetaJoins': WHATEVER THE INPUT: true; the input reads as it did. -/
def metaJoinsSpec : ChangeSpec := { name := "metaJoins", fn := fun _ => fun
  | [d1, d2, d3] => { results := [.lit (.bool true)], args := [d1, d2, d3] }
  | _ => none }
def metaJoinsRow : OpenClaim := { program := "ytnckglnnojcdmaa", sum := "ad355f126d02ff600bdd93ca5e097a452ce9d3eb5da2e9cd47561c41dc96ab3a", func := "wavelet/waveletlaw47.MetaJoins", spec := "metaJoins", apart := false }
def MetaJoinsSaid : Prop := metaJoinsRow.holds Try.pinned (OpenSpec.ofChange metaJoinsSpec)

/-- ITS FALSE NEIGHBOUR: 'it returns false'. Refute it at one input. -/
def metaJoinsWrong : ChangeSpec := { name := "metaJoins", fn := fun _ => fun
  | [d1, d2, d3] => { results := [.lit (.bool false)], args := [d1, d2, d3] }
  | _ => none }
def MetaJoinsWrongFalsely : Prop := metaJoinsRow.holds Try.pinned (OpenSpec.ofChange metaJoinsWrong)

/-- 'waveletlaw47.MetaDecodes': WHATEVER THE INPUT: true; the input reads as it did. -/
def metaDecodesSpec : ChangeSpec := { name := "metaDecodes", fn := fun _ => fun
  | [d] => { results := [.lit (.bool true)], args := [d] }
  | _ => none }
def metaDecodesRow : OpenClaim := { program := "ytnckglnnojcdmaa", sum := "ad355f126d02ff600bdd93ca5e097a452ce9d3eb5da2e9cd47561c41dc96ab3a", func := "wavelet/waveletlaw47.MetaDecodes", spec := "metaDecodes", apart := false }
def MetaDecodesSaid : Prop := metaDecodesRow.holds Try.pinned (OpenSpec.ofChange metaDecodesSpec)

/-- ITS FALSE NEIGHBOUR: 'it returns false'. Refute it at one input. -/
def metaDecodesWrong : ChangeSpec := { name := "metaDecodes", fn := fun _ => fun
  | [d] => { results := [.lit (.bool false)], args := [d] }
  | _ => none }
def MetaDecodesWrongFalsely : Prop := metaDecodesRow.holds Try.pinned (OpenSpec.ofChange metaDecodesWrong)

/-- 'waveletlaw47.MetaRestores': WHATEVER THE INPUT: true; the input reads as it did. -/
def metaRestoresSpec : ChangeSpec := { name := "metaRestores", fn := fun _ => fun
  | [d1, d2] => { results := [.lit (.bool true)], args := [d1, d2] }
  | _ => none }
def metaRestoresRow : OpenClaim := { program := "ytnckglnnojcdmaa", sum := "ad355f126d02ff600bdd93ca5e097a452ce9d3eb5da2e9cd47561c41dc96ab3a", func := "wavelet/waveletlaw47.MetaRestores", spec := "metaRestores", apart := false }
def MetaRestoresSaid : Prop := metaRestoresRow.holds Try.pinned (OpenSpec.ofChange metaRestoresSpec)

/-- ITS FALSE NEIGHBOUR: 'it returns false'. Refute it at one input. -/
def metaRestoresWrong : ChangeSpec := { name := "metaRestores", fn := fun _ => fun
  | [d1, d2] => { results := [.lit (.bool false)], args := [d1, d2] }
  | _ => none }
def MetaRestoresWrongFalsely : Prop := metaRestoresRow.holds Try.pinned (OpenSpec.ofChange metaRestoresWrong)

/-- 'waveletlaw47.MetaEdits': WHATEVER THE INPUT: true; the input reads as it did. -/
def metaEditsSpec : ChangeSpec := { name := "metaEdits", fn := fun _ => fun
  | [d1, d2, d3] => { results := [.lit (.bool true)], args := [d1, d2, d3] }
  | _ => none }
def metaEditsRow : OpenClaim := { program := "ytnckglnnojcdmaa", sum := "ad355f126d02ff600bdd93ca5e097a452ce9d3eb5da2e9cd47561c41dc96ab3a", func := "wavelet/waveletlaw47.MetaEdits", spec := "metaEdits", apart := false }
def MetaEditsSaid : Prop := metaEditsRow.holds Try.pinned (OpenSpec.ofChange metaEditsSpec)

/-- ITS FALSE NEIGHBOUR: 'it returns false'. Refute it at one input. -/
def metaEditsWrong : ChangeSpec := { name := "metaEdits", fn := fun _ => fun
  | [d1, d2, d3] => { results := [.lit (.bool false)], args := [d1, d2, d3] }
  | _ => none }
def MetaEditsWrongFalsely : Prop := metaEditsRow.holds Try.pinned (OpenSpec.ofChange metaEditsWrong)

/-- 'waveletlaw47.MetaAccess': WHATEVER THE INPUT: true; the input reads as it did. -/
def metaAccessSpec : ChangeSpec := { name := "metaAccess", fn := fun _ => fun
  | [d1, d2, d3] => { results := [.lit (.bool true)], args := [d1, d2, d3] }
  | _ => none }
def metaAccessRow : OpenClaim := { program := "ytnckglnnojcdmaa", sum := "ad355f126d02ff600bdd93ca5e097a452ce9d3eb5da2e9cd47561c41dc96ab3a", func := "wavelet/waveletlaw47.MetaAccess", spec := "metaAccess", apart := false }
def MetaAccessSaid : Prop := metaAccessRow.holds Try.pinned (OpenSpec.ofChange metaAccessSpec)

/-- ITS FALSE NEIGHBOUR: 'it returns false'. Refute it at one input. -/
def metaAccessWrong : ChangeSpec := { name := "metaAccess", fn := fun _ => fun
  | [d1, d2, d3] => { results := [.lit (.bool false)], args := [d1, d2, d3] }
  | _ => none }
def MetaAccessWrongFalsely : Prop := metaAccessRow.holds Try.pinned (OpenSpec.ofChange metaAccessWrong)

/- THE SECOND FORM. 'bulk': how many values and letters a reading holds, each counted each time it is reached (what is shared counts as often as it is met; a slice's spare places count too). A statement '..UptoSaid' is the law's where the arguments, and the package variables that the reading takes, are together of bulk at most 1048576: NARROWER than '..Said'. Prove '..Said' where nothing that the law and all that it calls make is longer than what came in: it says more and counts as full. Else prove '..UptoSaid'. A law counts once. -/
mutual
def uptoBulk {H : Type} : DataW H → Nat
  | .lit (.string bytes) => bytes.length + 1
  | .lit _ => 1
  | .nil => 1
  | .ptr d => uptoBulk d + 1
  | .slice elems spare => uptoBulkAll elems + uptoBulkAll spare + 1
  | .agg parts => uptoBulkAll parts + 1
  | .iface _ d => uptoBulk d + 1
  | .map entries => uptoBulkEntries entries + 1
  | .held _ => 1
def uptoBulkAll {H : Type} : List (DataW H) → Nat
  | [] => 0
  | d :: r => uptoBulk d + uptoBulkAll r
def uptoBulkEntries {H : Type} : List (Lit × DataW H) → Nat
  | [] => 0
  | x :: r => uptoBulkEntry x + uptoBulkEntries r
def uptoBulkEntry {H : Type} : Lit × DataW H → Nat
  | (.string bytes, d) => bytes.length + uptoBulk d + 1
  | (_, d) => uptoBulk d + 1
 end
def uptoSmall : (H : Type) → List (DataW H) → Bool := fun _ ds => decide (uptoBulkAll ds ≤ 1048576)
def OpenSpec.upto (s : _root_.Go.ChangeSpec) : _root_.Go.OpenSpec := { _root_.Go.OpenSpec.ofChange s with cond := some uptoSmall }

/-- 'waveletlaw47.MetaChecks', WHERE WHAT IT READS IS OF BULK AT MOST 1048576: true; the input reads as it did. -/
def metaChecksUptoRow : OpenClaim := { program := "ytnckglnnojcdmaa", sum := "ad355f126d02ff600bdd93ca5e097a452ce9d3eb5da2e9cd47561c41dc96ab3a", func := "wavelet/waveletlaw47.MetaChecks", spec := "metaChecks", apart := false, narrowed := true }
def MetaChecksUptoSaid : Prop := metaChecksUptoRow.holds Try.pinned (OpenSpec.upto metaChecksSpec)

/-- 'waveletlaw47.MetaFinds', WHERE WHAT IT READS IS OF BULK AT MOST 1048576: true; the input reads as it did. -/
def metaFindsUptoRow : OpenClaim := { program := "ytnckglnnojcdmaa", sum := "ad355f126d02ff600bdd93ca5e097a452ce9d3eb5da2e9cd47561c41dc96ab3a", func := "wavelet/waveletlaw47.MetaFinds", spec := "metaFinds", apart := false, narrowed := true }
def MetaFindsUptoSaid : Prop := metaFindsUptoRow.holds Try.pinned (OpenSpec.upto metaFindsSpec)

/-- 'waveletlaw47.MetaEncodes', WHERE WHAT IT READS IS OF BULK AT MOST 1048576: true; the input reads as it did. -/
def metaEncodesUptoRow : OpenClaim := { program := "ytnckglnnojcdmaa", sum := "ad355f126d02ff600bdd93ca5e097a452ce9d3eb5da2e9cd47561c41dc96ab3a", func := "wavelet/waveletlaw47.MetaEncodes", spec := "metaEncodes", apart := false, narrowed := true }
def MetaEncodesUptoSaid : Prop := metaEncodesUptoRow.holds Try.pinned (OpenSpec.upto metaEncodesSpec)

/-- 'waveletlaw47.MetaMerges', WHERE WHAT IT READS IS OF BULK AT MOST 1048576: true; the input reads as it did. -/
def metaMergesUptoRow : OpenClaim := { program := "ytnckglnnojcdmaa", sum := "ad355f126d02ff600bdd93ca5e097a452ce9d3eb5da2e9cd47561c41dc96ab3a", func := "wavelet/waveletlaw47.MetaMerges", spec := "metaMerges", apart := false, narrowed := true }
def MetaMergesUptoSaid : Prop := metaMergesUptoRow.holds Try.pinned (OpenSpec.upto metaMergesSpec)

/-- 'waveletlaw47.MetaJoins', WHERE WHAT IT READS IS OF BULK AT MOST 1048576: true; the input reads as it did. -/
def metaJoinsUptoRow : OpenClaim := { program := "ytnckglnnojcdmaa", sum := "ad355f126d02ff600bdd93ca5e097a452ce9d3eb5da2e9cd47561c41dc96ab3a", func := "wavelet/waveletlaw47.MetaJoins", spec := "metaJoins", apart := false, narrowed := true }
def MetaJoinsUptoSaid : Prop := metaJoinsUptoRow.holds Try.pinned (OpenSpec.upto metaJoinsSpec)

/-- 'waveletlaw47.MetaDecodes', WHERE WHAT IT READS IS OF BULK AT MOST 1048576: true; the input reads as it did. -/
def metaDecodesUptoRow : OpenClaim := { program := "ytnckglnnojcdmaa", sum := "ad355f126d02ff600bdd93ca5e097a452ce9d3eb5da2e9cd47561c41dc96ab3a", func := "wavelet/waveletlaw47.MetaDecodes", spec := "metaDecodes", apart := false, narrowed := true }
def MetaDecodesUptoSaid : Prop := metaDecodesUptoRow.holds Try.pinned (OpenSpec.upto metaDecodesSpec)

/-- 'waveletlaw47.MetaRestores', WHERE WHAT IT READS IS OF BULK AT MOST 1048576: true; the input reads as it did. -/
def metaRestoresUptoRow : OpenClaim := { program := "ytnckglnnojcdmaa", sum := "ad355f126d02ff600bdd93ca5e097a452ce9d3eb5da2e9cd47561c41dc96ab3a", func := "wavelet/waveletlaw47.MetaRestores", spec := "metaRestores", apart := false, narrowed := true }
def MetaRestoresUptoSaid : Prop := metaRestoresUptoRow.holds Try.pinned (OpenSpec.upto metaRestoresSpec)

/-- 'waveletlaw47.MetaEdits', WHERE WHAT IT READS IS OF BULK AT MOST 1048576: true; the input reads as it did. -/
def metaEditsUptoRow : OpenClaim := { program := "ytnckglnnojcdmaa", sum := "ad355f126d02ff600bdd93ca5e097a452ce9d3eb5da2e9cd47561c41dc96ab3a", func := "wavelet/waveletlaw47.MetaEdits", spec := "metaEdits", apart := false, narrowed := true }
def MetaEditsUptoSaid : Prop := metaEditsUptoRow.holds Try.pinned (OpenSpec.upto metaEditsSpec)

/-- 'waveletlaw47.MetaAccess', WHERE WHAT IT READS IS OF BULK AT MOST 1048576: true; the input reads as it did. -/
def metaAccessUptoRow : OpenClaim := { program := "ytnckglnnojcdmaa", sum := "ad355f126d02ff600bdd93ca5e097a452ce9d3eb5da2e9cd47561c41dc96ab3a", func := "wavelet/waveletlaw47.MetaAccess", spec := "metaAccess", apart := false, narrowed := true }
def MetaAccessUptoSaid : Prop := metaAccessUptoRow.holds Try.pinned (OpenSpec.upto metaAccessSpec)

end Rows
end Go.Proofs.Ytnckglnnojcdmaa
