/-
  NARROWER THAN 'FOR EVERY INPUT', by the rows' own cells (each row's printed sentence says how): BoxWrites: loops · BoxFinds: loops · BoxRestores: loops.
  DERIVED. THE GIVEN ROWS OF THIS SEAT. 6 by the template 'for every input the law returns true; each argument reads behind the call as it read before'; 0 by the template 'total and deterministic' (their statements: YtfemdpjgglhpnaaTotals.lean).
  GIVEN WITH THE SEED: the statements are not yours to turn. If you find one false, say at which input.
  Laid BY PROGRAM, IN A SANDBOX (cutbox-rows.mjs): the forced cells as the released guide's own fill.sh prints them over the translation 37bbc00e52d1b882… (all of the seat's roots in one cut). By AI agents, Wed Nov 11 2026. No macro, syntax, notation, axiom, sorry.
-/
import Derived.Test.YtfemdpjgglhpnaaChecked
import GoSem.Claim
import GoSem.ClaimJoined
import GoSem.ClaimMapViews
import Derived.JoinedTies
import Derived.KernelRfl
namespace Go.Proofs.Ytfemdpjgglhpnaa
/- THE CELL 'sum', in the pinned program and in every row, IS THE sha256 OF THE DUMP (.gsa) THAT YtfemdpjgglhpnaaProg.lean LOADS. Nothing in Lean hashes anything: it is a label: what it is worth is what the hold of that sum in a sandbox is worth. -/
noncomputable def Try.pinned : Pinned := { name := "ytfemdpjgglhpnaa", sum := "37bbc00e52d1b8828d6744cd449f066bde4978a5fda86f53b44e263a17e8a94b", checked := Try.checked }
namespace Rows
def none {H : Type} : Left H := { results := [], args := [] }

/-- 'waveletlaw45.BoxKinds': WHATEVER THE INPUT: true; the input reads as it did. -/
def boxKindsSpec : ChangeSpec := { name := "boxKinds", fn := fun _ => fun
  | [d] => { results := [.lit (.bool true)], args := [d] }
  | _ => none }
def boxKindsRow : OpenClaim := { program := "ytfemdpjgglhpnaa", sum := "37bbc00e52d1b8828d6744cd449f066bde4978a5fda86f53b44e263a17e8a94b", func := "wavelet/waveletlaw45.BoxKinds", spec := "boxKinds", recurses := true, apart := false }
def BoxKindsSaid : Prop := boxKindsRow.holds Try.pinned (OpenSpec.ofChange boxKindsSpec)

/-- ITS FALSE NEIGHBOUR: 'it returns false'. Refute it at one input. -/
def boxKindsWrong : ChangeSpec := { name := "boxKinds", fn := fun _ => fun
  | [d] => { results := [.lit (.bool false)], args := [d] }
  | _ => none }
def BoxKindsWrongFalsely : Prop := boxKindsRow.holds Try.pinned (OpenSpec.ofChange boxKindsWrong)

/-- 'waveletlaw45.BoxWrites': WHATEVER THE INPUT: true; the input reads as it did. -/
def boxWritesSpec : ChangeSpec := { name := "boxWrites", fn := fun _ => fun
  | [d] => { results := [.lit (.bool true)], args := [d] }
  | _ => none }
def boxWritesRow : OpenClaim := { program := "ytfemdpjgglhpnaa", sum := "37bbc00e52d1b8828d6744cd449f066bde4978a5fda86f53b44e263a17e8a94b", func := "wavelet/waveletlaw45.BoxWrites", spec := "boxWrites", recurses := true, loops := true, apart := false }
def BoxWritesSaid : Prop := boxWritesRow.holds Try.pinned (OpenSpec.ofChange boxWritesSpec)

/-- ITS FALSE NEIGHBOUR: 'it returns false'. Refute it at one input. -/
def boxWritesWrong : ChangeSpec := { name := "boxWrites", fn := fun _ => fun
  | [d] => { results := [.lit (.bool false)], args := [d] }
  | _ => none }
def BoxWritesWrongFalsely : Prop := boxWritesRow.holds Try.pinned (OpenSpec.ofChange boxWritesWrong)

/-- 'waveletlaw45.BoxParses': WHATEVER THE INPUT: true; the input reads as it did. -/
def boxParsesSpec : ChangeSpec := { name := "boxParses", fn := fun _ => fun
  | [d] => { results := [.lit (.bool true)], args := [d] }
  | _ => none }
def boxParsesRow : OpenClaim := { program := "ytfemdpjgglhpnaa", sum := "37bbc00e52d1b8828d6744cd449f066bde4978a5fda86f53b44e263a17e8a94b", func := "wavelet/waveletlaw45.BoxParses", spec := "boxParses", recurses := true, apart := false }
def BoxParsesSaid : Prop := boxParsesRow.holds Try.pinned (OpenSpec.ofChange boxParsesSpec)

/-- ITS FALSE NEIGHBOUR: 'it returns false'. Refute it at one input. -/
def boxParsesWrong : ChangeSpec := { name := "boxParses", fn := fun _ => fun
  | [d] => { results := [.lit (.bool false)], args := [d] }
  | _ => none }
def BoxParsesWrongFalsely : Prop := boxParsesRow.holds Try.pinned (OpenSpec.ofChange boxParsesWrong)

/-- 'waveletlaw45.BoxFinds': WHATEVER THE INPUT: true; the input reads as it did. -/
def boxFindsSpec : ChangeSpec := { name := "boxFinds", fn := fun _ => fun
  | [d1, d2, d3] => { results := [.lit (.bool true)], args := [d1, d2, d3] }
  | _ => none }
def boxFindsRow : OpenClaim := { program := "ytfemdpjgglhpnaa", sum := "37bbc00e52d1b8828d6744cd449f066bde4978a5fda86f53b44e263a17e8a94b", func := "wavelet/waveletlaw45.BoxFinds", spec := "boxFinds", recurses := true, loops := true, apart := false }
def BoxFindsSaid : Prop := boxFindsRow.holds Try.pinned (OpenSpec.ofChange boxFindsSpec)

/-- ITS FALSE NEIGHBOUR: 'it returns false'. Refute it at one input. -/
def boxFindsWrong : ChangeSpec := { name := "boxFinds", fn := fun _ => fun
  | [d1, d2, d3] => { results := [.lit (.bool false)], args := [d1, d2, d3] }
  | _ => none }
def BoxFindsWrongFalsely : Prop := boxFindsRow.holds Try.pinned (OpenSpec.ofChange boxFindsWrong)

/-- 'waveletlaw45.BoxRestores': WHATEVER THE INPUT: true; the input reads as it did. -/
def boxRestoresSpec : ChangeSpec := { name := "boxRestores", fn := fun _ => fun
  | [d] => { results := [.lit (.bool true)], args := [d] }
  | _ => none }
def boxRestoresRow : OpenClaim := { program := "ytfemdpjgglhpnaa", sum := "37bbc00e52d1b8828d6744cd449f066bde4978a5fda86f53b44e263a17e8a94b", func := "wavelet/waveletlaw45.BoxRestores", spec := "boxRestores", recurses := true, loops := true, apart := false }
def BoxRestoresSaid : Prop := boxRestoresRow.holds Try.pinned (OpenSpec.ofChange boxRestoresSpec)

/-- ITS FALSE NEIGHBOUR: 'it returns false'. Refute it at one input. -/
def boxRestoresWrong : ChangeSpec := { name := "boxRestores", fn := fun _ => fun
  | [d] => { results := [.lit (.bool false)], args := [d] }
  | _ => none }
def BoxRestoresWrongFalsely : Prop := boxRestoresRow.holds Try.pinned (OpenSpec.ofChange boxRestoresWrong)

/-- 'waveletlaw45.BoxEncodes': WHATEVER THE INPUT: true; the input reads as it did. -/
def boxEncodesSpec : ChangeSpec := { name := "boxEncodes", fn := fun _ => fun
  | [d1, d2] => { results := [.lit (.bool true)], args := [d1, d2] }
  | _ => none }
def boxEncodesRow : OpenClaim := { program := "ytfemdpjgglhpnaa", sum := "37bbc00e52d1b8828d6744cd449f066bde4978a5fda86f53b44e263a17e8a94b", func := "wavelet/waveletlaw45.BoxEncodes", spec := "boxEncodes", recurses := true, apart := false }
def BoxEncodesSaid : Prop := boxEncodesRow.holds Try.pinned (OpenSpec.ofChange boxEncodesSpec)

/-- ITS FALSE NEIGHBOUR: 'it returns false'. Refute it at one input. -/
def boxEncodesWrong : ChangeSpec := { name := "boxEncodes", fn := fun _ => fun
  | [d1, d2] => { results := [.lit (.bool false)], args := [d1, d2] }
  | _ => none }
def BoxEncodesWrongFalsely : Prop := boxEncodesRow.holds Try.pinned (OpenSpec.ofChange boxEncodesWrong)

/- THE SECOND FORM. 'bulk': how many values and letters a reading holds, each counted each time it is reached (what is shared counts as often as it is met; a slice's spare places count too). A statement '..UptoSaid' is the law's where the arguments, and the package variables that the reading takes, are together of bulk at most 1048576: NARROWER than '..Said'. Prove '..Said' where nothing that the law and all that it calls make is longer than what came in: it says more and counts as full. Else prove '..UptoSaid'. A law counts once. -/
mutual
def uptoBulk {H : Type} : DataW H → Nat
  | .lit (.string bytes) => bytes.length + 1
  | .lit _ => 1
  | .nil => 1
  | .ptr d => uptoBulk d + 1
  | .slice elems spare => uptoBulkAll elems + uptoBulkAll spare + 1
  | .agg parts => uptoBulkAll parts + 1
  | .iface _ d => uptoBulk d + 1
  | .map entries => uptoBulkEntries entries + 1
  | .held _ => 1
def uptoBulkAll {H : Type} : List (DataW H) → Nat
  | [] => 0
  | d :: r => uptoBulk d + uptoBulkAll r
def uptoBulkEntries {H : Type} : List (Lit × DataW H) → Nat
  | [] => 0
  | x :: r => uptoBulkEntry x + uptoBulkEntries r
def uptoBulkEntry {H : Type} : Lit × DataW H → Nat
  | (.string bytes, d) => bytes.length + uptoBulk d + 1
  | (_, d) => uptoBulk d + 1
 end
def uptoSmall : (H : Type) → List (DataW H) → Bool := fun _ ds => decide (uptoBulkAll ds ≤ 1048576)
def OpenSpec.upto (s : _root_.Go.ChangeSpec) : _root_.Go.OpenSpec := { _root_.Go.OpenSpec.ofChange s with cond := some uptoSmall }

/-- 'waveletlaw45.BoxKinds', WHERE WHAT IT READS IS OF BULK AT MOST 1048576: true; the input reads as it did. -/
def boxKindsUptoRow : OpenClaim := { program := "ytfemdpjgglhpnaa", sum := "37bbc00e52d1b8828d6744cd449f066bde4978a5fda86f53b44e263a17e8a94b", func := "wavelet/waveletlaw45.BoxKinds", spec := "boxKinds", recurses := true, apart := false, narrowed := true }
def BoxKindsUptoSaid : Prop := boxKindsUptoRow.holds Try.pinned (OpenSpec.upto boxKindsSpec)

/-- 'waveletlaw45.BoxWrites', WHERE WHAT IT READS IS OF BULK AT MOST 1048576: true; the input reads as it did. -/
def boxWritesUptoRow : OpenClaim := { program := "ytfemdpjgglhpnaa", sum := "37bbc00e52d1b8828d6744cd449f066bde4978a5fda86f53b44e263a17e8a94b", func := "wavelet/waveletlaw45.BoxWrites", spec := "boxWrites", recurses := true, loops := true, apart := false, narrowed := true }
def BoxWritesUptoSaid : Prop := boxWritesUptoRow.holds Try.pinned (OpenSpec.upto boxWritesSpec)

/-- 'waveletlaw45.BoxParses', WHERE WHAT IT READS IS OF BULK AT MOST 1048576: true; the input reads as it did. -/
def boxParsesUptoRow : OpenClaim := { program := "ytfemdpjgglhpnaa", sum := "37bbc00e52d1b8828d6744cd449f066bde4978a5fda86f53b44e263a17e8a94b", func := "wavelet/waveletlaw45.BoxParses", spec := "boxParses", recurses := true, apart := false, narrowed := true }
def BoxParsesUptoSaid : Prop := boxParsesUptoRow.holds Try.pinned (OpenSpec.upto boxParsesSpec)

/-- 'waveletlaw45.BoxFinds', WHERE WHAT IT READS IS OF BULK AT MOST 1048576: true; the input reads as it did. -/
def boxFindsUptoRow : OpenClaim := { program := "ytfemdpjgglhpnaa", sum := "37bbc00e52d1b8828d6744cd449f066bde4978a5fda86f53b44e263a17e8a94b", func := "wavelet/waveletlaw45.BoxFinds", spec := "boxFinds", recurses := true, loops := true, apart := false, narrowed := true }
def BoxFindsUptoSaid : Prop := boxFindsUptoRow.holds Try.pinned (OpenSpec.upto boxFindsSpec)

/-- 'waveletlaw45.BoxRestores', WHERE WHAT IT READS IS OF BULK AT MOST 1048576: true; the input reads as it did. -/
def boxRestoresUptoRow : OpenClaim := { program := "ytfemdpjgglhpnaa", sum := "37bbc00e52d1b8828d6744cd449f066bde4978a5fda86f53b44e263a17e8a94b", func := "wavelet/waveletlaw45.BoxRestores", spec := "boxRestores", recurses := true, loops := true, apart := false, narrowed := true }
def BoxRestoresUptoSaid : Prop := boxRestoresUptoRow.holds Try.pinned (OpenSpec.upto boxRestoresSpec)

/-- 'waveletlaw45.BoxEncodes', WHERE WHAT IT READS IS OF BULK AT MOST 1048576: true; the input reads as it did. -/
def boxEncodesUptoRow : OpenClaim := { program := "ytfemdpjgglhpnaa", sum := "37bbc00e52d1b8828d6744cd449f066bde4978a5fda86f53b44e263a17e8a94b", func := "wavelet/waveletlaw45.BoxEncodes", spec := "boxEncodes", recurses := true, apart := false, narrowed := true }
def BoxEncodesUptoSaid : Prop := boxEncodesUptoRow.holds Try.pinned (OpenSpec.upto boxEncodesSpec)

end Rows
end Go.Proofs.Ytfemdpjgglhpnaa
