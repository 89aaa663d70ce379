/-
  No cell of these rows narrows 'for every input' (looked for: loops, veiled, ifaces, maps, wideKeys, modest, calm, conditions, laid).
  DERIVED. THE GIVEN ROWS OF THIS SEAT. 8 by the template 'for every input the law returns true; each argument reads behind the call as it read before'; 0 by the template 'total and deterministic' (their statements: YtfbdenlpoidnjaaTotals.lean).
  GIVEN WITH THE SEED: the statements are not yours to turn. If you find one false, say at which input.
  Laid BY PROGRAM, IN A SANDBOX (cutbox-rows.mjs): the forced cells as the released guide's own fill.sh prints them over the translation d0b4481fe6a3dfbe… (all of the seat's roots in one cut). By AI agents, Wed Nov 11 2026. No macro, syntax, notation, axiom, sorry.
-/
import Derived.Test.YtfbdenlpoidnjaaChecked
import GoSem.Claim
import GoSem.ClaimJoined
import GoSem.ClaimMapViews
import Derived.JoinedTies
import Derived.KernelRfl
namespace Go.Proofs.Ytfbdenlpoidnjaa
/- THE CELL 'sum', in the pinned program and in every row, IS THE sha256 OF THE DUMP (.gsa) THAT YtfbdenlpoidnjaaProg.lean LOADS. Nothing in Lean hashes anything: it is a label: what it is worth is what the hold of that sum in a sandbox is worth. -/
noncomputable def Try.pinned : Pinned := { name := "ytfbdenlpoidnjaa", sum := "d0b4481fe6a3dfbe718575a3116b03c584ee696e260adc9f5baec2f4b0d46a6b", checked := Try.checked }
namespace Rows
def none {H : Type} : Left H := { results := [], args := [] }

/-- 'waveletlaw11.ArithAdapts': WHATEVER THE INPUT: true; the input reads as it did. -/
def arithAdaptsSpec : ChangeSpec := { name := "arithAdapts", fn := fun _ => fun
  | [d1, d2] => { results := [.lit (.bool true)], args := [d1, d2] }
  | _ => none }
def arithAdaptsRow : OpenClaim := { program := "ytfbdenlpoidnjaa", sum := "d0b4481fe6a3dfbe718575a3116b03c584ee696e260adc9f5baec2f4b0d46a6b", func := "wavelet/waveletlaw11.ArithAdapts", spec := "arithAdapts", apart := false }
def ArithAdaptsSaid : Prop := arithAdaptsRow.holds Try.pinned (OpenSpec.ofChange arithAdaptsSpec)

/-- ITS FALSE NEIGHBOUR: 'it returns false'. Refute it at one input. -/
def arithAdaptsWrong : ChangeSpec := { name := "arithAdapts", fn := fun _ => fun
  | [d1, d2] => { results := [.lit (.bool false)], args := [d1, d2] }
  | _ => none }
def ArithAdaptsWrongFalsely : Prop := arithAdaptsRow.holds Try.pinned (OpenSpec.ofChange arithAdaptsWrong)

/-- 'waveletlaw11.ArithRestores': WHATEVER THE INPUT: true; the input reads as it did. -/
def arithRestoresSpec : ChangeSpec := { name := "arithRestores", fn := fun _ => fun
  | [d1, d2, d3] => { results := [.lit (.bool true)], args := [d1, d2, d3] }
  | _ => none }
def arithRestoresRow : OpenClaim := { program := "ytfbdenlpoidnjaa", sum := "d0b4481fe6a3dfbe718575a3116b03c584ee696e260adc9f5baec2f4b0d46a6b", func := "wavelet/waveletlaw11.ArithRestores", spec := "arithRestores", apart := false }
def ArithRestoresSaid : Prop := arithRestoresRow.holds Try.pinned (OpenSpec.ofChange arithRestoresSpec)

/-- ITS FALSE NEIGHBOUR: 'it returns false'. Refute it at one input. -/
def arithRestoresWrong : ChangeSpec := { name := "arithRestores", fn := fun _ => fun
  | [d1, d2, d3] => { results := [.lit (.bool false)], args := [d1, d2, d3] }
  | _ => none }
def ArithRestoresWrongFalsely : Prop := arithRestoresRow.holds Try.pinned (OpenSpec.ofChange arithRestoresWrong)

/-- 'waveletlaw11.ArithPrefixes': WHATEVER THE INPUT: true; the input reads as it did. -/
def arithPrefixesSpec : ChangeSpec := { name := "arithPrefixes", fn := fun _ => fun
  | [d1, d2, d3] => { results := [.lit (.bool true)], args := [d1, d2, d3] }
  | _ => none }
def arithPrefixesRow : OpenClaim := { program := "ytfbdenlpoidnjaa", sum := "d0b4481fe6a3dfbe718575a3116b03c584ee696e260adc9f5baec2f4b0d46a6b", func := "wavelet/waveletlaw11.ArithPrefixes", spec := "arithPrefixes", apart := false }
def ArithPrefixesSaid : Prop := arithPrefixesRow.holds Try.pinned (OpenSpec.ofChange arithPrefixesSpec)

/-- ITS FALSE NEIGHBOUR: 'it returns false'. Refute it at one input. -/
def arithPrefixesWrong : ChangeSpec := { name := "arithPrefixes", fn := fun _ => fun
  | [d1, d2, d3] => { results := [.lit (.bool false)], args := [d1, d2, d3] }
  | _ => none }
def ArithPrefixesWrongFalsely : Prop := arithPrefixesRow.holds Try.pinned (OpenSpec.ofChange arithPrefixesWrong)

/-- 'waveletlaw11.ArithShortest': WHATEVER THE INPUT: true; the input reads as it did. -/
def arithShortestSpec : ChangeSpec := { name := "arithShortest", fn := fun _ => fun
  | [d1, d2] => { results := [.lit (.bool true)], args := [d1, d2] }
  | _ => none }
def arithShortestRow : OpenClaim := { program := "ytfbdenlpoidnjaa", sum := "d0b4481fe6a3dfbe718575a3116b03c584ee696e260adc9f5baec2f4b0d46a6b", func := "wavelet/waveletlaw11.ArithShortest", spec := "arithShortest", apart := false }
def ArithShortestSaid : Prop := arithShortestRow.holds Try.pinned (OpenSpec.ofChange arithShortestSpec)

/-- ITS FALSE NEIGHBOUR: 'it returns false'. Refute it at one input. -/
def arithShortestWrong : ChangeSpec := { name := "arithShortest", fn := fun _ => fun
  | [d1, d2] => { results := [.lit (.bool false)], args := [d1, d2] }
  | _ => none }
def ArithShortestWrongFalsely : Prop := arithShortestRow.holds Try.pinned (OpenSpec.ofChange arithShortestWrong)

/-- 'waveletlaw11.ArithEncodes': WHATEVER THE INPUT: true; the input reads as it did. -/
def arithEncodesSpec : ChangeSpec := { name := "arithEncodes", fn := fun _ => fun
  | [d1, d2] => { results := [.lit (.bool true)], args := [d1, d2] }
  | _ => none }
def arithEncodesRow : OpenClaim := { program := "ytfbdenlpoidnjaa", sum := "d0b4481fe6a3dfbe718575a3116b03c584ee696e260adc9f5baec2f4b0d46a6b", func := "wavelet/waveletlaw11.ArithEncodes", spec := "arithEncodes", apart := false }
def ArithEncodesSaid : Prop := arithEncodesRow.holds Try.pinned (OpenSpec.ofChange arithEncodesSpec)

/-- ITS FALSE NEIGHBOUR: 'it returns false'. Refute it at one input. -/
def arithEncodesWrong : ChangeSpec := { name := "arithEncodes", fn := fun _ => fun
  | [d1, d2] => { results := [.lit (.bool false)], args := [d1, d2] }
  | _ => none }
def ArithEncodesWrongFalsely : Prop := arithEncodesRow.holds Try.pinned (OpenSpec.ofChange arithEncodesWrong)

/-- 'waveletlaw11.ArithDecodes': WHATEVER THE INPUT: true; the input reads as it did. -/
def arithDecodesSpec : ChangeSpec := { name := "arithDecodes", fn := fun _ => fun
  | [d1, d2] => { results := [.lit (.bool true)], args := [d1, d2] }
  | _ => none }
def arithDecodesRow : OpenClaim := { program := "ytfbdenlpoidnjaa", sum := "d0b4481fe6a3dfbe718575a3116b03c584ee696e260adc9f5baec2f4b0d46a6b", func := "wavelet/waveletlaw11.ArithDecodes", spec := "arithDecodes", apart := false }
def ArithDecodesSaid : Prop := arithDecodesRow.holds Try.pinned (OpenSpec.ofChange arithDecodesSpec)

/-- ITS FALSE NEIGHBOUR: 'it returns false'. Refute it at one input. -/
def arithDecodesWrong : ChangeSpec := { name := "arithDecodes", fn := fun _ => fun
  | [d1, d2] => { results := [.lit (.bool false)], args := [d1, d2] }
  | _ => none }
def ArithDecodesWrongFalsely : Prop := arithDecodesRow.holds Try.pinned (OpenSpec.ofChange arithDecodesWrong)

/-- 'waveletlaw11.ArithResets': WHATEVER THE INPUT: true; the input reads as it did. -/
def arithResetsSpec : ChangeSpec := { name := "arithResets", fn := fun _ => fun
  | [d1, d2, d3] => { results := [.lit (.bool true)], args := [d1, d2, d3] }
  | _ => none }
def arithResetsRow : OpenClaim := { program := "ytfbdenlpoidnjaa", sum := "d0b4481fe6a3dfbe718575a3116b03c584ee696e260adc9f5baec2f4b0d46a6b", func := "wavelet/waveletlaw11.ArithResets", spec := "arithResets", apart := false }
def ArithResetsSaid : Prop := arithResetsRow.holds Try.pinned (OpenSpec.ofChange arithResetsSpec)

/-- ITS FALSE NEIGHBOUR: 'it returns false'. Refute it at one input. -/
def arithResetsWrong : ChangeSpec := { name := "arithResets", fn := fun _ => fun
  | [d1, d2, d3] => { results := [.lit (.bool false)], args := [d1, d2, d3] }
  | _ => none }
def ArithResetsWrongFalsely : Prop := arithResetsRow.holds Try.pinned (OpenSpec.ofChange arithResetsWrong)

/-- 'waveletlaw11.ArithNone': WHATEVER THE INPUT: true; the input reads as it did. -/
def arithNoneSpec : ChangeSpec := { name := "arithNone", fn := fun _ => fun
  | [d1, d2, d3] => { results := [.lit (.bool true)], args := [d1, d2, d3] }
  | _ => none }
def arithNoneRow : OpenClaim := { program := "ytfbdenlpoidnjaa", sum := "d0b4481fe6a3dfbe718575a3116b03c584ee696e260adc9f5baec2f4b0d46a6b", func := "wavelet/waveletlaw11.ArithNone", spec := "arithNone", apart := false }
def ArithNoneSaid : Prop := arithNoneRow.holds Try.pinned (OpenSpec.ofChange arithNoneSpec)

/-- ITS FALSE NEIGHBOUR: 'it returns false'. Refute it at one input. -/
def arithNoneWrong : ChangeSpec := { name := "arithNone", fn := fun _ => fun
  | [d1, d2, d3] => { results := [.lit (.bool false)], args := [d1, d2, d3] }
  | _ => none }
def ArithNoneWrongFalsely : Prop := arithNoneRow.holds Try.pinned (OpenSpec.ofChange arithNoneWrong)

/- THE SECOND FORM. 'bulk': how many values and letters a reading holds, each counted each time it is reached (what is shared counts as often as it is met; a slice's spare places count too). A statement '..UptoSaid' is the law's where the arguments, and the package variables that the reading takes, are together of bulk at most 1048576: NARROWER than '..Said'. Prove '..Said' where nothing that the law and all that it calls make is longer than what came in: it says more and counts as full. Else prove '..UptoSaid'. A law counts once. -/
mutual
def uptoBulk {H : Type} : DataW H → Nat
  | .lit (.string bytes) => bytes.length + 1
  | .lit _ => 1
  | .nil => 1
  | .ptr d => uptoBulk d + 1
  | .slice elems spare => uptoBulkAll elems + uptoBulkAll spare + 1
  | .agg parts => uptoBulkAll parts + 1
  | .iface _ d => uptoBulk d + 1
  | .map entries => uptoBulkEntries entries + 1
  | .held _ => 1
def uptoBulkAll {H : Type} : List (DataW H) → Nat
  | [] => 0
  | d :: r => uptoBulk d + uptoBulkAll r
def uptoBulkEntries {H : Type} : List (Lit × DataW H) → Nat
  | [] => 0
  | x :: r => uptoBulkEntry x + uptoBulkEntries r
def uptoBulkEntry {H : Type} : Lit × DataW H → Nat
  | (.string bytes, d) => bytes.length + uptoBulk d + 1
  | (_, d) => uptoBulk d + 1
 end
def uptoSmall : (H : Type) → List (DataW H) → Bool := fun _ ds => decide (uptoBulkAll ds ≤ 1048576)
def OpenSpec.upto (s : _root_.Go.ChangeSpec) : _root_.Go.OpenSpec := { _root_.Go.OpenSpec.ofChange s with cond := some uptoSmall }

/-- 'waveletlaw11.ArithAdapts', WHERE WHAT IT READS IS OF BULK AT MOST 1048576: true; the input reads as it did. -/
def arithAdaptsUptoRow : OpenClaim := { program := "ytfbdenlpoidnjaa", sum := "d0b4481fe6a3dfbe718575a3116b03c584ee696e260adc9f5baec2f4b0d46a6b", func := "wavelet/waveletlaw11.ArithAdapts", spec := "arithAdapts", apart := false, narrowed := true }
def ArithAdaptsUptoSaid : Prop := arithAdaptsUptoRow.holds Try.pinned (OpenSpec.upto arithAdaptsSpec)

/-- 'waveletlaw11.ArithRestores', WHERE WHAT IT READS IS OF BULK AT MOST 1048576: true; the input reads as it did. -/
def arithRestoresUptoRow : OpenClaim := { program := "ytfbdenlpoidnjaa", sum := "d0b4481fe6a3dfbe718575a3116b03c584ee696e260adc9f5baec2f4b0d46a6b", func := "wavelet/waveletlaw11.ArithRestores", spec := "arithRestores", apart := false, narrowed := true }
def ArithRestoresUptoSaid : Prop := arithRestoresUptoRow.holds Try.pinned (OpenSpec.upto arithRestoresSpec)

/-- 'waveletlaw11.ArithPrefixes', WHERE WHAT IT READS IS OF BULK AT MOST 1048576: true; the input reads as it did. -/
def arithPrefixesUptoRow : OpenClaim := { program := "ytfbdenlpoidnjaa", sum := "d0b4481fe6a3dfbe718575a3116b03c584ee696e260adc9f5baec2f4b0d46a6b", func := "wavelet/waveletlaw11.ArithPrefixes", spec := "arithPrefixes", apart := false, narrowed := true }
def ArithPrefixesUptoSaid : Prop := arithPrefixesUptoRow.holds Try.pinned (OpenSpec.upto arithPrefixesSpec)

/-- 'waveletlaw11.ArithShortest', WHERE WHAT IT READS IS OF BULK AT MOST 1048576: true; the input reads as it did. -/
def arithShortestUptoRow : OpenClaim := { program := "ytfbdenlpoidnjaa", sum := "d0b4481fe6a3dfbe718575a3116b03c584ee696e260adc9f5baec2f4b0d46a6b", func := "wavelet/waveletlaw11.ArithShortest", spec := "arithShortest", apart := false, narrowed := true }
def ArithShortestUptoSaid : Prop := arithShortestUptoRow.holds Try.pinned (OpenSpec.upto arithShortestSpec)

/-- 'waveletlaw11.ArithEncodes', WHERE WHAT IT READS IS OF BULK AT MOST 1048576: true; the input reads as it did. -/
def arithEncodesUptoRow : OpenClaim := { program := "ytfbdenlpoidnjaa", sum := "d0b4481fe6a3dfbe718575a3116b03c584ee696e260adc9f5baec2f4b0d46a6b", func := "wavelet/waveletlaw11.ArithEncodes", spec := "arithEncodes", apart := false, narrowed := true }
def ArithEncodesUptoSaid : Prop := arithEncodesUptoRow.holds Try.pinned (OpenSpec.upto arithEncodesSpec)

/-- 'waveletlaw11.ArithDecodes', WHERE WHAT IT READS IS OF BULK AT MOST 1048576: true; the input reads as it did. -/
def arithDecodesUptoRow : OpenClaim := { program := "ytfbdenlpoidnjaa", sum := "d0b4481fe6a3dfbe718575a3116b03c584ee696e260adc9f5baec2f4b0d46a6b", func := "wavelet/waveletlaw11.ArithDecodes", spec := "arithDecodes", apart := false, narrowed := true }
def ArithDecodesUptoSaid : Prop := arithDecodesUptoRow.holds Try.pinned (OpenSpec.upto arithDecodesSpec)

/-- 'waveletlaw11.ArithResets', WHERE WHAT IT READS IS OF BULK AT MOST 1048576: true; the input reads as it did. -/
def arithResetsUptoRow : OpenClaim := { program := "ytfbdenlpoidnjaa", sum := "d0b4481fe6a3dfbe718575a3116b03c584ee696e260adc9f5baec2f4b0d46a6b", func := "wavelet/waveletlaw11.ArithResets", spec := "arithResets", apart := false, narrowed := true }
def ArithResetsUptoSaid : Prop := arithResetsUptoRow.holds Try.pinned (OpenSpec.upto arithResetsSpec)

/-- 'waveletlaw11.ArithNone', WHERE WHAT IT READS IS OF BULK AT MOST 1048576: true; the input reads as it did. -/
def arithNoneUptoRow : OpenClaim := { program := "ytfbdenlpoidnjaa", sum := "d0b4481fe6a3dfbe718575a3116b03c584ee696e260adc9f5baec2f4b0d46a6b", func := "wavelet/waveletlaw11.ArithNone", spec := "arithNone", apart := false, narrowed := true }
def ArithNoneUptoSaid : Prop := arithNoneUptoRow.holds Try.pinned (OpenSpec.upto arithNoneSpec)

end Rows
end Go.Proofs.Ytfbdenlpoidnjaa
