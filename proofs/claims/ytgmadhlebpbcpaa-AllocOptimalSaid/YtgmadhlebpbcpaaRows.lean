/-
  No cell of these rows narrows 'for every input' (looked for: loops, veiled, ifaces, maps, wideKeys, modest, calm, conditions, laid).
  DERIVED. THE GIVEN ROWS OF THIS SEAT. 6 by the template 'for every input the law returns true; each argument reads behind the call as it read before'; 0 by the template 'total and deterministic' (their statements: YtgmadhlebpbcpaaTotals.lean).
  GIVEN WITH THE SEED: the statements are not yours to turn. If you find one false, say at which input.
  Laid BY PROGRAM, IN A SANDBOX (cutbox-rows.mjs): the forced cells as the released guide's own fill.sh prints them over the translation 9a7bac422081d1c6… (all of the seat's roots in one cut). By AI agents, Wed Nov 11 2026. No macro, syntax, notation, axiom, sorry.
-/
import Derived.Test.YtgmadhlebpbcpaaChecked
import GoSem.Claim
import GoSem.ClaimJoined
import GoSem.ClaimMapViews
import Derived.JoinedTies
import Derived.KernelRfl
namespace Go.Proofs.Ytgmadhlebpbcpaa
/- THE CELL 'sum', in the pinned program and in every row, IS THE sha256 OF THE DUMP (.gsa) THAT YtgmadhlebpbcpaaProg.lean LOADS. Nothing in Lean hashes anything: it is a label: what it is worth is what the hold of that sum in a sandbox is worth. -/
noncomputable def Try.pinned : Pinned := { name := "ytgmadhlebpbcpaa", sum := "9a7bac422081d1c6961ec9508473270708912e894780c61bd40560d40050a66e", checked := Try.checked }
namespace Rows
def none {H : Type} : Left H := { results := [], args := [] }

/-- 'waveletlaw21.AllocLayers': WHATEVER THE INPUT: true; the input reads as it did. -/
def allocLayersSpec : ChangeSpec := { name := "allocLayers", fn := fun _ => fun
  | [d1, d2] => { results := [.lit (.bool true)], args := [d1, d2] }
  | _ => none }
def allocLayersRow : OpenClaim := { program := "ytgmadhlebpbcpaa", sum := "9a7bac422081d1c6961ec9508473270708912e894780c61bd40560d40050a66e", func := "wavelet/waveletlaw21.AllocLayers", spec := "allocLayers", unfollowed := true, recurses := true, apart := false }
def AllocLayersSaid : Prop := allocLayersRow.holds Try.pinned (OpenSpec.ofChange allocLayersSpec)

/-- ITS FALSE NEIGHBOUR: 'it returns false'. Refute it at one input. -/
def allocLayersWrong : ChangeSpec := { name := "allocLayers", fn := fun _ => fun
  | [d1, d2] => { results := [.lit (.bool false)], args := [d1, d2] }
  | _ => none }
def AllocLayersWrongFalsely : Prop := allocLayersRow.holds Try.pinned (OpenSpec.ofChange allocLayersWrong)

/-- 'waveletlaw21.AllocLimits': WHATEVER THE INPUT: true; the input reads as it did. -/
def allocLimitsSpec : ChangeSpec := { name := "allocLimits", fn := fun _ => fun
  | [d1, d2] => { results := [.lit (.bool true)], args := [d1, d2] }
  | _ => none }
def allocLimitsRow : OpenClaim := { program := "ytgmadhlebpbcpaa", sum := "9a7bac422081d1c6961ec9508473270708912e894780c61bd40560d40050a66e", func := "wavelet/waveletlaw21.AllocLimits", spec := "allocLimits", unfollowed := true, recurses := true, apart := false }
def AllocLimitsSaid : Prop := allocLimitsRow.holds Try.pinned (OpenSpec.ofChange allocLimitsSpec)

/-- ITS FALSE NEIGHBOUR: 'it returns false'. Refute it at one input. -/
def allocLimitsWrong : ChangeSpec := { name := "allocLimits", fn := fun _ => fun
  | [d1, d2] => { results := [.lit (.bool false)], args := [d1, d2] }
  | _ => none }
def AllocLimitsWrongFalsely : Prop := allocLimitsRow.holds Try.pinned (OpenSpec.ofChange allocLimitsWrong)

/-- 'waveletlaw21.AllocCost': WHATEVER THE INPUT: true; the input reads as it did. -/
def allocCostSpec : ChangeSpec := { name := "allocCost", fn := fun _ => fun
  | [d1, d2] => { results := [.lit (.bool true)], args := [d1, d2] }
  | _ => none }
def allocCostRow : OpenClaim := { program := "ytgmadhlebpbcpaa", sum := "9a7bac422081d1c6961ec9508473270708912e894780c61bd40560d40050a66e", func := "wavelet/waveletlaw21.AllocCost", spec := "allocCost", unfollowed := true, recurses := true, apart := false }
def AllocCostSaid : Prop := allocCostRow.holds Try.pinned (OpenSpec.ofChange allocCostSpec)

/-- ITS FALSE NEIGHBOUR: 'it returns false'. Refute it at one input. -/
def allocCostWrong : ChangeSpec := { name := "allocCost", fn := fun _ => fun
  | [d1, d2] => { results := [.lit (.bool false)], args := [d1, d2] }
  | _ => none }
def AllocCostWrongFalsely : Prop := allocCostRow.holds Try.pinned (OpenSpec.ofChange allocCostWrong)

/-- 'waveletlaw21.AllocChoose': WHATEVER THE INPUT: true; the input reads as it did. -/
def allocChooseSpec : ChangeSpec := { name := "allocChoose", fn := fun _ => fun
  | [d1, d2] => { results := [.lit (.bool true)], args := [d1, d2] }
  | _ => none }
def allocChooseRow : OpenClaim := { program := "ytgmadhlebpbcpaa", sum := "9a7bac422081d1c6961ec9508473270708912e894780c61bd40560d40050a66e", func := "wavelet/waveletlaw21.AllocChoose", spec := "allocChoose", unfollowed := true, recurses := true, apart := false }
def AllocChooseSaid : Prop := allocChooseRow.holds Try.pinned (OpenSpec.ofChange allocChooseSpec)

/-- ITS FALSE NEIGHBOUR: 'it returns false'. Refute it at one input. -/
def allocChooseWrong : ChangeSpec := { name := "allocChoose", fn := fun _ => fun
  | [d1, d2] => { results := [.lit (.bool false)], args := [d1, d2] }
  | _ => none }
def AllocChooseWrongFalsely : Prop := allocChooseRow.holds Try.pinned (OpenSpec.ofChange allocChooseWrong)

/-- 'waveletlaw21.AllocOptimal': WHATEVER THE INPUT: true; the input reads as it did. -/
def allocOptimalSpec : ChangeSpec := { name := "allocOptimal", fn := fun _ => fun
  | [d1, d2] => { results := [.lit (.bool true)], args := [d1, d2] }
  | _ => none }
def allocOptimalRow : OpenClaim := { program := "ytgmadhlebpbcpaa", sum := "9a7bac422081d1c6961ec9508473270708912e894780c61bd40560d40050a66e", func := "wavelet/waveletlaw21.AllocOptimal", spec := "allocOptimal", unfollowed := true, recurses := true, apart := false }
def AllocOptimalSaid : Prop := allocOptimalRow.holds Try.pinned (OpenSpec.ofChange allocOptimalSpec)

/-- ITS FALSE NEIGHBOUR: 'it returns false'. Refute it at one input. -/
def allocOptimalWrong : ChangeSpec := { name := "allocOptimal", fn := fun _ => fun
  | [d1, d2] => { results := [.lit (.bool false)], args := [d1, d2] }
  | _ => none }
def AllocOptimalWrongFalsely : Prop := allocOptimalRow.holds Try.pinned (OpenSpec.ofChange allocOptimalWrong)

/-- 'waveletlaw21.AllocNested': WHATEVER THE INPUT: true; the input reads as it did. -/
def allocNestedSpec : ChangeSpec := { name := "allocNested", fn := fun _ => fun
  | [d1, d2, d3] => { results := [.lit (.bool true)], args := [d1, d2, d3] }
  | _ => none }
def allocNestedRow : OpenClaim := { program := "ytgmadhlebpbcpaa", sum := "9a7bac422081d1c6961ec9508473270708912e894780c61bd40560d40050a66e", func := "wavelet/waveletlaw21.AllocNested", spec := "allocNested", unfollowed := true, recurses := true, apart := false }
def AllocNestedSaid : Prop := allocNestedRow.holds Try.pinned (OpenSpec.ofChange allocNestedSpec)

/-- ITS FALSE NEIGHBOUR: 'it returns false'. Refute it at one input. -/
def allocNestedWrong : ChangeSpec := { name := "allocNested", fn := fun _ => fun
  | [d1, d2, d3] => { results := [.lit (.bool false)], args := [d1, d2, d3] }
  | _ => none }
def AllocNestedWrongFalsely : Prop := allocNestedRow.holds Try.pinned (OpenSpec.ofChange allocNestedWrong)

/- THE SECOND FORM. 'bulk': how many values and letters a reading holds, each counted each time it is reached (what is shared counts as often as it is met; a slice's spare places count too). A statement '..UptoSaid' is the law's where the arguments, and the package variables that the reading takes, are together of bulk at most 1048576: NARROWER than '..Said'. Prove '..Said' where nothing that the law and all that it calls make is longer than what came in: it says more and counts as full. Else prove '..UptoSaid'. A law counts once. -/
mutual
def uptoBulk {H : Type} : DataW H → Nat
  | .lit (.string bytes) => bytes.length + 1
  | .lit _ => 1
  | .nil => 1
  | .ptr d => uptoBulk d + 1
  | .slice elems spare => uptoBulkAll elems + uptoBulkAll spare + 1
  | .agg parts => uptoBulkAll parts + 1
  | .iface _ d => uptoBulk d + 1
  | .map entries => uptoBulkEntries entries + 1
  | .held _ => 1
def uptoBulkAll {H : Type} : List (DataW H) → Nat
  | [] => 0
  | d :: r => uptoBulk d + uptoBulkAll r
def uptoBulkEntries {H : Type} : List (Lit × DataW H) → Nat
  | [] => 0
  | x :: r => uptoBulkEntry x + uptoBulkEntries r
def uptoBulkEntry {H : Type} : Lit × DataW H → Nat
  | (.string bytes, d) => bytes.length + uptoBulk d + 1
  | (_, d) => uptoBulk d + 1
 end
def uptoSmall : (H : Type) → List (DataW H) → Bool := fun _ ds => decide (uptoBulkAll ds ≤ 1048576)
def OpenSpec.upto (s : _root_.Go.ChangeSpec) : _root_.Go.OpenSpec := { _root_.Go.OpenSpec.ofChange s with cond := some uptoSmall }

/-- 'waveletlaw21.AllocLayers', WHERE WHAT IT READS IS OF BULK AT MOST 1048576: true; the input reads as it did. -/
def allocLayersUptoRow : OpenClaim := { program := "ytgmadhlebpbcpaa", sum := "9a7bac422081d1c6961ec9508473270708912e894780c61bd40560d40050a66e", func := "wavelet/waveletlaw21.AllocLayers", spec := "allocLayers", unfollowed := true, recurses := true, apart := false, narrowed := true }
def AllocLayersUptoSaid : Prop := allocLayersUptoRow.holds Try.pinned (OpenSpec.upto allocLayersSpec)

/-- 'waveletlaw21.AllocLimits', WHERE WHAT IT READS IS OF BULK AT MOST 1048576: true; the input reads as it did. -/
def allocLimitsUptoRow : OpenClaim := { program := "ytgmadhlebpbcpaa", sum := "9a7bac422081d1c6961ec9508473270708912e894780c61bd40560d40050a66e", func := "wavelet/waveletlaw21.AllocLimits", spec := "allocLimits", unfollowed := true, recurses := true, apart := false, narrowed := true }
def AllocLimitsUptoSaid : Prop := allocLimitsUptoRow.holds Try.pinned (OpenSpec.upto allocLimitsSpec)

/-- 'waveletlaw21.AllocCost', WHERE WHAT IT READS IS OF BULK AT MOST 1048576: true; the input reads as it did. -/
def allocCostUptoRow : OpenClaim := { program := "ytgmadhlebpbcpaa", sum := "9a7bac422081d1c6961ec9508473270708912e894780c61bd40560d40050a66e", func := "wavelet/waveletlaw21.AllocCost", spec := "allocCost", unfollowed := true, recurses := true, apart := false, narrowed := true }
def AllocCostUptoSaid : Prop := allocCostUptoRow.holds Try.pinned (OpenSpec.upto allocCostSpec)

/-- 'waveletlaw21.AllocChoose', WHERE WHAT IT READS IS OF BULK AT MOST 1048576: true; the input reads as it did. -/
def allocChooseUptoRow : OpenClaim := { program := "ytgmadhlebpbcpaa", sum := "9a7bac422081d1c6961ec9508473270708912e894780c61bd40560d40050a66e", func := "wavelet/waveletlaw21.AllocChoose", spec := "allocChoose", unfollowed := true, recurses := true, apart := false, narrowed := true }
def AllocChooseUptoSaid : Prop := allocChooseUptoRow.holds Try.pinned (OpenSpec.upto allocChooseSpec)

/-- 'waveletlaw21.AllocOptimal', WHERE WHAT IT READS IS OF BULK AT MOST 1048576: true; the input reads as it did. -/
def allocOptimalUptoRow : OpenClaim := { program := "ytgmadhlebpbcpaa", sum := "9a7bac422081d1c6961ec9508473270708912e894780c61bd40560d40050a66e", func := "wavelet/waveletlaw21.AllocOptimal", spec := "allocOptimal", unfollowed := true, recurses := true, apart := false, narrowed := true }
def AllocOptimalUptoSaid : Prop := allocOptimalUptoRow.holds Try.pinned (OpenSpec.upto allocOptimalSpec)

/-- 'waveletlaw21.AllocNested', WHERE WHAT IT READS IS OF BULK AT MOST 1048576: true; the input reads as it did. -/
def allocNestedUptoRow : OpenClaim := { program := "ytgmadhlebpbcpaa", sum := "9a7bac422081d1c6961ec9508473270708912e894780c61bd40560d40050a66e", func := "wavelet/waveletlaw21.AllocNested", spec := "allocNested", unfollowed := true, recurses := true, apart := false, narrowed := true }
def AllocNestedUptoSaid : Prop := allocNestedUptoRow.holds Try.pinned (OpenSpec.upto allocNestedSpec)

end Rows
end Go.Proofs.Ytgmadhlebpbcpaa
