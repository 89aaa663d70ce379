/-
  No cell of these rows narrows 'for every input' (looked for: loops, veiled, ifaces, maps, wideKeys, modest, calm, conditions, laid).
  DERIVED. THE GIVEN ROWS OF THIS SEAT. 7 by the template 'for every input the law returns true; each argument reads behind the call as it read before'; 0 by the template 'total and deterministic' (their statements: YtgijikbekckanaaTotals.lean).
  GIVEN WITH THE SEED: the statements are not yours to turn. If you find one false, say at which input.
  Laid BY PROGRAM, IN A SANDBOX (cutbox-rows.mjs): the forced cells as the released guide's own fill.sh prints them over the translation 2b8e3d2a99713746… (all of the seat's roots in one cut). By AI agents, Wed Nov 11 2026. No macro, syntax, notation, axiom, sorry.
-/
import Derived.Test.YtgijikbekckanaaChecked
import GoSem.Claim
import GoSem.ClaimJoined
import GoSem.ClaimMapViews
import Derived.JoinedTies
import Derived.KernelRfl
namespace Go.Proofs.Ytgijikbekckanaa
/- THE CELL 'sum', in the pinned program and in every row, IS THE sha256 OF THE DUMP (.gsa) THAT YtgijikbekckanaaProg.lean LOADS. Nothing in Lean hashes anything: it is a label: what it is worth is what the hold of that sum in a sandbox is worth. -/
noncomputable def Try.pinned : Pinned := { name := "ytgijikbekckanaa", sum := "2b8e3d2a9971374663d26ae604e4d289ac309db9517672ab5b7e6c655b1f24a0", checked := Try.checked }
namespace Rows
def none {H : Type} : Left H := { results := [], args := [] }

/-- 'waveletlaw20.HullJudges': WHATEVER THE INPUT: true; the input reads as it did. -/
def hullJudgesSpec : ChangeSpec := { name := "hullJudges", fn := fun _ => fun
  | [d] => { results := [.lit (.bool true)], args := [d] }
  | _ => none }
def hullJudgesRow : OpenClaim := { program := "ytgijikbekckanaa", sum := "2b8e3d2a9971374663d26ae604e4d289ac309db9517672ab5b7e6c655b1f24a0", func := "wavelet/waveletlaw20.HullJudges", spec := "hullJudges", unfollowed := true, recurses := true, apart := false }
def HullJudgesSaid : Prop := hullJudgesRow.holds Try.pinned (OpenSpec.ofChange hullJudgesSpec)

/-- ITS FALSE NEIGHBOUR: 'it returns false'. Refute it at one input. -/
def hullJudgesWrong : ChangeSpec := { name := "hullJudges", fn := fun _ => fun
  | [d] => { results := [.lit (.bool false)], args := [d] }
  | _ => none }
def HullJudgesWrongFalsely : Prop := hullJudgesRow.holds Try.pinned (OpenSpec.ofChange hullJudgesWrong)

/-- 'waveletlaw20.HullCompares': WHATEVER THE INPUT: true; the input reads as it did. -/
def hullComparesSpec : ChangeSpec := { name := "hullCompares", fn := fun _ => fun
  | [d1, d2] => { results := [.lit (.bool true)], args := [d1, d2] }
  | _ => none }
def hullComparesRow : OpenClaim := { program := "ytgijikbekckanaa", sum := "2b8e3d2a9971374663d26ae604e4d289ac309db9517672ab5b7e6c655b1f24a0", func := "wavelet/waveletlaw20.HullCompares", spec := "hullCompares", unfollowed := true, recurses := true, apart := false }
def HullComparesSaid : Prop := hullComparesRow.holds Try.pinned (OpenSpec.ofChange hullComparesSpec)

/-- ITS FALSE NEIGHBOUR: 'it returns false'. Refute it at one input. -/
def hullComparesWrong : ChangeSpec := { name := "hullCompares", fn := fun _ => fun
  | [d1, d2] => { results := [.lit (.bool false)], args := [d1, d2] }
  | _ => none }
def HullComparesWrongFalsely : Prop := hullComparesRow.holds Try.pinned (OpenSpec.ofChange hullComparesWrong)

/-- 'waveletlaw20.HullSelects': WHATEVER THE INPUT: true; the input reads as it did. -/
def hullSelectsSpec : ChangeSpec := { name := "hullSelects", fn := fun _ => fun
  | [d] => { results := [.lit (.bool true)], args := [d] }
  | _ => none }
def hullSelectsRow : OpenClaim := { program := "ytgijikbekckanaa", sum := "2b8e3d2a9971374663d26ae604e4d289ac309db9517672ab5b7e6c655b1f24a0", func := "wavelet/waveletlaw20.HullSelects", spec := "hullSelects", unfollowed := true, recurses := true, apart := false }
def HullSelectsSaid : Prop := hullSelectsRow.holds Try.pinned (OpenSpec.ofChange hullSelectsSpec)

/-- ITS FALSE NEIGHBOUR: 'it returns false'. Refute it at one input. -/
def hullSelectsWrong : ChangeSpec := { name := "hullSelects", fn := fun _ => fun
  | [d] => { results := [.lit (.bool false)], args := [d] }
  | _ => none }
def HullSelectsWrongFalsely : Prop := hullSelectsRow.holds Try.pinned (OpenSpec.ofChange hullSelectsWrong)

/-- 'waveletlaw20.HullPrices': WHATEVER THE INPUT: true; the input reads as it did. -/
def hullPricesSpec : ChangeSpec := { name := "hullPrices", fn := fun _ => fun
  | [d1, d2, d3] => { results := [.lit (.bool true)], args := [d1, d2, d3] }
  | _ => none }
def hullPricesRow : OpenClaim := { program := "ytgijikbekckanaa", sum := "2b8e3d2a9971374663d26ae604e4d289ac309db9517672ab5b7e6c655b1f24a0", func := "wavelet/waveletlaw20.HullPrices", spec := "hullPrices", unfollowed := true, recurses := true, apart := false }
def HullPricesSaid : Prop := hullPricesRow.holds Try.pinned (OpenSpec.ofChange hullPricesSpec)

/-- ITS FALSE NEIGHBOUR: 'it returns false'. Refute it at one input. -/
def hullPricesWrong : ChangeSpec := { name := "hullPrices", fn := fun _ => fun
  | [d1, d2, d3] => { results := [.lit (.bool false)], args := [d1, d2, d3] }
  | _ => none }
def HullPricesWrongFalsely : Prop := hullPricesRow.holds Try.pinned (OpenSpec.ofChange hullPricesWrong)

/-- 'waveletlaw20.HullOrders': WHATEVER THE INPUT: true; the input reads as it did. -/
def hullOrdersSpec : ChangeSpec := { name := "hullOrders", fn := fun _ => fun
  | [d] => { results := [.lit (.bool true)], args := [d] }
  | _ => none }
def hullOrdersRow : OpenClaim := { program := "ytgijikbekckanaa", sum := "2b8e3d2a9971374663d26ae604e4d289ac309db9517672ab5b7e6c655b1f24a0", func := "wavelet/waveletlaw20.HullOrders", spec := "hullOrders", unfollowed := true, recurses := true, apart := false }
def HullOrdersSaid : Prop := hullOrdersRow.holds Try.pinned (OpenSpec.ofChange hullOrdersSpec)

/-- ITS FALSE NEIGHBOUR: 'it returns false'. Refute it at one input. -/
def hullOrdersWrong : ChangeSpec := { name := "hullOrders", fn := fun _ => fun
  | [d] => { results := [.lit (.bool false)], args := [d] }
  | _ => none }
def HullOrdersWrongFalsely : Prop := hullOrdersRow.holds Try.pinned (OpenSpec.ofChange hullOrdersWrong)

/-- 'waveletlaw20.HullConvex': WHATEVER THE INPUT: true; the input reads as it did. -/
def hullConvexSpec : ChangeSpec := { name := "hullConvex", fn := fun _ => fun
  | [d] => { results := [.lit (.bool true)], args := [d] }
  | _ => none }
def hullConvexRow : OpenClaim := { program := "ytgijikbekckanaa", sum := "2b8e3d2a9971374663d26ae604e4d289ac309db9517672ab5b7e6c655b1f24a0", func := "wavelet/waveletlaw20.HullConvex", spec := "hullConvex", unfollowed := true, recurses := true, apart := false }
def HullConvexSaid : Prop := hullConvexRow.holds Try.pinned (OpenSpec.ofChange hullConvexSpec)

/-- ITS FALSE NEIGHBOUR: 'it returns false'. Refute it at one input. -/
def hullConvexWrong : ChangeSpec := { name := "hullConvex", fn := fun _ => fun
  | [d] => { results := [.lit (.bool false)], args := [d] }
  | _ => none }
def HullConvexWrongFalsely : Prop := hullConvexRow.holds Try.pinned (OpenSpec.ofChange hullConvexWrong)

/-- 'waveletlaw20.HullBest': WHATEVER THE INPUT: true; the input reads as it did. -/
def hullBestSpec : ChangeSpec := { name := "hullBest", fn := fun _ => fun
  | [d1, d2, d3] => { results := [.lit (.bool true)], args := [d1, d2, d3] }
  | _ => none }
def hullBestRow : OpenClaim := { program := "ytgijikbekckanaa", sum := "2b8e3d2a9971374663d26ae604e4d289ac309db9517672ab5b7e6c655b1f24a0", func := "wavelet/waveletlaw20.HullBest", spec := "hullBest", unfollowed := true, recurses := true, apart := false }
def HullBestSaid : Prop := hullBestRow.holds Try.pinned (OpenSpec.ofChange hullBestSpec)

/-- ITS FALSE NEIGHBOUR: 'it returns false'. Refute it at one input. -/
def hullBestWrong : ChangeSpec := { name := "hullBest", fn := fun _ => fun
  | [d1, d2, d3] => { results := [.lit (.bool false)], args := [d1, d2, d3] }
  | _ => none }
def HullBestWrongFalsely : Prop := hullBestRow.holds Try.pinned (OpenSpec.ofChange hullBestWrong)

/- THE SECOND FORM. 'bulk': how many values and letters a reading holds, each counted each time it is reached (what is shared counts as often as it is met; a slice's spare places count too). A statement '..UptoSaid' is the law's where the arguments, and the package variables that the reading takes, are together of bulk at most 1048576: NARROWER than '..Said'. Prove '..Said' where nothing that the law and all that it calls make is longer than what came in: it says more and counts as full. Else prove '..UptoSaid'. A law counts once. -/
mutual
def uptoBulk {H : Type} : DataW H → Nat
  | .lit (.string bytes) => bytes.length + 1
  | .lit _ => 1
  | .nil => 1
  | .ptr d => uptoBulk d + 1
  | .slice elems spare => uptoBulkAll elems + uptoBulkAll spare + 1
  | .agg parts => uptoBulkAll parts + 1
  | .iface _ d => uptoBulk d + 1
  | .map entries => uptoBulkEntries entries + 1
  | .held _ => 1
def uptoBulkAll {H : Type} : List (DataW H) → Nat
  | [] => 0
  | d :: r => uptoBulk d + uptoBulkAll r
def uptoBulkEntries {H : Type} : List (Lit × DataW H) → Nat
  | [] => 0
  | x :: r => uptoBulkEntry x + uptoBulkEntries r
def uptoBulkEntry {H : Type} : Lit × DataW H → Nat
  | (.string bytes, d) => bytes.length + uptoBulk d + 1
  | (_, d) => uptoBulk d + 1
 end
def uptoSmall : (H : Type) → List (DataW H) → Bool := fun _ ds => decide (uptoBulkAll ds ≤ 1048576)
def OpenSpec.upto (s : _root_.Go.ChangeSpec) : _root_.Go.OpenSpec := { _root_.Go.OpenSpec.ofChange s with cond := some uptoSmall }

/-- 'waveletlaw20.HullJudges', WHERE WHAT IT READS IS OF BULK AT MOST 1048576: true; the input reads as it did. -/
def hullJudgesUptoRow : OpenClaim := { program := "ytgijikbekckanaa", sum := "2b8e3d2a9971374663d26ae604e4d289ac309db9517672ab5b7e6c655b1f24a0", func := "wavelet/waveletlaw20.HullJudges", spec := "hullJudges", unfollowed := true, recurses := true, apart := false, narrowed := true }
def HullJudgesUptoSaid : Prop := hullJudgesUptoRow.holds Try.pinned (OpenSpec.upto hullJudgesSpec)

/-- 'waveletlaw20.HullCompares', WHERE WHAT IT READS IS OF BULK AT MOST 1048576: true; the input reads as it did. -/
def hullComparesUptoRow : OpenClaim := { program := "ytgijikbekckanaa", sum := "2b8e3d2a9971374663d26ae604e4d289ac309db9517672ab5b7e6c655b1f24a0", func := "wavelet/waveletlaw20.HullCompares", spec := "hullCompares", unfollowed := true, recurses := true, apart := false, narrowed := true }
def HullComparesUptoSaid : Prop := hullComparesUptoRow.holds Try.pinned (OpenSpec.upto hullComparesSpec)

/-- 'waveletlaw20.HullSelects', WHERE WHAT IT READS IS OF BULK AT MOST 1048576: true; the input reads as it did. -/
def hullSelectsUptoRow : OpenClaim := { program := "ytgijikbekckanaa", sum := "2b8e3d2a9971374663d26ae604e4d289ac309db9517672ab5b7e6c655b1f24a0", func := "wavelet/waveletlaw20.HullSelects", spec := "hullSelects", unfollowed := true, recurses := true, apart := false, narrowed := true }
def HullSelectsUptoSaid : Prop := hullSelectsUptoRow.holds Try.pinned (OpenSpec.upto hullSelectsSpec)

/-- 'waveletlaw20.HullPrices', WHERE WHAT IT READS IS OF BULK AT MOST 1048576: true; the input reads as it did. -/
def hullPricesUptoRow : OpenClaim := { program := "ytgijikbekckanaa", sum := "2b8e3d2a9971374663d26ae604e4d289ac309db9517672ab5b7e6c655b1f24a0", func := "wavelet/waveletlaw20.HullPrices", spec := "hullPrices", unfollowed := true, recurses := true, apart := false, narrowed := true }
def HullPricesUptoSaid : Prop := hullPricesUptoRow.holds Try.pinned (OpenSpec.upto hullPricesSpec)

/-- 'waveletlaw20.HullOrders', WHERE WHAT IT READS IS OF BULK AT MOST 1048576: true; the input reads as it did. -/
def hullOrdersUptoRow : OpenClaim := { program := "ytgijikbekckanaa", sum := "2b8e3d2a9971374663d26ae604e4d289ac309db9517672ab5b7e6c655b1f24a0", func := "wavelet/waveletlaw20.HullOrders", spec := "hullOrders", unfollowed := true, recurses := true, apart := false, narrowed := true }
def HullOrdersUptoSaid : Prop := hullOrdersUptoRow.holds Try.pinned (OpenSpec.upto hullOrdersSpec)

/-- 'waveletlaw20.HullConvex', WHERE WHAT IT READS IS OF BULK AT MOST 1048576: true; the input reads as it did. -/
def hullConvexUptoRow : OpenClaim := { program := "ytgijikbekckanaa", sum := "2b8e3d2a9971374663d26ae604e4d289ac309db9517672ab5b7e6c655b1f24a0", func := "wavelet/waveletlaw20.HullConvex", spec := "hullConvex", unfollowed := true, recurses := true, apart := false, narrowed := true }
def HullConvexUptoSaid : Prop := hullConvexUptoRow.holds Try.pinned (OpenSpec.upto hullConvexSpec)

/-- 'waveletlaw20.HullBest', WHERE WHAT IT READS IS OF BULK AT MOST 1048576: true; the input reads as it did. -/
def hullBestUptoRow : OpenClaim := { program := "ytgijikbekckanaa", sum := "2b8e3d2a9971374663d26ae604e4d289ac309db9517672ab5b7e6c655b1f24a0", func := "wavelet/waveletlaw20.HullBest", spec := "hullBest", unfollowed := true, recurses := true, apart := false, narrowed := true }
def HullBestUptoSaid : Prop := hullBestUptoRow.holds Try.pinned (OpenSpec.upto hullBestSpec)

end Rows
end Go.Proofs.Ytgijikbekckanaa
