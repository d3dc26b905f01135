/-
  No cell of these rows narrows 'for every input' (looked for: loops, veiled, ifaces, maps, wideKeys, modest, calm, conditions, laid).
  DERIVED. THE GIVEN ROWS OF THIS SEAT. 12 by the template 'for every input the law returns true; each argument reads behind the call as it read before'; 0 by the template 'total and deterministic' (their statements: YtnehpbkjmmadkaaTotals.lean).
  GIVEN WITH THE SEED: the statements are not yours to turn. If you find one false, say at which input.
  Laid BY PROGRAM, IN A SANDBOX (cutbox-rows.mjs): the forced cells as the released guide's own fill.sh prints them over the translation 94ffd92235437546… (all of the seat's roots in one cut). By AI agents, Wed Nov 11 2026. No macro, syntax, notation, axiom, sorry.
-/
import Derived.Test.YtnehpbkjmmadkaaChecked
import GoSem.Claim
import GoSem.ClaimJoined
import GoSem.ClaimMapViews
import Derived.JoinedTies
import Derived.KernelRfl
namespace Go.Proofs.Ytnehpbkjmmadkaa
/- THE CELL 'sum', in the pinned program and in every row, IS THE sha256 OF THE DUMP (.gsa) THAT YtnehpbkjmmadkaaProg.lean LOADS. Nothing in Lean hashes anything: it is a label: what it is worth is what the hold of that sum in a sandbox is worth. -/
noncomputable def Try.pinned : Pinned := { name := "ytnehpbkjmmadkaa", sum := "94ffd922354375463b58f5b5da6cb19809a1735066dbbaec03df19e0efab359a", checked := Try.checked }
namespace Rows
def none {H : Type} : Left H := { results := [], args := [] }

/-- 'laws.FnExactScanSegments': WHATEVER THE INPUT: true; the input reads as it did. -/
def fnExactScanSegmentsSpec : ChangeSpec := { name := "fnExactScanSegments", fn := fun _ => fun
  | [d1, d2] => { results := [.lit (.bool true)], args := [d1, d2] }
  | _ => none }
def fnExactScanSegmentsRow : OpenClaim := { program := "ytnehpbkjmmadkaa", sum := "94ffd922354375463b58f5b5da6cb19809a1735066dbbaec03df19e0efab359a", func := "loop.example/flatarrays/laws.FnExactScanSegments", spec := "fnExactScanSegments", unfollowed := true, recurses := true, apart := false }
def FnExactScanSegmentsSaid : Prop := fnExactScanSegmentsRow.holds Try.pinned (OpenSpec.ofChange fnExactScanSegmentsSpec)

/-- ITS FALSE NEIGHBOUR: 'it returns false'. Refute it at one input. -/
def fnExactScanSegmentsWrong : ChangeSpec := { name := "fnExactScanSegments", fn := fun _ => fun
  | [d1, d2] => { results := [.lit (.bool false)], args := [d1, d2] }
  | _ => none }
def FnExactScanSegmentsWrongFalsely : Prop := fnExactScanSegmentsRow.holds Try.pinned (OpenSpec.ofChange fnExactScanSegmentsWrong)

/-- 'laws.FnExactPickSegments': WHATEVER THE INPUT: true; the input reads as it did. -/
def fnExactPickSegmentsSpec : ChangeSpec := { name := "fnExactPickSegments", fn := fun _ => fun
  | [d1, d2, d3] => { results := [.lit (.bool true)], args := [d1, d2, d3] }
  | _ => none }
def fnExactPickSegmentsRow : OpenClaim := { program := "ytnehpbkjmmadkaa", sum := "94ffd922354375463b58f5b5da6cb19809a1735066dbbaec03df19e0efab359a", func := "loop.example/flatarrays/laws.FnExactPickSegments", spec := "fnExactPickSegments", unfollowed := true, recurses := true, apart := false }
def FnExactPickSegmentsSaid : Prop := fnExactPickSegmentsRow.holds Try.pinned (OpenSpec.ofChange fnExactPickSegmentsSpec)

/-- ITS FALSE NEIGHBOUR: 'it returns false'. Refute it at one input. -/
def fnExactPickSegmentsWrong : ChangeSpec := { name := "fnExactPickSegments", fn := fun _ => fun
  | [d1, d2, d3] => { results := [.lit (.bool false)], args := [d1, d2, d3] }
  | _ => none }
def FnExactPickSegmentsWrongFalsely : Prop := fnExactPickSegmentsRow.holds Try.pinned (OpenSpec.ofChange fnExactPickSegmentsWrong)

/-- 'laws.FnMergeLengths': WHATEVER THE INPUT: true; the input reads as it did. -/
def fnMergeLengthsSpec : ChangeSpec := { name := "fnMergeLengths", fn := fun _ => fun
  | [d1, d2] => { results := [.lit (.bool true)], args := [d1, d2] }
  | _ => none }
def fnMergeLengthsRow : OpenClaim := { program := "ytnehpbkjmmadkaa", sum := "94ffd922354375463b58f5b5da6cb19809a1735066dbbaec03df19e0efab359a", func := "loop.example/flatarrays/laws.FnMergeLengths", spec := "fnMergeLengths", unfollowed := true, recurses := true, apart := false }
def FnMergeLengthsSaid : Prop := fnMergeLengthsRow.holds Try.pinned (OpenSpec.ofChange fnMergeLengthsSpec)

/-- ITS FALSE NEIGHBOUR: 'it returns false'. Refute it at one input. -/
def fnMergeLengthsWrong : ChangeSpec := { name := "fnMergeLengths", fn := fun _ => fun
  | [d1, d2] => { results := [.lit (.bool false)], args := [d1, d2] }
  | _ => none }
def FnMergeLengthsWrongFalsely : Prop := fnMergeLengthsRow.holds Try.pinned (OpenSpec.ofChange fnMergeLengthsWrong)

/-- 'laws.FnExactMostSegments': WHATEVER THE INPUT: true; the input reads as it did. -/
def fnExactMostSegmentsSpec : ChangeSpec := { name := "fnExactMostSegments", fn := fun _ => fun
  | [d1, d2] => { results := [.lit (.bool true)], args := [d1, d2] }
  | _ => none }
def fnExactMostSegmentsRow : OpenClaim := { program := "ytnehpbkjmmadkaa", sum := "94ffd922354375463b58f5b5da6cb19809a1735066dbbaec03df19e0efab359a", func := "loop.example/flatarrays/laws.FnExactMostSegments", spec := "fnExactMostSegments", unfollowed := true, recurses := true, apart := false }
def FnExactMostSegmentsSaid : Prop := fnExactMostSegmentsRow.holds Try.pinned (OpenSpec.ofChange fnExactMostSegmentsSpec)

/-- ITS FALSE NEIGHBOUR: 'it returns false'. Refute it at one input. -/
def fnExactMostSegmentsWrong : ChangeSpec := { name := "fnExactMostSegments", fn := fun _ => fun
  | [d1, d2] => { results := [.lit (.bool false)], args := [d1, d2] }
  | _ => none }
def FnExactMostSegmentsWrongFalsely : Prop := fnExactMostSegmentsRow.holds Try.pinned (OpenSpec.ofChange fnExactMostSegmentsWrong)

/-- 'laws.FnPack': WHATEVER THE INPUT: true; the input reads as it did. -/
def fnPackSpec : ChangeSpec := { name := "fnPack", fn := fun _ => fun
  | [d] => { results := [.lit (.bool true)], args := [d] }
  | _ => none }
def fnPackRow : OpenClaim := { program := "ytnehpbkjmmadkaa", sum := "94ffd922354375463b58f5b5da6cb19809a1735066dbbaec03df19e0efab359a", func := "loop.example/flatarrays/laws.FnPack", spec := "fnPack", unfollowed := true, recurses := true, apart := false }
def FnPackSaid : Prop := fnPackRow.holds Try.pinned (OpenSpec.ofChange fnPackSpec)

/-- ITS FALSE NEIGHBOUR: 'it returns false'. Refute it at one input. -/
def fnPackWrong : ChangeSpec := { name := "fnPack", fn := fun _ => fun
  | [d] => { results := [.lit (.bool false)], args := [d] }
  | _ => none }
def FnPackWrongFalsely : Prop := fnPackRow.holds Try.pinned (OpenSpec.ofChange fnPackWrong)

/-- 'laws.FnMost': WHATEVER THE INPUT: true; the input reads as it did. -/
def fnMostSpec : ChangeSpec := { name := "fnMost", fn := fun _ => fun
  | [d] => { results := [.lit (.bool true)], args := [d] }
  | _ => none }
def fnMostRow : OpenClaim := { program := "ytnehpbkjmmadkaa", sum := "94ffd922354375463b58f5b5da6cb19809a1735066dbbaec03df19e0efab359a", func := "loop.example/flatarrays/laws.FnMost", spec := "fnMost", unfollowed := true, recurses := true, apart := false }
def FnMostSaid : Prop := fnMostRow.holds Try.pinned (OpenSpec.ofChange fnMostSpec)

/-- ITS FALSE NEIGHBOUR: 'it returns false'. Refute it at one input. -/
def fnMostWrong : ChangeSpec := { name := "fnMost", fn := fun _ => fun
  | [d] => { results := [.lit (.bool false)], args := [d] }
  | _ => none }
def FnMostWrongFalsely : Prop := fnMostRow.holds Try.pinned (OpenSpec.ofChange fnMostWrong)

/-- 'laws.FnSumSegments': WHATEVER THE INPUT: true; the input reads as it did. -/
def fnSumSegmentsSpec : ChangeSpec := { name := "fnSumSegments", fn := fun _ => fun
  | [d] => { results := [.lit (.bool true)], args := [d] }
  | _ => none }
def fnSumSegmentsRow : OpenClaim := { program := "ytnehpbkjmmadkaa", sum := "94ffd922354375463b58f5b5da6cb19809a1735066dbbaec03df19e0efab359a", func := "loop.example/flatarrays/laws.FnSumSegments", spec := "fnSumSegments", unfollowed := true, recurses := true, apart := false }
def FnSumSegmentsSaid : Prop := fnSumSegmentsRow.holds Try.pinned (OpenSpec.ofChange fnSumSegmentsSpec)

/-- ITS FALSE NEIGHBOUR: 'it returns false'. Refute it at one input. -/
def fnSumSegmentsWrong : ChangeSpec := { name := "fnSumSegments", fn := fun _ => fun
  | [d] => { results := [.lit (.bool false)], args := [d] }
  | _ => none }
def FnSumSegmentsWrongFalsely : Prop := fnSumSegmentsRow.holds Try.pinned (OpenSpec.ofChange fnSumSegmentsWrong)

/-- 'laws.FnSpread': WHATEVER THE INPUT: true; the input reads as it did. -/
def fnSpreadSpec : ChangeSpec := { name := "fnSpread", fn := fun _ => fun
  | [d] => { results := [.lit (.bool true)], args := [d] }
  | _ => none }
def fnSpreadRow : OpenClaim := { program := "ytnehpbkjmmadkaa", sum := "94ffd922354375463b58f5b5da6cb19809a1735066dbbaec03df19e0efab359a", func := "loop.example/flatarrays/laws.FnSpread", spec := "fnSpread", unfollowed := true, recurses := true, apart := false }
def FnSpreadSaid : Prop := fnSpreadRow.holds Try.pinned (OpenSpec.ofChange fnSpreadSpec)

/-- ITS FALSE NEIGHBOUR: 'it returns false'. Refute it at one input. -/
def fnSpreadWrong : ChangeSpec := { name := "fnSpread", fn := fun _ => fun
  | [d] => { results := [.lit (.bool false)], args := [d] }
  | _ => none }
def FnSpreadWrongFalsely : Prop := fnSpreadRow.holds Try.pinned (OpenSpec.ofChange fnSpreadWrong)

/-- 'laws.FnPickWeave': WHATEVER THE INPUT: true; the input reads as it did. -/
def fnPickWeaveSpec : ChangeSpec := { name := "fnPickWeave", fn := fun _ => fun
  | [d1, d2] => { results := [.lit (.bool true)], args := [d1, d2] }
  | _ => none }
def fnPickWeaveRow : OpenClaim := { program := "ytnehpbkjmmadkaa", sum := "94ffd922354375463b58f5b5da6cb19809a1735066dbbaec03df19e0efab359a", func := "loop.example/flatarrays/laws.FnPickWeave", spec := "fnPickWeave", unfollowed := true, recurses := true, apart := false }
def FnPickWeaveSaid : Prop := fnPickWeaveRow.holds Try.pinned (OpenSpec.ofChange fnPickWeaveSpec)

/-- ITS FALSE NEIGHBOUR: 'it returns false'. Refute it at one input. -/
def fnPickWeaveWrong : ChangeSpec := { name := "fnPickWeave", fn := fun _ => fun
  | [d1, d2] => { results := [.lit (.bool false)], args := [d1, d2] }
  | _ => none }
def FnPickWeaveWrongFalsely : Prop := fnPickWeaveRow.holds Try.pinned (OpenSpec.ofChange fnPickWeaveWrong)

/-- 'laws.FnExactSortSegments': WHATEVER THE INPUT: true; the input reads as it did. -/
def fnExactSortSegmentsSpec : ChangeSpec := { name := "fnExactSortSegments", fn := fun _ => fun
  | [d1, d2] => { results := [.lit (.bool true)], args := [d1, d2] }
  | _ => none }
def fnExactSortSegmentsRow : OpenClaim := { program := "ytnehpbkjmmadkaa", sum := "94ffd922354375463b58f5b5da6cb19809a1735066dbbaec03df19e0efab359a", func := "loop.example/flatarrays/laws.FnExactSortSegments", spec := "fnExactSortSegments", unfollowed := true, recurses := true, apart := false }
def FnExactSortSegmentsSaid : Prop := fnExactSortSegmentsRow.holds Try.pinned (OpenSpec.ofChange fnExactSortSegmentsSpec)

/-- ITS FALSE NEIGHBOUR: 'it returns false'. Refute it at one input. -/
def fnExactSortSegmentsWrong : ChangeSpec := { name := "fnExactSortSegments", fn := fun _ => fun
  | [d1, d2] => { results := [.lit (.bool false)], args := [d1, d2] }
  | _ => none }
def FnExactSortSegmentsWrongFalsely : Prop := fnExactSortSegmentsRow.holds Try.pinned (OpenSpec.ofChange fnExactSortSegmentsWrong)

/-- 'laws.FnExactIsPermutation': WHATEVER THE INPUT: true; the input reads as it did. -/
def fnExactIsPermutationSpec : ChangeSpec := { name := "fnExactIsPermutation", fn := fun _ => fun
  | [d] => { results := [.lit (.bool true)], args := [d] }
  | _ => none }
def fnExactIsPermutationRow : OpenClaim := { program := "ytnehpbkjmmadkaa", sum := "94ffd922354375463b58f5b5da6cb19809a1735066dbbaec03df19e0efab359a", func := "loop.example/flatarrays/laws.FnExactIsPermutation", spec := "fnExactIsPermutation", unfollowed := true, recurses := true, apart := false }
def FnExactIsPermutationSaid : Prop := fnExactIsPermutationRow.holds Try.pinned (OpenSpec.ofChange fnExactIsPermutationSpec)

/-- ITS FALSE NEIGHBOUR: 'it returns false'. Refute it at one input. -/
def fnExactIsPermutationWrong : ChangeSpec := { name := "fnExactIsPermutation", fn := fun _ => fun
  | [d] => { results := [.lit (.bool false)], args := [d] }
  | _ => none }
def FnExactIsPermutationWrongFalsely : Prop := fnExactIsPermutationRow.holds Try.pinned (OpenSpec.ofChange fnExactIsPermutationWrong)

/-- 'laws.FnExactInvertIndices': WHATEVER THE INPUT: true; the input reads as it did. -/
def fnExactInvertIndicesSpec : ChangeSpec := { name := "fnExactInvertIndices", fn := fun _ => fun
  | [d] => { results := [.lit (.bool true)], args := [d] }
  | _ => none }
def fnExactInvertIndicesRow : OpenClaim := { program := "ytnehpbkjmmadkaa", sum := "94ffd922354375463b58f5b5da6cb19809a1735066dbbaec03df19e0efab359a", func := "loop.example/flatarrays/laws.FnExactInvertIndices", spec := "fnExactInvertIndices", unfollowed := true, recurses := true, apart := false }
def FnExactInvertIndicesSaid : Prop := fnExactInvertIndicesRow.holds Try.pinned (OpenSpec.ofChange fnExactInvertIndicesSpec)

/-- ITS FALSE NEIGHBOUR: 'it returns false'. Refute it at one input. -/
def fnExactInvertIndicesWrong : ChangeSpec := { name := "fnExactInvertIndices", fn := fun _ => fun
  | [d] => { results := [.lit (.bool false)], args := [d] }
  | _ => none }
def FnExactInvertIndicesWrongFalsely : Prop := fnExactInvertIndicesRow.holds Try.pinned (OpenSpec.ofChange fnExactInvertIndicesWrong)

/- THE SECOND FORM. 'bulk': how many values and letters a reading holds, each counted each time it is reached (what is shared counts as often as it is met; a slice's spare places count too). A statement '..UptoSaid' is the law's where the arguments, and the package variables that the reading takes, are together of bulk at most 1048576: NARROWER than '..Said'. Prove '..Said' where nothing that the law and all that it calls make is longer than what came in: it says more and counts as full. Else prove '..UptoSaid'. A law counts once. -/
mutual
def uptoBulk {H : Type} : DataW H → Nat
  | .lit (.string bytes) => bytes.length + 1
  | .lit _ => 1
  | .nil => 1
  | .ptr d => uptoBulk d + 1
  | .slice elems spare => uptoBulkAll elems + uptoBulkAll spare + 1
  | .agg parts => uptoBulkAll parts + 1
  | .iface _ d => uptoBulk d + 1
  | .map entries => uptoBulkEntries entries + 1
  | .held _ => 1
def uptoBulkAll {H : Type} : List (DataW H) → Nat
  | [] => 0
  | d :: r => uptoBulk d + uptoBulkAll r
def uptoBulkEntries {H : Type} : List (Lit × DataW H) → Nat
  | [] => 0
  | x :: r => uptoBulkEntry x + uptoBulkEntries r
def uptoBulkEntry {H : Type} : Lit × DataW H → Nat
  | (.string bytes, d) => bytes.length + uptoBulk d + 1
  | (_, d) => uptoBulk d + 1
 end
def uptoSmall : (H : Type) → List (DataW H) → Bool := fun _ ds => decide (uptoBulkAll ds ≤ 1048576)
def OpenSpec.upto (s : _root_.Go.ChangeSpec) : _root_.Go.OpenSpec := { _root_.Go.OpenSpec.ofChange s with cond := some uptoSmall }

/-- 'laws.FnExactScanSegments', WHERE WHAT IT READS IS OF BULK AT MOST 1048576: true; the input reads as it did. -/
def fnExactScanSegmentsUptoRow : OpenClaim := { program := "ytnehpbkjmmadkaa", sum := "94ffd922354375463b58f5b5da6cb19809a1735066dbbaec03df19e0efab359a", func := "loop.example/flatarrays/laws.FnExactScanSegments", spec := "fnExactScanSegments", unfollowed := true, recurses := true, apart := false, narrowed := true }
def FnExactScanSegmentsUptoSaid : Prop := fnExactScanSegmentsUptoRow.holds Try.pinned (OpenSpec.upto fnExactScanSegmentsSpec)

/-- 'laws.FnExactPickSegments', WHERE WHAT IT READS IS OF BULK AT MOST 1048576: true; the input reads as it did. -/
def fnExactPickSegmentsUptoRow : OpenClaim := { program := "ytnehpbkjmmadkaa", sum := "94ffd922354375463b58f5b5da6cb19809a1735066dbbaec03df19e0efab359a", func := "loop.example/flatarrays/laws.FnExactPickSegments", spec := "fnExactPickSegments", unfollowed := true, recurses := true, apart := false, narrowed := true }
def FnExactPickSegmentsUptoSaid : Prop := fnExactPickSegmentsUptoRow.holds Try.pinned (OpenSpec.upto fnExactPickSegmentsSpec)

/-- 'laws.FnMergeLengths', WHERE WHAT IT READS IS OF BULK AT MOST 1048576: true; the input reads as it did. -/
def fnMergeLengthsUptoRow : OpenClaim := { program := "ytnehpbkjmmadkaa", sum := "94ffd922354375463b58f5b5da6cb19809a1735066dbbaec03df19e0efab359a", func := "loop.example/flatarrays/laws.FnMergeLengths", spec := "fnMergeLengths", unfollowed := true, recurses := true, apart := false, narrowed := true }
def FnMergeLengthsUptoSaid : Prop := fnMergeLengthsUptoRow.holds Try.pinned (OpenSpec.upto fnMergeLengthsSpec)

/-- 'laws.FnExactMostSegments', WHERE WHAT IT READS IS OF BULK AT MOST 1048576: true; the input reads as it did. -/
def fnExactMostSegmentsUptoRow : OpenClaim := { program := "ytnehpbkjmmadkaa", sum := "94ffd922354375463b58f5b5da6cb19809a1735066dbbaec03df19e0efab359a", func := "loop.example/flatarrays/laws.FnExactMostSegments", spec := "fnExactMostSegments", unfollowed := true, recurses := true, apart := false, narrowed := true }
def FnExactMostSegmentsUptoSaid : Prop := fnExactMostSegmentsUptoRow.holds Try.pinned (OpenSpec.upto fnExactMostSegmentsSpec)

/-- 'laws.FnPack', WHERE WHAT IT READS IS OF BULK AT MOST 1048576: true; the input reads as it did. -/
def fnPackUptoRow : OpenClaim := { program := "ytnehpbkjmmadkaa", sum := "94ffd922354375463b58f5b5da6cb19809a1735066dbbaec03df19e0efab359a", func := "loop.example/flatarrays/laws.FnPack", spec := "fnPack", unfollowed := true, recurses := true, apart := false, narrowed := true }
def FnPackUptoSaid : Prop := fnPackUptoRow.holds Try.pinned (OpenSpec.upto fnPackSpec)

/-- 'laws.FnMost', WHERE WHAT IT READS IS OF BULK AT MOST 1048576: true; the input reads as it did. -/
def fnMostUptoRow : OpenClaim := { program := "ytnehpbkjmmadkaa", sum := "94ffd922354375463b58f5b5da6cb19809a1735066dbbaec03df19e0efab359a", func := "loop.example/flatarrays/laws.FnMost", spec := "fnMost", unfollowed := true, recurses := true, apart := false, narrowed := true }
def FnMostUptoSaid : Prop := fnMostUptoRow.holds Try.pinned (OpenSpec.upto fnMostSpec)

/-- 'laws.FnSumSegments', WHERE WHAT IT READS IS OF BULK AT MOST 1048576: true; the input reads as it did. -/
def fnSumSegmentsUptoRow : OpenClaim := { program := "ytnehpbkjmmadkaa", sum := "94ffd922354375463b58f5b5da6cb19809a1735066dbbaec03df19e0efab359a", func := "loop.example/flatarrays/laws.FnSumSegments", spec := "fnSumSegments", unfollowed := true, recurses := true, apart := false, narrowed := true }
def FnSumSegmentsUptoSaid : Prop := fnSumSegmentsUptoRow.holds Try.pinned (OpenSpec.upto fnSumSegmentsSpec)

/-- 'laws.FnSpread', WHERE WHAT IT READS IS OF BULK AT MOST 1048576: true; the input reads as it did. -/
def fnSpreadUptoRow : OpenClaim := { program := "ytnehpbkjmmadkaa", sum := "94ffd922354375463b58f5b5da6cb19809a1735066dbbaec03df19e0efab359a", func := "loop.example/flatarrays/laws.FnSpread", spec := "fnSpread", unfollowed := true, recurses := true, apart := false, narrowed := true }
def FnSpreadUptoSaid : Prop := fnSpreadUptoRow.holds Try.pinned (OpenSpec.upto fnSpreadSpec)

/-- 'laws.FnPickWeave', WHERE WHAT IT READS IS OF BULK AT MOST 1048576: true; the input reads as it did. -/
def fnPickWeaveUptoRow : OpenClaim := { program := "ytnehpbkjmmadkaa", sum := "94ffd922354375463b58f5b5da6cb19809a1735066dbbaec03df19e0efab359a", func := "loop.example/flatarrays/laws.FnPickWeave", spec := "fnPickWeave", unfollowed := true, recurses := true, apart := false, narrowed := true }
def FnPickWeaveUptoSaid : Prop := fnPickWeaveUptoRow.holds Try.pinned (OpenSpec.upto fnPickWeaveSpec)

/-- 'laws.FnExactSortSegments', WHERE WHAT IT READS IS OF BULK AT MOST 1048576: true; the input reads as it did. -/
def fnExactSortSegmentsUptoRow : OpenClaim := { program := "ytnehpbkjmmadkaa", sum := "94ffd922354375463b58f5b5da6cb19809a1735066dbbaec03df19e0efab359a", func := "loop.example/flatarrays/laws.FnExactSortSegments", spec := "fnExactSortSegments", unfollowed := true, recurses := true, apart := false, narrowed := true }
def FnExactSortSegmentsUptoSaid : Prop := fnExactSortSegmentsUptoRow.holds Try.pinned (OpenSpec.upto fnExactSortSegmentsSpec)

/-- 'laws.FnExactIsPermutation', WHERE WHAT IT READS IS OF BULK AT MOST 1048576: true; the input reads as it did. -/
def fnExactIsPermutationUptoRow : OpenClaim := { program := "ytnehpbkjmmadkaa", sum := "94ffd922354375463b58f5b5da6cb19809a1735066dbbaec03df19e0efab359a", func := "loop.example/flatarrays/laws.FnExactIsPermutation", spec := "fnExactIsPermutation", unfollowed := true, recurses := true, apart := false, narrowed := true }
def FnExactIsPermutationUptoSaid : Prop := fnExactIsPermutationUptoRow.holds Try.pinned (OpenSpec.upto fnExactIsPermutationSpec)

/-- 'laws.FnExactInvertIndices', WHERE WHAT IT READS IS OF BULK AT MOST 1048576: true; the input reads as it did. -/
def fnExactInvertIndicesUptoRow : OpenClaim := { program := "ytnehpbkjmmadkaa", sum := "94ffd922354375463b58f5b5da6cb19809a1735066dbbaec03df19e0efab359a", func := "loop.example/flatarrays/laws.FnExactInvertIndices", spec := "fnExactInvertIndices", unfollowed := true, recurses := true, apart := false, narrowed := true }
def FnExactInvertIndicesUptoSaid : Prop := fnExactInvertIndicesUptoRow.holds Try.pinned (OpenSpec.upto fnExactInvertIndicesSpec)

end Rows
end Go.Proofs.Ytnehpbkjmmadkaa
