/-
  No cell of these rows narrows 'for every input' (looked for: loops, veiled, ifaces, maps, wideKeys, modest, calm, conditions, laid).
  DERIVED. THE GIVEN ROWS OF THIS SEAT. 12 by the template 'for every input the law returns true; each argument reads behind the call as it read before'; 0 by the template 'total and deterministic' (their statements: YtifnnehjpgodfaaTotals.lean).
  GIVEN WITH THE SEED: the statements are not yours to turn. If you find one false, say at which input.
  Laid BY PROGRAM, IN A SANDBOX (cutbox-rows.mjs): the forced cells as the released guide's own fill.sh prints them over the translation c7f0ff62fd7e3e60… (all of the seat's roots in one cut). By AI agents, Wed Nov 11 2026. No macro, syntax, notation, axiom, sorry.
-/
import Derived.Test.YtifnnehjpgodfaaChecked
import GoSem.Claim
import GoSem.ClaimJoined
import GoSem.ClaimMapViews
import Derived.JoinedTies
import Derived.KernelRfl
namespace Go.Proofs.Ytifnnehjpgodfaa
/- THE CELL 'sum', in the pinned program and in every row, IS THE sha256 OF THE DUMP (.gsa) THAT YtifnnehjpgodfaaProg.lean LOADS. Nothing in Lean hashes anything: it is a label: what it is worth is what the hold of that sum in a sandbox is worth. -/
noncomputable def Try.pinned : Pinned := { name := "ytifnnehjpgodfaa", sum := "c7f0ff62fd7e3e60747be4bb6ad5fced05679a0861e9b984a7b40971f9859841", checked := Try.checked }
namespace Rows
def none {H : Type} : Left H := { results := [], args := [] }

/-- 'laws.FnExactConstants': WHATEVER THE INPUT: true; the input reads as it did. -/
def fnExactConstantsSpec : ChangeSpec := { name := "fnExactConstants", fn := fun _ => fun
  | [] => { results := [.lit (.bool true)], args := [] }
  | _ => none }
def fnExactConstantsRow : OpenClaim := { program := "ytifnnehjpgodfaa", sum := "c7f0ff62fd7e3e60747be4bb6ad5fced05679a0861e9b984a7b40971f9859841", func := "loop.example/flatarrays/laws.FnExactConstants", spec := "fnExactConstants", apart := false }
def FnExactConstantsSaid : Prop := fnExactConstantsRow.holds Try.pinned (OpenSpec.ofChange fnExactConstantsSpec)

/-- ITS FALSE NEIGHBOUR: 'it returns false'. Refute it at one input. -/
def fnExactConstantsWrong : ChangeSpec := { name := "fnExactConstants", fn := fun _ => fun
  | [] => { results := [.lit (.bool false)], args := [] }
  | _ => none }
def FnExactConstantsWrongFalsely : Prop := fnExactConstantsRow.holds Try.pinned (OpenSpec.ofChange fnExactConstantsWrong)

/-- 'laws.FnExactSegmentsValid': WHATEVER THE INPUT: true; the input reads as it did. -/
def fnExactSegmentsValidSpec : ChangeSpec := { name := "fnExactSegmentsValid", fn := fun _ => fun
  | [d1, d2] => { results := [.lit (.bool true)], args := [d1, d2] }
  | _ => none }
def fnExactSegmentsValidRow : OpenClaim := { program := "ytifnnehjpgodfaa", sum := "c7f0ff62fd7e3e60747be4bb6ad5fced05679a0861e9b984a7b40971f9859841", func := "loop.example/flatarrays/laws.FnExactSegmentsValid", spec := "fnExactSegmentsValid", unfollowed := true, recurses := true, apart := false }
def FnExactSegmentsValidSaid : Prop := fnExactSegmentsValidRow.holds Try.pinned (OpenSpec.ofChange fnExactSegmentsValidSpec)

/-- ITS FALSE NEIGHBOUR: 'it returns false'. Refute it at one input. -/
def fnExactSegmentsValidWrong : ChangeSpec := { name := "fnExactSegmentsValid", fn := fun _ => fun
  | [d1, d2] => { results := [.lit (.bool false)], args := [d1, d2] }
  | _ => none }
def FnExactSegmentsValidWrongFalsely : Prop := fnExactSegmentsValidRow.holds Try.pinned (OpenSpec.ofChange fnExactSegmentsValidWrong)

/-- 'laws.FnExactGatherData': WHATEVER THE INPUT: true; the input reads as it did. -/
def fnExactGatherDataSpec : ChangeSpec := { name := "fnExactGatherData", fn := fun _ => fun
  | [d1, d2] => { results := [.lit (.bool true)], args := [d1, d2] }
  | _ => none }
def fnExactGatherDataRow : OpenClaim := { program := "ytifnnehjpgodfaa", sum := "c7f0ff62fd7e3e60747be4bb6ad5fced05679a0861e9b984a7b40971f9859841", func := "loop.example/flatarrays/laws.FnExactGatherData", spec := "fnExactGatherData", unfollowed := true, recurses := true, apart := false }
def FnExactGatherDataSaid : Prop := fnExactGatherDataRow.holds Try.pinned (OpenSpec.ofChange fnExactGatherDataSpec)

/-- ITS FALSE NEIGHBOUR: 'it returns false'. Refute it at one input. -/
def fnExactGatherDataWrong : ChangeSpec := { name := "fnExactGatherData", fn := fun _ => fun
  | [d1, d2] => { results := [.lit (.bool false)], args := [d1, d2] }
  | _ => none }
def FnExactGatherDataWrongFalsely : Prop := fnExactGatherDataRow.holds Try.pinned (OpenSpec.ofChange fnExactGatherDataWrong)

/-- 'laws.FnExactStartsOf': WHATEVER THE INPUT: true; the input reads as it did. -/
def fnExactStartsOfSpec : ChangeSpec := { name := "fnExactStartsOf", fn := fun _ => fun
  | [d] => { results := [.lit (.bool true)], args := [d] }
  | _ => none }
def fnExactStartsOfRow : OpenClaim := { program := "ytifnnehjpgodfaa", sum := "c7f0ff62fd7e3e60747be4bb6ad5fced05679a0861e9b984a7b40971f9859841", func := "loop.example/flatarrays/laws.FnExactStartsOf", spec := "fnExactStartsOf", unfollowed := true, recurses := true, apart := false }
def FnExactStartsOfSaid : Prop := fnExactStartsOfRow.holds Try.pinned (OpenSpec.ofChange fnExactStartsOfSpec)

/-- ITS FALSE NEIGHBOUR: 'it returns false'. Refute it at one input. -/
def fnExactStartsOfWrong : ChangeSpec := { name := "fnExactStartsOf", fn := fun _ => fun
  | [d] => { results := [.lit (.bool false)], args := [d] }
  | _ => none }
def FnExactStartsOfWrongFalsely : Prop := fnExactStartsOfRow.holds Try.pinned (OpenSpec.ofChange fnExactStartsOfWrong)

/-- 'laws.FnExactCountUp': WHATEVER THE INPUT: true; the input reads as it did. -/
def fnExactCountUpSpec : ChangeSpec := { name := "fnExactCountUp", fn := fun _ => fun
  | [d] => { results := [.lit (.bool true)], args := [d] }
  | _ => none }
def fnExactCountUpRow : OpenClaim := { program := "ytifnnehjpgodfaa", sum := "c7f0ff62fd7e3e60747be4bb6ad5fced05679a0861e9b984a7b40971f9859841", func := "loop.example/flatarrays/laws.FnExactCountUp", spec := "fnExactCountUp", unfollowed := true, recurses := true, apart := false }
def FnExactCountUpSaid : Prop := fnExactCountUpRow.holds Try.pinned (OpenSpec.ofChange fnExactCountUpSpec)

/-- ITS FALSE NEIGHBOUR: 'it returns false'. Refute it at one input. -/
def fnExactCountUpWrong : ChangeSpec := { name := "fnExactCountUp", fn := fun _ => fun
  | [d] => { results := [.lit (.bool false)], args := [d] }
  | _ => none }
def FnExactCountUpWrongFalsely : Prop := fnExactCountUpRow.holds Try.pinned (OpenSpec.ofChange fnExactCountUpWrong)

/-- 'laws.FnGather': WHATEVER THE INPUT: true; the input reads as it did. -/
def fnGatherSpec : ChangeSpec := { name := "fnGather", fn := fun _ => fun
  | [d] => { results := [.lit (.bool true)], args := [d] }
  | _ => none }
def fnGatherRow : OpenClaim := { program := "ytifnnehjpgodfaa", sum := "c7f0ff62fd7e3e60747be4bb6ad5fced05679a0861e9b984a7b40971f9859841", func := "loop.example/flatarrays/laws.FnGather", spec := "fnGather", unfollowed := true, recurses := true, apart := false }
def FnGatherSaid : Prop := fnGatherRow.holds Try.pinned (OpenSpec.ofChange fnGatherSpec)

/-- ITS FALSE NEIGHBOUR: 'it returns false'. Refute it at one input. -/
def fnGatherWrong : ChangeSpec := { name := "fnGather", fn := fun _ => fun
  | [d] => { results := [.lit (.bool false)], args := [d] }
  | _ => none }
def FnGatherWrongFalsely : Prop := fnGatherRow.holds Try.pinned (OpenSpec.ofChange fnGatherWrong)

/-- 'laws.FnExactWeaveData': WHATEVER THE INPUT: true; the input reads as it did. -/
def fnExactWeaveDataSpec : ChangeSpec := { name := "fnExactWeaveData", fn := fun _ => fun
  | [d1, d2, d3] => { results := [.lit (.bool true)], args := [d1, d2, d3] }
  | _ => none }
def fnExactWeaveDataRow : OpenClaim := { program := "ytifnnehjpgodfaa", sum := "c7f0ff62fd7e3e60747be4bb6ad5fced05679a0861e9b984a7b40971f9859841", func := "loop.example/flatarrays/laws.FnExactWeaveData", spec := "fnExactWeaveData", unfollowed := true, recurses := true, apart := false }
def FnExactWeaveDataSaid : Prop := fnExactWeaveDataRow.holds Try.pinned (OpenSpec.ofChange fnExactWeaveDataSpec)

/-- ITS FALSE NEIGHBOUR: 'it returns false'. Refute it at one input. -/
def fnExactWeaveDataWrong : ChangeSpec := { name := "fnExactWeaveData", fn := fun _ => fun
  | [d1, d2, d3] => { results := [.lit (.bool false)], args := [d1, d2, d3] }
  | _ => none }
def FnExactWeaveDataWrongFalsely : Prop := fnExactWeaveDataRow.holds Try.pinned (OpenSpec.ofChange fnExactWeaveDataWrong)

/-- 'laws.FnExactMergeLengths': WHATEVER THE INPUT: true; the input reads as it did. -/
def fnExactMergeLengthsSpec : ChangeSpec := { name := "fnExactMergeLengths", fn := fun _ => fun
  | [d1, d2] => { results := [.lit (.bool true)], args := [d1, d2] }
  | _ => none }
def fnExactMergeLengthsRow : OpenClaim := { program := "ytifnnehjpgodfaa", sum := "c7f0ff62fd7e3e60747be4bb6ad5fced05679a0861e9b984a7b40971f9859841", func := "loop.example/flatarrays/laws.FnExactMergeLengths", spec := "fnExactMergeLengths", unfollowed := true, recurses := true, apart := false }
def FnExactMergeLengthsSaid : Prop := fnExactMergeLengthsRow.holds Try.pinned (OpenSpec.ofChange fnExactMergeLengthsSpec)

/-- ITS FALSE NEIGHBOUR: 'it returns false'. Refute it at one input. -/
def fnExactMergeLengthsWrong : ChangeSpec := { name := "fnExactMergeLengths", fn := fun _ => fun
  | [d1, d2] => { results := [.lit (.bool false)], args := [d1, d2] }
  | _ => none }
def FnExactMergeLengthsWrongFalsely : Prop := fnExactMergeLengthsRow.holds Try.pinned (OpenSpec.ofChange fnExactMergeLengthsWrong)

/-- 'laws.FnExactTurnSegments': WHATEVER THE INPUT: true; the input reads as it did. -/
def fnExactTurnSegmentsSpec : ChangeSpec := { name := "fnExactTurnSegments", fn := fun _ => fun
  | [d] => { results := [.lit (.bool true)], args := [d] }
  | _ => none }
def fnExactTurnSegmentsRow : OpenClaim := { program := "ytifnnehjpgodfaa", sum := "c7f0ff62fd7e3e60747be4bb6ad5fced05679a0861e9b984a7b40971f9859841", func := "loop.example/flatarrays/laws.FnExactTurnSegments", spec := "fnExactTurnSegments", unfollowed := true, recurses := true, apart := false }
def FnExactTurnSegmentsSaid : Prop := fnExactTurnSegmentsRow.holds Try.pinned (OpenSpec.ofChange fnExactTurnSegmentsSpec)

/-- ITS FALSE NEIGHBOUR: 'it returns false'. Refute it at one input. -/
def fnExactTurnSegmentsWrong : ChangeSpec := { name := "fnExactTurnSegments", fn := fun _ => fun
  | [d] => { results := [.lit (.bool false)], args := [d] }
  | _ => none }
def FnExactTurnSegmentsWrongFalsely : Prop := fnExactTurnSegmentsRow.holds Try.pinned (OpenSpec.ofChange fnExactTurnSegmentsWrong)

/-- 'laws.FnExactPackSegments': WHATEVER THE INPUT: true; the input reads as it did. -/
def fnExactPackSegmentsSpec : ChangeSpec := { name := "fnExactPackSegments", fn := fun _ => fun
  | [d1, d2, d3] => { results := [.lit (.bool true)], args := [d1, d2, d3] }
  | _ => none }
def fnExactPackSegmentsRow : OpenClaim := { program := "ytifnnehjpgodfaa", sum := "c7f0ff62fd7e3e60747be4bb6ad5fced05679a0861e9b984a7b40971f9859841", func := "loop.example/flatarrays/laws.FnExactPackSegments", spec := "fnExactPackSegments", unfollowed := true, recurses := true, apart := false }
def FnExactPackSegmentsSaid : Prop := fnExactPackSegmentsRow.holds Try.pinned (OpenSpec.ofChange fnExactPackSegmentsSpec)

/-- ITS FALSE NEIGHBOUR: 'it returns false'. Refute it at one input. -/
def fnExactPackSegmentsWrong : ChangeSpec := { name := "fnExactPackSegments", fn := fun _ => fun
  | [d1, d2, d3] => { results := [.lit (.bool false)], args := [d1, d2, d3] }
  | _ => none }
def FnExactPackSegmentsWrongFalsely : Prop := fnExactPackSegmentsRow.holds Try.pinned (OpenSpec.ofChange fnExactPackSegmentsWrong)

/-- 'laws.FnExactSumSegments': WHATEVER THE INPUT: true; the input reads as it did. -/
def fnExactSumSegmentsSpec : ChangeSpec := { name := "fnExactSumSegments", fn := fun _ => fun
  | [d1, d2] => { results := [.lit (.bool true)], args := [d1, d2] }
  | _ => none }
def fnExactSumSegmentsRow : OpenClaim := { program := "ytifnnehjpgodfaa", sum := "c7f0ff62fd7e3e60747be4bb6ad5fced05679a0861e9b984a7b40971f9859841", func := "loop.example/flatarrays/laws.FnExactSumSegments", spec := "fnExactSumSegments", unfollowed := true, recurses := true, apart := false }
def FnExactSumSegmentsSaid : Prop := fnExactSumSegmentsRow.holds Try.pinned (OpenSpec.ofChange fnExactSumSegmentsSpec)

/-- ITS FALSE NEIGHBOUR: 'it returns false'. Refute it at one input. -/
def fnExactSumSegmentsWrong : ChangeSpec := { name := "fnExactSumSegments", fn := fun _ => fun
  | [d1, d2] => { results := [.lit (.bool false)], args := [d1, d2] }
  | _ => none }
def FnExactSumSegmentsWrongFalsely : Prop := fnExactSumSegmentsRow.holds Try.pinned (OpenSpec.ofChange fnExactSumSegmentsWrong)

/-- 'laws.FnExactSpreadValues': WHATEVER THE INPUT: true; the input reads as it did. -/
def fnExactSpreadValuesSpec : ChangeSpec := { name := "fnExactSpreadValues", fn := fun _ => fun
  | [d1, d2] => { results := [.lit (.bool true)], args := [d1, d2] }
  | _ => none }
def fnExactSpreadValuesRow : OpenClaim := { program := "ytifnnehjpgodfaa", sum := "c7f0ff62fd7e3e60747be4bb6ad5fced05679a0861e9b984a7b40971f9859841", func := "loop.example/flatarrays/laws.FnExactSpreadValues", spec := "fnExactSpreadValues", unfollowed := true, recurses := true, apart := false }
def FnExactSpreadValuesSaid : Prop := fnExactSpreadValuesRow.holds Try.pinned (OpenSpec.ofChange fnExactSpreadValuesSpec)

/-- ITS FALSE NEIGHBOUR: 'it returns false'. Refute it at one input. -/
def fnExactSpreadValuesWrong : ChangeSpec := { name := "fnExactSpreadValues", fn := fun _ => fun
  | [d1, d2] => { results := [.lit (.bool false)], args := [d1, d2] }
  | _ => none }
def FnExactSpreadValuesWrongFalsely : Prop := fnExactSpreadValuesRow.holds Try.pinned (OpenSpec.ofChange fnExactSpreadValuesWrong)

/- THE SECOND FORM. 'bulk': how many values and letters a reading holds, each counted each time it is reached (what is shared counts as often as it is met; a slice's spare places count too). A statement '..UptoSaid' is the law's where the arguments, and the package variables that the reading takes, are together of bulk at most 1048576: NARROWER than '..Said'. Prove '..Said' where nothing that the law and all that it calls make is longer than what came in: it says more and counts as full. Else prove '..UptoSaid'. A law counts once. -/
mutual
def uptoBulk {H : Type} : DataW H → Nat
  | .lit (.string bytes) => bytes.length + 1
  | .lit _ => 1
  | .nil => 1
  | .ptr d => uptoBulk d + 1
  | .slice elems spare => uptoBulkAll elems + uptoBulkAll spare + 1
  | .agg parts => uptoBulkAll parts + 1
  | .iface _ d => uptoBulk d + 1
  | .map entries => uptoBulkEntries entries + 1
  | .held _ => 1
def uptoBulkAll {H : Type} : List (DataW H) → Nat
  | [] => 0
  | d :: r => uptoBulk d + uptoBulkAll r
def uptoBulkEntries {H : Type} : List (Lit × DataW H) → Nat
  | [] => 0
  | x :: r => uptoBulkEntry x + uptoBulkEntries r
def uptoBulkEntry {H : Type} : Lit × DataW H → Nat
  | (.string bytes, d) => bytes.length + uptoBulk d + 1
  | (_, d) => uptoBulk d + 1
 end
def uptoSmall : (H : Type) → List (DataW H) → Bool := fun _ ds => decide (uptoBulkAll ds ≤ 1048576)
def OpenSpec.upto (s : _root_.Go.ChangeSpec) : _root_.Go.OpenSpec := { _root_.Go.OpenSpec.ofChange s with cond := some uptoSmall }

/-- 'laws.FnExactConstants', WHERE WHAT IT READS IS OF BULK AT MOST 1048576: true; the input reads as it did. -/
def fnExactConstantsUptoRow : OpenClaim := { program := "ytifnnehjpgodfaa", sum := "c7f0ff62fd7e3e60747be4bb6ad5fced05679a0861e9b984a7b40971f9859841", func := "loop.example/flatarrays/laws.FnExactConstants", spec := "fnExactConstants", apart := false, narrowed := true }
def FnExactConstantsUptoSaid : Prop := fnExactConstantsUptoRow.holds Try.pinned (OpenSpec.upto fnExactConstantsSpec)

/-- 'laws.FnExactSegmentsValid', WHERE WHAT IT READS IS OF BULK AT MOST 1048576: true; the input reads as it did. -/
def fnExactSegmentsValidUptoRow : OpenClaim := { program := "ytifnnehjpgodfaa", sum := "c7f0ff62fd7e3e60747be4bb6ad5fced05679a0861e9b984a7b40971f9859841", func := "loop.example/flatarrays/laws.FnExactSegmentsValid", spec := "fnExactSegmentsValid", unfollowed := true, recurses := true, apart := false, narrowed := true }
def FnExactSegmentsValidUptoSaid : Prop := fnExactSegmentsValidUptoRow.holds Try.pinned (OpenSpec.upto fnExactSegmentsValidSpec)

/-- 'laws.FnExactGatherData', WHERE WHAT IT READS IS OF BULK AT MOST 1048576: true; the input reads as it did. -/
def fnExactGatherDataUptoRow : OpenClaim := { program := "ytifnnehjpgodfaa", sum := "c7f0ff62fd7e3e60747be4bb6ad5fced05679a0861e9b984a7b40971f9859841", func := "loop.example/flatarrays/laws.FnExactGatherData", spec := "fnExactGatherData", unfollowed := true, recurses := true, apart := false, narrowed := true }
def FnExactGatherDataUptoSaid : Prop := fnExactGatherDataUptoRow.holds Try.pinned (OpenSpec.upto fnExactGatherDataSpec)

/-- 'laws.FnExactStartsOf', WHERE WHAT IT READS IS OF BULK AT MOST 1048576: true; the input reads as it did. -/
def fnExactStartsOfUptoRow : OpenClaim := { program := "ytifnnehjpgodfaa", sum := "c7f0ff62fd7e3e60747be4bb6ad5fced05679a0861e9b984a7b40971f9859841", func := "loop.example/flatarrays/laws.FnExactStartsOf", spec := "fnExactStartsOf", unfollowed := true, recurses := true, apart := false, narrowed := true }
def FnExactStartsOfUptoSaid : Prop := fnExactStartsOfUptoRow.holds Try.pinned (OpenSpec.upto fnExactStartsOfSpec)

/-- 'laws.FnExactCountUp', WHERE WHAT IT READS IS OF BULK AT MOST 1048576: true; the input reads as it did. -/
def fnExactCountUpUptoRow : OpenClaim := { program := "ytifnnehjpgodfaa", sum := "c7f0ff62fd7e3e60747be4bb6ad5fced05679a0861e9b984a7b40971f9859841", func := "loop.example/flatarrays/laws.FnExactCountUp", spec := "fnExactCountUp", unfollowed := true, recurses := true, apart := false, narrowed := true }
def FnExactCountUpUptoSaid : Prop := fnExactCountUpUptoRow.holds Try.pinned (OpenSpec.upto fnExactCountUpSpec)

/-- 'laws.FnGather', WHERE WHAT IT READS IS OF BULK AT MOST 1048576: true; the input reads as it did. -/
def fnGatherUptoRow : OpenClaim := { program := "ytifnnehjpgodfaa", sum := "c7f0ff62fd7e3e60747be4bb6ad5fced05679a0861e9b984a7b40971f9859841", func := "loop.example/flatarrays/laws.FnGather", spec := "fnGather", unfollowed := true, recurses := true, apart := false, narrowed := true }
def FnGatherUptoSaid : Prop := fnGatherUptoRow.holds Try.pinned (OpenSpec.upto fnGatherSpec)

/-- 'laws.FnExactWeaveData', WHERE WHAT IT READS IS OF BULK AT MOST 1048576: true; the input reads as it did. -/
def fnExactWeaveDataUptoRow : OpenClaim := { program := "ytifnnehjpgodfaa", sum := "c7f0ff62fd7e3e60747be4bb6ad5fced05679a0861e9b984a7b40971f9859841", func := "loop.example/flatarrays/laws.FnExactWeaveData", spec := "fnExactWeaveData", unfollowed := true, recurses := true, apart := false, narrowed := true }
def FnExactWeaveDataUptoSaid : Prop := fnExactWeaveDataUptoRow.holds Try.pinned (OpenSpec.upto fnExactWeaveDataSpec)

/-- 'laws.FnExactMergeLengths', WHERE WHAT IT READS IS OF BULK AT MOST 1048576: true; the input reads as it did. -/
def fnExactMergeLengthsUptoRow : OpenClaim := { program := "ytifnnehjpgodfaa", sum := "c7f0ff62fd7e3e60747be4bb6ad5fced05679a0861e9b984a7b40971f9859841", func := "loop.example/flatarrays/laws.FnExactMergeLengths", spec := "fnExactMergeLengths", unfollowed := true, recurses := true, apart := false, narrowed := true }
def FnExactMergeLengthsUptoSaid : Prop := fnExactMergeLengthsUptoRow.holds Try.pinned (OpenSpec.upto fnExactMergeLengthsSpec)

/-- 'laws.FnExactTurnSegments', WHERE WHAT IT READS IS OF BULK AT MOST 1048576: true; the input reads as it did. -/
def fnExactTurnSegmentsUptoRow : OpenClaim := { program := "ytifnnehjpgodfaa", sum := "c7f0ff62fd7e3e60747be4bb6ad5fced05679a0861e9b984a7b40971f9859841", func := "loop.example/flatarrays/laws.FnExactTurnSegments", spec := "fnExactTurnSegments", unfollowed := true, recurses := true, apart := false, narrowed := true }
def FnExactTurnSegmentsUptoSaid : Prop := fnExactTurnSegmentsUptoRow.holds Try.pinned (OpenSpec.upto fnExactTurnSegmentsSpec)

/-- 'laws.FnExactPackSegments', WHERE WHAT IT READS IS OF BULK AT MOST 1048576: true; the input reads as it did. -/
def fnExactPackSegmentsUptoRow : OpenClaim := { program := "ytifnnehjpgodfaa", sum := "c7f0ff62fd7e3e60747be4bb6ad5fced05679a0861e9b984a7b40971f9859841", func := "loop.example/flatarrays/laws.FnExactPackSegments", spec := "fnExactPackSegments", unfollowed := true, recurses := true, apart := false, narrowed := true }
def FnExactPackSegmentsUptoSaid : Prop := fnExactPackSegmentsUptoRow.holds Try.pinned (OpenSpec.upto fnExactPackSegmentsSpec)

/-- 'laws.FnExactSumSegments', WHERE WHAT IT READS IS OF BULK AT MOST 1048576: true; the input reads as it did. -/
def fnExactSumSegmentsUptoRow : OpenClaim := { program := "ytifnnehjpgodfaa", sum := "c7f0ff62fd7e3e60747be4bb6ad5fced05679a0861e9b984a7b40971f9859841", func := "loop.example/flatarrays/laws.FnExactSumSegments", spec := "fnExactSumSegments", unfollowed := true, recurses := true, apart := false, narrowed := true }
def FnExactSumSegmentsUptoSaid : Prop := fnExactSumSegmentsUptoRow.holds Try.pinned (OpenSpec.upto fnExactSumSegmentsSpec)

/-- 'laws.FnExactSpreadValues', WHERE WHAT IT READS IS OF BULK AT MOST 1048576: true; the input reads as it did. -/
def fnExactSpreadValuesUptoRow : OpenClaim := { program := "ytifnnehjpgodfaa", sum := "c7f0ff62fd7e3e60747be4bb6ad5fced05679a0861e9b984a7b40971f9859841", func := "loop.example/flatarrays/laws.FnExactSpreadValues", spec := "fnExactSpreadValues", unfollowed := true, recurses := true, apart := false, narrowed := true }
def FnExactSpreadValuesUptoSaid : Prop := fnExactSpreadValuesUptoRow.holds Try.pinned (OpenSpec.upto fnExactSpreadValuesSpec)

end Rows
end Go.Proofs.Ytifnnehjpgodfaa
