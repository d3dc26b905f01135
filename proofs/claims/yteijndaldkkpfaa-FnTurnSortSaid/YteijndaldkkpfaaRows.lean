/-
  No cell of these rows narrows 'for every input' (looked for: loops, veiled, ifaces, maps, wideKeys, modest, calm, conditions, laid).
  DERIVED. THE GIVEN ROWS OF THIS SEAT. 7 by the template 'for every input the law returns true; each argument reads behind the call as it read before'; 0 by the template 'total and deterministic' (their statements: YteijndaldkkpfaaTotals.lean).
  GIVEN WITH THE SEED: the statements are not yours to turn. If you find one false, say at which input.
  Laid BY PROGRAM, IN A SANDBOX (cutbox-rows.mjs): the forced cells as the released guide's own fill.sh prints them over the translation 4c5df1ac2f950eb2… (all of the seat's roots in one cut). By AI agents, Wed Nov 11 2026. No macro, syntax, notation, axiom, sorry.
-/
import Derived.Test.YteijndaldkkpfaaChecked
import GoSem.Claim
import GoSem.ClaimJoined
import GoSem.ClaimMapViews
import Derived.JoinedTies
import Derived.KernelRfl
namespace Go.Proofs.Yteijndaldkkpfaa
/- THE CELL 'sum', in the pinned program and in every row, IS THE sha256 OF THE DUMP (.gsa) THAT YteijndaldkkpfaaProg.lean LOADS. Nothing in Lean hashes anything: it is a label: what it is worth is what the hold of that sum in a sandbox is worth. -/
noncomputable def Try.pinned : Pinned := { name := "yteijndaldkkpfaa", sum := "4c5df1ac2f950eb276449488a58fd3924ea74ddf868f9e3078f46ad73f17d78a", checked := Try.checked }
namespace Rows
def none {H : Type} : Left H := { results := [], args := [] }

/-- 'laws.FnExactScatterData': WHATEVER THE INPUT: true; the input reads as it did. -/
def fnExactScatterDataSpec : ChangeSpec := { name := "fnExactScatterData", fn := fun _ => fun
  | [d1, d2] => { results := [.lit (.bool true)], args := [d1, d2] }
  | _ => none }
def fnExactScatterDataRow : OpenClaim := { program := "yteijndaldkkpfaa", sum := "4c5df1ac2f950eb276449488a58fd3924ea74ddf868f9e3078f46ad73f17d78a", func := "loop.example/flatarrays/laws.FnExactScatterData", spec := "fnExactScatterData", unfollowed := true, recurses := true, apart := false }
def FnExactScatterDataSaid : Prop := fnExactScatterDataRow.holds Try.pinned (OpenSpec.ofChange fnExactScatterDataSpec)

/-- ITS FALSE NEIGHBOUR: 'it returns false'. Refute it at one input. -/
def fnExactScatterDataWrong : ChangeSpec := { name := "fnExactScatterData", fn := fun _ => fun
  | [d1, d2] => { results := [.lit (.bool false)], args := [d1, d2] }
  | _ => none }
def FnExactScatterDataWrongFalsely : Prop := fnExactScatterDataRow.holds Try.pinned (OpenSpec.ofChange fnExactScatterDataWrong)

/-- 'laws.FnScatter': WHATEVER THE INPUT: true; the input reads as it did. -/
def fnScatterSpec : ChangeSpec := { name := "fnScatter", fn := fun _ => fun
  | [d] => { results := [.lit (.bool true)], args := [d] }
  | _ => none }
def fnScatterRow : OpenClaim := { program := "yteijndaldkkpfaa", sum := "4c5df1ac2f950eb276449488a58fd3924ea74ddf868f9e3078f46ad73f17d78a", func := "loop.example/flatarrays/laws.FnScatter", spec := "fnScatter", unfollowed := true, recurses := true, apart := false }
def FnScatterSaid : Prop := fnScatterRow.holds Try.pinned (OpenSpec.ofChange fnScatterSpec)

/-- ITS FALSE NEIGHBOUR: 'it returns false'. Refute it at one input. -/
def fnScatterWrong : ChangeSpec := { name := "fnScatter", fn := fun _ => fun
  | [d] => { results := [.lit (.bool false)], args := [d] }
  | _ => none }
def FnScatterWrongFalsely : Prop := fnScatterRow.holds Try.pinned (OpenSpec.ofChange fnScatterWrong)

/-- 'laws.FnTurnSort': WHATEVER THE INPUT: true; the input reads as it did. -/
def fnTurnSortSpec : ChangeSpec := { name := "fnTurnSort", fn := fun _ => fun
  | [d] => { results := [.lit (.bool true)], args := [d] }
  | _ => none }
def fnTurnSortRow : OpenClaim := { program := "yteijndaldkkpfaa", sum := "4c5df1ac2f950eb276449488a58fd3924ea74ddf868f9e3078f46ad73f17d78a", func := "loop.example/flatarrays/laws.FnTurnSort", spec := "fnTurnSort", unfollowed := true, recurses := true, apart := false }
def FnTurnSortSaid : Prop := fnTurnSortRow.holds Try.pinned (OpenSpec.ofChange fnTurnSortSpec)

/-- ITS FALSE NEIGHBOUR: 'it returns false'. Refute it at one input. -/
def fnTurnSortWrong : ChangeSpec := { name := "fnTurnSort", fn := fun _ => fun
  | [d] => { results := [.lit (.bool false)], args := [d] }
  | _ => none }
def FnTurnSortWrongFalsely : Prop := fnTurnSortRow.holds Try.pinned (OpenSpec.ofChange fnTurnSortWrong)

/-- 'laws.FnExactWhatIsWrong': WHATEVER THE INPUT: true; the input reads as it did. -/
def fnExactWhatIsWrongSpec : ChangeSpec := { name := "fnExactWhatIsWrong", fn := fun _ => fun
  | [d] => { results := [.lit (.bool true)], args := [d] }
  | _ => none }
def fnExactWhatIsWrongRow : OpenClaim := { program := "yteijndaldkkpfaa", sum := "4c5df1ac2f950eb276449488a58fd3924ea74ddf868f9e3078f46ad73f17d78a", func := "loop.example/flatarrays/laws.FnExactWhatIsWrong", spec := "fnExactWhatIsWrong", unfollowed := true, recurses := true, apart := false }
def FnExactWhatIsWrongSaid : Prop := fnExactWhatIsWrongRow.holds Try.pinned (OpenSpec.ofChange fnExactWhatIsWrongSpec)

/-- ITS FALSE NEIGHBOUR: 'it returns false'. Refute it at one input. -/
def fnExactWhatIsWrongWrong : ChangeSpec := { name := "fnExactWhatIsWrong", fn := fun _ => fun
  | [d] => { results := [.lit (.bool false)], args := [d] }
  | _ => none }
def FnExactWhatIsWrongWrongFalsely : Prop := fnExactWhatIsWrongRow.holds Try.pinned (OpenSpec.ofChange fnExactWhatIsWrongWrong)

/-- 'laws.FnExactLayoutValid': WHATEVER THE INPUT: true; the input reads as it did. -/
def fnExactLayoutValidSpec : ChangeSpec := { name := "fnExactLayoutValid", fn := fun _ => fun
  | [d] => { results := [.lit (.bool true)], args := [d] }
  | _ => none }
def fnExactLayoutValidRow : OpenClaim := { program := "yteijndaldkkpfaa", sum := "4c5df1ac2f950eb276449488a58fd3924ea74ddf868f9e3078f46ad73f17d78a", func := "loop.example/flatarrays/laws.FnExactLayoutValid", spec := "fnExactLayoutValid", unfollowed := true, recurses := true, apart := false }
def FnExactLayoutValidSaid : Prop := fnExactLayoutValidRow.holds Try.pinned (OpenSpec.ofChange fnExactLayoutValidSpec)

/-- ITS FALSE NEIGHBOUR: 'it returns false'. Refute it at one input. -/
def fnExactLayoutValidWrong : ChangeSpec := { name := "fnExactLayoutValid", fn := fun _ => fun
  | [d] => { results := [.lit (.bool false)], args := [d] }
  | _ => none }
def FnExactLayoutValidWrongFalsely : Prop := fnExactLayoutValidRow.holds Try.pinned (OpenSpec.ofChange fnExactLayoutValidWrong)

/-- 'laws.FnExactPlaceOf': WHATEVER THE INPUT: true; the input reads as it did. -/
def fnExactPlaceOfSpec : ChangeSpec := { name := "fnExactPlaceOf", fn := fun _ => fun
  | [d1, d2] => { results := [.lit (.bool true)], args := [d1, d2] }
  | _ => none }
def fnExactPlaceOfRow : OpenClaim := { program := "yteijndaldkkpfaa", sum := "4c5df1ac2f950eb276449488a58fd3924ea74ddf868f9e3078f46ad73f17d78a", func := "loop.example/flatarrays/laws.FnExactPlaceOf", spec := "fnExactPlaceOf", unfollowed := true, recurses := true, apart := false }
def FnExactPlaceOfSaid : Prop := fnExactPlaceOfRow.holds Try.pinned (OpenSpec.ofChange fnExactPlaceOfSpec)

/-- ITS FALSE NEIGHBOUR: 'it returns false'. Refute it at one input. -/
def fnExactPlaceOfWrong : ChangeSpec := { name := "fnExactPlaceOf", fn := fun _ => fun
  | [d1, d2] => { results := [.lit (.bool false)], args := [d1, d2] }
  | _ => none }
def FnExactPlaceOfWrongFalsely : Prop := fnExactPlaceOfRow.holds Try.pinned (OpenSpec.ofChange fnExactPlaceOfWrong)

/-- 'laws.FnExactInnerOf': WHATEVER THE INPUT: true; the input reads as it did. -/
def fnExactInnerOfSpec : ChangeSpec := { name := "fnExactInnerOf", fn := fun _ => fun
  | [d] => { results := [.lit (.bool true)], args := [d] }
  | _ => none }
def fnExactInnerOfRow : OpenClaim := { program := "yteijndaldkkpfaa", sum := "4c5df1ac2f950eb276449488a58fd3924ea74ddf868f9e3078f46ad73f17d78a", func := "loop.example/flatarrays/laws.FnExactInnerOf", spec := "fnExactInnerOf", unfollowed := true, recurses := true, apart := false }
def FnExactInnerOfSaid : Prop := fnExactInnerOfRow.holds Try.pinned (OpenSpec.ofChange fnExactInnerOfSpec)

/-- ITS FALSE NEIGHBOUR: 'it returns false'. Refute it at one input. -/
def fnExactInnerOfWrong : ChangeSpec := { name := "fnExactInnerOf", fn := fun _ => fun
  | [d] => { results := [.lit (.bool false)], args := [d] }
  | _ => none }
def FnExactInnerOfWrongFalsely : Prop := fnExactInnerOfRow.holds Try.pinned (OpenSpec.ofChange fnExactInnerOfWrong)

/- THE SECOND FORM. 'bulk': how many values and letters a reading holds, each counted each time it is reached (what is shared counts as often as it is met; a slice's spare places count too). A statement '..UptoSaid' is the law's where the arguments, and the package variables that the reading takes, are together of bulk at most 1048576: NARROWER than '..Said'. Prove '..Said' where nothing that the law and all that it calls make is longer than what came in: it says more and counts as full. Else prove '..UptoSaid'. A law counts once. -/
mutual
def uptoBulk {H : Type} : DataW H → Nat
  | .lit (.string bytes) => bytes.length + 1
  | .lit _ => 1
  | .nil => 1
  | .ptr d => uptoBulk d + 1
  | .slice elems spare => uptoBulkAll elems + uptoBulkAll spare + 1
  | .agg parts => uptoBulkAll parts + 1
  | .iface _ d => uptoBulk d + 1
  | .map entries => uptoBulkEntries entries + 1
  | .held _ => 1
def uptoBulkAll {H : Type} : List (DataW H) → Nat
  | [] => 0
  | d :: r => uptoBulk d + uptoBulkAll r
def uptoBulkEntries {H : Type} : List (Lit × DataW H) → Nat
  | [] => 0
  | x :: r => uptoBulkEntry x + uptoBulkEntries r
def uptoBulkEntry {H : Type} : Lit × DataW H → Nat
  | (.string bytes, d) => bytes.length + uptoBulk d + 1
  | (_, d) => uptoBulk d + 1
 end
def uptoSmall : (H : Type) → List (DataW H) → Bool := fun _ ds => decide (uptoBulkAll ds ≤ 1048576)
def OpenSpec.upto (s : _root_.Go.ChangeSpec) : _root_.Go.OpenSpec := { _root_.Go.OpenSpec.ofChange s with cond := some uptoSmall }

/-- 'laws.FnExactScatterData', WHERE WHAT IT READS IS OF BULK AT MOST 1048576: true; the input reads as it did. -/
def fnExactScatterDataUptoRow : OpenClaim := { program := "yteijndaldkkpfaa", sum := "4c5df1ac2f950eb276449488a58fd3924ea74ddf868f9e3078f46ad73f17d78a", func := "loop.example/flatarrays/laws.FnExactScatterData", spec := "fnExactScatterData", unfollowed := true, recurses := true, apart := false, narrowed := true }
def FnExactScatterDataUptoSaid : Prop := fnExactScatterDataUptoRow.holds Try.pinned (OpenSpec.upto fnExactScatterDataSpec)

/-- 'laws.FnScatter', WHERE WHAT IT READS IS OF BULK AT MOST 1048576: true; the input reads as it did. -/
def fnScatterUptoRow : OpenClaim := { program := "yteijndaldkkpfaa", sum := "4c5df1ac2f950eb276449488a58fd3924ea74ddf868f9e3078f46ad73f17d78a", func := "loop.example/flatarrays/laws.FnScatter", spec := "fnScatter", unfollowed := true, recurses := true, apart := false, narrowed := true }
def FnScatterUptoSaid : Prop := fnScatterUptoRow.holds Try.pinned (OpenSpec.upto fnScatterSpec)

/-- 'laws.FnTurnSort', WHERE WHAT IT READS IS OF BULK AT MOST 1048576: true; the input reads as it did. -/
def fnTurnSortUptoRow : OpenClaim := { program := "yteijndaldkkpfaa", sum := "4c5df1ac2f950eb276449488a58fd3924ea74ddf868f9e3078f46ad73f17d78a", func := "loop.example/flatarrays/laws.FnTurnSort", spec := "fnTurnSort", unfollowed := true, recurses := true, apart := false, narrowed := true }
def FnTurnSortUptoSaid : Prop := fnTurnSortUptoRow.holds Try.pinned (OpenSpec.upto fnTurnSortSpec)

/-- 'laws.FnExactWhatIsWrong', WHERE WHAT IT READS IS OF BULK AT MOST 1048576: true; the input reads as it did. -/
def fnExactWhatIsWrongUptoRow : OpenClaim := { program := "yteijndaldkkpfaa", sum := "4c5df1ac2f950eb276449488a58fd3924ea74ddf868f9e3078f46ad73f17d78a", func := "loop.example/flatarrays/laws.FnExactWhatIsWrong", spec := "fnExactWhatIsWrong", unfollowed := true, recurses := true, apart := false, narrowed := true }
def FnExactWhatIsWrongUptoSaid : Prop := fnExactWhatIsWrongUptoRow.holds Try.pinned (OpenSpec.upto fnExactWhatIsWrongSpec)

/-- 'laws.FnExactLayoutValid', WHERE WHAT IT READS IS OF BULK AT MOST 1048576: true; the input reads as it did. -/
def fnExactLayoutValidUptoRow : OpenClaim := { program := "yteijndaldkkpfaa", sum := "4c5df1ac2f950eb276449488a58fd3924ea74ddf868f9e3078f46ad73f17d78a", func := "loop.example/flatarrays/laws.FnExactLayoutValid", spec := "fnExactLayoutValid", unfollowed := true, recurses := true, apart := false, narrowed := true }
def FnExactLayoutValidUptoSaid : Prop := fnExactLayoutValidUptoRow.holds Try.pinned (OpenSpec.upto fnExactLayoutValidSpec)

/-- 'laws.FnExactPlaceOf', WHERE WHAT IT READS IS OF BULK AT MOST 1048576: true; the input reads as it did. -/
def fnExactPlaceOfUptoRow : OpenClaim := { program := "yteijndaldkkpfaa", sum := "4c5df1ac2f950eb276449488a58fd3924ea74ddf868f9e3078f46ad73f17d78a", func := "loop.example/flatarrays/laws.FnExactPlaceOf", spec := "fnExactPlaceOf", unfollowed := true, recurses := true, apart := false, narrowed := true }
def FnExactPlaceOfUptoSaid : Prop := fnExactPlaceOfUptoRow.holds Try.pinned (OpenSpec.upto fnExactPlaceOfSpec)

/-- 'laws.FnExactInnerOf', WHERE WHAT IT READS IS OF BULK AT MOST 1048576: true; the input reads as it did. -/
def fnExactInnerOfUptoRow : OpenClaim := { program := "yteijndaldkkpfaa", sum := "4c5df1ac2f950eb276449488a58fd3924ea74ddf868f9e3078f46ad73f17d78a", func := "loop.example/flatarrays/laws.FnExactInnerOf", spec := "fnExactInnerOf", unfollowed := true, recurses := true, apart := false, narrowed := true }
def FnExactInnerOfUptoSaid : Prop := fnExactInnerOfUptoRow.holds Try.pinned (OpenSpec.upto fnExactInnerOfSpec)

end Rows
end Go.Proofs.Yteijndaldkkpfaa
