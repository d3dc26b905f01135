/-
  No cell of these rows narrows 'for every input' (looked for: loops, veiled, ifaces, maps, wideKeys, modest, calm, conditions, laid).
  DERIVED. THE GIVEN ROWS OF THIS SEAT. 11 by the template 'for every input the law returns true; each argument reads behind the call as it read before'; 0 by the template 'total and deterministic' (their statements: YtjelhemaohjkdaaTotals.lean).
  GIVEN WITH THE SEED: the statements are not yours to turn. If you find one false, say at which input.
  Laid BY PROGRAM, IN A SANDBOX (cutbox-rows.mjs): the forced cells as the released guide's own fill.sh prints them over the translation 514de44890f85ecb… (all of the seat's roots in one cut). By AI agents, Wed Nov 11 2026. No macro, syntax, notation, axiom, sorry.
-/
import Derived.Test.YtjelhemaohjkdaaChecked
import GoSem.Claim
import GoSem.ClaimJoined
import GoSem.ClaimMapViews
import Derived.JoinedTies
import Derived.KernelRfl
namespace Go.Proofs.Ytjelhemaohjkdaa
/- THE CELL 'sum', in the pinned program and in every row, IS THE sha256 OF THE DUMP (.gsa) THAT YtjelhemaohjkdaaProg.lean LOADS. Nothing in Lean hashes anything: it is a label: what it is worth is what the hold of that sum in a sandbox is worth. -/
noncomputable def Try.pinned : Pinned := { name := "ytjelhemaohjkdaa", sum := "514de44890f85ecb6926fc6980aa3fb0ba967b396a3778d113a07ab395676575", checked := Try.checked }
namespace Rows
def none {H : Type} : Left H := { results := [], args := [] }

/-- 'laws.FnExactTermValid': WHATEVER THE INPUT: true; the input reads as it did. -/
def fnExactTermValidSpec : ChangeSpec := { name := "fnExactTermValid", fn := fun _ => fun
  | [d] => { results := [.lit (.bool true)], args := [d] }
  | _ => none }
def fnExactTermValidRow : OpenClaim := { program := "ytjelhemaohjkdaa", sum := "514de44890f85ecb6926fc6980aa3fb0ba967b396a3778d113a07ab395676575", func := "loop.example/flatarrays/laws.FnExactTermValid", spec := "fnExactTermValid", inPlace := ["internal/bytealg.IndexByteString", "internal/bytealg.IndexString"], recurses := true, named := ["internal/bytealg.MaxLen"], apart := false }
def FnExactTermValidSaid : Prop := fnExactTermValidRow.holds Try.pinned (OpenSpec.ofChange fnExactTermValidSpec)

/-- ITS FALSE NEIGHBOUR: 'it returns false'. Refute it at one input. -/
def fnExactTermValidWrong : ChangeSpec := { name := "fnExactTermValid", fn := fun _ => fun
  | [d] => { results := [.lit (.bool false)], args := [d] }
  | _ => none }
def FnExactTermValidWrongFalsely : Prop := fnExactTermValidRow.holds Try.pinned (OpenSpec.ofChange fnExactTermValidWrong)

/-- 'laws.FnExactSignOf': WHATEVER THE INPUT: true; the input reads as it did. -/
def fnExactSignOfSpec : ChangeSpec := { name := "fnExactSignOf", fn := fun _ => fun
  | [d] => { results := [.lit (.bool true)], args := [d] }
  | _ => none }
def fnExactSignOfRow : OpenClaim := { program := "ytjelhemaohjkdaa", sum := "514de44890f85ecb6926fc6980aa3fb0ba967b396a3778d113a07ab395676575", func := "loop.example/flatarrays/laws.FnExactSignOf", spec := "fnExactSignOf", inPlace := ["internal/bytealg.IndexByteString", "internal/bytealg.IndexString"], recurses := true, named := ["internal/bytealg.MaxLen"], apart := false }
def FnExactSignOfSaid : Prop := fnExactSignOfRow.holds Try.pinned (OpenSpec.ofChange fnExactSignOfSpec)

/-- ITS FALSE NEIGHBOUR: 'it returns false'. Refute it at one input. -/
def fnExactSignOfWrong : ChangeSpec := { name := "fnExactSignOf", fn := fun _ => fun
  | [d] => { results := [.lit (.bool false)], args := [d] }
  | _ => none }
def FnExactSignOfWrongFalsely : Prop := fnExactSignOfRow.holds Try.pinned (OpenSpec.ofChange fnExactSignOfWrong)

/-- 'laws.FnExactSizeOfTerm': WHATEVER THE INPUT: true; the input reads as it did. -/
def fnExactSizeOfTermSpec : ChangeSpec := { name := "fnExactSizeOfTerm", fn := fun _ => fun
  | [d] => { results := [.lit (.bool true)], args := [d] }
  | _ => none }
def fnExactSizeOfTermRow : OpenClaim := { program := "ytjelhemaohjkdaa", sum := "514de44890f85ecb6926fc6980aa3fb0ba967b396a3778d113a07ab395676575", func := "loop.example/flatarrays/laws.FnExactSizeOfTerm", spec := "fnExactSizeOfTerm", inPlace := ["internal/bytealg.IndexByteString", "internal/bytealg.IndexString"], recurses := true, named := ["internal/bytealg.MaxLen"], apart := false }
def FnExactSizeOfTermSaid : Prop := fnExactSizeOfTermRow.holds Try.pinned (OpenSpec.ofChange fnExactSizeOfTermSpec)

/-- ITS FALSE NEIGHBOUR: 'it returns false'. Refute it at one input. -/
def fnExactSizeOfTermWrong : ChangeSpec := { name := "fnExactSizeOfTerm", fn := fun _ => fun
  | [d] => { results := [.lit (.bool false)], args := [d] }
  | _ => none }
def FnExactSizeOfTermWrongFalsely : Prop := fnExactSizeOfTermRow.holds Try.pinned (OpenSpec.ofChange fnExactSizeOfTermWrong)

/-- 'laws.FnExactLevelsOf': WHATEVER THE INPUT: true; the input reads as it did. -/
def fnExactLevelsOfSpec : ChangeSpec := { name := "fnExactLevelsOf", fn := fun _ => fun
  | [d] => { results := [.lit (.bool true)], args := [d] }
  | _ => none }
def fnExactLevelsOfRow : OpenClaim := { program := "ytjelhemaohjkdaa", sum := "514de44890f85ecb6926fc6980aa3fb0ba967b396a3778d113a07ab395676575", func := "loop.example/flatarrays/laws.FnExactLevelsOf", spec := "fnExactLevelsOf", inPlace := ["internal/bytealg.IndexByteString", "internal/bytealg.IndexString"], recurses := true, named := ["internal/bytealg.MaxLen"], apart := false }
def FnExactLevelsOfSaid : Prop := fnExactLevelsOfRow.holds Try.pinned (OpenSpec.ofChange fnExactLevelsOfSpec)

/-- ITS FALSE NEIGHBOUR: 'it returns false'. Refute it at one input. -/
def fnExactLevelsOfWrong : ChangeSpec := { name := "fnExactLevelsOf", fn := fun _ => fun
  | [d] => { results := [.lit (.bool false)], args := [d] }
  | _ => none }
def FnExactLevelsOfWrongFalsely : Prop := fnExactLevelsOfRow.holds Try.pinned (OpenSpec.ofChange fnExactLevelsOfWrong)

/-- 'laws.FnExactPartsOfTerm': WHATEVER THE INPUT: true; the input reads as it did. -/
def fnExactPartsOfTermSpec : ChangeSpec := { name := "fnExactPartsOfTerm", fn := fun _ => fun
  | [d] => { results := [.lit (.bool true)], args := [d] }
  | _ => none }
def fnExactPartsOfTermRow : OpenClaim := { program := "ytjelhemaohjkdaa", sum := "514de44890f85ecb6926fc6980aa3fb0ba967b396a3778d113a07ab395676575", func := "loop.example/flatarrays/laws.FnExactPartsOfTerm", spec := "fnExactPartsOfTerm", inPlace := ["internal/bytealg.IndexByteString", "internal/bytealg.IndexString"], recurses := true, named := ["internal/bytealg.MaxLen"], apart := false }
def FnExactPartsOfTermSaid : Prop := fnExactPartsOfTermRow.holds Try.pinned (OpenSpec.ofChange fnExactPartsOfTermSpec)

/-- ITS FALSE NEIGHBOUR: 'it returns false'. Refute it at one input. -/
def fnExactPartsOfTermWrong : ChangeSpec := { name := "fnExactPartsOfTerm", fn := fun _ => fun
  | [d] => { results := [.lit (.bool false)], args := [d] }
  | _ => none }
def FnExactPartsOfTermWrongFalsely : Prop := fnExactPartsOfTermRow.holds Try.pinned (OpenSpec.ofChange fnExactPartsOfTermWrong)

/-- 'laws.FnExactReplaceVar': WHATEVER THE INPUT: true; the input reads as it did. -/
def fnExactReplaceVarSpec : ChangeSpec := { name := "fnExactReplaceVar", fn := fun _ => fun
  | [d1, d2, d3] => { results := [.lit (.bool true)], args := [d1, d2, d3] }
  | _ => none }
def fnExactReplaceVarRow : OpenClaim := { program := "ytjelhemaohjkdaa", sum := "514de44890f85ecb6926fc6980aa3fb0ba967b396a3778d113a07ab395676575", func := "loop.example/flatarrays/laws.FnExactReplaceVar", spec := "fnExactReplaceVar", inPlace := ["internal/bytealg.IndexByteString", "internal/bytealg.IndexString"], recurses := true, named := ["internal/bytealg.MaxLen"], apart := false }
def FnExactReplaceVarSaid : Prop := fnExactReplaceVarRow.holds Try.pinned (OpenSpec.ofChange fnExactReplaceVarSpec)

/-- ITS FALSE NEIGHBOUR: 'it returns false'. Refute it at one input. -/
def fnExactReplaceVarWrong : ChangeSpec := { name := "fnExactReplaceVar", fn := fun _ => fun
  | [d1, d2, d3] => { results := [.lit (.bool false)], args := [d1, d2, d3] }
  | _ => none }
def FnExactReplaceVarWrongFalsely : Prop := fnExactReplaceVarRow.holds Try.pinned (OpenSpec.ofChange fnExactReplaceVarWrong)

/-- 'laws.FnExactCodeOf': WHATEVER THE INPUT: true; the input reads as it did. -/
def fnExactCodeOfSpec : ChangeSpec := { name := "fnExactCodeOf", fn := fun _ => fun
  | [d] => { results := [.lit (.bool true)], args := [d] }
  | _ => none }
def fnExactCodeOfRow : OpenClaim := { program := "ytjelhemaohjkdaa", sum := "514de44890f85ecb6926fc6980aa3fb0ba967b396a3778d113a07ab395676575", func := "loop.example/flatarrays/laws.FnExactCodeOf", spec := "fnExactCodeOf", inPlace := ["internal/bytealg.IndexByteString", "internal/bytealg.IndexString", "internal/abi.NoEscape", "internal/bytealg.MakeNoZero"], recurses := true, named := ["internal/bytealg.MaxLen"], apart := false }
def FnExactCodeOfSaid : Prop := fnExactCodeOfRow.holds Try.pinned (OpenSpec.ofChange fnExactCodeOfSpec)

/-- ITS FALSE NEIGHBOUR: 'it returns false'. Refute it at one input. -/
def fnExactCodeOfWrong : ChangeSpec := { name := "fnExactCodeOf", fn := fun _ => fun
  | [d] => { results := [.lit (.bool false)], args := [d] }
  | _ => none }
def FnExactCodeOfWrongFalsely : Prop := fnExactCodeOfRow.holds Try.pinned (OpenSpec.ofChange fnExactCodeOfWrong)

/-- 'laws.FnExactDepthOfTerm': WHATEVER THE INPUT: true; the input reads as it did. -/
def fnExactDepthOfTermSpec : ChangeSpec := { name := "fnExactDepthOfTerm", fn := fun _ => fun
  | [d] => { results := [.lit (.bool true)], args := [d] }
  | _ => none }
def fnExactDepthOfTermRow : OpenClaim := { program := "ytjelhemaohjkdaa", sum := "514de44890f85ecb6926fc6980aa3fb0ba967b396a3778d113a07ab395676575", func := "loop.example/flatarrays/laws.FnExactDepthOfTerm", spec := "fnExactDepthOfTerm", inPlace := ["internal/bytealg.IndexByteString", "internal/bytealg.IndexString", "maps.clone"], recurses := true, named := ["internal/bytealg.MaxLen"], apart := false }
def FnExactDepthOfTermSaid : Prop := fnExactDepthOfTermRow.holds Try.pinned (OpenSpec.ofChange fnExactDepthOfTermSpec)

/-- ITS FALSE NEIGHBOUR: 'it returns false'. Refute it at one input. -/
def fnExactDepthOfTermWrong : ChangeSpec := { name := "fnExactDepthOfTerm", fn := fun _ => fun
  | [d] => { results := [.lit (.bool false)], args := [d] }
  | _ => none }
def FnExactDepthOfTermWrongFalsely : Prop := fnExactDepthOfTermRow.holds Try.pinned (OpenSpec.ofChange fnExactDepthOfTermWrong)

/-- 'laws.FnExactIsFunction': WHATEVER THE INPUT: true; the input reads as it did. -/
def fnExactIsFunctionSpec : ChangeSpec := { name := "fnExactIsFunction", fn := fun _ => fun
  | [d] => { results := [.lit (.bool true)], args := [d] }
  | _ => none }
def fnExactIsFunctionRow : OpenClaim := { program := "ytjelhemaohjkdaa", sum := "514de44890f85ecb6926fc6980aa3fb0ba967b396a3778d113a07ab395676575", func := "loop.example/flatarrays/laws.FnExactIsFunction", spec := "fnExactIsFunction", inPlace := ["internal/bytealg.IndexByteString", "internal/bytealg.IndexString", "maps.clone"], recurses := true, named := ["internal/bytealg.MaxLen"], apart := false }
def FnExactIsFunctionSaid : Prop := fnExactIsFunctionRow.holds Try.pinned (OpenSpec.ofChange fnExactIsFunctionSpec)

/-- ITS FALSE NEIGHBOUR: 'it returns false'. Refute it at one input. -/
def fnExactIsFunctionWrong : ChangeSpec := { name := "fnExactIsFunction", fn := fun _ => fun
  | [d] => { results := [.lit (.bool false)], args := [d] }
  | _ => none }
def FnExactIsFunctionWrongFalsely : Prop := fnExactIsFunctionRow.holds Try.pinned (OpenSpec.ofChange fnExactIsFunctionWrong)

/-- 'laws.FnParts': WHATEVER THE INPUT: true; the input reads as it did. -/
def fnPartsSpec : ChangeSpec := { name := "fnParts", fn := fun _ => fun
  | [d] => { results := [.lit (.bool true)], args := [d] }
  | _ => none }
def fnPartsRow : OpenClaim := { program := "ytjelhemaohjkdaa", sum := "514de44890f85ecb6926fc6980aa3fb0ba967b396a3778d113a07ab395676575", func := "loop.example/flatarrays/laws.FnParts", spec := "fnParts", inPlace := ["internal/bytealg.IndexByteString", "internal/bytealg.IndexString"], recurses := true, named := ["internal/bytealg.MaxLen"], apart := false }
def FnPartsSaid : Prop := fnPartsRow.holds Try.pinned (OpenSpec.ofChange fnPartsSpec)

/-- ITS FALSE NEIGHBOUR: 'it returns false'. Refute it at one input. -/
def fnPartsWrong : ChangeSpec := { name := "fnParts", fn := fun _ => fun
  | [d] => { results := [.lit (.bool false)], args := [d] }
  | _ => none }
def FnPartsWrongFalsely : Prop := fnPartsRow.holds Try.pinned (OpenSpec.ofChange fnPartsWrong)

/-- 'laws.FnExactFreeVars': WHATEVER THE INPUT: true; the input reads as it did. -/
def fnExactFreeVarsSpec : ChangeSpec := { name := "fnExactFreeVars", fn := fun _ => fun
  | [d] => { results := [.lit (.bool true)], args := [d] }
  | _ => none }
def fnExactFreeVarsRow : OpenClaim := { program := "ytjelhemaohjkdaa", sum := "514de44890f85ecb6926fc6980aa3fb0ba967b396a3778d113a07ab395676575", func := "loop.example/flatarrays/laws.FnExactFreeVars", spec := "fnExactFreeVars", inPlace := ["internal/bytealg.IndexByteString", "internal/bytealg.IndexString", "internal/abi.NoEscape", "internal/bytealg.MakeNoZero"], unfollowed := true, recurses := true, named := ["internal/bytealg.MaxLen"], apart := false }
def FnExactFreeVarsSaid : Prop := fnExactFreeVarsRow.holds Try.pinned (OpenSpec.ofChange fnExactFreeVarsSpec)

/-- ITS FALSE NEIGHBOUR: 'it returns false'. Refute it at one input. -/
def fnExactFreeVarsWrong : ChangeSpec := { name := "fnExactFreeVars", fn := fun _ => fun
  | [d] => { results := [.lit (.bool false)], args := [d] }
  | _ => none }
def FnExactFreeVarsWrongFalsely : Prop := fnExactFreeVarsRow.holds Try.pinned (OpenSpec.ofChange fnExactFreeVarsWrong)

/- THE SECOND FORM. 'bulk': how many values and letters a reading holds, each counted each time it is reached (what is shared counts as often as it is met; a slice's spare places count too). A statement '..UptoSaid' is the law's where the arguments, and the package variables that the reading takes, are together of bulk at most 1048576: NARROWER than '..Said'. Prove '..Said' where nothing that the law and all that it calls make is longer than what came in: it says more and counts as full. Else prove '..UptoSaid'. A law counts once. -/
mutual
def uptoBulk {H : Type} : DataW H → Nat
  | .lit (.string bytes) => bytes.length + 1
  | .lit _ => 1
  | .nil => 1
  | .ptr d => uptoBulk d + 1
  | .slice elems spare => uptoBulkAll elems + uptoBulkAll spare + 1
  | .agg parts => uptoBulkAll parts + 1
  | .iface _ d => uptoBulk d + 1
  | .map entries => uptoBulkEntries entries + 1
  | .held _ => 1
def uptoBulkAll {H : Type} : List (DataW H) → Nat
  | [] => 0
  | d :: r => uptoBulk d + uptoBulkAll r
def uptoBulkEntries {H : Type} : List (Lit × DataW H) → Nat
  | [] => 0
  | x :: r => uptoBulkEntry x + uptoBulkEntries r
def uptoBulkEntry {H : Type} : Lit × DataW H → Nat
  | (.string bytes, d) => bytes.length + uptoBulk d + 1
  | (_, d) => uptoBulk d + 1
 end
def uptoSmall : (H : Type) → List (DataW H) → Bool := fun _ ds => decide (uptoBulkAll ds ≤ 1048576)
def OpenSpec.upto (s : _root_.Go.ChangeSpec) : _root_.Go.OpenSpec := { _root_.Go.OpenSpec.ofChange s with cond := some uptoSmall }

/-- 'laws.FnExactTermValid', WHERE WHAT IT READS IS OF BULK AT MOST 1048576: true; the input reads as it did. -/
def fnExactTermValidUptoRow : OpenClaim := { program := "ytjelhemaohjkdaa", sum := "514de44890f85ecb6926fc6980aa3fb0ba967b396a3778d113a07ab395676575", func := "loop.example/flatarrays/laws.FnExactTermValid", spec := "fnExactTermValid", inPlace := ["internal/bytealg.IndexByteString", "internal/bytealg.IndexString"], recurses := true, named := ["internal/bytealg.MaxLen"], apart := false, narrowed := true }
def FnExactTermValidUptoSaid : Prop := fnExactTermValidUptoRow.holds Try.pinned (OpenSpec.upto fnExactTermValidSpec)

/-- 'laws.FnExactSignOf', WHERE WHAT IT READS IS OF BULK AT MOST 1048576: true; the input reads as it did. -/
def fnExactSignOfUptoRow : OpenClaim := { program := "ytjelhemaohjkdaa", sum := "514de44890f85ecb6926fc6980aa3fb0ba967b396a3778d113a07ab395676575", func := "loop.example/flatarrays/laws.FnExactSignOf", spec := "fnExactSignOf", inPlace := ["internal/bytealg.IndexByteString", "internal/bytealg.IndexString"], recurses := true, named := ["internal/bytealg.MaxLen"], apart := false, narrowed := true }
def FnExactSignOfUptoSaid : Prop := fnExactSignOfUptoRow.holds Try.pinned (OpenSpec.upto fnExactSignOfSpec)

/-- 'laws.FnExactSizeOfTerm', WHERE WHAT IT READS IS OF BULK AT MOST 1048576: true; the input reads as it did. -/
def fnExactSizeOfTermUptoRow : OpenClaim := { program := "ytjelhemaohjkdaa", sum := "514de44890f85ecb6926fc6980aa3fb0ba967b396a3778d113a07ab395676575", func := "loop.example/flatarrays/laws.FnExactSizeOfTerm", spec := "fnExactSizeOfTerm", inPlace := ["internal/bytealg.IndexByteString", "internal/bytealg.IndexString"], recurses := true, named := ["internal/bytealg.MaxLen"], apart := false, narrowed := true }
def FnExactSizeOfTermUptoSaid : Prop := fnExactSizeOfTermUptoRow.holds Try.pinned (OpenSpec.upto fnExactSizeOfTermSpec)

/-- 'laws.FnExactLevelsOf', WHERE WHAT IT READS IS OF BULK AT MOST 1048576: true; the input reads as it did. -/
def fnExactLevelsOfUptoRow : OpenClaim := { program := "ytjelhemaohjkdaa", sum := "514de44890f85ecb6926fc6980aa3fb0ba967b396a3778d113a07ab395676575", func := "loop.example/flatarrays/laws.FnExactLevelsOf", spec := "fnExactLevelsOf", inPlace := ["internal/bytealg.IndexByteString", "internal/bytealg.IndexString"], recurses := true, named := ["internal/bytealg.MaxLen"], apart := false, narrowed := true }
def FnExactLevelsOfUptoSaid : Prop := fnExactLevelsOfUptoRow.holds Try.pinned (OpenSpec.upto fnExactLevelsOfSpec)

/-- 'laws.FnExactPartsOfTerm', WHERE WHAT IT READS IS OF BULK AT MOST 1048576: true; the input reads as it did. -/
def fnExactPartsOfTermUptoRow : OpenClaim := { program := "ytjelhemaohjkdaa", sum := "514de44890f85ecb6926fc6980aa3fb0ba967b396a3778d113a07ab395676575", func := "loop.example/flatarrays/laws.FnExactPartsOfTerm", spec := "fnExactPartsOfTerm", inPlace := ["internal/bytealg.IndexByteString", "internal/bytealg.IndexString"], recurses := true, named := ["internal/bytealg.MaxLen"], apart := false, narrowed := true }
def FnExactPartsOfTermUptoSaid : Prop := fnExactPartsOfTermUptoRow.holds Try.pinned (OpenSpec.upto fnExactPartsOfTermSpec)

/-- 'laws.FnExactReplaceVar', WHERE WHAT IT READS IS OF BULK AT MOST 1048576: true; the input reads as it did. -/
def fnExactReplaceVarUptoRow : OpenClaim := { program := "ytjelhemaohjkdaa", sum := "514de44890f85ecb6926fc6980aa3fb0ba967b396a3778d113a07ab395676575", func := "loop.example/flatarrays/laws.FnExactReplaceVar", spec := "fnExactReplaceVar", inPlace := ["internal/bytealg.IndexByteString", "internal/bytealg.IndexString"], recurses := true, named := ["internal/bytealg.MaxLen"], apart := false, narrowed := true }
def FnExactReplaceVarUptoSaid : Prop := fnExactReplaceVarUptoRow.holds Try.pinned (OpenSpec.upto fnExactReplaceVarSpec)

/-- 'laws.FnExactCodeOf', WHERE WHAT IT READS IS OF BULK AT MOST 1048576: true; the input reads as it did. -/
def fnExactCodeOfUptoRow : OpenClaim := { program := "ytjelhemaohjkdaa", sum := "514de44890f85ecb6926fc6980aa3fb0ba967b396a3778d113a07ab395676575", func := "loop.example/flatarrays/laws.FnExactCodeOf", spec := "fnExactCodeOf", inPlace := ["internal/bytealg.IndexByteString", "internal/bytealg.IndexString", "internal/abi.NoEscape", "internal/bytealg.MakeNoZero"], recurses := true, named := ["internal/bytealg.MaxLen"], apart := false, narrowed := true }
def FnExactCodeOfUptoSaid : Prop := fnExactCodeOfUptoRow.holds Try.pinned (OpenSpec.upto fnExactCodeOfSpec)

/-- 'laws.FnExactDepthOfTerm', WHERE WHAT IT READS IS OF BULK AT MOST 1048576: true; the input reads as it did. -/
def fnExactDepthOfTermUptoRow : OpenClaim := { program := "ytjelhemaohjkdaa", sum := "514de44890f85ecb6926fc6980aa3fb0ba967b396a3778d113a07ab395676575", func := "loop.example/flatarrays/laws.FnExactDepthOfTerm", spec := "fnExactDepthOfTerm", inPlace := ["internal/bytealg.IndexByteString", "internal/bytealg.IndexString", "maps.clone"], recurses := true, named := ["internal/bytealg.MaxLen"], apart := false, narrowed := true }
def FnExactDepthOfTermUptoSaid : Prop := fnExactDepthOfTermUptoRow.holds Try.pinned (OpenSpec.upto fnExactDepthOfTermSpec)

/-- 'laws.FnExactIsFunction', WHERE WHAT IT READS IS OF BULK AT MOST 1048576: true; the input reads as it did. -/
def fnExactIsFunctionUptoRow : OpenClaim := { program := "ytjelhemaohjkdaa", sum := "514de44890f85ecb6926fc6980aa3fb0ba967b396a3778d113a07ab395676575", func := "loop.example/flatarrays/laws.FnExactIsFunction", spec := "fnExactIsFunction", inPlace := ["internal/bytealg.IndexByteString", "internal/bytealg.IndexString", "maps.clone"], recurses := true, named := ["internal/bytealg.MaxLen"], apart := false, narrowed := true }
def FnExactIsFunctionUptoSaid : Prop := fnExactIsFunctionUptoRow.holds Try.pinned (OpenSpec.upto fnExactIsFunctionSpec)

/-- 'laws.FnParts', WHERE WHAT IT READS IS OF BULK AT MOST 1048576: true; the input reads as it did. -/
def fnPartsUptoRow : OpenClaim := { program := "ytjelhemaohjkdaa", sum := "514de44890f85ecb6926fc6980aa3fb0ba967b396a3778d113a07ab395676575", func := "loop.example/flatarrays/laws.FnParts", spec := "fnParts", inPlace := ["internal/bytealg.IndexByteString", "internal/bytealg.IndexString"], recurses := true, named := ["internal/bytealg.MaxLen"], apart := false, narrowed := true }
def FnPartsUptoSaid : Prop := fnPartsUptoRow.holds Try.pinned (OpenSpec.upto fnPartsSpec)

/-- 'laws.FnExactFreeVars', WHERE WHAT IT READS IS OF BULK AT MOST 1048576: true; the input reads as it did. -/
def fnExactFreeVarsUptoRow : OpenClaim := { program := "ytjelhemaohjkdaa", sum := "514de44890f85ecb6926fc6980aa3fb0ba967b396a3778d113a07ab395676575", func := "loop.example/flatarrays/laws.FnExactFreeVars", spec := "fnExactFreeVars", inPlace := ["internal/bytealg.IndexByteString", "internal/bytealg.IndexString", "internal/abi.NoEscape", "internal/bytealg.MakeNoZero"], unfollowed := true, recurses := true, named := ["internal/bytealg.MaxLen"], apart := false, narrowed := true }
def FnExactFreeVarsUptoSaid : Prop := fnExactFreeVarsUptoRow.holds Try.pinned (OpenSpec.upto fnExactFreeVarsSpec)

end Rows
end Go.Proofs.Ytjelhemaohjkdaa
