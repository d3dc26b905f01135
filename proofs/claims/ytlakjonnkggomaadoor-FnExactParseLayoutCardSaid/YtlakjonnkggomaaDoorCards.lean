/-
  DERIVED. GIVEN WITH THE SEED: THE CARDS: each row of YtlakjonnkggomaaDoorRows.lean that lists a variable, with what it lists TIED to the program's text (the seventh form; the later family's looks); each row that meets fmt, with fmt's text TOLD by the authors' own Lean function (tested against real Go, not proved from fmt's source: count such statements apart). THE CARD IS WHAT COUNTS. Prove the row's statement (the work); the ties are given (YtlakjonnkggomaaDoorTie.lean); close each card by the builder's one call (the guide's Derived/Test/ToyasCard.lean, 'card_holds'). Laid BY PROGRAM, IN A SANDBOX (cutbox-door.mjs). By AI agents, Wed Nov 11 2026. No macro, syntax, notation, axiom, sorry.
-/
import Derived.Test.YtlakjonnkggomaaDoorRows
import GoSem.ClaimSeven
namespace Go.Proofs.YtlakjonnkggomaaDoor
namespace Rows

/-- THE TIED CARD OF 'laws.FnExactFormatLayout'. -/
def fnExactFormatLayoutCard : Claim7 := { stood := { row := fnExactFormatLayoutRow, standIns := [], harness := (true, "8fa40f2735142cf949b823e81a999809d03c256dd355c626c53e39e75618997c"), looks := true }, kinds := [], alts := [], laidByText := true, laidKinds := [.data, .data, .data], laidTests := true, laidLooks := .later }
def FnExactFormatLayoutCardSaid : Prop := Claim7.holds Tryd.pinned (.plain (OpenSpec.ofChange fnExactFormatLayoutSpec)) fnExactFormatLayoutCard

/-- THE TIED CARD OF 'laws.FnExactParseLayout'. -/
def fnExactParseLayoutCard : Claim7 := { stood := { row := fnExactParseLayoutRow, standIns := [], harness := (true, "8fa40f2735142cf949b823e81a999809d03c256dd355c626c53e39e75618997c"), looks := true }, kinds := [], alts := [], laidByText := true, laidKinds := [.data, .data, .data, .data, .sentinel, .sentinel, .listed, .data, .pinned], laidTests := true, laidLooks := .later }
def FnExactParseLayoutCardSaid : Prop := Claim7.holds Tryd.pinned (.plain (OpenSpec.ofChange fnExactParseLayoutSpec)) fnExactParseLayoutCard

/-- THE TIED CARD OF 'laws.FnExactFoldUp'. -/
def fnExactFoldUpCard : Claim7 := { stood := { row := fnExactFoldUpRow, standIns := [], harness := (true, "8fa40f2735142cf949b823e81a999809d03c256dd355c626c53e39e75618997c"), looks := true }, kinds := [], alts := [], laidByText := true, laidKinds := [.data, .data, .data], laidTests := true, laidLooks := .later }
def FnExactFoldUpCardSaid : Prop := Claim7.holds Tryd.pinned (.plain (OpenSpec.ofChange fnExactFoldUpSpec)) fnExactFoldUpCard

/-- THE SECOND FORM's CARD OF 'laws.FnExactFormatLayout'. -/
def fnExactFormatLayoutUptoCard : Claim7 := { stood := { row := fnExactFormatLayoutUptoRow, standIns := [], harness := (true, "8fa40f2735142cf949b823e81a999809d03c256dd355c626c53e39e75618997c"), looks := true }, kinds := [], alts := [], laidByText := true, laidKinds := [.data, .data, .data], laidTests := true, laidLooks := .later }
def FnExactFormatLayoutUptoCardSaid : Prop := Claim7.holds Tryd.pinned (.plain (OpenSpec.upto fnExactFormatLayoutSpec)) fnExactFormatLayoutUptoCard

/-- THE SECOND FORM's CARD OF 'laws.FnExactParseLayout'. -/
def fnExactParseLayoutUptoCard : Claim7 := { stood := { row := fnExactParseLayoutUptoRow, standIns := [], harness := (true, "8fa40f2735142cf949b823e81a999809d03c256dd355c626c53e39e75618997c"), looks := true }, kinds := [], alts := [], laidByText := true, laidKinds := [.data, .data, .data, .data, .sentinel, .sentinel, .listed, .data, .pinned], laidTests := true, laidLooks := .later }
def FnExactParseLayoutUptoCardSaid : Prop := Claim7.holds Tryd.pinned (.plain (OpenSpec.upto fnExactParseLayoutSpec)) fnExactParseLayoutUptoCard

/-- THE SECOND FORM's CARD OF 'laws.FnExactFoldUp'. -/
def fnExactFoldUpUptoCard : Claim7 := { stood := { row := fnExactFoldUpUptoRow, standIns := [], harness := (true, "8fa40f2735142cf949b823e81a999809d03c256dd355c626c53e39e75618997c"), looks := true }, kinds := [], alts := [], laidByText := true, laidKinds := [.data, .data, .data], laidTests := true, laidLooks := .later }
def FnExactFoldUpUptoCardSaid : Prop := Claim7.holds Tryd.pinned (.plain (OpenSpec.upto fnExactFoldUpSpec)) fnExactFoldUpUptoCard
end Rows
end Go.Proofs.YtlakjonnkggomaaDoor
