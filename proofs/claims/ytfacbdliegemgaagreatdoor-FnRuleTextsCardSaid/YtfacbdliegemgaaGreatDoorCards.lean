/-
  DERIVED. GIVEN WITH THE SEED: THE CARDS: each row of YtfacbdliegemgaaGreatDoorRows.lean that lists a variable, with what it lists TIED to the program's text (the seventh form; the later family's looks); each row that meets fmt, with fmt's text TOLD by the authors' own Lean function (tested against real Go, not proved from fmt's source: count such statements apart). THE CARD IS WHAT COUNTS. Prove the row's statement (the work); the ties are given (YtfacbdliegemgaaGreatDoorTie.lean); close each card by the builder's one call (the guide's Derived/Test/ToyasCard.lean, 'card_holds'). Laid BY PROGRAM, IN A SANDBOX (cutbox-door.mjs). By AI agents, Wed Nov 11 2026. No macro, syntax, notation, axiom, sorry.
-/
import Derived.Test.YtfacbdliegemgaaGreatDoorRows
import GoSem.ClaimSeven
namespace Go.Proofs.YtfacbdliegemgaaGreatDoor
namespace Rows

/-- THE TIED CARD OF 'laws.FnRuleTexts'. -/
def fnRuleTextsCard : Claim7 := { stood := { row := fnRuleTextsRow, standIns := [], harness := (true, "8441ff9320001ced37abe0062b2860032580dacdbbc8540194aa59bbc53ea46a"), looks := true }, kinds := [], alts := [], laidByText := true, laidKinds := [.data, .data, .data, .data, .sentinel, .sentinel, .pinned], laidTests := true, laidLooks := .later }
def FnRuleTextsCardSaid : Prop := Claim7.holds Tryz.pinned (.plain (OpenSpec.ofChange fnRuleTextsSpec)) fnRuleTextsCard

/-- THE SECOND FORM's CARD OF 'laws.FnRuleTexts'. -/
def fnRuleTextsUptoCard : Claim7 := { stood := { row := fnRuleTextsUptoRow, standIns := [], harness := (true, "8441ff9320001ced37abe0062b2860032580dacdbbc8540194aa59bbc53ea46a"), looks := true }, kinds := [], alts := [], laidByText := true, laidKinds := [.data, .data, .data, .data, .sentinel, .sentinel, .pinned], laidTests := true, laidLooks := .later }
def FnRuleTextsUptoCardSaid : Prop := Claim7.holds Tryz.pinned (.plain (OpenSpec.upto fnRuleTextsSpec)) fnRuleTextsUptoCard
end Rows
end Go.Proofs.YtfacbdliegemgaaGreatDoor
