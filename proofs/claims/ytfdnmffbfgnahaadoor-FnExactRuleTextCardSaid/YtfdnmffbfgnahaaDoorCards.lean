/-
  DERIVED. GIVEN WITH THE SEED: THE CARDS: each row of YtfdnmffbfgnahaaDoorRows.lean that lists a variable, with what it lists TIED to the program's text (the seventh form; the later family's looks); each row that meets fmt, with fmt's text TOLD by the authors' own Lean function (tested against real Go, not proved from fmt's source: count such statements apart). THE CARD IS WHAT COUNTS. Prove the row's statement (the work); the ties are given (YtfdnmffbfgnahaaDoorTie.lean); close each card by the builder's one call (the guide's Derived/Test/ToyasCard.lean, 'card_holds'). Laid BY PROGRAM, IN A SANDBOX (cutbox-door.mjs). By AI agents, Wed Nov 11 2026. No macro, syntax, notation, axiom, sorry.
-/
import Derived.Test.YtfdnmffbfgnahaaDoorRows
import GoSem.ClaimSeven
namespace Go.Proofs.YtfdnmffbfgnahaaDoor
namespace Rows

/-- THE TIED CARD OF 'laws.FnExactIsRule'. -/
def fnExactIsRuleCard : Claim7 := { stood := { row := fnExactIsRuleRow, standIns := [], harness := (true, "76fbf9bf2add46bb2266b44b35b519df75e34d017de65ca68a0d46dbccdaee28"), looks := true }, kinds := [], alts := [], laidByText := true, laidKinds := [.data, .pinned], laidTests := true, laidLooks := .later }
def FnExactIsRuleCardSaid : Prop := Claim7.holds Tryd.pinned (.plain (OpenSpec.ofChange fnExactIsRuleSpec)) fnExactIsRuleCard

/-- THE TIED CARD OF 'laws.FnExactIsTable'. -/
def fnExactIsTableCard : Claim7 := { stood := { row := fnExactIsTableRow, standIns := [], harness := (true, "76fbf9bf2add46bb2266b44b35b519df75e34d017de65ca68a0d46dbccdaee28"), looks := true }, kinds := [], alts := [], laidByText := true, laidKinds := [.data, .pinned], laidTests := true, laidLooks := .later }
def FnExactIsTableCardSaid : Prop := Claim7.holds Tryd.pinned (.plain (OpenSpec.ofChange fnExactIsTableSpec)) fnExactIsTableCard

/-- THE TIED CARD OF 'laws.FnExactSignsCovered'. -/
def fnExactSignsCoveredCard : Claim7 := { stood := { row := fnExactSignsCoveredRow, standIns := [], harness := (true, "76fbf9bf2add46bb2266b44b35b519df75e34d017de65ca68a0d46dbccdaee28"), looks := true }, kinds := [], alts := [], laidByText := true, laidKinds := [.data, .pinned], laidTests := true, laidLooks := .later }
def FnExactSignsCoveredCardSaid : Prop := Claim7.holds Tryd.pinned (.plain (OpenSpec.ofChange fnExactSignsCoveredSpec)) fnExactSignsCoveredCard

/-- THE TIED CARD OF 'laws.FnExactSignsOfParsing'. -/
def fnExactSignsOfParsingCard : Claim7 := { stood := { row := fnExactSignsOfParsingRow, standIns := [], harness := (true, "76fbf9bf2add46bb2266b44b35b519df75e34d017de65ca68a0d46dbccdaee28"), looks := true }, kinds := [], alts := [], laidByText := true, laidKinds := [.data, .pinned], laidTests := true, laidLooks := .later }
def FnExactSignsOfParsingCardSaid : Prop := Claim7.holds Tryd.pinned (.plain (OpenSpec.ofChange fnExactSignsOfParsingSpec)) fnExactSignsOfParsingCard

/-- THE TIED CARD OF 'laws.FnExactRomanise'. -/
def fnExactRomaniseCard : Claim7 := { stood := { row := fnExactRomaniseRow, standIns := [], harness := (true, "76fbf9bf2add46bb2266b44b35b519df75e34d017de65ca68a0d46dbccdaee28"), looks := true }, kinds := [], alts := [], laidByText := true, laidKinds := [.data, .pinned], laidTests := true, laidLooks := .later }
def FnExactRomaniseCardSaid : Prop := Claim7.holds Tryd.pinned (.plain (OpenSpec.ofChange fnExactRomaniseSpec)) fnExactRomaniseCard

/-- THE TIED CARD OF 'laws.FnExactIsStable'. -/
def fnExactIsStableCard : Claim7 := { stood := { row := fnExactIsStableRow, standIns := [], harness := (true, "76fbf9bf2add46bb2266b44b35b519df75e34d017de65ca68a0d46dbccdaee28"), looks := true }, kinds := [], alts := [], laidByText := true, laidKinds := [.data, .pinned], laidTests := true, laidLooks := .later }
def FnExactIsStableCardSaid : Prop := Claim7.holds Tryd.pinned (.plain (OpenSpec.ofChange fnExactIsStableSpec)) fnExactIsStableCard

/-- THE TIED CARD OF 'laws.FnExactRulesUsed'. -/
def fnExactRulesUsedCard : Claim7 := { stood := { row := fnExactRulesUsedRow, standIns := [], harness := (true, "76fbf9bf2add46bb2266b44b35b519df75e34d017de65ca68a0d46dbccdaee28"), looks := true }, kinds := [], alts := [], laidByText := true, laidKinds := [.data, .pinned], laidTests := true, laidLooks := .later }
def FnExactRulesUsedCardSaid : Prop := Claim7.holds Tryd.pinned (.plain (OpenSpec.ofChange fnExactRulesUsedSpec)) fnExactRulesUsedCard

/-- THE TIED CARD OF 'laws.FnExactAddRule'. -/
def fnExactAddRuleCard : Claim7 := { stood := { row := fnExactAddRuleRow, standIns := [], harness := (true, "76fbf9bf2add46bb2266b44b35b519df75e34d017de65ca68a0d46dbccdaee28"), looks := true }, kinds := [], alts := [], laidByText := true, laidKinds := [.data, .pinned], laidTests := true, laidLooks := .later }
def FnExactAddRuleCardSaid : Prop := Claim7.holds Tryd.pinned (.plain (OpenSpec.ofChange fnExactAddRuleSpec)) fnExactAddRuleCard

/-- THE TIED CARD OF 'laws.FnExactUselessRules'. -/
def fnExactUselessRulesCard : Claim7 := { stood := { row := fnExactUselessRulesRow, standIns := [], harness := (true, "76fbf9bf2add46bb2266b44b35b519df75e34d017de65ca68a0d46dbccdaee28"), looks := true }, kinds := [], alts := [], laidByText := true, laidKinds := [.data, .pinned], laidTests := true, laidLooks := .later }
def FnExactUselessRulesCardSaid : Prop := Claim7.holds Tryd.pinned (.plain (OpenSpec.ofChange fnExactUselessRulesSpec)) fnExactUselessRulesCard

/-- THE TIED CARD OF 'laws.FnExactRuleText'. -/
def fnExactRuleTextCard : Claim7 := { stood := { row := fnExactRuleTextRow, standIns := [], harness := (true, "76fbf9bf2add46bb2266b44b35b519df75e34d017de65ca68a0d46dbccdaee28"), looks := true }, kinds := [], alts := [], laidByText := true, laidKinds := [.data, .data, .data, .data, .pinned], laidTests := true, laidLooks := .later }
def FnExactRuleTextCardSaid : Prop := Claim7.holds Tryd.pinned (.plain (OpenSpec.ofChange fnExactRuleTextSpec)) fnExactRuleTextCard

/-- THE TIED CARD OF 'laws.FnExactReadRule'. -/
def fnExactReadRuleCard : Claim7 := { stood := { row := fnExactReadRuleRow, standIns := [], harness := (true, "76fbf9bf2add46bb2266b44b35b519df75e34d017de65ca68a0d46dbccdaee28"), looks := true }, kinds := [], alts := [], laidByText := true, laidKinds := [.data, .data, .data, .data, .sentinel, .sentinel, .pinned], laidTests := true, laidLooks := .later }
def FnExactReadRuleCardSaid : Prop := Claim7.holds Tryd.pinned (.plain (OpenSpec.ofChange fnExactReadRuleSpec)) fnExactReadRuleCard

/-- THE SECOND FORM's CARD OF 'laws.FnExactIsRule'. -/
def fnExactIsRuleUptoCard : Claim7 := { stood := { row := fnExactIsRuleUptoRow, standIns := [], harness := (true, "76fbf9bf2add46bb2266b44b35b519df75e34d017de65ca68a0d46dbccdaee28"), looks := true }, kinds := [], alts := [], laidByText := true, laidKinds := [.data, .pinned], laidTests := true, laidLooks := .later }
def FnExactIsRuleUptoCardSaid : Prop := Claim7.holds Tryd.pinned (.plain (OpenSpec.upto fnExactIsRuleSpec)) fnExactIsRuleUptoCard

/-- THE SECOND FORM's CARD OF 'laws.FnExactIsTable'. -/
def fnExactIsTableUptoCard : Claim7 := { stood := { row := fnExactIsTableUptoRow, standIns := [], harness := (true, "76fbf9bf2add46bb2266b44b35b519df75e34d017de65ca68a0d46dbccdaee28"), looks := true }, kinds := [], alts := [], laidByText := true, laidKinds := [.data, .pinned], laidTests := true, laidLooks := .later }
def FnExactIsTableUptoCardSaid : Prop := Claim7.holds Tryd.pinned (.plain (OpenSpec.upto fnExactIsTableSpec)) fnExactIsTableUptoCard

/-- THE SECOND FORM's CARD OF 'laws.FnExactSignsCovered'. -/
def fnExactSignsCoveredUptoCard : Claim7 := { stood := { row := fnExactSignsCoveredUptoRow, standIns := [], harness := (true, "76fbf9bf2add46bb2266b44b35b519df75e34d017de65ca68a0d46dbccdaee28"), looks := true }, kinds := [], alts := [], laidByText := true, laidKinds := [.data, .pinned], laidTests := true, laidLooks := .later }
def FnExactSignsCoveredUptoCardSaid : Prop := Claim7.holds Tryd.pinned (.plain (OpenSpec.upto fnExactSignsCoveredSpec)) fnExactSignsCoveredUptoCard

/-- THE SECOND FORM's CARD OF 'laws.FnExactSignsOfParsing'. -/
def fnExactSignsOfParsingUptoCard : Claim7 := { stood := { row := fnExactSignsOfParsingUptoRow, standIns := [], harness := (true, "76fbf9bf2add46bb2266b44b35b519df75e34d017de65ca68a0d46dbccdaee28"), looks := true }, kinds := [], alts := [], laidByText := true, laidKinds := [.data, .pinned], laidTests := true, laidLooks := .later }
def FnExactSignsOfParsingUptoCardSaid : Prop := Claim7.holds Tryd.pinned (.plain (OpenSpec.upto fnExactSignsOfParsingSpec)) fnExactSignsOfParsingUptoCard

/-- THE SECOND FORM's CARD OF 'laws.FnExactRomanise'. -/
def fnExactRomaniseUptoCard : Claim7 := { stood := { row := fnExactRomaniseUptoRow, standIns := [], harness := (true, "76fbf9bf2add46bb2266b44b35b519df75e34d017de65ca68a0d46dbccdaee28"), looks := true }, kinds := [], alts := [], laidByText := true, laidKinds := [.data, .pinned], laidTests := true, laidLooks := .later }
def FnExactRomaniseUptoCardSaid : Prop := Claim7.holds Tryd.pinned (.plain (OpenSpec.upto fnExactRomaniseSpec)) fnExactRomaniseUptoCard

/-- THE SECOND FORM's CARD OF 'laws.FnExactIsStable'. -/
def fnExactIsStableUptoCard : Claim7 := { stood := { row := fnExactIsStableUptoRow, standIns := [], harness := (true, "76fbf9bf2add46bb2266b44b35b519df75e34d017de65ca68a0d46dbccdaee28"), looks := true }, kinds := [], alts := [], laidByText := true, laidKinds := [.data, .pinned], laidTests := true, laidLooks := .later }
def FnExactIsStableUptoCardSaid : Prop := Claim7.holds Tryd.pinned (.plain (OpenSpec.upto fnExactIsStableSpec)) fnExactIsStableUptoCard

/-- THE SECOND FORM's CARD OF 'laws.FnExactRulesUsed'. -/
def fnExactRulesUsedUptoCard : Claim7 := { stood := { row := fnExactRulesUsedUptoRow, standIns := [], harness := (true, "76fbf9bf2add46bb2266b44b35b519df75e34d017de65ca68a0d46dbccdaee28"), looks := true }, kinds := [], alts := [], laidByText := true, laidKinds := [.data, .pinned], laidTests := true, laidLooks := .later }
def FnExactRulesUsedUptoCardSaid : Prop := Claim7.holds Tryd.pinned (.plain (OpenSpec.upto fnExactRulesUsedSpec)) fnExactRulesUsedUptoCard

/-- THE SECOND FORM's CARD OF 'laws.FnExactAddRule'. -/
def fnExactAddRuleUptoCard : Claim7 := { stood := { row := fnExactAddRuleUptoRow, standIns := [], harness := (true, "76fbf9bf2add46bb2266b44b35b519df75e34d017de65ca68a0d46dbccdaee28"), looks := true }, kinds := [], alts := [], laidByText := true, laidKinds := [.data, .pinned], laidTests := true, laidLooks := .later }
def FnExactAddRuleUptoCardSaid : Prop := Claim7.holds Tryd.pinned (.plain (OpenSpec.upto fnExactAddRuleSpec)) fnExactAddRuleUptoCard

/-- THE SECOND FORM's CARD OF 'laws.FnExactUselessRules'. -/
def fnExactUselessRulesUptoCard : Claim7 := { stood := { row := fnExactUselessRulesUptoRow, standIns := [], harness := (true, "76fbf9bf2add46bb2266b44b35b519df75e34d017de65ca68a0d46dbccdaee28"), looks := true }, kinds := [], alts := [], laidByText := true, laidKinds := [.data, .pinned], laidTests := true, laidLooks := .later }
def FnExactUselessRulesUptoCardSaid : Prop := Claim7.holds Tryd.pinned (.plain (OpenSpec.upto fnExactUselessRulesSpec)) fnExactUselessRulesUptoCard

/-- THE SECOND FORM's CARD OF 'laws.FnExactRuleText'. -/
def fnExactRuleTextUptoCard : Claim7 := { stood := { row := fnExactRuleTextUptoRow, standIns := [], harness := (true, "76fbf9bf2add46bb2266b44b35b519df75e34d017de65ca68a0d46dbccdaee28"), looks := true }, kinds := [], alts := [], laidByText := true, laidKinds := [.data, .data, .data, .data, .pinned], laidTests := true, laidLooks := .later }
def FnExactRuleTextUptoCardSaid : Prop := Claim7.holds Tryd.pinned (.plain (OpenSpec.upto fnExactRuleTextSpec)) fnExactRuleTextUptoCard

/-- THE SECOND FORM's CARD OF 'laws.FnExactReadRule'. -/
def fnExactReadRuleUptoCard : Claim7 := { stood := { row := fnExactReadRuleUptoRow, standIns := [], harness := (true, "76fbf9bf2add46bb2266b44b35b519df75e34d017de65ca68a0d46dbccdaee28"), looks := true }, kinds := [], alts := [], laidByText := true, laidKinds := [.data, .data, .data, .data, .sentinel, .sentinel, .pinned], laidTests := true, laidLooks := .later }
def FnExactReadRuleUptoCardSaid : Prop := Claim7.holds Tryd.pinned (.plain (OpenSpec.upto fnExactReadRuleSpec)) fnExactReadRuleUptoCard
end Rows
end Go.Proofs.YtfdnmffbfgnahaaDoor
