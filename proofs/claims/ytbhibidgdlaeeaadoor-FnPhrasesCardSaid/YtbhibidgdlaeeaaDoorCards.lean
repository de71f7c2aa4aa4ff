/-
  DERIVED. GIVEN WITH THE SEED: THE CARDS: each row of YtbhibidgdlaeeaaDoorRows.lean that lists a variable, with what it lists TIED to the program's text (the seventh form; the later family's looks); each row that meets fmt, with fmt's text TOLD by the authors' own Lean function (tested against real Go, not proved from fmt's source: count such statements apart). THE CARD IS WHAT COUNTS. Prove the row's statement (the work); the ties are given (YtbhibidgdlaeeaaDoorTie.lean); close each card by the builder's one call (the guide's Derived/Test/ToyasCard.lean, 'card_holds'). Laid BY PROGRAM, IN A SANDBOX (cutbox-door.mjs). By AI agents, Wed Nov 11 2026. No macro, syntax, notation, axiom, sorry.
-/
import Derived.Test.YtbhibidgdlaeeaaDoorRows
import GoSem.ClaimSeven
namespace Go.Proofs.YtbhibidgdlaeeaaDoor
namespace Rows

/-- THE TIED CARD OF 'laws.FnExactReadRule'. -/
def fnExactReadRuleCard : Claim7 := { stood := { row := fnExactReadRuleRow, standIns := [], harness := (true, "4d2d14010c3521d5f0d89dce2b016e7913647b66743cd32ba8b32163ab495af1"), looks := true }, kinds := [], alts := [], laidByText := true, laidKinds := [.data, .data, .data, .data, .sentinel, .sentinel, .pinned], laidTests := true, laidLooks := .later }
def FnExactReadRuleCardSaid : Prop := Claim7.holds Tryd.pinned (.plain (OpenSpec.ofChange fnExactReadRuleSpec)) fnExactReadRuleCard

/-- THE TIED CARD OF 'laws.FnExactUselessRules'. -/
def fnExactUselessRulesCard : Claim7 := { stood := { row := fnExactUselessRulesRow, standIns := [], harness := (true, "4d2d14010c3521d5f0d89dce2b016e7913647b66743cd32ba8b32163ab495af1"), looks := true }, kinds := [], alts := [], laidByText := true, laidKinds := [.data, .pinned], laidTests := true, laidLooks := .later }
def FnExactUselessRulesCardSaid : Prop := Claim7.holds Tryd.pinned (.plain (OpenSpec.ofChange fnExactUselessRulesSpec)) fnExactUselessRulesCard

/-- THE TIED CARD OF 'laws.FnExactAddRule'. -/
def fnExactAddRuleCard : Claim7 := { stood := { row := fnExactAddRuleRow, standIns := [], harness := (true, "4d2d14010c3521d5f0d89dce2b016e7913647b66743cd32ba8b32163ab495af1"), looks := true }, kinds := [], alts := [], laidByText := true, laidKinds := [.data, .pinned], laidTests := true, laidLooks := .later }
def FnExactAddRuleCardSaid : Prop := Claim7.holds Tryd.pinned (.plain (OpenSpec.ofChange fnExactAddRuleSpec)) fnExactAddRuleCard

/-- THE TIED CARD OF 'laws.FnExactReadList'. -/
def fnExactReadListCard : Claim7 := { stood := { row := fnExactReadListRow, standIns := [], harness := (true, "4d2d14010c3521d5f0d89dce2b016e7913647b66743cd32ba8b32163ab495af1"), looks := true }, kinds := [], alts := [], laidByText := true, laidKinds := [.data, .data, .data, .data, .sentinel, .sentinel, .pinned], laidTests := true, laidLooks := .later }
def FnExactReadListCardSaid : Prop := Claim7.holds Tryd.pinned (.plain (OpenSpec.ofChange fnExactReadListSpec)) fnExactReadListCard

/-- THE TIED CARD OF 'laws.FnExactReadSpan'. -/
def fnExactReadSpanCard : Claim7 := { stood := { row := fnExactReadSpanRow, standIns := [], harness := (true, "4d2d14010c3521d5f0d89dce2b016e7913647b66743cd32ba8b32163ab495af1"), looks := true }, kinds := [], alts := [], laidByText := true, laidKinds := [.data, .data, .data, .sentinel, .sentinel], laidTests := true, laidLooks := .later }
def FnExactReadSpanCardSaid : Prop := Claim7.holds Tryd.pinned (.plain (OpenSpec.ofChange fnExactReadSpanSpec)) fnExactReadSpanCard

/-- THE TIED CARD OF 'laws.FnLists'. -/
def fnListsCard : Claim7 := { stood := { row := fnListsRow, standIns := [], harness := (true, "4d2d14010c3521d5f0d89dce2b016e7913647b66743cd32ba8b32163ab495af1"), looks := true }, kinds := [], alts := [], laidByText := true, laidKinds := [.data, .data, .data, .data, .sentinel, .sentinel, .pinned], laidTests := true, laidLooks := .later }
def FnListsCardSaid : Prop := Claim7.holds Tryd.pinned (.plain (OpenSpec.ofChange fnListsSpec)) fnListsCard

/-- THE TIED CARD OF 'laws.FnSpanTexts'. -/
def fnSpanTextsCard : Claim7 := { stood := { row := fnSpanTextsRow, standIns := [], harness := (true, "4d2d14010c3521d5f0d89dce2b016e7913647b66743cd32ba8b32163ab495af1"), looks := true }, kinds := [], alts := [], laidByText := true, laidKinds := [.data, .data, .data, .sentinel, .sentinel], laidTests := true, laidLooks := .later }
def FnSpanTextsCardSaid : Prop := Claim7.holds Tryd.pinned (.plain (OpenSpec.ofChange fnSpanTextsSpec)) fnSpanTextsCard

/-- THE TIED CARD OF 'laws.FnDistances'. -/
def fnDistancesCard : Claim7 := { stood := { row := fnDistancesRow, standIns := [], harness := (true, "4d2d14010c3521d5f0d89dce2b016e7913647b66743cd32ba8b32163ab495af1"), looks := true }, kinds := [], alts := [], laidByText := true, laidKinds := [.data, .pinned], laidTests := true, laidLooks := .later }
def FnDistancesCardSaid : Prop := Claim7.holds Tryd.pinned (.plain (OpenSpec.ofChange fnDistancesSpec)) fnDistancesCard

/-- THE TIED CARD OF 'laws.FnAlphabetTexts'. -/
def fnAlphabetTextsCard : Claim7 := { stood := { row := fnAlphabetTextsRow, standIns := [], harness := (true, "4d2d14010c3521d5f0d89dce2b016e7913647b66743cd32ba8b32163ab495af1"), looks := true }, kinds := [], alts := [], laidByText := true, laidKinds := [.data, .pinned], laidTests := true, laidLooks := .later }
def FnAlphabetTextsCardSaid : Prop := Claim7.holds Tryd.pinned (.plain (OpenSpec.ofChange fnAlphabetTextsSpec)) fnAlphabetTextsCard

/-- THE TIED CARD OF 'laws.FnSpelling'. -/
def fnSpellingCard : Claim7 := { stood := { row := fnSpellingRow, standIns := [], harness := (true, "4d2d14010c3521d5f0d89dce2b016e7913647b66743cd32ba8b32163ab495af1"), looks := true }, kinds := [], alts := [], laidByText := true, laidKinds := [.data, .pinned], laidTests := true, laidLooks := .later }
def FnSpellingCardSaid : Prop := Claim7.holds Tryd.pinned (.plain (OpenSpec.ofChange fnSpellingSpec)) fnSpellingCard

/-- THE TIED CARD OF 'laws.FnPhrases'. -/
def fnPhrasesCard : Claim7 := { stood := { row := fnPhrasesRow, standIns := [], harness := (true, "4d2d14010c3521d5f0d89dce2b016e7913647b66743cd32ba8b32163ab495af1"), looks := true }, kinds := [], alts := [], laidByText := true, laidKinds := [.data, .pinned], laidTests := true, laidLooks := .later }
def FnPhrasesCardSaid : Prop := Claim7.holds Tryd.pinned (.plain (OpenSpec.ofChange fnPhrasesSpec)) fnPhrasesCard

/-- THE SECOND FORM's CARD OF 'laws.FnExactReadRule'. -/
def fnExactReadRuleUptoCard : Claim7 := { stood := { row := fnExactReadRuleUptoRow, standIns := [], harness := (true, "4d2d14010c3521d5f0d89dce2b016e7913647b66743cd32ba8b32163ab495af1"), looks := true }, kinds := [], alts := [], laidByText := true, laidKinds := [.data, .data, .data, .data, .sentinel, .sentinel, .pinned], laidTests := true, laidLooks := .later }
def FnExactReadRuleUptoCardSaid : Prop := Claim7.holds Tryd.pinned (.plain (OpenSpec.upto fnExactReadRuleSpec)) fnExactReadRuleUptoCard

/-- THE SECOND FORM's CARD OF 'laws.FnExactUselessRules'. -/
def fnExactUselessRulesUptoCard : Claim7 := { stood := { row := fnExactUselessRulesUptoRow, standIns := [], harness := (true, "4d2d14010c3521d5f0d89dce2b016e7913647b66743cd32ba8b32163ab495af1"), looks := true }, kinds := [], alts := [], laidByText := true, laidKinds := [.data, .pinned], laidTests := true, laidLooks := .later }
def FnExactUselessRulesUptoCardSaid : Prop := Claim7.holds Tryd.pinned (.plain (OpenSpec.upto fnExactUselessRulesSpec)) fnExactUselessRulesUptoCard

/-- THE SECOND FORM's CARD OF 'laws.FnExactAddRule'. -/
def fnExactAddRuleUptoCard : Claim7 := { stood := { row := fnExactAddRuleUptoRow, standIns := [], harness := (true, "4d2d14010c3521d5f0d89dce2b016e7913647b66743cd32ba8b32163ab495af1"), looks := true }, kinds := [], alts := [], laidByText := true, laidKinds := [.data, .pinned], laidTests := true, laidLooks := .later }
def FnExactAddRuleUptoCardSaid : Prop := Claim7.holds Tryd.pinned (.plain (OpenSpec.upto fnExactAddRuleSpec)) fnExactAddRuleUptoCard

/-- THE SECOND FORM's CARD OF 'laws.FnExactReadList'. -/
def fnExactReadListUptoCard : Claim7 := { stood := { row := fnExactReadListUptoRow, standIns := [], harness := (true, "4d2d14010c3521d5f0d89dce2b016e7913647b66743cd32ba8b32163ab495af1"), looks := true }, kinds := [], alts := [], laidByText := true, laidKinds := [.data, .data, .data, .data, .sentinel, .sentinel, .pinned], laidTests := true, laidLooks := .later }
def FnExactReadListUptoCardSaid : Prop := Claim7.holds Tryd.pinned (.plain (OpenSpec.upto fnExactReadListSpec)) fnExactReadListUptoCard

/-- THE SECOND FORM's CARD OF 'laws.FnExactReadSpan'. -/
def fnExactReadSpanUptoCard : Claim7 := { stood := { row := fnExactReadSpanUptoRow, standIns := [], harness := (true, "4d2d14010c3521d5f0d89dce2b016e7913647b66743cd32ba8b32163ab495af1"), looks := true }, kinds := [], alts := [], laidByText := true, laidKinds := [.data, .data, .data, .sentinel, .sentinel], laidTests := true, laidLooks := .later }
def FnExactReadSpanUptoCardSaid : Prop := Claim7.holds Tryd.pinned (.plain (OpenSpec.upto fnExactReadSpanSpec)) fnExactReadSpanUptoCard

/-- THE SECOND FORM's CARD OF 'laws.FnLists'. -/
def fnListsUptoCard : Claim7 := { stood := { row := fnListsUptoRow, standIns := [], harness := (true, "4d2d14010c3521d5f0d89dce2b016e7913647b66743cd32ba8b32163ab495af1"), looks := true }, kinds := [], alts := [], laidByText := true, laidKinds := [.data, .data, .data, .data, .sentinel, .sentinel, .pinned], laidTests := true, laidLooks := .later }
def FnListsUptoCardSaid : Prop := Claim7.holds Tryd.pinned (.plain (OpenSpec.upto fnListsSpec)) fnListsUptoCard

/-- THE SECOND FORM's CARD OF 'laws.FnSpanTexts'. -/
def fnSpanTextsUptoCard : Claim7 := { stood := { row := fnSpanTextsUptoRow, standIns := [], harness := (true, "4d2d14010c3521d5f0d89dce2b016e7913647b66743cd32ba8b32163ab495af1"), looks := true }, kinds := [], alts := [], laidByText := true, laidKinds := [.data, .data, .data, .sentinel, .sentinel], laidTests := true, laidLooks := .later }
def FnSpanTextsUptoCardSaid : Prop := Claim7.holds Tryd.pinned (.plain (OpenSpec.upto fnSpanTextsSpec)) fnSpanTextsUptoCard

/-- THE SECOND FORM's CARD OF 'laws.FnDistances'. -/
def fnDistancesUptoCard : Claim7 := { stood := { row := fnDistancesUptoRow, standIns := [], harness := (true, "4d2d14010c3521d5f0d89dce2b016e7913647b66743cd32ba8b32163ab495af1"), looks := true }, kinds := [], alts := [], laidByText := true, laidKinds := [.data, .pinned], laidTests := true, laidLooks := .later }
def FnDistancesUptoCardSaid : Prop := Claim7.holds Tryd.pinned (.plain (OpenSpec.upto fnDistancesSpec)) fnDistancesUptoCard

/-- THE SECOND FORM's CARD OF 'laws.FnAlphabetTexts'. -/
def fnAlphabetTextsUptoCard : Claim7 := { stood := { row := fnAlphabetTextsUptoRow, standIns := [], harness := (true, "4d2d14010c3521d5f0d89dce2b016e7913647b66743cd32ba8b32163ab495af1"), looks := true }, kinds := [], alts := [], laidByText := true, laidKinds := [.data, .pinned], laidTests := true, laidLooks := .later }
def FnAlphabetTextsUptoCardSaid : Prop := Claim7.holds Tryd.pinned (.plain (OpenSpec.upto fnAlphabetTextsSpec)) fnAlphabetTextsUptoCard

/-- THE SECOND FORM's CARD OF 'laws.FnSpelling'. -/
def fnSpellingUptoCard : Claim7 := { stood := { row := fnSpellingUptoRow, standIns := [], harness := (true, "4d2d14010c3521d5f0d89dce2b016e7913647b66743cd32ba8b32163ab495af1"), looks := true }, kinds := [], alts := [], laidByText := true, laidKinds := [.data, .pinned], laidTests := true, laidLooks := .later }
def FnSpellingUptoCardSaid : Prop := Claim7.holds Tryd.pinned (.plain (OpenSpec.upto fnSpellingSpec)) fnSpellingUptoCard

/-- THE SECOND FORM's CARD OF 'laws.FnPhrases'. -/
def fnPhrasesUptoCard : Claim7 := { stood := { row := fnPhrasesUptoRow, standIns := [], harness := (true, "4d2d14010c3521d5f0d89dce2b016e7913647b66743cd32ba8b32163ab495af1"), looks := true }, kinds := [], alts := [], laidByText := true, laidKinds := [.data, .pinned], laidTests := true, laidLooks := .later }
def FnPhrasesUptoCardSaid : Prop := Claim7.holds Tryd.pinned (.plain (OpenSpec.upto fnPhrasesSpec)) fnPhrasesUptoCard
end Rows
end Go.Proofs.YtbhibidgdlaeeaaDoor
