/-
  DERIVED. GIVEN WITH THE SEED: THE CARDS: each row of YtjgcbnngjfchhaaDoorRows.lean that lists a variable, with what it lists TIED to the program's text (the seventh form; the later family's looks); each row that meets fmt, with fmt's text TOLD by the authors' own Lean function (tested against real Go, not proved from fmt's source: count such statements apart). THE CARD IS WHAT COUNTS. Prove the row's statement (the work); the ties are given (YtjgcbnngjfchhaaDoorTie.lean); close each card by the builder's one call (the guide's Derived/Test/ToyasCard.lean, 'card_holds'). Laid BY PROGRAM, IN A SANDBOX (cutbox-door.mjs). By AI agents, Wed Nov 11 2026. No macro, syntax, notation, axiom, sorry.
-/
import Derived.Test.YtjgcbnngjfchhaaDoorRows
import GoSem.ClaimSeven
namespace Go.Proofs.YtjgcbnngjfchhaaDoor
namespace Rows

/-- THE TIED CARD OF 'laws.FnExactUselessRules'. -/
def fnExactUselessRulesCard : Claim7 := { stood := { row := fnExactUselessRulesRow, standIns := [], harness := (true, "5de8fbb6a2cf3c9e20c6d123e65dbb69ccb51bdab85c4f763518660c59507b39"), looks := false }, kinds := [], alts := [], laidByText := true, laidKinds := [.data, .pinned], laidTests := true, laidLooks := .later }
def FnExactUselessRulesCardSaid : Prop := Claim7.holds Tryd.pinned (.plain (OpenSpec.ofChange fnExactUselessRulesSpec)) fnExactUselessRulesCard

/-- THE TIED CARD OF 'laws.FnExactAddRule'. -/
def fnExactAddRuleCard : Claim7 := { stood := { row := fnExactAddRuleRow, standIns := [], harness := (true, "5de8fbb6a2cf3c9e20c6d123e65dbb69ccb51bdab85c4f763518660c59507b39"), looks := false }, kinds := [], alts := [], laidByText := true, laidKinds := [.data, .pinned], laidTests := true, laidLooks := .later }
def FnExactAddRuleCardSaid : Prop := Claim7.holds Tryd.pinned (.plain (OpenSpec.ofChange fnExactAddRuleSpec)) fnExactAddRuleCard

/-- THE TIED CARD OF 'laws.FnRomanised'. -/
def fnRomanisedCard : Claim7 := { stood := { row := fnRomanisedRow, standIns := [], harness := (true, "5de8fbb6a2cf3c9e20c6d123e65dbb69ccb51bdab85c4f763518660c59507b39"), looks := false }, kinds := [], alts := [], laidByText := true, laidKinds := [.data, .pinned], laidTests := true, laidLooks := .later }
def FnRomanisedCardSaid : Prop := Claim7.holds Tryd.pinned (.plain (OpenSpec.ofChange fnRomanisedSpec)) fnRomanisedCard

/-- THE SECOND FORM's CARD OF 'laws.FnExactUselessRules'. -/
def fnExactUselessRulesUptoCard : Claim7 := { stood := { row := fnExactUselessRulesUptoRow, standIns := [], harness := (true, "5de8fbb6a2cf3c9e20c6d123e65dbb69ccb51bdab85c4f763518660c59507b39"), looks := false }, kinds := [], alts := [], laidByText := true, laidKinds := [.data, .pinned], laidTests := true, laidLooks := .later }
def FnExactUselessRulesUptoCardSaid : Prop := Claim7.holds Tryd.pinned (.plain (OpenSpec.upto fnExactUselessRulesSpec)) fnExactUselessRulesUptoCard

/-- THE SECOND FORM's CARD OF 'laws.FnExactAddRule'. -/
def fnExactAddRuleUptoCard : Claim7 := { stood := { row := fnExactAddRuleUptoRow, standIns := [], harness := (true, "5de8fbb6a2cf3c9e20c6d123e65dbb69ccb51bdab85c4f763518660c59507b39"), looks := false }, kinds := [], alts := [], laidByText := true, laidKinds := [.data, .pinned], laidTests := true, laidLooks := .later }
def FnExactAddRuleUptoCardSaid : Prop := Claim7.holds Tryd.pinned (.plain (OpenSpec.upto fnExactAddRuleSpec)) fnExactAddRuleUptoCard

/-- THE SECOND FORM's CARD OF 'laws.FnRomanised'. -/
def fnRomanisedUptoCard : Claim7 := { stood := { row := fnRomanisedUptoRow, standIns := [], harness := (true, "5de8fbb6a2cf3c9e20c6d123e65dbb69ccb51bdab85c4f763518660c59507b39"), looks := false }, kinds := [], alts := [], laidByText := true, laidKinds := [.data, .pinned], laidTests := true, laidLooks := .later }
def FnRomanisedUptoCardSaid : Prop := Claim7.holds Tryd.pinned (.plain (OpenSpec.upto fnRomanisedSpec)) fnRomanisedUptoCard
end Rows
end Go.Proofs.YtjgcbnngjfchhaaDoor
