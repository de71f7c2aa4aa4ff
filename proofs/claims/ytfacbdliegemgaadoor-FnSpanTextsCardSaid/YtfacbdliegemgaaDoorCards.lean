/-
  DERIVED. GIVEN WITH THE SEED: THE CARDS: each row of YtfacbdliegemgaaDoorRows.lean that lists a variable, with what it lists TIED to the program's text (the seventh form; the later family's looks); each row that meets fmt, with fmt's text TOLD by the authors' own Lean function (tested against real Go, not proved from fmt's source: count such statements apart). THE CARD IS WHAT COUNTS. Prove the row's statement (the work); the ties are given (YtfacbdliegemgaaDoorTie.lean); close each card by the builder's one call (the guide's Derived/Test/ToyasCard.lean, 'card_holds'). Laid BY PROGRAM, IN A SANDBOX (cutbox-door.mjs). By AI agents, Wed Nov 11 2026. No macro, syntax, notation, axiom, sorry.
-/
import Derived.Test.YtfacbdliegemgaaDoorRows
import GoSem.ClaimSeven
namespace Go.Proofs.YtfacbdliegemgaaDoor
namespace Rows

/-- THE TIED CARD OF 'laws.FnExactReadRule'. -/
def fnExactReadRuleCard : Claim7 := { stood := { row := fnExactReadRuleRow, standIns := [], harness := (true, "c63df05e9f191243d210e48ca1282d874d9a9f913d143bd9decb14b22b1f1202"), looks := true }, kinds := [], alts := [], laidByText := true, laidKinds := [.data, .data, .data, .data, .sentinel, .sentinel, .pinned], laidTests := true, laidLooks := .later }
def FnExactReadRuleCardSaid : Prop := Claim7.holds Tryd.pinned (.plain (OpenSpec.ofChange fnExactReadRuleSpec)) fnExactReadRuleCard

/-- THE TIED CARD OF 'laws.FnExactReadList'. -/
def fnExactReadListCard : Claim7 := { stood := { row := fnExactReadListRow, standIns := [], harness := (true, "c63df05e9f191243d210e48ca1282d874d9a9f913d143bd9decb14b22b1f1202"), looks := true }, kinds := [], alts := [], laidByText := true, laidKinds := [.data, .data, .data, .data, .sentinel, .sentinel, .pinned], laidTests := true, laidLooks := .later }
def FnExactReadListCardSaid : Prop := Claim7.holds Tryd.pinned (.plain (OpenSpec.ofChange fnExactReadListSpec)) fnExactReadListCard

/-- THE TIED CARD OF 'laws.FnExactReadSpan'. -/
def fnExactReadSpanCard : Claim7 := { stood := { row := fnExactReadSpanRow, standIns := [], harness := (true, "c63df05e9f191243d210e48ca1282d874d9a9f913d143bd9decb14b22b1f1202"), looks := true }, kinds := [], alts := [], laidByText := true, laidKinds := [.data, .data, .data, .sentinel, .sentinel], laidTests := true, laidLooks := .later }
def FnExactReadSpanCardSaid : Prop := Claim7.holds Tryd.pinned (.plain (OpenSpec.ofChange fnExactReadSpanSpec)) fnExactReadSpanCard

/-- THE TIED CARD OF 'laws.FnLists'. -/
def fnListsCard : Claim7 := { stood := { row := fnListsRow, standIns := [], harness := (true, "c63df05e9f191243d210e48ca1282d874d9a9f913d143bd9decb14b22b1f1202"), looks := true }, kinds := [], alts := [], laidByText := true, laidKinds := [.data, .data, .data, .data, .sentinel, .sentinel, .pinned], laidTests := true, laidLooks := .later }
def FnListsCardSaid : Prop := Claim7.holds Tryd.pinned (.plain (OpenSpec.ofChange fnListsSpec)) fnListsCard

/-- THE TIED CARD OF 'laws.FnSpanTexts'. -/
def fnSpanTextsCard : Claim7 := { stood := { row := fnSpanTextsRow, standIns := [], harness := (true, "c63df05e9f191243d210e48ca1282d874d9a9f913d143bd9decb14b22b1f1202"), looks := true }, kinds := [], alts := [], laidByText := true, laidKinds := [.data, .data, .data, .sentinel, .sentinel], laidTests := true, laidLooks := .later }
def FnSpanTextsCardSaid : Prop := Claim7.holds Tryd.pinned (.plain (OpenSpec.ofChange fnSpanTextsSpec)) fnSpanTextsCard

/-- THE SECOND FORM's CARD OF 'laws.FnExactReadRule'. -/
def fnExactReadRuleUptoCard : Claim7 := { stood := { row := fnExactReadRuleUptoRow, standIns := [], harness := (true, "c63df05e9f191243d210e48ca1282d874d9a9f913d143bd9decb14b22b1f1202"), looks := true }, kinds := [], alts := [], laidByText := true, laidKinds := [.data, .data, .data, .data, .sentinel, .sentinel, .pinned], laidTests := true, laidLooks := .later }
def FnExactReadRuleUptoCardSaid : Prop := Claim7.holds Tryd.pinned (.plain (OpenSpec.upto fnExactReadRuleSpec)) fnExactReadRuleUptoCard

/-- THE SECOND FORM's CARD OF 'laws.FnExactReadList'. -/
def fnExactReadListUptoCard : Claim7 := { stood := { row := fnExactReadListUptoRow, standIns := [], harness := (true, "c63df05e9f191243d210e48ca1282d874d9a9f913d143bd9decb14b22b1f1202"), looks := true }, kinds := [], alts := [], laidByText := true, laidKinds := [.data, .data, .data, .data, .sentinel, .sentinel, .pinned], laidTests := true, laidLooks := .later }
def FnExactReadListUptoCardSaid : Prop := Claim7.holds Tryd.pinned (.plain (OpenSpec.upto fnExactReadListSpec)) fnExactReadListUptoCard

/-- THE SECOND FORM's CARD OF 'laws.FnExactReadSpan'. -/
def fnExactReadSpanUptoCard : Claim7 := { stood := { row := fnExactReadSpanUptoRow, standIns := [], harness := (true, "c63df05e9f191243d210e48ca1282d874d9a9f913d143bd9decb14b22b1f1202"), looks := true }, kinds := [], alts := [], laidByText := true, laidKinds := [.data, .data, .data, .sentinel, .sentinel], laidTests := true, laidLooks := .later }
def FnExactReadSpanUptoCardSaid : Prop := Claim7.holds Tryd.pinned (.plain (OpenSpec.upto fnExactReadSpanSpec)) fnExactReadSpanUptoCard

/-- THE SECOND FORM's CARD OF 'laws.FnLists'. -/
def fnListsUptoCard : Claim7 := { stood := { row := fnListsUptoRow, standIns := [], harness := (true, "c63df05e9f191243d210e48ca1282d874d9a9f913d143bd9decb14b22b1f1202"), looks := true }, kinds := [], alts := [], laidByText := true, laidKinds := [.data, .data, .data, .data, .sentinel, .sentinel, .pinned], laidTests := true, laidLooks := .later }
def FnListsUptoCardSaid : Prop := Claim7.holds Tryd.pinned (.plain (OpenSpec.upto fnListsSpec)) fnListsUptoCard

/-- THE SECOND FORM's CARD OF 'laws.FnSpanTexts'. -/
def fnSpanTextsUptoCard : Claim7 := { stood := { row := fnSpanTextsUptoRow, standIns := [], harness := (true, "c63df05e9f191243d210e48ca1282d874d9a9f913d143bd9decb14b22b1f1202"), looks := true }, kinds := [], alts := [], laidByText := true, laidKinds := [.data, .data, .data, .sentinel, .sentinel], laidTests := true, laidLooks := .later }
def FnSpanTextsUptoCardSaid : Prop := Claim7.holds Tryd.pinned (.plain (OpenSpec.upto fnSpanTextsSpec)) fnSpanTextsUptoCard
end Rows
end Go.Proofs.YtfacbdliegemgaaDoor
