/-
  DERIVED. GIVEN WITH THE SEED: THE CARDS: each row of YtdmicfidehdllaaDoorRows.lean that lists a variable, with what it lists TIED to the program's text (the seventh form; the later family's looks); each row that meets fmt, with fmt's text TOLD by the authors' own Lean function (tested against real Go, not proved from fmt's source: count such statements apart). THE CARD IS WHAT COUNTS. Prove the row's statement (the work); the ties are given (YtdmicfidehdllaaDoorTie.lean); close each card by the builder's one call (the guide's Derived/Test/ToyasCard.lean, 'card_holds'). Laid BY PROGRAM, IN A SANDBOX (cutbox-door.mjs). By AI agents, Wed Nov 11 2026. No macro, syntax, notation, axiom, sorry.
-/
import Derived.Test.YtdmicfidehdllaaDoorRows
import GoSem.ClaimSeven
namespace Go.Proofs.YtdmicfidehdllaaDoor
namespace Rows

/-- THE TIED CARD OF 'laws.FnExactSpanText'. -/
def fnExactSpanTextCard : Claim7 := { stood := { row := fnExactSpanTextRow, standIns := [], harness := (true, "c00662823c87bafa8566b7472e14147c920f261e7131e3e578e370a9ed6fef85"), looks := false }, kinds := [], alts := [], laidByText := true, laidKinds := [.data, .data, .data], laidTests := true, laidLooks := .later }
def FnExactSpanTextCardSaid : Prop := Claim7.holds Tryd.pinned (.plain (OpenSpec.ofChange fnExactSpanTextSpec)) fnExactSpanTextCard

/-- THE TIED CARD OF 'laws.FnExactListText'. -/
def fnExactListTextCard : Claim7 := { stood := { row := fnExactListTextRow, standIns := [], harness := (true, "c00662823c87bafa8566b7472e14147c920f261e7131e3e578e370a9ed6fef85"), looks := false }, kinds := [], alts := [], laidByText := true, laidKinds := [.data, .data, .data], laidTests := true, laidLooks := .later }
def FnExactListTextCardSaid : Prop := Claim7.holds Tryd.pinned (.plain (OpenSpec.ofChange fnExactListTextSpec)) fnExactListTextCard

/-- THE SECOND FORM's CARD OF 'laws.FnExactSpanText'. -/
def fnExactSpanTextUptoCard : Claim7 := { stood := { row := fnExactSpanTextUptoRow, standIns := [], harness := (true, "c00662823c87bafa8566b7472e14147c920f261e7131e3e578e370a9ed6fef85"), looks := false }, kinds := [], alts := [], laidByText := true, laidKinds := [.data, .data, .data], laidTests := true, laidLooks := .later }
def FnExactSpanTextUptoCardSaid : Prop := Claim7.holds Tryd.pinned (.plain (OpenSpec.upto fnExactSpanTextSpec)) fnExactSpanTextUptoCard

/-- THE SECOND FORM's CARD OF 'laws.FnExactListText'. -/
def fnExactListTextUptoCard : Claim7 := { stood := { row := fnExactListTextUptoRow, standIns := [], harness := (true, "c00662823c87bafa8566b7472e14147c920f261e7131e3e578e370a9ed6fef85"), looks := false }, kinds := [], alts := [], laidByText := true, laidKinds := [.data, .data, .data], laidTests := true, laidLooks := .later }
def FnExactListTextUptoCardSaid : Prop := Claim7.holds Tryd.pinned (.plain (OpenSpec.upto fnExactListTextSpec)) fnExactListTextUptoCard
end Rows
end Go.Proofs.YtdmicfidehdllaaDoor
