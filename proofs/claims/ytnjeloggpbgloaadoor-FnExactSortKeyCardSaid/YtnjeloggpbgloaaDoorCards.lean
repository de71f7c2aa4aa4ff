/-
  DERIVED. GIVEN WITH THE SEED: THE CARDS: each row of YtnjeloggpbgloaaDoorRows.lean that lists a variable, with what it lists TIED to the program's text (the seventh form; the later family's looks); each row that meets fmt, with fmt's text TOLD by the authors' own Lean function (tested against real Go, not proved from fmt's source: count such statements apart). THE CARD IS WHAT COUNTS. Prove the row's statement (the work); the ties are given (YtnjeloggpbgloaaDoorTie.lean); close each card by the builder's one call (the guide's Derived/Test/ToyasCard.lean, 'card_holds'). Laid BY PROGRAM, IN A SANDBOX (cutbox-door.mjs). By AI agents, Wed Nov 11 2026. No macro, syntax, notation, axiom, sorry.
-/
import Derived.Test.YtnjeloggpbgloaaDoorRows
import GoSem.ClaimSeven
namespace Go.Proofs.YtnjeloggpbgloaaDoor
namespace Rows

/-- THE TIED CARD OF 'laws.FnExactSortKey'. -/
def fnExactSortKeyCard : Claim7 := { stood := { row := fnExactSortKeyRow, standIns := [], harness := (true, "7bc5b57dd2ddd8b184dec55b00d23741c9d061209e84a475aaea133a26a7feeb"), looks := false }, kinds := [], alts := [], laidByText := true, laidKinds := [.data, .data, .data, .data, .pinned], laidTests := true, laidLooks := .later }
def FnExactSortKeyCardSaid : Prop := Claim7.holds Tryd.pinned (.plain (OpenSpec.ofChange fnExactSortKeySpec)) fnExactSortKeyCard

/-- THE SECOND FORM's CARD OF 'laws.FnExactSortKey'. -/
def fnExactSortKeyUptoCard : Claim7 := { stood := { row := fnExactSortKeyUptoRow, standIns := [], harness := (true, "7bc5b57dd2ddd8b184dec55b00d23741c9d061209e84a475aaea133a26a7feeb"), looks := false }, kinds := [], alts := [], laidByText := true, laidKinds := [.data, .data, .data, .data, .pinned], laidTests := true, laidLooks := .later }
def FnExactSortKeyUptoCardSaid : Prop := Claim7.holds Tryd.pinned (.plain (OpenSpec.upto fnExactSortKeySpec)) fnExactSortKeyUptoCard
end Rows
end Go.Proofs.YtnjeloggpbgloaaDoor
