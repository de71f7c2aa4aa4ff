/-
  DERIVED. GIVEN WITH THE SEED: THE CARDS: each row of YtpnbbhomkneflaaGreatDoorRows.lean that lists a variable, with what it lists TIED to the program's text (the seventh form; the later family's looks); each row that meets fmt, with fmt's text TOLD by the authors' own Lean function (tested against real Go, not proved from fmt's source: count such statements apart). THE CARD IS WHAT COUNTS. Prove the row's statement (the work); the ties are given (YtpnbbhomkneflaaGreatDoorTie.lean); close each card by the builder's one call (the guide's Derived/Test/ToyasCard.lean, 'card_holds'). Laid BY PROGRAM, IN A SANDBOX (cutbox-door.mjs). By AI agents, Wed Nov 11 2026. No macro, syntax, notation, axiom, sorry.
-/
import Derived.Test.YtpnbbhomkneflaaGreatDoorRows
import GoSem.ClaimSeven
namespace Go.Proofs.YtpnbbhomkneflaaGreatDoor
namespace Rows

/-- THE TIED CARD OF 'laws.FnCompared'. -/
def fnComparedCard : Claim7 := { stood := { row := fnComparedRow, standIns := [], harness := (true, "fbc669b69caa36e15c2784dfb40db43296b62336d9c6c11fa0d0ad9749bc4198"), looks := false }, kinds := [], alts := [], laidByText := true, laidKinds := [.data, .pinned], laidTests := true, laidLooks := .later }
def FnComparedCardSaid : Prop := Claim7.holds Tryz.pinned (.plain (OpenSpec.ofChange fnComparedSpec)) fnComparedCard

/-- THE SECOND FORM's CARD OF 'laws.FnCompared'. -/
def fnComparedUptoCard : Claim7 := { stood := { row := fnComparedUptoRow, standIns := [], harness := (true, "fbc669b69caa36e15c2784dfb40db43296b62336d9c6c11fa0d0ad9749bc4198"), looks := false }, kinds := [], alts := [], laidByText := true, laidKinds := [.data, .pinned], laidTests := true, laidLooks := .later }
def FnComparedUptoCardSaid : Prop := Claim7.holds Tryz.pinned (.plain (OpenSpec.upto fnComparedSpec)) fnComparedUptoCard
end Rows
end Go.Proofs.YtpnbbhomkneflaaGreatDoor
