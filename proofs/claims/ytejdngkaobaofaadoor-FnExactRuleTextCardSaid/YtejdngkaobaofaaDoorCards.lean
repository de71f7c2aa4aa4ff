/-
  DERIVED. GIVEN WITH THE SEED: THE CARDS: each row of YtejdngkaobaofaaDoorRows.lean that lists a variable, with what it lists TIED to the program's text (the seventh form; the later family's looks); each row that meets fmt, with fmt's text TOLD by the authors' own Lean function (tested against real Go, not proved from fmt's source: count such statements apart). THE CARD IS WHAT COUNTS. Prove the row's statement (the work); the ties are given (YtejdngkaobaofaaDoorTie.lean); close each card by the builder's one call (the guide's Derived/Test/ToyasCard.lean, 'card_holds'). Laid BY PROGRAM, IN A SANDBOX (cutbox-door.mjs). By AI agents, Wed Nov 11 2026. No macro, syntax, notation, axiom, sorry.
-/
import Derived.Test.YtejdngkaobaofaaDoorRows
import GoSem.ClaimSeven
namespace Go.Proofs.YtejdngkaobaofaaDoor
namespace Rows

/-- THE TIED CARD OF 'laws.FnExactIsRule'. -/
def fnExactIsRuleCard : Claim7 := { stood := { row := fnExactIsRuleRow, standIns := [], harness := (true, "d1d925705f70e4d6ada87af838e54eeb447ac368f5a12292efb3c45711c4e821"), looks := false }, kinds := [], alts := [], laidByText := true, laidKinds := [.data, .pinned], laidTests := true, laidLooks := .later }
def FnExactIsRuleCardSaid : Prop := Claim7.holds Tryd.pinned (.plain (OpenSpec.ofChange fnExactIsRuleSpec)) fnExactIsRuleCard

/-- THE TIED CARD OF 'laws.FnExactRuleText'. -/
def fnExactRuleTextCard : Claim7 := { stood := { row := fnExactRuleTextRow, standIns := [], harness := (true, "d1d925705f70e4d6ada87af838e54eeb447ac368f5a12292efb3c45711c4e821"), looks := false }, kinds := [], alts := [], laidByText := true, laidKinds := [.data, .data, .data, .data, .pinned], laidTests := true, laidLooks := .later }
def FnExactRuleTextCardSaid : Prop := Claim7.holds Tryd.pinned (.plain (OpenSpec.ofChange fnExactRuleTextSpec)) fnExactRuleTextCard

/-- THE SECOND FORM's CARD OF 'laws.FnExactIsRule'. -/
def fnExactIsRuleUptoCard : Claim7 := { stood := { row := fnExactIsRuleUptoRow, standIns := [], harness := (true, "d1d925705f70e4d6ada87af838e54eeb447ac368f5a12292efb3c45711c4e821"), looks := false }, kinds := [], alts := [], laidByText := true, laidKinds := [.data, .pinned], laidTests := true, laidLooks := .later }
def FnExactIsRuleUptoCardSaid : Prop := Claim7.holds Tryd.pinned (.plain (OpenSpec.upto fnExactIsRuleSpec)) fnExactIsRuleUptoCard

/-- THE SECOND FORM's CARD OF 'laws.FnExactRuleText'. -/
def fnExactRuleTextUptoCard : Claim7 := { stood := { row := fnExactRuleTextUptoRow, standIns := [], harness := (true, "d1d925705f70e4d6ada87af838e54eeb447ac368f5a12292efb3c45711c4e821"), looks := false }, kinds := [], alts := [], laidByText := true, laidKinds := [.data, .data, .data, .data, .pinned], laidTests := true, laidLooks := .later }
def FnExactRuleTextUptoCardSaid : Prop := Claim7.holds Tryd.pinned (.plain (OpenSpec.upto fnExactRuleTextSpec)) fnExactRuleTextUptoCard
end Rows
end Go.Proofs.YtejdngkaobaofaaDoor
