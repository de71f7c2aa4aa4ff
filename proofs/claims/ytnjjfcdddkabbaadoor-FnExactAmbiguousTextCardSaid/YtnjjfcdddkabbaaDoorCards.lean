/-
  DERIVED. GIVEN WITH THE SEED: THE CARDS: each row of YtnjjfcdddkabbaaDoorRows.lean that lists a variable, with what it lists TIED to the program's text (the seventh form; the later family's looks); each row that meets fmt, with fmt's text TOLD by the authors' own Lean function (tested against real Go, not proved from fmt's source: count such statements apart). THE CARD IS WHAT COUNTS. Prove the row's statement (the work); the ties are given (YtnjjfcdddkabbaaDoorTie.lean); close each card by the builder's one call (the guide's Derived/Test/ToyasCard.lean, 'card_holds'). Laid BY PROGRAM, IN A SANDBOX (cutbox-door.mjs). By AI agents, Wed Nov 11 2026. No macro, syntax, notation, axiom, sorry.
-/
import Derived.Test.YtnjjfcdddkabbaaDoorRows
import GoSem.ClaimSeven
namespace Go.Proofs.YtnjjfcdddkabbaaDoor
namespace Rows

/-- THE TIED CARD OF 'laws.FnExactAmbiguousText'. -/
def fnExactAmbiguousTextCard : Claim7 := { stood := { row := fnExactAmbiguousTextRow, standIns := [], harness := (true, "36b58214f593e82b68c9e3ebdf19f4155a799e3e2505408d87ddef6019767c48"), looks := false }, kinds := [], alts := [], laidByText := true, laidKinds := [.data, .pinned], laidTests := true, laidLooks := .later }
def FnExactAmbiguousTextCardSaid : Prop := Claim7.holds Tryd.pinned (.plain (OpenSpec.ofChange fnExactAmbiguousTextSpec)) fnExactAmbiguousTextCard

/-- THE TIED CARD OF 'laws.FnExactIsUnambiguous'. -/
def fnExactIsUnambiguousCard : Claim7 := { stood := { row := fnExactIsUnambiguousRow, standIns := [], harness := (true, "36b58214f593e82b68c9e3ebdf19f4155a799e3e2505408d87ddef6019767c48"), looks := false }, kinds := [], alts := [], laidByText := true, laidKinds := [.data, .pinned], laidTests := true, laidLooks := .later }
def FnExactIsUnambiguousCardSaid : Prop := Claim7.holds Tryd.pinned (.plain (OpenSpec.ofChange fnExactIsUnambiguousSpec)) fnExactIsUnambiguousCard

/-- THE SECOND FORM's CARD OF 'laws.FnExactAmbiguousText'. -/
def fnExactAmbiguousTextUptoCard : Claim7 := { stood := { row := fnExactAmbiguousTextUptoRow, standIns := [], harness := (true, "36b58214f593e82b68c9e3ebdf19f4155a799e3e2505408d87ddef6019767c48"), looks := false }, kinds := [], alts := [], laidByText := true, laidKinds := [.data, .pinned], laidTests := true, laidLooks := .later }
def FnExactAmbiguousTextUptoCardSaid : Prop := Claim7.holds Tryd.pinned (.plain (OpenSpec.upto fnExactAmbiguousTextSpec)) fnExactAmbiguousTextUptoCard

/-- THE SECOND FORM's CARD OF 'laws.FnExactIsUnambiguous'. -/
def fnExactIsUnambiguousUptoCard : Claim7 := { stood := { row := fnExactIsUnambiguousUptoRow, standIns := [], harness := (true, "36b58214f593e82b68c9e3ebdf19f4155a799e3e2505408d87ddef6019767c48"), looks := false }, kinds := [], alts := [], laidByText := true, laidKinds := [.data, .pinned], laidTests := true, laidLooks := .later }
def FnExactIsUnambiguousUptoCardSaid : Prop := Claim7.holds Tryd.pinned (.plain (OpenSpec.upto fnExactIsUnambiguousSpec)) fnExactIsUnambiguousUptoCard
end Rows
end Go.Proofs.YtnjjfcdddkabbaaDoor
