/-
  DERIVED. GIVEN WITH THE SEED: THE CARDS: each row of YtlbigiimnpjgoaaDoorRows.lean that lists a variable, with what it lists TIED to the program's text (the seventh form; the later family's looks); each row that meets fmt, with fmt's text TOLD by the authors' own Lean function (tested against real Go, not proved from fmt's source: count such statements apart). THE CARD IS WHAT COUNTS. Prove the row's statement (the work); the ties are given (YtlbigiimnpjgoaaDoorTie.lean); close each card by the builder's one call (the guide's Derived/Test/ToyasCard.lean, 'card_holds'). Laid BY PROGRAM, IN A SANDBOX (cutbox-door.mjs). By AI agents, Wed Nov 11 2026. No macro, syntax, notation, axiom, sorry.
-/
import Derived.Test.YtlbigiimnpjgoaaDoorRows
import GoSem.ClaimSeven
namespace Go.Proofs.YtlbigiimnpjgoaaDoor
namespace Rows

/-- THE TIED CARD OF 'laws.FnExactIsAlphabet'. -/
def fnExactIsAlphabetCard : Claim7 := { stood := { row := fnExactIsAlphabetRow, standIns := [], harness := (true, "851445169e4f053a1e2e0883deae1af2e73c1a40736c99656b77554aa495c524"), looks := false }, kinds := [], alts := [], laidByText := true, laidKinds := [.data, .pinned], laidTests := true, laidLooks := .later }
def FnExactIsAlphabetCardSaid : Prop := Claim7.holds Tryd.pinned (.plain (OpenSpec.ofChange fnExactIsAlphabetSpec)) fnExactIsAlphabetCard

/-- THE TIED CARD OF 'laws.FnExactCountSpellings'. -/
def fnExactCountSpellingsCard : Claim7 := { stood := { row := fnExactCountSpellingsRow, standIns := [], harness := (true, "851445169e4f053a1e2e0883deae1af2e73c1a40736c99656b77554aa495c524"), looks := false }, kinds := [], alts := [], laidByText := true, laidKinds := [.data, .pinned], laidTests := true, laidLooks := .later }
def FnExactCountSpellingsCardSaid : Prop := Claim7.holds Tryd.pinned (.plain (OpenSpec.ofChange fnExactCountSpellingsSpec)) fnExactCountSpellingsCard

/-- THE TIED CARD OF 'laws.FnExactJoinLetters'. -/
def fnExactJoinLettersCard : Claim7 := { stood := { row := fnExactJoinLettersRow, standIns := [], harness := (true, "851445169e4f053a1e2e0883deae1af2e73c1a40736c99656b77554aa495c524"), looks := false }, kinds := [], alts := [], laidByText := true, laidKinds := [.data, .pinned], laidTests := true, laidLooks := .later }
def FnExactJoinLettersCardSaid : Prop := Claim7.holds Tryd.pinned (.plain (OpenSpec.ofChange fnExactJoinLettersSpec)) fnExactJoinLettersCard

/-- THE TIED CARD OF 'laws.FnExactCanWrite'. -/
def fnExactCanWriteCard : Claim7 := { stood := { row := fnExactCanWriteRow, standIns := [], harness := (true, "851445169e4f053a1e2e0883deae1af2e73c1a40736c99656b77554aa495c524"), looks := false }, kinds := [], alts := [], laidByText := true, laidKinds := [.data, .pinned], laidTests := true, laidLooks := .later }
def FnExactCanWriteCardSaid : Prop := Claim7.holds Tryd.pinned (.plain (OpenSpec.ofChange fnExactCanWriteSpec)) fnExactCanWriteCard

/-- THE TIED CARD OF 'laws.FnExactAlphabetText'. -/
def fnExactAlphabetTextCard : Claim7 := { stood := { row := fnExactAlphabetTextRow, standIns := [], harness := (true, "851445169e4f053a1e2e0883deae1af2e73c1a40736c99656b77554aa495c524"), looks := false }, kinds := [], alts := [], laidByText := true, laidKinds := [.data, .pinned], laidTests := true, laidLooks := .later }
def FnExactAlphabetTextCardSaid : Prop := Claim7.holds Tryd.pinned (.plain (OpenSpec.ofChange fnExactAlphabetTextSpec)) fnExactAlphabetTextCard

/-- THE TIED CARD OF 'laws.FnExactSpellWord'. -/
def fnExactSpellWordCard : Claim7 := { stood := { row := fnExactSpellWordRow, standIns := [], harness := (true, "851445169e4f053a1e2e0883deae1af2e73c1a40736c99656b77554aa495c524"), looks := false }, kinds := [], alts := [], laidByText := true, laidKinds := [.data, .pinned], laidTests := true, laidLooks := .later }
def FnExactSpellWordCardSaid : Prop := Claim7.holds Tryd.pinned (.plain (OpenSpec.ofChange fnExactSpellWordSpec)) fnExactSpellWordCard

/-- THE TIED CARD OF 'laws.FnExactIsSpelling'. -/
def fnExactIsSpellingCard : Claim7 := { stood := { row := fnExactIsSpellingRow, standIns := [], harness := (true, "851445169e4f053a1e2e0883deae1af2e73c1a40736c99656b77554aa495c524"), looks := false }, kinds := [], alts := [], laidByText := true, laidKinds := [.data, .pinned], laidTests := true, laidLooks := .later }
def FnExactIsSpellingCardSaid : Prop := Claim7.holds Tryd.pinned (.plain (OpenSpec.ofChange fnExactIsSpellingSpec)) fnExactIsSpellingCard

/-- THE TIED CARD OF 'laws.FnExactReadAlphabet'. -/
def fnExactReadAlphabetCard : Claim7 := { stood := { row := fnExactReadAlphabetRow, standIns := [], harness := (true, "851445169e4f053a1e2e0883deae1af2e73c1a40736c99656b77554aa495c524"), looks := false }, kinds := [], alts := [], laidByText := true, laidKinds := [.data, .pinned], laidTests := true, laidLooks := .later }
def FnExactReadAlphabetCardSaid : Prop := Claim7.holds Tryd.pinned (.plain (OpenSpec.ofChange fnExactReadAlphabetSpec)) fnExactReadAlphabetCard

/-- THE TIED CARD OF 'laws.FnSpelling'. -/
def fnSpellingCard : Claim7 := { stood := { row := fnSpellingRow, standIns := [], harness := (true, "851445169e4f053a1e2e0883deae1af2e73c1a40736c99656b77554aa495c524"), looks := false }, kinds := [], alts := [], laidByText := true, laidKinds := [.data, .pinned], laidTests := true, laidLooks := .later }
def FnSpellingCardSaid : Prop := Claim7.holds Tryd.pinned (.plain (OpenSpec.ofChange fnSpellingSpec)) fnSpellingCard

/-- THE TIED CARD OF 'laws.FnAlphabetTexts'. -/
def fnAlphabetTextsCard : Claim7 := { stood := { row := fnAlphabetTextsRow, standIns := [], harness := (true, "851445169e4f053a1e2e0883deae1af2e73c1a40736c99656b77554aa495c524"), looks := false }, kinds := [], alts := [], laidByText := true, laidKinds := [.data, .pinned], laidTests := true, laidLooks := .later }
def FnAlphabetTextsCardSaid : Prop := Claim7.holds Tryd.pinned (.plain (OpenSpec.ofChange fnAlphabetTextsSpec)) fnAlphabetTextsCard

/-- THE SECOND FORM's CARD OF 'laws.FnExactIsAlphabet'. -/
def fnExactIsAlphabetUptoCard : Claim7 := { stood := { row := fnExactIsAlphabetUptoRow, standIns := [], harness := (true, "851445169e4f053a1e2e0883deae1af2e73c1a40736c99656b77554aa495c524"), looks := false }, kinds := [], alts := [], laidByText := true, laidKinds := [.data, .pinned], laidTests := true, laidLooks := .later }
def FnExactIsAlphabetUptoCardSaid : Prop := Claim7.holds Tryd.pinned (.plain (OpenSpec.upto fnExactIsAlphabetSpec)) fnExactIsAlphabetUptoCard

/-- THE SECOND FORM's CARD OF 'laws.FnExactCountSpellings'. -/
def fnExactCountSpellingsUptoCard : Claim7 := { stood := { row := fnExactCountSpellingsUptoRow, standIns := [], harness := (true, "851445169e4f053a1e2e0883deae1af2e73c1a40736c99656b77554aa495c524"), looks := false }, kinds := [], alts := [], laidByText := true, laidKinds := [.data, .pinned], laidTests := true, laidLooks := .later }
def FnExactCountSpellingsUptoCardSaid : Prop := Claim7.holds Tryd.pinned (.plain (OpenSpec.upto fnExactCountSpellingsSpec)) fnExactCountSpellingsUptoCard

/-- THE SECOND FORM's CARD OF 'laws.FnExactJoinLetters'. -/
def fnExactJoinLettersUptoCard : Claim7 := { stood := { row := fnExactJoinLettersUptoRow, standIns := [], harness := (true, "851445169e4f053a1e2e0883deae1af2e73c1a40736c99656b77554aa495c524"), looks := false }, kinds := [], alts := [], laidByText := true, laidKinds := [.data, .pinned], laidTests := true, laidLooks := .later }
def FnExactJoinLettersUptoCardSaid : Prop := Claim7.holds Tryd.pinned (.plain (OpenSpec.upto fnExactJoinLettersSpec)) fnExactJoinLettersUptoCard

/-- THE SECOND FORM's CARD OF 'laws.FnExactCanWrite'. -/
def fnExactCanWriteUptoCard : Claim7 := { stood := { row := fnExactCanWriteUptoRow, standIns := [], harness := (true, "851445169e4f053a1e2e0883deae1af2e73c1a40736c99656b77554aa495c524"), looks := false }, kinds := [], alts := [], laidByText := true, laidKinds := [.data, .pinned], laidTests := true, laidLooks := .later }
def FnExactCanWriteUptoCardSaid : Prop := Claim7.holds Tryd.pinned (.plain (OpenSpec.upto fnExactCanWriteSpec)) fnExactCanWriteUptoCard

/-- THE SECOND FORM's CARD OF 'laws.FnExactAlphabetText'. -/
def fnExactAlphabetTextUptoCard : Claim7 := { stood := { row := fnExactAlphabetTextUptoRow, standIns := [], harness := (true, "851445169e4f053a1e2e0883deae1af2e73c1a40736c99656b77554aa495c524"), looks := false }, kinds := [], alts := [], laidByText := true, laidKinds := [.data, .pinned], laidTests := true, laidLooks := .later }
def FnExactAlphabetTextUptoCardSaid : Prop := Claim7.holds Tryd.pinned (.plain (OpenSpec.upto fnExactAlphabetTextSpec)) fnExactAlphabetTextUptoCard

/-- THE SECOND FORM's CARD OF 'laws.FnExactSpellWord'. -/
def fnExactSpellWordUptoCard : Claim7 := { stood := { row := fnExactSpellWordUptoRow, standIns := [], harness := (true, "851445169e4f053a1e2e0883deae1af2e73c1a40736c99656b77554aa495c524"), looks := false }, kinds := [], alts := [], laidByText := true, laidKinds := [.data, .pinned], laidTests := true, laidLooks := .later }
def FnExactSpellWordUptoCardSaid : Prop := Claim7.holds Tryd.pinned (.plain (OpenSpec.upto fnExactSpellWordSpec)) fnExactSpellWordUptoCard

/-- THE SECOND FORM's CARD OF 'laws.FnExactIsSpelling'. -/
def fnExactIsSpellingUptoCard : Claim7 := { stood := { row := fnExactIsSpellingUptoRow, standIns := [], harness := (true, "851445169e4f053a1e2e0883deae1af2e73c1a40736c99656b77554aa495c524"), looks := false }, kinds := [], alts := [], laidByText := true, laidKinds := [.data, .pinned], laidTests := true, laidLooks := .later }
def FnExactIsSpellingUptoCardSaid : Prop := Claim7.holds Tryd.pinned (.plain (OpenSpec.upto fnExactIsSpellingSpec)) fnExactIsSpellingUptoCard

/-- THE SECOND FORM's CARD OF 'laws.FnExactReadAlphabet'. -/
def fnExactReadAlphabetUptoCard : Claim7 := { stood := { row := fnExactReadAlphabetUptoRow, standIns := [], harness := (true, "851445169e4f053a1e2e0883deae1af2e73c1a40736c99656b77554aa495c524"), looks := false }, kinds := [], alts := [], laidByText := true, laidKinds := [.data, .pinned], laidTests := true, laidLooks := .later }
def FnExactReadAlphabetUptoCardSaid : Prop := Claim7.holds Tryd.pinned (.plain (OpenSpec.upto fnExactReadAlphabetSpec)) fnExactReadAlphabetUptoCard

/-- THE SECOND FORM's CARD OF 'laws.FnSpelling'. -/
def fnSpellingUptoCard : Claim7 := { stood := { row := fnSpellingUptoRow, standIns := [], harness := (true, "851445169e4f053a1e2e0883deae1af2e73c1a40736c99656b77554aa495c524"), looks := false }, kinds := [], alts := [], laidByText := true, laidKinds := [.data, .pinned], laidTests := true, laidLooks := .later }
def FnSpellingUptoCardSaid : Prop := Claim7.holds Tryd.pinned (.plain (OpenSpec.upto fnSpellingSpec)) fnSpellingUptoCard

/-- THE SECOND FORM's CARD OF 'laws.FnAlphabetTexts'. -/
def fnAlphabetTextsUptoCard : Claim7 := { stood := { row := fnAlphabetTextsUptoRow, standIns := [], harness := (true, "851445169e4f053a1e2e0883deae1af2e73c1a40736c99656b77554aa495c524"), looks := false }, kinds := [], alts := [], laidByText := true, laidKinds := [.data, .pinned], laidTests := true, laidLooks := .later }
def FnAlphabetTextsUptoCardSaid : Prop := Claim7.holds Tryd.pinned (.plain (OpenSpec.upto fnAlphabetTextsSpec)) fnAlphabetTextsUptoCard
end Rows
end Go.Proofs.YtlbigiimnpjgoaaDoor
