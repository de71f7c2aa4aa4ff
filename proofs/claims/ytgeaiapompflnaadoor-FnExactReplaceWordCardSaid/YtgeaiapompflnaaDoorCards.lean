/-
  DERIVED. GIVEN WITH THE SEED: THE CARDS: each row of YtgeaiapompflnaaDoorRows.lean that lists a variable, with what it lists TIED to the program's text (the seventh form; the later family's looks); each row that meets fmt, with fmt's text TOLD by the authors' own Lean function (tested against real Go, not proved from fmt's source: count such statements apart). THE CARD IS WHAT COUNTS. Prove the row's statement (the work); the ties are given (YtgeaiapompflnaaDoorTie.lean); close each card by the builder's one call (the guide's Derived/Test/ToyasCard.lean, 'card_holds'). Laid BY PROGRAM, IN A SANDBOX (cutbox-door.mjs). By AI agents, Wed Nov 11 2026. No macro, syntax, notation, axiom, sorry.
-/
import Derived.Test.YtgeaiapompflnaaDoorRows
import GoSem.ClaimSeven
namespace Go.Proofs.YtgeaiapompflnaaDoor
namespace Rows

/-- THE TIED CARD OF 'laws.FnExactIsWord'. -/
def fnExactIsWordCard : Claim7 := { stood := { row := fnExactIsWordRow, standIns := [], harness := (true, "08a4248ddd02409a4d9cf631290479ee4cec77734df517bf7a043413147b79dd"), looks := true }, kinds := [], alts := [], laidByText := true, laidKinds := [.data, .pinned], laidTests := true, laidLooks := .later }
def FnExactIsWordCardSaid : Prop := Claim7.holds Tryd.pinned (.plain (OpenSpec.ofChange fnExactIsWordSpec)) fnExactIsWordCard

/-- THE TIED CARD OF 'laws.FnExactCommonStart'. -/
def fnExactCommonStartCard : Claim7 := { stood := { row := fnExactCommonStartRow, standIns := [], harness := (true, "08a4248ddd02409a4d9cf631290479ee4cec77734df517bf7a043413147b79dd"), looks := true }, kinds := [], alts := [], laidByText := true, laidKinds := [.data, .pinned], laidTests := true, laidLooks := .later }
def FnExactCommonStartCardSaid : Prop := Claim7.holds Tryd.pinned (.plain (OpenSpec.ofChange fnExactCommonStartSpec)) fnExactCommonStartCard

/-- THE TIED CARD OF 'laws.FnExactLettersInCommon'. -/
def fnExactLettersInCommonCard : Claim7 := { stood := { row := fnExactLettersInCommonRow, standIns := [], harness := (true, "08a4248ddd02409a4d9cf631290479ee4cec77734df517bf7a043413147b79dd"), looks := true }, kinds := [], alts := [], laidByText := true, laidKinds := [.data, .pinned], laidTests := true, laidLooks := .later }
def FnExactLettersInCommonCardSaid : Prop := Claim7.holds Tryd.pinned (.plain (OpenSpec.ofChange fnExactLettersInCommonSpec)) fnExactLettersInCommonCard

/-- THE TIED CARD OF 'laws.FnExactEditDistance'. -/
def fnExactEditDistanceCard : Claim7 := { stood := { row := fnExactEditDistanceRow, standIns := [], harness := (true, "08a4248ddd02409a4d9cf631290479ee4cec77734df517bf7a043413147b79dd"), looks := true }, kinds := [], alts := [], laidByText := true, laidKinds := [.data, .pinned], laidTests := true, laidLooks := .later }
def FnExactEditDistanceCardSaid : Prop := Claim7.holds Tryd.pinned (.plain (OpenSpec.ofChange fnExactEditDistanceSpec)) fnExactEditDistanceCard

/-- THE TIED CARD OF 'laws.FnExactListText'. -/
def fnExactListTextCard : Claim7 := { stood := { row := fnExactListTextRow, standIns := [], harness := (true, "08a4248ddd02409a4d9cf631290479ee4cec77734df517bf7a043413147b79dd"), looks := true }, kinds := [], alts := [], laidByText := true, laidKinds := [.data, .data, .data], laidTests := true, laidLooks := .later }
def FnExactListTextCardSaid : Prop := Claim7.holds Tryd.pinned (.plain (OpenSpec.ofChange fnExactListTextSpec)) fnExactListTextCard

/-- THE TIED CARD OF 'laws.FnExactIsPhrase'. -/
def fnExactIsPhraseCard : Claim7 := { stood := { row := fnExactIsPhraseRow, standIns := [], harness := (true, "08a4248ddd02409a4d9cf631290479ee4cec77734df517bf7a043413147b79dd"), looks := true }, kinds := [], alts := [], laidByText := true, laidKinds := [.data, .pinned], laidTests := true, laidLooks := .later }
def FnExactIsPhraseCardSaid : Prop := Claim7.holds Tryd.pinned (.plain (OpenSpec.ofChange fnExactIsPhraseSpec)) fnExactIsPhraseCard

/-- THE TIED CARD OF 'laws.FnExactWordsOf'. -/
def fnExactWordsOfCard : Claim7 := { stood := { row := fnExactWordsOfRow, standIns := [], harness := (true, "08a4248ddd02409a4d9cf631290479ee4cec77734df517bf7a043413147b79dd"), looks := true }, kinds := [], alts := [], laidByText := true, laidKinds := [.data, .pinned], laidTests := true, laidLooks := .later }
def FnExactWordsOfCardSaid : Prop := Claim7.holds Tryd.pinned (.plain (OpenSpec.ofChange fnExactWordsOfSpec)) fnExactWordsOfCard

/-- THE TIED CARD OF 'laws.FnExactJoinPhrase'. -/
def fnExactJoinPhraseCard : Claim7 := { stood := { row := fnExactJoinPhraseRow, standIns := [], harness := (true, "08a4248ddd02409a4d9cf631290479ee4cec77734df517bf7a043413147b79dd"), looks := true }, kinds := [], alts := [], laidByText := true, laidKinds := [.data, .pinned], laidTests := true, laidLooks := .later }
def FnExactJoinPhraseCardSaid : Prop := Claim7.holds Tryd.pinned (.plain (OpenSpec.ofChange fnExactJoinPhraseSpec)) fnExactJoinPhraseCard

/-- THE TIED CARD OF 'laws.FnExactReplaceWord'. -/
def fnExactReplaceWordCard : Claim7 := { stood := { row := fnExactReplaceWordRow, standIns := [], harness := (true, "08a4248ddd02409a4d9cf631290479ee4cec77734df517bf7a043413147b79dd"), looks := true }, kinds := [], alts := [], laidByText := true, laidKinds := [.data, .pinned], laidTests := true, laidLooks := .later }
def FnExactReplaceWordCardSaid : Prop := Claim7.holds Tryd.pinned (.plain (OpenSpec.ofChange fnExactReplaceWordSpec)) fnExactReplaceWordCard

/-- THE TIED CARD OF 'laws.FnExactReadList'. -/
def fnExactReadListCard : Claim7 := { stood := { row := fnExactReadListRow, standIns := [], harness := (true, "08a4248ddd02409a4d9cf631290479ee4cec77734df517bf7a043413147b79dd"), looks := true }, kinds := [], alts := [], laidByText := true, laidKinds := [.data, .data, .data, .data, .sentinel, .sentinel, .pinned], laidTests := true, laidLooks := .later }
def FnExactReadListCardSaid : Prop := Claim7.holds Tryd.pinned (.plain (OpenSpec.ofChange fnExactReadListSpec)) fnExactReadListCard

/-- THE TIED CARD OF 'laws.FnDistances'. -/
def fnDistancesCard : Claim7 := { stood := { row := fnDistancesRow, standIns := [], harness := (true, "08a4248ddd02409a4d9cf631290479ee4cec77734df517bf7a043413147b79dd"), looks := true }, kinds := [], alts := [], laidByText := true, laidKinds := [.data, .pinned], laidTests := true, laidLooks := .later }
def FnDistancesCardSaid : Prop := Claim7.holds Tryd.pinned (.plain (OpenSpec.ofChange fnDistancesSpec)) fnDistancesCard

/-- THE SECOND FORM's CARD OF 'laws.FnExactIsWord'. -/
def fnExactIsWordUptoCard : Claim7 := { stood := { row := fnExactIsWordUptoRow, standIns := [], harness := (true, "08a4248ddd02409a4d9cf631290479ee4cec77734df517bf7a043413147b79dd"), looks := true }, kinds := [], alts := [], laidByText := true, laidKinds := [.data, .pinned], laidTests := true, laidLooks := .later }
def FnExactIsWordUptoCardSaid : Prop := Claim7.holds Tryd.pinned (.plain (OpenSpec.upto fnExactIsWordSpec)) fnExactIsWordUptoCard

/-- THE SECOND FORM's CARD OF 'laws.FnExactCommonStart'. -/
def fnExactCommonStartUptoCard : Claim7 := { stood := { row := fnExactCommonStartUptoRow, standIns := [], harness := (true, "08a4248ddd02409a4d9cf631290479ee4cec77734df517bf7a043413147b79dd"), looks := true }, kinds := [], alts := [], laidByText := true, laidKinds := [.data, .pinned], laidTests := true, laidLooks := .later }
def FnExactCommonStartUptoCardSaid : Prop := Claim7.holds Tryd.pinned (.plain (OpenSpec.upto fnExactCommonStartSpec)) fnExactCommonStartUptoCard

/-- THE SECOND FORM's CARD OF 'laws.FnExactLettersInCommon'. -/
def fnExactLettersInCommonUptoCard : Claim7 := { stood := { row := fnExactLettersInCommonUptoRow, standIns := [], harness := (true, "08a4248ddd02409a4d9cf631290479ee4cec77734df517bf7a043413147b79dd"), looks := true }, kinds := [], alts := [], laidByText := true, laidKinds := [.data, .pinned], laidTests := true, laidLooks := .later }
def FnExactLettersInCommonUptoCardSaid : Prop := Claim7.holds Tryd.pinned (.plain (OpenSpec.upto fnExactLettersInCommonSpec)) fnExactLettersInCommonUptoCard

/-- THE SECOND FORM's CARD OF 'laws.FnExactEditDistance'. -/
def fnExactEditDistanceUptoCard : Claim7 := { stood := { row := fnExactEditDistanceUptoRow, standIns := [], harness := (true, "08a4248ddd02409a4d9cf631290479ee4cec77734df517bf7a043413147b79dd"), looks := true }, kinds := [], alts := [], laidByText := true, laidKinds := [.data, .pinned], laidTests := true, laidLooks := .later }
def FnExactEditDistanceUptoCardSaid : Prop := Claim7.holds Tryd.pinned (.plain (OpenSpec.upto fnExactEditDistanceSpec)) fnExactEditDistanceUptoCard

/-- THE SECOND FORM's CARD OF 'laws.FnExactListText'. -/
def fnExactListTextUptoCard : Claim7 := { stood := { row := fnExactListTextUptoRow, standIns := [], harness := (true, "08a4248ddd02409a4d9cf631290479ee4cec77734df517bf7a043413147b79dd"), looks := true }, kinds := [], alts := [], laidByText := true, laidKinds := [.data, .data, .data], laidTests := true, laidLooks := .later }
def FnExactListTextUptoCardSaid : Prop := Claim7.holds Tryd.pinned (.plain (OpenSpec.upto fnExactListTextSpec)) fnExactListTextUptoCard

/-- THE SECOND FORM's CARD OF 'laws.FnExactIsPhrase'. -/
def fnExactIsPhraseUptoCard : Claim7 := { stood := { row := fnExactIsPhraseUptoRow, standIns := [], harness := (true, "08a4248ddd02409a4d9cf631290479ee4cec77734df517bf7a043413147b79dd"), looks := true }, kinds := [], alts := [], laidByText := true, laidKinds := [.data, .pinned], laidTests := true, laidLooks := .later }
def FnExactIsPhraseUptoCardSaid : Prop := Claim7.holds Tryd.pinned (.plain (OpenSpec.upto fnExactIsPhraseSpec)) fnExactIsPhraseUptoCard

/-- THE SECOND FORM's CARD OF 'laws.FnExactWordsOf'. -/
def fnExactWordsOfUptoCard : Claim7 := { stood := { row := fnExactWordsOfUptoRow, standIns := [], harness := (true, "08a4248ddd02409a4d9cf631290479ee4cec77734df517bf7a043413147b79dd"), looks := true }, kinds := [], alts := [], laidByText := true, laidKinds := [.data, .pinned], laidTests := true, laidLooks := .later }
def FnExactWordsOfUptoCardSaid : Prop := Claim7.holds Tryd.pinned (.plain (OpenSpec.upto fnExactWordsOfSpec)) fnExactWordsOfUptoCard

/-- THE SECOND FORM's CARD OF 'laws.FnExactJoinPhrase'. -/
def fnExactJoinPhraseUptoCard : Claim7 := { stood := { row := fnExactJoinPhraseUptoRow, standIns := [], harness := (true, "08a4248ddd02409a4d9cf631290479ee4cec77734df517bf7a043413147b79dd"), looks := true }, kinds := [], alts := [], laidByText := true, laidKinds := [.data, .pinned], laidTests := true, laidLooks := .later }
def FnExactJoinPhraseUptoCardSaid : Prop := Claim7.holds Tryd.pinned (.plain (OpenSpec.upto fnExactJoinPhraseSpec)) fnExactJoinPhraseUptoCard

/-- THE SECOND FORM's CARD OF 'laws.FnExactReplaceWord'. -/
def fnExactReplaceWordUptoCard : Claim7 := { stood := { row := fnExactReplaceWordUptoRow, standIns := [], harness := (true, "08a4248ddd02409a4d9cf631290479ee4cec77734df517bf7a043413147b79dd"), looks := true }, kinds := [], alts := [], laidByText := true, laidKinds := [.data, .pinned], laidTests := true, laidLooks := .later }
def FnExactReplaceWordUptoCardSaid : Prop := Claim7.holds Tryd.pinned (.plain (OpenSpec.upto fnExactReplaceWordSpec)) fnExactReplaceWordUptoCard

/-- THE SECOND FORM's CARD OF 'laws.FnExactReadList'. -/
def fnExactReadListUptoCard : Claim7 := { stood := { row := fnExactReadListUptoRow, standIns := [], harness := (true, "08a4248ddd02409a4d9cf631290479ee4cec77734df517bf7a043413147b79dd"), looks := true }, kinds := [], alts := [], laidByText := true, laidKinds := [.data, .data, .data, .data, .sentinel, .sentinel, .pinned], laidTests := true, laidLooks := .later }
def FnExactReadListUptoCardSaid : Prop := Claim7.holds Tryd.pinned (.plain (OpenSpec.upto fnExactReadListSpec)) fnExactReadListUptoCard

/-- THE SECOND FORM's CARD OF 'laws.FnDistances'. -/
def fnDistancesUptoCard : Claim7 := { stood := { row := fnDistancesUptoRow, standIns := [], harness := (true, "08a4248ddd02409a4d9cf631290479ee4cec77734df517bf7a043413147b79dd"), looks := true }, kinds := [], alts := [], laidByText := true, laidKinds := [.data, .pinned], laidTests := true, laidLooks := .later }
def FnDistancesUptoCardSaid : Prop := Claim7.holds Tryd.pinned (.plain (OpenSpec.upto fnDistancesSpec)) fnDistancesUptoCard
end Rows
end Go.Proofs.YtgeaiapompflnaaDoor
