/-
  NARROWER THAN 'FOR EVERY INPUT', by the rows' own cells (each row's printed sentence says how): FnExactIsAlphabet: laid · FnExactCountSpellings: laid · FnExactJoinLetters: laid · FnExactCanWrite: laid · FnExactAlphabetText: laid · FnExactSpellWord: laid · FnExactIsSpelling: laid · FnExactReadAlphabet: laid · FnSpelling: laid · FnAlphabetTexts: laid.
  DERIVED. THE GIVEN ROWS OF THIS SEAT. 10 by the template 'for every input the law returns true; each argument reads behind the call as it read before'; 0 by the template 'total and deterministic' (their statements: YtlbigiimnpjgoaaDoorTotals.lean).
  GIVEN WITH THE SEED: the statements are not yours to turn. If you find one false, say at which input.
  Laid BY PROGRAM, IN A SANDBOX (cutbox-rows.mjs): the forced cells as the released guide's own fill.sh prints them over the translation 9ffd57b023ab1a3e… (all of the seat's roots in one cut). By AI agents, Wed Nov 11 2026. No macro, syntax, notation, axiom, sorry.
-/
import Derived.Test.YtlbigiimnpjgoaaDoorChecked
import GoSem.PinnedTables
import GoSem.Claim
import GoSem.ClaimJoined
import GoSem.ClaimMapViews
import Derived.JoinedTies
import Derived.KernelRfl
namespace Go.Proofs.YtlbigiimnpjgoaaDoor
/- THE CELL 'sum', in the pinned program and in every row, IS THE sha256 OF THE DUMP (.gsa) THAT YtlbigiimnpjgoaaDoorProg.lean LOADS. Nothing in Lean hashes anything: it is a label: what it is worth is what the hold of that sum in a sandbox is worth. -/
noncomputable def Tryd.pinned : Pinned := { name := "ytlbigiimnpjgoaadoor", sum := "9ffd57b023ab1a3e6d93e1f39bf83386e14f2832cd1e14b64a41d55233a32dc8", checked := Tryd.checked }
namespace Rows
def none {H : Type} : Left H := { results := [], args := [] }

/- WHAT THE LISTED PACKAGE-LEVEL VARIABLES READ AS WHEN THE CALL BEGINS. Each datum BY PROGRAM (the guide's laid-datum.mjs) off the statement by which the dump's own 'gosem.cut.vars' lays the variable. In a bare row this is a premise. The card (YtlbigiimnpjgoaaDoorCards.lean) ties it to the program's text. -/
def laid_unicode_utf8_acceptRanges {H : Type} : DataW H := .agg [.agg [.lit (.int .u8 128), .lit (.int .u8 191)], .agg [.lit (.int .u8 160), .lit (.int .u8 191)], .agg [.lit (.int .u8 128), .lit (.int .u8 159)], .agg [.lit (.int .u8 144), .lit (.int .u8 191)], .agg [.lit (.int .u8 128), .lit (.int .u8 143)], .agg [.lit (.int .u8 0), .lit (.int .u8 0)], .agg [.lit (.int .u8 0), .lit (.int .u8 0)], .agg [.lit (.int .u8 0), .lit (.int .u8 0)], .agg [.lit (.int .u8 0), .lit (.int .u8 0)], .agg [.lit (.int .u8 0), .lit (.int .u8 0)], .agg [.lit (.int .u8 0), .lit (.int .u8 0)], .agg [.lit (.int .u8 0), .lit (.int .u8 0)], .agg [.lit (.int .u8 0), .lit (.int .u8 0)], .agg [.lit (.int .u8 0), .lit (.int .u8 0)], .agg [.lit (.int .u8 0), .lit (.int .u8 0)], .agg [.lit (.int .u8 0), .lit (.int .u8 0)]]
/-- One of Go's own tables, pinned by name: the form's constant. -/
def laid_unicode_utf8_first : DataW Unit := Go.Pinned.utf8First

/-- 'laws.FnExactIsAlphabet': WHATEVER THE INPUT: true; the input reads as it did. -/
def fnExactIsAlphabetSpec : ChangeSpec := { name := "fnExactIsAlphabet", fn := fun _ => fun
  | [d] => { results := [.lit (.bool true)], args := [d] }
  | _ => none }
def fnExactIsAlphabetRow : OpenClaim := { program := "ytlbigiimnpjgoaadoor", sum := "9ffd57b023ab1a3e6d93e1f39bf83386e14f2832cd1e14b64a41d55233a32dc8", func := "loop.example/g01030/laws.FnExactIsAlphabet", spec := "fnExactIsAlphabet", inPlace := ["internal/bytealg.IndexByteString", "internal/bytealg.IndexString"], named := ["unicode/utf8.first", "unicode/utf8.acceptRanges", "internal/bytealg.MaxLen"], apart := false, laid := [("unicode/utf8.acceptRanges", laid_unicode_utf8_acceptRanges), ("unicode/utf8.first", laid_unicode_utf8_first)] }
def FnExactIsAlphabetSaid : Prop := fnExactIsAlphabetRow.holds Tryd.pinned (OpenSpec.ofChange fnExactIsAlphabetSpec)

/-- ITS FALSE NEIGHBOUR: 'it returns false'. Refute it at one input. -/
def fnExactIsAlphabetWrong : ChangeSpec := { name := "fnExactIsAlphabet", fn := fun _ => fun
  | [d] => { results := [.lit (.bool false)], args := [d] }
  | _ => none }
def FnExactIsAlphabetWrongFalsely : Prop := fnExactIsAlphabetRow.holds Tryd.pinned (OpenSpec.ofChange fnExactIsAlphabetWrong)

/-- 'laws.FnExactCountSpellings': WHATEVER THE INPUT: true; the input reads as it did. -/
def fnExactCountSpellingsSpec : ChangeSpec := { name := "fnExactCountSpellings", fn := fun _ => fun
  | [d1, d2] => { results := [.lit (.bool true)], args := [d1, d2] }
  | _ => none }
def fnExactCountSpellingsRow : OpenClaim := { program := "ytlbigiimnpjgoaadoor", sum := "9ffd57b023ab1a3e6d93e1f39bf83386e14f2832cd1e14b64a41d55233a32dc8", func := "loop.example/g01030/laws.FnExactCountSpellings", spec := "fnExactCountSpellings", inPlace := ["internal/bytealg.IndexByteString", "internal/bytealg.IndexString"], named := ["unicode/utf8.first", "unicode/utf8.acceptRanges", "internal/bytealg.MaxLen"], apart := false, laid := [("unicode/utf8.acceptRanges", laid_unicode_utf8_acceptRanges), ("unicode/utf8.first", laid_unicode_utf8_first)] }
def FnExactCountSpellingsSaid : Prop := fnExactCountSpellingsRow.holds Tryd.pinned (OpenSpec.ofChange fnExactCountSpellingsSpec)

/-- ITS FALSE NEIGHBOUR: 'it returns false'. Refute it at one input. -/
def fnExactCountSpellingsWrong : ChangeSpec := { name := "fnExactCountSpellings", fn := fun _ => fun
  | [d1, d2] => { results := [.lit (.bool false)], args := [d1, d2] }
  | _ => none }
def FnExactCountSpellingsWrongFalsely : Prop := fnExactCountSpellingsRow.holds Tryd.pinned (OpenSpec.ofChange fnExactCountSpellingsWrong)

/-- 'laws.FnExactJoinLetters': WHATEVER THE INPUT: true; the input reads as it did. -/
def fnExactJoinLettersSpec : ChangeSpec := { name := "fnExactJoinLetters", fn := fun _ => fun
  | [d1, d2] => { results := [.lit (.bool true)], args := [d1, d2] }
  | _ => none }
def fnExactJoinLettersRow : OpenClaim := { program := "ytlbigiimnpjgoaadoor", sum := "9ffd57b023ab1a3e6d93e1f39bf83386e14f2832cd1e14b64a41d55233a32dc8", func := "loop.example/g01030/laws.FnExactJoinLetters", spec := "fnExactJoinLetters", inPlace := ["internal/bytealg.IndexByteString", "internal/bytealg.IndexString"], named := ["unicode/utf8.first", "unicode/utf8.acceptRanges", "internal/bytealg.MaxLen"], apart := false, laid := [("unicode/utf8.acceptRanges", laid_unicode_utf8_acceptRanges), ("unicode/utf8.first", laid_unicode_utf8_first)] }
def FnExactJoinLettersSaid : Prop := fnExactJoinLettersRow.holds Tryd.pinned (OpenSpec.ofChange fnExactJoinLettersSpec)

/-- ITS FALSE NEIGHBOUR: 'it returns false'. Refute it at one input. -/
def fnExactJoinLettersWrong : ChangeSpec := { name := "fnExactJoinLetters", fn := fun _ => fun
  | [d1, d2] => { results := [.lit (.bool false)], args := [d1, d2] }
  | _ => none }
def FnExactJoinLettersWrongFalsely : Prop := fnExactJoinLettersRow.holds Tryd.pinned (OpenSpec.ofChange fnExactJoinLettersWrong)

/-- 'laws.FnExactCanWrite': WHATEVER THE INPUT: true; the input reads as it did. -/
def fnExactCanWriteSpec : ChangeSpec := { name := "fnExactCanWrite", fn := fun _ => fun
  | [d1, d2] => { results := [.lit (.bool true)], args := [d1, d2] }
  | _ => none }
def fnExactCanWriteRow : OpenClaim := { program := "ytlbigiimnpjgoaadoor", sum := "9ffd57b023ab1a3e6d93e1f39bf83386e14f2832cd1e14b64a41d55233a32dc8", func := "loop.example/g01030/laws.FnExactCanWrite", spec := "fnExactCanWrite", inPlace := ["internal/bytealg.IndexByteString", "internal/bytealg.IndexString"], named := ["unicode/utf8.first", "unicode/utf8.acceptRanges", "internal/bytealg.MaxLen"], apart := false, laid := [("unicode/utf8.acceptRanges", laid_unicode_utf8_acceptRanges), ("unicode/utf8.first", laid_unicode_utf8_first)] }
def FnExactCanWriteSaid : Prop := fnExactCanWriteRow.holds Tryd.pinned (OpenSpec.ofChange fnExactCanWriteSpec)

/-- ITS FALSE NEIGHBOUR: 'it returns false'. Refute it at one input. -/
def fnExactCanWriteWrong : ChangeSpec := { name := "fnExactCanWrite", fn := fun _ => fun
  | [d1, d2] => { results := [.lit (.bool false)], args := [d1, d2] }
  | _ => none }
def FnExactCanWriteWrongFalsely : Prop := fnExactCanWriteRow.holds Tryd.pinned (OpenSpec.ofChange fnExactCanWriteWrong)

/-- 'laws.FnExactAlphabetText': WHATEVER THE INPUT: true; the input reads as it did. -/
def fnExactAlphabetTextSpec : ChangeSpec := { name := "fnExactAlphabetText", fn := fun _ => fun
  | [d] => { results := [.lit (.bool true)], args := [d] }
  | _ => none }
def fnExactAlphabetTextRow : OpenClaim := { program := "ytlbigiimnpjgoaadoor", sum := "9ffd57b023ab1a3e6d93e1f39bf83386e14f2832cd1e14b64a41d55233a32dc8", func := "loop.example/g01030/laws.FnExactAlphabetText", spec := "fnExactAlphabetText", inPlace := ["internal/bytealg.IndexByteString", "internal/bytealg.IndexString", "internal/abi.NoEscape", "internal/bytealg.MakeNoZero"], named := ["unicode/utf8.first", "unicode/utf8.acceptRanges", "internal/bytealg.MaxLen"], apart := false, laid := [("unicode/utf8.acceptRanges", laid_unicode_utf8_acceptRanges), ("unicode/utf8.first", laid_unicode_utf8_first)] }
def FnExactAlphabetTextSaid : Prop := fnExactAlphabetTextRow.holds Tryd.pinned (OpenSpec.ofChange fnExactAlphabetTextSpec)

/-- ITS FALSE NEIGHBOUR: 'it returns false'. Refute it at one input. -/
def fnExactAlphabetTextWrong : ChangeSpec := { name := "fnExactAlphabetText", fn := fun _ => fun
  | [d] => { results := [.lit (.bool false)], args := [d] }
  | _ => none }
def FnExactAlphabetTextWrongFalsely : Prop := fnExactAlphabetTextRow.holds Tryd.pinned (OpenSpec.ofChange fnExactAlphabetTextWrong)

/-- 'laws.FnExactSpellWord': WHATEVER THE INPUT: true; the input reads as it did. -/
def fnExactSpellWordSpec : ChangeSpec := { name := "fnExactSpellWord", fn := fun _ => fun
  | [d1, d2] => { results := [.lit (.bool true)], args := [d1, d2] }
  | _ => none }
def fnExactSpellWordRow : OpenClaim := { program := "ytlbigiimnpjgoaadoor", sum := "9ffd57b023ab1a3e6d93e1f39bf83386e14f2832cd1e14b64a41d55233a32dc8", func := "loop.example/g01030/laws.FnExactSpellWord", spec := "fnExactSpellWord", inPlace := ["internal/bytealg.IndexByteString", "internal/bytealg.IndexString"], named := ["unicode/utf8.first", "unicode/utf8.acceptRanges", "internal/bytealg.MaxLen"], apart := false, laid := [("unicode/utf8.acceptRanges", laid_unicode_utf8_acceptRanges), ("unicode/utf8.first", laid_unicode_utf8_first)] }
def FnExactSpellWordSaid : Prop := fnExactSpellWordRow.holds Tryd.pinned (OpenSpec.ofChange fnExactSpellWordSpec)

/-- ITS FALSE NEIGHBOUR: 'it returns false'. Refute it at one input. -/
def fnExactSpellWordWrong : ChangeSpec := { name := "fnExactSpellWord", fn := fun _ => fun
  | [d1, d2] => { results := [.lit (.bool false)], args := [d1, d2] }
  | _ => none }
def FnExactSpellWordWrongFalsely : Prop := fnExactSpellWordRow.holds Tryd.pinned (OpenSpec.ofChange fnExactSpellWordWrong)

/-- 'laws.FnExactIsSpelling': WHATEVER THE INPUT: true; the input reads as it did. -/
def fnExactIsSpellingSpec : ChangeSpec := { name := "fnExactIsSpelling", fn := fun _ => fun
  | [d1, d2] => { results := [.lit (.bool true)], args := [d1, d2] }
  | _ => none }
def fnExactIsSpellingRow : OpenClaim := { program := "ytlbigiimnpjgoaadoor", sum := "9ffd57b023ab1a3e6d93e1f39bf83386e14f2832cd1e14b64a41d55233a32dc8", func := "loop.example/g01030/laws.FnExactIsSpelling", spec := "fnExactIsSpelling", inPlace := ["internal/bytealg.IndexByteString", "internal/bytealg.IndexString"], named := ["unicode/utf8.first", "unicode/utf8.acceptRanges", "internal/bytealg.MaxLen"], apart := false, laid := [("unicode/utf8.acceptRanges", laid_unicode_utf8_acceptRanges), ("unicode/utf8.first", laid_unicode_utf8_first)] }
def FnExactIsSpellingSaid : Prop := fnExactIsSpellingRow.holds Tryd.pinned (OpenSpec.ofChange fnExactIsSpellingSpec)

/-- ITS FALSE NEIGHBOUR: 'it returns false'. Refute it at one input. -/
def fnExactIsSpellingWrong : ChangeSpec := { name := "fnExactIsSpelling", fn := fun _ => fun
  | [d1, d2] => { results := [.lit (.bool false)], args := [d1, d2] }
  | _ => none }
def FnExactIsSpellingWrongFalsely : Prop := fnExactIsSpellingRow.holds Tryd.pinned (OpenSpec.ofChange fnExactIsSpellingWrong)

/-- 'laws.FnExactReadAlphabet': WHATEVER THE INPUT: true; the input reads as it did. -/
def fnExactReadAlphabetSpec : ChangeSpec := { name := "fnExactReadAlphabet", fn := fun _ => fun
  | [d] => { results := [.lit (.bool true)], args := [d] }
  | _ => none }
def fnExactReadAlphabetRow : OpenClaim := { program := "ytlbigiimnpjgoaadoor", sum := "9ffd57b023ab1a3e6d93e1f39bf83386e14f2832cd1e14b64a41d55233a32dc8", func := "loop.example/g01030/laws.FnExactReadAlphabet", spec := "fnExactReadAlphabet", inPlace := ["internal/bytealg.CountString", "internal/bytealg.IndexByteString", "internal/bytealg.IndexString"], named := ["unicode/utf8.first", "unicode/utf8.acceptRanges", "internal/bytealg.MaxLen"], apart := false, laid := [("unicode/utf8.acceptRanges", laid_unicode_utf8_acceptRanges), ("unicode/utf8.first", laid_unicode_utf8_first)] }
def FnExactReadAlphabetSaid : Prop := fnExactReadAlphabetRow.holds Tryd.pinned (OpenSpec.ofChange fnExactReadAlphabetSpec)

/-- ITS FALSE NEIGHBOUR: 'it returns false'. Refute it at one input. -/
def fnExactReadAlphabetWrong : ChangeSpec := { name := "fnExactReadAlphabet", fn := fun _ => fun
  | [d] => { results := [.lit (.bool false)], args := [d] }
  | _ => none }
def FnExactReadAlphabetWrongFalsely : Prop := fnExactReadAlphabetRow.holds Tryd.pinned (OpenSpec.ofChange fnExactReadAlphabetWrong)

/-- 'laws.FnSpelling': WHATEVER THE INPUT: true; the input reads as it did. -/
def fnSpellingSpec : ChangeSpec := { name := "fnSpelling", fn := fun _ => fun
  | [d] => { results := [.lit (.bool true)], args := [d] }
  | _ => none }
def fnSpellingRow : OpenClaim := { program := "ytlbigiimnpjgoaadoor", sum := "9ffd57b023ab1a3e6d93e1f39bf83386e14f2832cd1e14b64a41d55233a32dc8", func := "loop.example/g01030/laws.FnSpelling", spec := "fnSpelling", inPlace := ["internal/bytealg.IndexByteString", "internal/bytealg.IndexString"], named := ["unicode/utf8.first", "unicode/utf8.acceptRanges", "internal/bytealg.MaxLen"], apart := false, laid := [("unicode/utf8.acceptRanges", laid_unicode_utf8_acceptRanges), ("unicode/utf8.first", laid_unicode_utf8_first)] }
def FnSpellingSaid : Prop := fnSpellingRow.holds Tryd.pinned (OpenSpec.ofChange fnSpellingSpec)

/-- ITS FALSE NEIGHBOUR: 'it returns false'. Refute it at one input. -/
def fnSpellingWrong : ChangeSpec := { name := "fnSpelling", fn := fun _ => fun
  | [d] => { results := [.lit (.bool false)], args := [d] }
  | _ => none }
def FnSpellingWrongFalsely : Prop := fnSpellingRow.holds Tryd.pinned (OpenSpec.ofChange fnSpellingWrong)

/-- 'laws.FnAlphabetTexts': WHATEVER THE INPUT: true; the input reads as it did. -/
def fnAlphabetTextsSpec : ChangeSpec := { name := "fnAlphabetTexts", fn := fun _ => fun
  | [d] => { results := [.lit (.bool true)], args := [d] }
  | _ => none }
def fnAlphabetTextsRow : OpenClaim := { program := "ytlbigiimnpjgoaadoor", sum := "9ffd57b023ab1a3e6d93e1f39bf83386e14f2832cd1e14b64a41d55233a32dc8", func := "loop.example/g01030/laws.FnAlphabetTexts", spec := "fnAlphabetTexts", inPlace := ["internal/bytealg.IndexByteString", "internal/bytealg.IndexString", "internal/abi.NoEscape", "internal/bytealg.MakeNoZero", "internal/bytealg.CountString"], named := ["unicode/utf8.first", "unicode/utf8.acceptRanges", "internal/bytealg.MaxLen"], apart := false, laid := [("unicode/utf8.acceptRanges", laid_unicode_utf8_acceptRanges), ("unicode/utf8.first", laid_unicode_utf8_first)] }
def FnAlphabetTextsSaid : Prop := fnAlphabetTextsRow.holds Tryd.pinned (OpenSpec.ofChange fnAlphabetTextsSpec)

/-- ITS FALSE NEIGHBOUR: 'it returns false'. Refute it at one input. -/
def fnAlphabetTextsWrong : ChangeSpec := { name := "fnAlphabetTexts", fn := fun _ => fun
  | [d] => { results := [.lit (.bool false)], args := [d] }
  | _ => none }
def FnAlphabetTextsWrongFalsely : Prop := fnAlphabetTextsRow.holds Tryd.pinned (OpenSpec.ofChange fnAlphabetTextsWrong)

/- THE SECOND FORM. 'bulk': how many values and letters a reading holds, each counted each time it is reached (what is shared counts as often as it is met; a slice's spare places count too). A statement '..UptoSaid' is the law's where the arguments, and the package variables that the reading takes, are together of bulk at most 1048576: NARROWER than '..Said'. Prove '..Said' where nothing that the law and all that it calls make is longer than what came in: it says more and counts as full. Else prove '..UptoSaid'. A law counts once. -/
mutual
def uptoBulk {H : Type} : DataW H → Nat
  | .lit (.string bytes) => bytes.length + 1
  | .lit _ => 1
  | .nil => 1
  | .ptr d => uptoBulk d + 1
  | .slice elems spare => uptoBulkAll elems + uptoBulkAll spare + 1
  | .agg parts => uptoBulkAll parts + 1
  | .iface _ d => uptoBulk d + 1
  | .map entries => uptoBulkEntries entries + 1
  | .held _ => 1
def uptoBulkAll {H : Type} : List (DataW H) → Nat
  | [] => 0
  | d :: r => uptoBulk d + uptoBulkAll r
def uptoBulkEntries {H : Type} : List (Lit × DataW H) → Nat
  | [] => 0
  | x :: r => uptoBulkEntry x + uptoBulkEntries r
def uptoBulkEntry {H : Type} : Lit × DataW H → Nat
  | (.string bytes, d) => bytes.length + uptoBulk d + 1
  | (_, d) => uptoBulk d + 1
 end
def uptoSmall : (H : Type) → List (DataW H) → Bool := fun _ ds => decide (uptoBulkAll ds ≤ 1048576)
def OpenSpec.upto (s : _root_.Go.ChangeSpec) : _root_.Go.OpenSpec := { _root_.Go.OpenSpec.ofChange s with cond := some uptoSmall }

/-- 'laws.FnExactIsAlphabet', WHERE WHAT IT READS IS OF BULK AT MOST 1048576: true; the input reads as it did. -/
def fnExactIsAlphabetUptoRow : OpenClaim := { program := "ytlbigiimnpjgoaadoor", sum := "9ffd57b023ab1a3e6d93e1f39bf83386e14f2832cd1e14b64a41d55233a32dc8", func := "loop.example/g01030/laws.FnExactIsAlphabet", spec := "fnExactIsAlphabet", inPlace := ["internal/bytealg.IndexByteString", "internal/bytealg.IndexString"], named := ["unicode/utf8.first", "unicode/utf8.acceptRanges", "internal/bytealg.MaxLen"], apart := false, laid := [("unicode/utf8.acceptRanges", laid_unicode_utf8_acceptRanges), ("unicode/utf8.first", laid_unicode_utf8_first)], narrowed := true }
def FnExactIsAlphabetUptoSaid : Prop := fnExactIsAlphabetUptoRow.holds Tryd.pinned (OpenSpec.upto fnExactIsAlphabetSpec)

/-- 'laws.FnExactCountSpellings', WHERE WHAT IT READS IS OF BULK AT MOST 1048576: true; the input reads as it did. -/
def fnExactCountSpellingsUptoRow : OpenClaim := { program := "ytlbigiimnpjgoaadoor", sum := "9ffd57b023ab1a3e6d93e1f39bf83386e14f2832cd1e14b64a41d55233a32dc8", func := "loop.example/g01030/laws.FnExactCountSpellings", spec := "fnExactCountSpellings", inPlace := ["internal/bytealg.IndexByteString", "internal/bytealg.IndexString"], named := ["unicode/utf8.first", "unicode/utf8.acceptRanges", "internal/bytealg.MaxLen"], apart := false, laid := [("unicode/utf8.acceptRanges", laid_unicode_utf8_acceptRanges), ("unicode/utf8.first", laid_unicode_utf8_first)], narrowed := true }
def FnExactCountSpellingsUptoSaid : Prop := fnExactCountSpellingsUptoRow.holds Tryd.pinned (OpenSpec.upto fnExactCountSpellingsSpec)

/-- 'laws.FnExactJoinLetters', WHERE WHAT IT READS IS OF BULK AT MOST 1048576: true; the input reads as it did. -/
def fnExactJoinLettersUptoRow : OpenClaim := { program := "ytlbigiimnpjgoaadoor", sum := "9ffd57b023ab1a3e6d93e1f39bf83386e14f2832cd1e14b64a41d55233a32dc8", func := "loop.example/g01030/laws.FnExactJoinLetters", spec := "fnExactJoinLetters", inPlace := ["internal/bytealg.IndexByteString", "internal/bytealg.IndexString"], named := ["unicode/utf8.first", "unicode/utf8.acceptRanges", "internal/bytealg.MaxLen"], apart := false, laid := [("unicode/utf8.acceptRanges", laid_unicode_utf8_acceptRanges), ("unicode/utf8.first", laid_unicode_utf8_first)], narrowed := true }
def FnExactJoinLettersUptoSaid : Prop := fnExactJoinLettersUptoRow.holds Tryd.pinned (OpenSpec.upto fnExactJoinLettersSpec)

/-- 'laws.FnExactCanWrite', WHERE WHAT IT READS IS OF BULK AT MOST 1048576: true; the input reads as it did. -/
def fnExactCanWriteUptoRow : OpenClaim := { program := "ytlbigiimnpjgoaadoor", sum := "9ffd57b023ab1a3e6d93e1f39bf83386e14f2832cd1e14b64a41d55233a32dc8", func := "loop.example/g01030/laws.FnExactCanWrite", spec := "fnExactCanWrite", inPlace := ["internal/bytealg.IndexByteString", "internal/bytealg.IndexString"], named := ["unicode/utf8.first", "unicode/utf8.acceptRanges", "internal/bytealg.MaxLen"], apart := false, laid := [("unicode/utf8.acceptRanges", laid_unicode_utf8_acceptRanges), ("unicode/utf8.first", laid_unicode_utf8_first)], narrowed := true }
def FnExactCanWriteUptoSaid : Prop := fnExactCanWriteUptoRow.holds Tryd.pinned (OpenSpec.upto fnExactCanWriteSpec)

/-- 'laws.FnExactAlphabetText', WHERE WHAT IT READS IS OF BULK AT MOST 1048576: true; the input reads as it did. -/
def fnExactAlphabetTextUptoRow : OpenClaim := { program := "ytlbigiimnpjgoaadoor", sum := "9ffd57b023ab1a3e6d93e1f39bf83386e14f2832cd1e14b64a41d55233a32dc8", func := "loop.example/g01030/laws.FnExactAlphabetText", spec := "fnExactAlphabetText", inPlace := ["internal/bytealg.IndexByteString", "internal/bytealg.IndexString", "internal/abi.NoEscape", "internal/bytealg.MakeNoZero"], named := ["unicode/utf8.first", "unicode/utf8.acceptRanges", "internal/bytealg.MaxLen"], apart := false, laid := [("unicode/utf8.acceptRanges", laid_unicode_utf8_acceptRanges), ("unicode/utf8.first", laid_unicode_utf8_first)], narrowed := true }
def FnExactAlphabetTextUptoSaid : Prop := fnExactAlphabetTextUptoRow.holds Tryd.pinned (OpenSpec.upto fnExactAlphabetTextSpec)

/-- 'laws.FnExactSpellWord', WHERE WHAT IT READS IS OF BULK AT MOST 1048576: true; the input reads as it did. -/
def fnExactSpellWordUptoRow : OpenClaim := { program := "ytlbigiimnpjgoaadoor", sum := "9ffd57b023ab1a3e6d93e1f39bf83386e14f2832cd1e14b64a41d55233a32dc8", func := "loop.example/g01030/laws.FnExactSpellWord", spec := "fnExactSpellWord", inPlace := ["internal/bytealg.IndexByteString", "internal/bytealg.IndexString"], named := ["unicode/utf8.first", "unicode/utf8.acceptRanges", "internal/bytealg.MaxLen"], apart := false, laid := [("unicode/utf8.acceptRanges", laid_unicode_utf8_acceptRanges), ("unicode/utf8.first", laid_unicode_utf8_first)], narrowed := true }
def FnExactSpellWordUptoSaid : Prop := fnExactSpellWordUptoRow.holds Tryd.pinned (OpenSpec.upto fnExactSpellWordSpec)

/-- 'laws.FnExactIsSpelling', WHERE WHAT IT READS IS OF BULK AT MOST 1048576: true; the input reads as it did. -/
def fnExactIsSpellingUptoRow : OpenClaim := { program := "ytlbigiimnpjgoaadoor", sum := "9ffd57b023ab1a3e6d93e1f39bf83386e14f2832cd1e14b64a41d55233a32dc8", func := "loop.example/g01030/laws.FnExactIsSpelling", spec := "fnExactIsSpelling", inPlace := ["internal/bytealg.IndexByteString", "internal/bytealg.IndexString"], named := ["unicode/utf8.first", "unicode/utf8.acceptRanges", "internal/bytealg.MaxLen"], apart := false, laid := [("unicode/utf8.acceptRanges", laid_unicode_utf8_acceptRanges), ("unicode/utf8.first", laid_unicode_utf8_first)], narrowed := true }
def FnExactIsSpellingUptoSaid : Prop := fnExactIsSpellingUptoRow.holds Tryd.pinned (OpenSpec.upto fnExactIsSpellingSpec)

/-- 'laws.FnExactReadAlphabet', WHERE WHAT IT READS IS OF BULK AT MOST 1048576: true; the input reads as it did. -/
def fnExactReadAlphabetUptoRow : OpenClaim := { program := "ytlbigiimnpjgoaadoor", sum := "9ffd57b023ab1a3e6d93e1f39bf83386e14f2832cd1e14b64a41d55233a32dc8", func := "loop.example/g01030/laws.FnExactReadAlphabet", spec := "fnExactReadAlphabet", inPlace := ["internal/bytealg.CountString", "internal/bytealg.IndexByteString", "internal/bytealg.IndexString"], named := ["unicode/utf8.first", "unicode/utf8.acceptRanges", "internal/bytealg.MaxLen"], apart := false, laid := [("unicode/utf8.acceptRanges", laid_unicode_utf8_acceptRanges), ("unicode/utf8.first", laid_unicode_utf8_first)], narrowed := true }
def FnExactReadAlphabetUptoSaid : Prop := fnExactReadAlphabetUptoRow.holds Tryd.pinned (OpenSpec.upto fnExactReadAlphabetSpec)

/-- 'laws.FnSpelling', WHERE WHAT IT READS IS OF BULK AT MOST 1048576: true; the input reads as it did. -/
def fnSpellingUptoRow : OpenClaim := { program := "ytlbigiimnpjgoaadoor", sum := "9ffd57b023ab1a3e6d93e1f39bf83386e14f2832cd1e14b64a41d55233a32dc8", func := "loop.example/g01030/laws.FnSpelling", spec := "fnSpelling", inPlace := ["internal/bytealg.IndexByteString", "internal/bytealg.IndexString"], named := ["unicode/utf8.first", "unicode/utf8.acceptRanges", "internal/bytealg.MaxLen"], apart := false, laid := [("unicode/utf8.acceptRanges", laid_unicode_utf8_acceptRanges), ("unicode/utf8.first", laid_unicode_utf8_first)], narrowed := true }
def FnSpellingUptoSaid : Prop := fnSpellingUptoRow.holds Tryd.pinned (OpenSpec.upto fnSpellingSpec)

/-- 'laws.FnAlphabetTexts', WHERE WHAT IT READS IS OF BULK AT MOST 1048576: true; the input reads as it did. -/
def fnAlphabetTextsUptoRow : OpenClaim := { program := "ytlbigiimnpjgoaadoor", sum := "9ffd57b023ab1a3e6d93e1f39bf83386e14f2832cd1e14b64a41d55233a32dc8", func := "loop.example/g01030/laws.FnAlphabetTexts", spec := "fnAlphabetTexts", inPlace := ["internal/bytealg.IndexByteString", "internal/bytealg.IndexString", "internal/abi.NoEscape", "internal/bytealg.MakeNoZero", "internal/bytealg.CountString"], named := ["unicode/utf8.first", "unicode/utf8.acceptRanges", "internal/bytealg.MaxLen"], apart := false, laid := [("unicode/utf8.acceptRanges", laid_unicode_utf8_acceptRanges), ("unicode/utf8.first", laid_unicode_utf8_first)], narrowed := true }
def FnAlphabetTextsUptoSaid : Prop := fnAlphabetTextsUptoRow.holds Tryd.pinned (OpenSpec.upto fnAlphabetTextsSpec)

end Rows
end Go.Proofs.YtlbigiimnpjgoaaDoor
