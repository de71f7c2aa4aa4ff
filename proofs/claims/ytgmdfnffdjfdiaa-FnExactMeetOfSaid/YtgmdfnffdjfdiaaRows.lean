/-
  No cell of these rows narrows 'for every input' (looked for: loops, veiled, ifaces, maps, wideKeys, modest, calm, conditions, laid).
  DERIVED. THE GIVEN ROWS OF THIS SEAT. 7 by the template 'for every input the law returns true; each argument reads behind the call as it read before'; 0 by the template 'total and deterministic' (their statements: YtgmdfnffdjfdiaaTotals.lean).
  GIVEN WITH THE SEED: the statements are not yours to turn. If you find one false, say at which input.
  Laid BY PROGRAM, IN A SANDBOX (cutbox-rows.mjs): the forced cells as the released guide's own fill.sh prints them over the translation 90215f499358704f… (all of the seat's roots in one cut). By AI agents, Wed Nov 11 2026. No macro, syntax, notation, axiom, sorry.
-/
import Derived.Test.YtgmdfnffdjfdiaaChecked
import GoSem.Claim
import GoSem.ClaimJoined
import GoSem.ClaimMapViews
import Derived.JoinedTies
import Derived.KernelRfl
namespace Go.Proofs.Ytgmdfnffdjfdiaa
/- THE CELL 'sum', in the pinned program and in every row, IS THE sha256 OF THE DUMP (.gsa) THAT YtgmdfnffdjfdiaaProg.lean LOADS. Nothing in Lean hashes anything: it is a label: what it is worth is what the hold of that sum in a sandbox is worth. -/
noncomputable def Try.pinned : Pinned := { name := "ytgmdfnffdjfdiaa", sum := "90215f499358704f11e381a331ce5e4900ca09eb64cc08ad5c1c022a3644b599", checked := Try.checked }
namespace Rows
def none {H : Type} : Left H := { results := [], args := [] }

/-- 'laws.FnExactConstants': WHATEVER THE INPUT: true; the input reads as it did. -/
def fnExactConstantsSpec : ChangeSpec := { name := "fnExactConstants", fn := fun _ => fun
  | [] => { results := [.lit (.bool true)], args := [] }
  | _ => none }
def fnExactConstantsRow : OpenClaim := { program := "ytgmdfnffdjfdiaa", sum := "90215f499358704f11e381a331ce5e4900ca09eb64cc08ad5c1c022a3644b599", func := "loop.example/g01030/laws.FnExactConstants", spec := "fnExactConstants", apart := false }
def FnExactConstantsSaid : Prop := fnExactConstantsRow.holds Try.pinned (OpenSpec.ofChange fnExactConstantsSpec)

/-- ITS FALSE NEIGHBOUR: 'it returns false'. Refute it at one input. -/
def fnExactConstantsWrong : ChangeSpec := { name := "fnExactConstants", fn := fun _ => fun
  | [] => { results := [.lit (.bool false)], args := [] }
  | _ => none }
def FnExactConstantsWrongFalsely : Prop := fnExactConstantsRow.holds Try.pinned (OpenSpec.ofChange fnExactConstantsWrong)

/-- 'laws.FnExactIsSpan': WHATEVER THE INPUT: true; the input reads as it did. -/
def fnExactIsSpanSpec : ChangeSpec := { name := "fnExactIsSpan", fn := fun _ => fun
  | [d] => { results := [.lit (.bool true)], args := [d] }
  | _ => none }
def fnExactIsSpanRow : OpenClaim := { program := "ytgmdfnffdjfdiaa", sum := "90215f499358704f11e381a331ce5e4900ca09eb64cc08ad5c1c022a3644b599", func := "loop.example/g01030/laws.FnExactIsSpan", spec := "fnExactIsSpan", apart := false }
def FnExactIsSpanSaid : Prop := fnExactIsSpanRow.holds Try.pinned (OpenSpec.ofChange fnExactIsSpanSpec)

/-- ITS FALSE NEIGHBOUR: 'it returns false'. Refute it at one input. -/
def fnExactIsSpanWrong : ChangeSpec := { name := "fnExactIsSpan", fn := fun _ => fun
  | [d] => { results := [.lit (.bool false)], args := [d] }
  | _ => none }
def FnExactIsSpanWrongFalsely : Prop := fnExactIsSpanRow.holds Try.pinned (OpenSpec.ofChange fnExactIsSpanWrong)

/-- 'laws.FnExactDoMeet': WHATEVER THE INPUT: true; the input reads as it did. -/
def fnExactDoMeetSpec : ChangeSpec := { name := "fnExactDoMeet", fn := fun _ => fun
  | [d1, d2] => { results := [.lit (.bool true)], args := [d1, d2] }
  | _ => none }
def fnExactDoMeetRow : OpenClaim := { program := "ytgmdfnffdjfdiaa", sum := "90215f499358704f11e381a331ce5e4900ca09eb64cc08ad5c1c022a3644b599", func := "loop.example/g01030/laws.FnExactDoMeet", spec := "fnExactDoMeet", apart := false }
def FnExactDoMeetSaid : Prop := fnExactDoMeetRow.holds Try.pinned (OpenSpec.ofChange fnExactDoMeetSpec)

/-- ITS FALSE NEIGHBOUR: 'it returns false'. Refute it at one input. -/
def fnExactDoMeetWrong : ChangeSpec := { name := "fnExactDoMeet", fn := fun _ => fun
  | [d1, d2] => { results := [.lit (.bool false)], args := [d1, d2] }
  | _ => none }
def FnExactDoMeetWrongFalsely : Prop := fnExactDoMeetRow.holds Try.pinned (OpenSpec.ofChange fnExactDoMeetWrong)

/-- 'laws.FnExactMeetOf': WHATEVER THE INPUT: true; the input reads as it did. -/
def fnExactMeetOfSpec : ChangeSpec := { name := "fnExactMeetOf", fn := fun _ => fun
  | [d1, d2] => { results := [.lit (.bool true)], args := [d1, d2] }
  | _ => none }
def fnExactMeetOfRow : OpenClaim := { program := "ytgmdfnffdjfdiaa", sum := "90215f499358704f11e381a331ce5e4900ca09eb64cc08ad5c1c022a3644b599", func := "loop.example/g01030/laws.FnExactMeetOf", spec := "fnExactMeetOf", apart := false }
def FnExactMeetOfSaid : Prop := fnExactMeetOfRow.holds Try.pinned (OpenSpec.ofChange fnExactMeetOfSpec)

/-- ITS FALSE NEIGHBOUR: 'it returns false'. Refute it at one input. -/
def fnExactMeetOfWrong : ChangeSpec := { name := "fnExactMeetOf", fn := fun _ => fun
  | [d1, d2] => { results := [.lit (.bool false)], args := [d1, d2] }
  | _ => none }
def FnExactMeetOfWrongFalsely : Prop := fnExactMeetOfRow.holds Try.pinned (OpenSpec.ofChange fnExactMeetOfWrong)

/-- 'laws.FnExactAreYears': WHATEVER THE INPUT: true; the input reads as it did. -/
def fnExactAreYearsSpec : ChangeSpec := { name := "fnExactAreYears", fn := fun _ => fun
  | [d] => { results := [.lit (.bool true)], args := [d] }
  | _ => none }
def fnExactAreYearsRow : OpenClaim := { program := "ytgmdfnffdjfdiaa", sum := "90215f499358704f11e381a331ce5e4900ca09eb64cc08ad5c1c022a3644b599", func := "loop.example/g01030/laws.FnExactAreYears", spec := "fnExactAreYears", apart := false }
def FnExactAreYearsSaid : Prop := fnExactAreYearsRow.holds Try.pinned (OpenSpec.ofChange fnExactAreYearsSpec)

/-- ITS FALSE NEIGHBOUR: 'it returns false'. Refute it at one input. -/
def fnExactAreYearsWrong : ChangeSpec := { name := "fnExactAreYears", fn := fun _ => fun
  | [d] => { results := [.lit (.bool false)], args := [d] }
  | _ => none }
def FnExactAreYearsWrongFalsely : Prop := fnExactAreYearsRow.holds Try.pinned (OpenSpec.ofChange fnExactAreYearsWrong)

/-- 'laws.FnExactCountYears': WHATEVER THE INPUT: true; the input reads as it did. -/
def fnExactCountYearsSpec : ChangeSpec := { name := "fnExactCountYears", fn := fun _ => fun
  | [d] => { results := [.lit (.bool true)], args := [d] }
  | _ => none }
def fnExactCountYearsRow : OpenClaim := { program := "ytgmdfnffdjfdiaa", sum := "90215f499358704f11e381a331ce5e4900ca09eb64cc08ad5c1c022a3644b599", func := "loop.example/g01030/laws.FnExactCountYears", spec := "fnExactCountYears", apart := false }
def FnExactCountYearsSaid : Prop := fnExactCountYearsRow.holds Try.pinned (OpenSpec.ofChange fnExactCountYearsSpec)

/-- ITS FALSE NEIGHBOUR: 'it returns false'. Refute it at one input. -/
def fnExactCountYearsWrong : ChangeSpec := { name := "fnExactCountYears", fn := fun _ => fun
  | [d] => { results := [.lit (.bool false)], args := [d] }
  | _ => none }
def FnExactCountYearsWrongFalsely : Prop := fnExactCountYearsRow.holds Try.pinned (OpenSpec.ofChange fnExactCountYearsWrong)

/-- 'laws.FnExactHasYear': WHATEVER THE INPUT: true; the input reads as it did. -/
def fnExactHasYearSpec : ChangeSpec := { name := "fnExactHasYear", fn := fun _ => fun
  | [d1, d2] => { results := [.lit (.bool true)], args := [d1, d2] }
  | _ => none }
def fnExactHasYearRow : OpenClaim := { program := "ytgmdfnffdjfdiaa", sum := "90215f499358704f11e381a331ce5e4900ca09eb64cc08ad5c1c022a3644b599", func := "loop.example/g01030/laws.FnExactHasYear", spec := "fnExactHasYear", unfollowed := true, recurses := true, apart := false }
def FnExactHasYearSaid : Prop := fnExactHasYearRow.holds Try.pinned (OpenSpec.ofChange fnExactHasYearSpec)

/-- ITS FALSE NEIGHBOUR: 'it returns false'. Refute it at one input. -/
def fnExactHasYearWrong : ChangeSpec := { name := "fnExactHasYear", fn := fun _ => fun
  | [d1, d2] => { results := [.lit (.bool false)], args := [d1, d2] }
  | _ => none }
def FnExactHasYearWrongFalsely : Prop := fnExactHasYearRow.holds Try.pinned (OpenSpec.ofChange fnExactHasYearWrong)

/- THE SECOND FORM. 'bulk': how many values and letters a reading holds, each counted each time it is reached (what is shared counts as often as it is met; a slice's spare places count too). A statement '..UptoSaid' is the law's where the arguments, and the package variables that the reading takes, are together of bulk at most 1048576: NARROWER than '..Said'. Prove '..Said' where nothing that the law and all that it calls make is longer than what came in: it says more and counts as full. Else prove '..UptoSaid'. A law counts once. -/
mutual
def uptoBulk {H : Type} : DataW H → Nat
  | .lit (.string bytes) => bytes.length + 1
  | .lit _ => 1
  | .nil => 1
  | .ptr d => uptoBulk d + 1
  | .slice elems spare => uptoBulkAll elems + uptoBulkAll spare + 1
  | .agg parts => uptoBulkAll parts + 1
  | .iface _ d => uptoBulk d + 1
  | .map entries => uptoBulkEntries entries + 1
  | .held _ => 1
def uptoBulkAll {H : Type} : List (DataW H) → Nat
  | [] => 0
  | d :: r => uptoBulk d + uptoBulkAll r
def uptoBulkEntries {H : Type} : List (Lit × DataW H) → Nat
  | [] => 0
  | x :: r => uptoBulkEntry x + uptoBulkEntries r
def uptoBulkEntry {H : Type} : Lit × DataW H → Nat
  | (.string bytes, d) => bytes.length + uptoBulk d + 1
  | (_, d) => uptoBulk d + 1
 end
def uptoSmall : (H : Type) → List (DataW H) → Bool := fun _ ds => decide (uptoBulkAll ds ≤ 1048576)
def OpenSpec.upto (s : _root_.Go.ChangeSpec) : _root_.Go.OpenSpec := { _root_.Go.OpenSpec.ofChange s with cond := some uptoSmall }

/-- 'laws.FnExactConstants', WHERE WHAT IT READS IS OF BULK AT MOST 1048576: true; the input reads as it did. -/
def fnExactConstantsUptoRow : OpenClaim := { program := "ytgmdfnffdjfdiaa", sum := "90215f499358704f11e381a331ce5e4900ca09eb64cc08ad5c1c022a3644b599", func := "loop.example/g01030/laws.FnExactConstants", spec := "fnExactConstants", apart := false, narrowed := true }
def FnExactConstantsUptoSaid : Prop := fnExactConstantsUptoRow.holds Try.pinned (OpenSpec.upto fnExactConstantsSpec)

/-- 'laws.FnExactIsSpan', WHERE WHAT IT READS IS OF BULK AT MOST 1048576: true; the input reads as it did. -/
def fnExactIsSpanUptoRow : OpenClaim := { program := "ytgmdfnffdjfdiaa", sum := "90215f499358704f11e381a331ce5e4900ca09eb64cc08ad5c1c022a3644b599", func := "loop.example/g01030/laws.FnExactIsSpan", spec := "fnExactIsSpan", apart := false, narrowed := true }
def FnExactIsSpanUptoSaid : Prop := fnExactIsSpanUptoRow.holds Try.pinned (OpenSpec.upto fnExactIsSpanSpec)

/-- 'laws.FnExactDoMeet', WHERE WHAT IT READS IS OF BULK AT MOST 1048576: true; the input reads as it did. -/
def fnExactDoMeetUptoRow : OpenClaim := { program := "ytgmdfnffdjfdiaa", sum := "90215f499358704f11e381a331ce5e4900ca09eb64cc08ad5c1c022a3644b599", func := "loop.example/g01030/laws.FnExactDoMeet", spec := "fnExactDoMeet", apart := false, narrowed := true }
def FnExactDoMeetUptoSaid : Prop := fnExactDoMeetUptoRow.holds Try.pinned (OpenSpec.upto fnExactDoMeetSpec)

/-- 'laws.FnExactMeetOf', WHERE WHAT IT READS IS OF BULK AT MOST 1048576: true; the input reads as it did. -/
def fnExactMeetOfUptoRow : OpenClaim := { program := "ytgmdfnffdjfdiaa", sum := "90215f499358704f11e381a331ce5e4900ca09eb64cc08ad5c1c022a3644b599", func := "loop.example/g01030/laws.FnExactMeetOf", spec := "fnExactMeetOf", apart := false, narrowed := true }
def FnExactMeetOfUptoSaid : Prop := fnExactMeetOfUptoRow.holds Try.pinned (OpenSpec.upto fnExactMeetOfSpec)

/-- 'laws.FnExactAreYears', WHERE WHAT IT READS IS OF BULK AT MOST 1048576: true; the input reads as it did. -/
def fnExactAreYearsUptoRow : OpenClaim := { program := "ytgmdfnffdjfdiaa", sum := "90215f499358704f11e381a331ce5e4900ca09eb64cc08ad5c1c022a3644b599", func := "loop.example/g01030/laws.FnExactAreYears", spec := "fnExactAreYears", apart := false, narrowed := true }
def FnExactAreYearsUptoSaid : Prop := fnExactAreYearsUptoRow.holds Try.pinned (OpenSpec.upto fnExactAreYearsSpec)

/-- 'laws.FnExactCountYears', WHERE WHAT IT READS IS OF BULK AT MOST 1048576: true; the input reads as it did. -/
def fnExactCountYearsUptoRow : OpenClaim := { program := "ytgmdfnffdjfdiaa", sum := "90215f499358704f11e381a331ce5e4900ca09eb64cc08ad5c1c022a3644b599", func := "loop.example/g01030/laws.FnExactCountYears", spec := "fnExactCountYears", apart := false, narrowed := true }
def FnExactCountYearsUptoSaid : Prop := fnExactCountYearsUptoRow.holds Try.pinned (OpenSpec.upto fnExactCountYearsSpec)

/-- 'laws.FnExactHasYear', WHERE WHAT IT READS IS OF BULK AT MOST 1048576: true; the input reads as it did. -/
def fnExactHasYearUptoRow : OpenClaim := { program := "ytgmdfnffdjfdiaa", sum := "90215f499358704f11e381a331ce5e4900ca09eb64cc08ad5c1c022a3644b599", func := "loop.example/g01030/laws.FnExactHasYear", spec := "fnExactHasYear", unfollowed := true, recurses := true, apart := false, narrowed := true }
def FnExactHasYearUptoSaid : Prop := fnExactHasYearUptoRow.holds Try.pinned (OpenSpec.upto fnExactHasYearSpec)

end Rows
end Go.Proofs.Ytgmdfnffdjfdiaa
