/-
  DERIVED: THE SHELF's CONTRACTS AT THIS DUMP, IN PLAIN WORDS (tools/lay-plain.mjs out of 'TrydShelf.lean', which tools/lay-shelf.mjs wrote): THE SAME DECLARATIONS UNDER THE SAME NAMES: 'import', 'namespace', 'open', 'def', 'theorem' AND NOTHING ELSE: no command of the shelf's: FOR A HAND-IN. Each laying: the table of numbers ('.._ren') and one theorem, a field a fact of the dump's own or the kernel's comparison; each contract: ONE APPLICATION.
-/
import Derived.Shelf.Strings.SlTrimAscii
import Derived.Shelf.Strings.Builder1
import Derived.Shelf.Strings.Builder2
import Derived.Shelf.Strings.OnBuilder
import Derived.Shelf.Strings.Trim
import Derived.Shelf.Small.Utf8
import Derived.Shelf.Small.Strs
import Derived.Shelf.Strings.Search1
import Derived.Shelf.Strings.Search2
import Derived.Shelf.Strings.Search3
import Derived.Shelf.Strings.Cut
import Derived.Shelf.Strings.Count
import Derived.Shelf.LaysM
import Derived.Shelf.Strings.Shaped
import Derived.Shelf.Strings.Split
import Derived.Shelf.Strings.SplitShaped
import Derived.Shelf.Strings.Runes
import Derived.Shelf.Strings.AsciiSet
import Derived.Shelf.Unicode.DecodeSlow
import Derived.Test.YtbhibidgdlaeeaaDoorProg
namespace Go.Proofs
open Go.Shelf
def Tryd.lays160_ren : Go.Shelf.Ren := ⟨fun | 160 => 182 | 232 => 198 | 231 => 197 | 227 => 199 | 234 => 201 | 233 => 200 | 236 => 203 | 235 => 202 | 228 => 216 | 271 => 218 | 151 => 217 | 197 => 214 | 120 => 232 | 152 => 231 | 260 => 230 | 137 => 243 | 119 => 244 | 224 => 206 | 225 => 205 | 217 => 204 | 266 => 219 | n => n, fun | 9 => 9 | 4 => 4 | 3 => 3 | 5 => 5 | 117 => 166 | 116 => 165 | 0 => 0 | 124 => 169 | 21 => 21 | 105 => 178 | 46 => 172 | 119 => 208 | 139 => 211 | 138 => 210 | n => n, fun | 3 => 4 | 4 => 5 | n => n⟩
theorem Tryd.lays160 : Go.Proofs.Lays.n160 Tryd.prog Tryd.lays160_ren := {
  mixed := by kernel_rfl
  f119 := Tryd.func244.trans (congrArg some (by kernel_rfl))
  f120 := Tryd.func232.trans (congrArg some (by kernel_rfl))
  f137 := Tryd.func243.trans (congrArg some (by kernel_rfl))
  f151 := Tryd.func217.trans (congrArg some (by kernel_rfl))
  f152 := Tryd.func231.trans (congrArg some (by kernel_rfl))
  f160 := Tryd.func182.trans (congrArg some (by kernel_rfl))
  f197 := Tryd.func214.trans (congrArg some (by kernel_rfl))
  f217 := Tryd.func204.trans (congrArg some (by kernel_rfl))
  f224 := Tryd.func206.trans (congrArg some (by kernel_rfl))
  f225 := Tryd.func205.trans (congrArg some (by kernel_rfl))
  f227 := Tryd.func199.trans (congrArg some (by kernel_rfl))
  f228 := Tryd.func216.trans (congrArg some (by kernel_rfl))
  f231 := Tryd.func197.trans (congrArg some (by kernel_rfl))
  f232 := Tryd.func198.trans (congrArg some (by kernel_rfl))
  f233 := Tryd.func200.trans (congrArg some (by kernel_rfl))
  f234 := Tryd.func201.trans (congrArg some (by kernel_rfl))
  f235 := Tryd.func202.trans (congrArg some (by kernel_rfl))
  f236 := Tryd.func203.trans (congrArg some (by kernel_rfl))
  f260 := Tryd.func230.trans (congrArg some (by kernel_rfl))
  f266 := Tryd.func219.trans (congrArg some (by kernel_rfl))
  f271 := Tryd.func218.trans (congrArg some (by kernel_rfl))
  t0 := Tryd.underlying0
  a0 := Tryd.isAgg0
  z0 := Tryd.sizeOf0
  v0 := Tryd.zeroValue0
  t3 := Tryd.underlying3
  a3 := Tryd.isAgg3
  z3 := Tryd.sizeOf3
  v3 := Tryd.zeroValue3
  t4 := Tryd.underlying4
  a4 := Tryd.isAgg4
  z4 := Tryd.sizeOf4
  v4 := Tryd.zeroValue4
  t5 := Tryd.underlying5
  a5 := Tryd.isAgg5
  z5 := Tryd.sizeOf5
  v5 := Tryd.zeroValue5
  t9 := Tryd.underlying9
  a9 := Tryd.isAgg9
  z9 := Tryd.sizeOf9
  v9 := Tryd.zeroValue9
  t21 := Tryd.underlying21
  a21 := Tryd.isAgg21
  z21 := Tryd.sizeOf21
  v21 := Tryd.zeroValue21
  t46 := Tryd.underlying172
  a46 := Tryd.isAgg172
  z46 := Tryd.sizeOf172
  v46 := Tryd.zeroValue172
  t105 := Tryd.underlying178
  a105 := Tryd.isAgg178
  z105 := Tryd.sizeOf178
  v105 := Tryd.zeroValue178
  t116 := Tryd.underlying165
  a116 := Tryd.isAgg165
  z116 := Tryd.sizeOf165
  t117 := Tryd.underlying166
  a117 := Tryd.isAgg166
  z117 := Tryd.sizeOf166
  v117 := Tryd.zeroValue166
  t119 := Tryd.underlying208
  a119 := Tryd.isAgg208
  z119 := Tryd.sizeOf208
  t124 := Tryd.underlying169
  a124 := Tryd.isAgg169
  z124 := Tryd.sizeOf169
  v124 := Tryd.zeroValue169
  t138 := Tryd.underlying210
  a138 := Tryd.isAgg210
  z138 := Tryd.sizeOf210
  v138 := Tryd.zeroValue210
  t139 := Tryd.underlying211
  a139 := Tryd.isAgg211
  z139 := Tryd.sizeOf211
  v139 := Tryd.zeroValue211
  g3 := by kernel_rfl
  g4 := by kernel_rfl }
open Go.RowKit in
/-- strings.Trim: "Trim returns a slice of the string s with all leading and trailing Unicode code points contained in cutset removed.": AT A cutset OF ONE ASCII BYTE. THE WORLD BEHIND IT: as it was, or (where s is not empty) with ONE DRAW MORE off the tape: the statement 'return trimLeftByte(trimRightByte(s, c), c)' draws its order of evaluation. (LAID: no walk: one application.) -/
theorem Tryd.strings_Trim_one (s : ByteArray) (c : UInt8) (hc : c.toNat < 128) (w : World) (hs : s.size ≤ 9223372036854775807) :
    Calls Tryd.prog 182 #[.string s, .string ⟨#[c]⟩] w fun e w' => e = .returned (.string ⟨(Lib.trimB s.data.toList c).toArray⟩) ∧ (w' = w ∨ w' = w.drew) := Any.strings_Trim_one Tryd.lays160 s c hc w hs
end Go.Proofs
