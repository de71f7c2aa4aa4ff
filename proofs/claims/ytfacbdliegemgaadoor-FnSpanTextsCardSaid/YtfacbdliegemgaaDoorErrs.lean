/- The library's two errors, off a row's listed variables. -/
import Derived.Test.YtfacbdliegemgaaDoorReadC
import Derived.Test.YtfacbdliegemgaaDoorPow
import Derived.Stop.LaidErr
namespace Go.Proofs.YtfacbdliegemgaaDoor
open Go.ChangeShapes Go.WideShapes Go.ChangeAt Go.RowKit
theorem gER : Tryd.prog.globalNamed "strconv.ErrRange" = some 2 := by kernel_rfl
theorem gERType : (Tryd.prog.globals[2]?).map (·.type) = some 83 := by kernel_rfl
theorem gES : Tryd.prog.globalNamed "strconv.ErrSyntax" = some 1 := by kernel_rfl
theorem gESType : (Tryd.prog.globals[1]?).map (·.type) = some 83 := by kernel_rfl
theorem cellsErr : Tryd.prog.cellsOf 151 = 1 := by kernel_rfl
theorem cellsStr : Tryd.prog.cellsOf 9 = 1 := by kernel_rfl
theorem starErr : "*" ++ "errors.errorString" = "*errors.errorString" := by decide
theorem rowErr (u : TypeId) (h : Tryd.prog.typeName? 3 u = some "*errors.errorString") : u = 149 :=
  typeName_ptr_named (nm := "errors.errorString") (by rw [starErr]; kernel_rfl) (by kernel_rfl) (by decide) u (by rw [starErr]; exact h)
theorem errs_head {W : World} {rest : List (String × DataW Unit)} (h : laidMet Tryd.prog (("strconv.ErrRange", Rows.laid_strconv_ErrRange) :: ("strconv.ErrSyntax", Rows.laid_strconv_ErrSyntax) :: rest) W) : ErrCells W := by
  obtain ⟨a0, s0, hv0, -, -, -⟩ := laid_sentinel h gER gERType Tryd.underlying83 rowErr Tryd.underlying149 Tryd.underlying151 rfl rfl Tryd.underlying9 cellsErr cellsStr
  obtain ⟨a1, s1, hv1, -, -, -⟩ := laid_sentinel h.tail gES gESType Tryd.underlying83 rowErr Tryd.underlying149 Tryd.underlying151 rfl rfl Tryd.underlying9 cellsErr cellsStr
  exact ⟨⟨_, _, by have h0 := World.var?_cell gES hv1 0; simpa using h0⟩, _, _, by have h0 := World.var?_cell gER hv0 0; simpa using h0⟩
/-- the errors stand fourth and fifth -/
theorem errs_fourth {W : World} {a b c : String × DataW Unit} {rest : List (String × DataW Unit)} (h : laidMet Tryd.prog (a :: b :: c :: ("strconv.ErrRange", Rows.laid_strconv_ErrRange) :: ("strconv.ErrSyntax", Rows.laid_strconv_ErrSyntax) :: rest) W) : ErrCells W := errs_head h.tail.tail.tail
/-- the errors stand fifth and sixth -/
theorem errs_fifth {W : World} {a b c d : String × DataW Unit} {rest : List (String × DataW Unit)} (h : laidMet Tryd.prog (a :: b :: c :: d :: ("strconv.ErrRange", Rows.laid_strconv_ErrRange) :: ("strconv.ErrSyntax", Rows.laid_strconv_ErrSyntax) :: rest) W) : ErrCells W := errs_head h.tail.tail.tail.tail
def setErr (heap : Array Obj) (g low : Nat) : Array Obj := heap.modify g fun
  | .cells _ t frozen => .cells #[.iface 149 (.pointer (some ⟨low, 0, none⟩))] t frozen
  | o => o
noncomputable def errLow : Nat := (World.holding Tryd.prog default ⟨#[], #[], []⟩).heap.size
end Go.Proofs.YtfacbdliegemgaaDoor
