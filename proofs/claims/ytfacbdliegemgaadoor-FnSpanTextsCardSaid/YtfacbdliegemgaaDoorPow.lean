/- The library's table of powers, off a row's listed variables. -/
import Derived.Test.YtfacbdliegemgaaDoorNum
import Derived.Test.YtfacbdliegemgaaDoorDoor
import Derived.Stop.LaidErr
namespace Go.Proofs.YtfacbdliegemgaaDoor
open Go.ChangeShapes Go.WideShapes Go.ChangeAt Go.RowKit
theorem pow_data : (Rows.laid_internal_strconv_uint64pow10 : DataW Unit) = Lib.tabData .u64 Lib.pow10Tab := by kernel_rfl
theorem pow_head {W : World} {rest : List (String × DataW Unit)} (h : laidMet Tryd.prog (("internal/strconv.uint64pow10", Rows.laid_internal_strconv_uint64pow10) :: rest) W) : PowTab W := by
  rw [pow_data] at h
  exact Lib.tabIs_of_head (g := 3) (t := 141) (e := 116) (n := 20) (by kernel_rfl) (by kernel_rfl) (by kernel_rfl) (by kernel_rfl) (by kernel_rfl) (by kernel_rfl) h
/-- the table stands third -/
theorem pow_third {W : World} {a b : String × DataW Unit} {rest : List (String × DataW Unit)} (h : laidMet Tryd.prog (a :: b :: ("internal/strconv.uint64pow10", Rows.laid_internal_strconv_uint64pow10) :: rest) W) : PowTab W := pow_head (laidMet.tail (laidMet.tail h))
end Go.Proofs.YtfacbdliegemgaaDoor
