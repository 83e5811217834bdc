/- What the listed variables hold when the call begins. -/
import Derived.Test.YtipmkkojpdjgoaaDoorDec
import Derived.Lib.LaidTab
import Derived.Stop.LaidErr
namespace Go.Proofs.YtipmkkojpdjgoaaDoor
open Go.RowKit
theorem gPowType : (Tryd.prog.globals[0]?).map (·.type) = some 141 := by kernel_rfl
theorem cellsPow : Tryd.prog.cellsOf 141 = 20 := by kernel_rfl
theorem cellsU64 : Tryd.prog.cellsOf 115 = 1 := by kernel_rfl
theorem pow_of {W : World} {rest : List (String × DataW Unit)} (h : laidMet Tryd.prog (("internal/strconv.uint64pow10", Rows.laid_internal_strconv_uint64pow10) :: rest) W) : Pow W :=
  Lib.tabIs_of_head gPow gPowType Tryd.underlying141 Tryd.underlying115 cellsU64 cellsPow h
end Go.Proofs.YtipmkkojpdjgoaaDoor
