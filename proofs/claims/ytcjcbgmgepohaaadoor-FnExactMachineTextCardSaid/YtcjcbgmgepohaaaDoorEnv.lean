/- What the listed variables hold when the call begins. -/
import Derived.Test.YtcjcbgmgepohaaaDoorDec
import Derived.Lib.LaidTab
import Derived.Stop.LaidErr
namespace Go.Proofs.YtcjcbgmgepohaaaDoor
open Go.RowKit
theorem gPowType : (Tryd.prog.globals[1]?).map (·.type) = some 85 := by kernel_rfl
theorem cellsPow : Tryd.prog.cellsOf 85 = 20 := by kernel_rfl
theorem cellsU64 : Tryd.prog.cellsOf 78 = 1 := by kernel_rfl
theorem pow_of {W : World} {rest : List (String × DataW Unit)} (h : laidMet Tryd.prog (("internal/strconv.uint64pow10", Rows.laid_internal_strconv_uint64pow10) :: rest) W) : Pow W :=
  Lib.tabIs_of_head gPow gPowType Tryd.underlying85 Tryd.underlying78 cellsU64 cellsPow h
end Go.Proofs.YtcjcbgmgepohaaaDoor
