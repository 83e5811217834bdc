/- What the listed variables hold when the call begins. -/
import Derived.Test.YtfdcpfhiknfpiaaGreatDoorDec
import Derived.Lib.LaidTab
import Derived.Stop.LaidErr
namespace Go.Proofs.YtfdcpfhiknfpiaaGreatDoor
open Go.RowKit
theorem gPowType : (Tryz.prog.globals[2]?).map (·.type) = some 102 := by kernel_rfl
theorem cellsPow : Tryz.prog.cellsOf 102 = 20 := by kernel_rfl
theorem cellsU64 : Tryz.prog.cellsOf 62 = 1 := by kernel_rfl
theorem pow_of {W : World} {rest : List (String × DataW Unit)} (h : laidMet Tryz.prog (("internal/strconv.uint64pow10", Rows.laid_internal_strconv_uint64pow10) :: rest) W) : Pow W :=
  Lib.tabIs_of_head gPow gPowType Tryz.underlying102 Tryz.underlying62 cellsU64 cellsPow h
end Go.Proofs.YtfdcpfhiknfpiaaGreatDoor
