/- What the listed variables hold when the call begins: the laws that read texts. -/
import Derived.Test.YtfdcpfhiknfpiaaGreatDoorEnv2
import Derived.Test.YtfdcpfhiknfpiaaGreatDoorRListP
import Derived.Shelf.Vars
namespace Go.Proofs.YtfdcpfhiknfpiaaGreatDoor
open Go.RowKit
theorem maxL_of2 {W : World} (h : W.ShapedOpen Tryz.prog) : MaxL W :=
  cell_of_shapedOpen_int (g := 5) (t := 3) (k := .i64) (zero := #[.int .i64 0]) h (of_decide_eq_true (by kernel_rfl)) (by kernel_rfl) rfl (by kernel_rfl) (by kernel_rfl) Tryz.underlying3
end Go.Proofs.YtfdcpfhiknfpiaaGreatDoor
