/- What the listed variables hold when the call begins: FnBasics. -/
import Derived.Test.YtfdcpfhiknfpiaaGreatDoorEnv4
namespace Go.Proofs.YtfdcpfhiknfpiaaGreatDoor
open Go.RowKit
theorem envFnBasics {W : World} (h : laidMet Tryz.prog Rows.fnBasicsRow.laid W) (hs : W.ShapedOpen Tryz.prog) : EnvL W := by
  have h2 := laidMet.tail (laidMet.tail (x := ("math/bits.deBruijn32tab", Rows.laid_math_bits_deBruijn32tab)) h)
  have h4 := laidMet.tail (laidMet.tail h2)
  exact ⟨pow_of h2, ⟨err_of gSyn gSynT (laidMet.tail h4), err_of gRan gRanT h4⟩, maxL_of2 hs⟩
end Go.Proofs.YtfdcpfhiknfpiaaGreatDoor
