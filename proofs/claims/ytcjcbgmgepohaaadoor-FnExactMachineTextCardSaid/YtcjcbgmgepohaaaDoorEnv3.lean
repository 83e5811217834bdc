/- What the listed variables hold when the call begins: laws with the table of powers alone. -/
import Derived.Test.YtcjcbgmgepohaaaDoorEnv
namespace Go.Proofs.YtcjcbgmgepohaaaDoor
open Go.RowKit
theorem envMachineText {W : World} (h : laidMet Tryd.prog Rows.fnExactMachineTextRow.laid W) (_hs : W.ShapedOpen Tryd.prog) : Pow W := pow_of (laidMet.tail (laidMet.tail (x := ("math/bits.deBruijn32tab", Rows.laid_math_bits_deBruijn32tab)) h))
end Go.Proofs.YtcjcbgmgepohaaaDoor
