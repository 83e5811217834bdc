/- What the listed variables hold when the call begins: laws with the table of powers alone. -/
import Derived.Test.YtipmkkojpdjgoaaDoorEnv
namespace Go.Proofs.YtipmkkojpdjgoaaDoor
open Go.RowKit
theorem envListText {W : World} (h : laidMet Tryd.prog Rows.fnExactListTextRow.laid W) (_hs : W.ShapedOpen Tryd.prog) : Pow W := pow_of (laidMet.tail (laidMet.tail (x := ("math/bits.deBruijn32tab", Rows.laid_math_bits_deBruijn32tab)) h))
theorem envNaturalText {W : World} (h : laidMet Tryd.prog Rows.fnExactNaturalTextRow.laid W) (_hs : W.ShapedOpen Tryd.prog) : Pow W := pow_of (laidMet.tail (laidMet.tail (x := ("math/bits.deBruijn32tab", Rows.laid_math_bits_deBruijn32tab)) h))
theorem envMachineText {W : World} (h : laidMet Tryd.prog Rows.fnExactMachineTextRow.laid W) (_hs : W.ShapedOpen Tryd.prog) : Pow W := pow_of (laidMet.tail (laidMet.tail (x := ("math/bits.deBruijn32tab", Rows.laid_math_bits_deBruijn32tab)) h))
end Go.Proofs.YtipmkkojpdjgoaaDoor
