/- What the listed variables hold when the call begins: the laws that read texts. -/
import Derived.Test.YtipmkkojpdjgoaaDoorEnv2
import Derived.Test.YtipmkkojpdjgoaaDoorRListP
import Derived.Shelf.Vars
namespace Go.Proofs.YtipmkkojpdjgoaaDoor
open Go.RowKit
theorem maxL_of2 {W : World} (h : W.ShapedOpen Tryd.prog) : MaxL W :=
  cell_of_shapedOpen_int (g := 3) (t := 3) (k := .i64) (zero := #[.int .i64 0]) h (of_decide_eq_true (by kernel_rfl)) (by kernel_rfl) rfl (by kernel_rfl) (by kernel_rfl) Tryd.underlying3
theorem envReadList {W : World} (h : laidMet Tryd.prog Rows.fnExactReadListRow.laid W) (hs : W.ShapedOpen Tryd.prog) : EnvL W := by
  have h2 := laidMet.tail (laidMet.tail (x := ("math/bits.deBruijn32tab", Rows.laid_math_bits_deBruijn32tab)) h)
  have h4 := laidMet.tail (laidMet.tail h2)
  exact ⟨pow_of h2, ⟨err_of gSyn gSynT (laidMet.tail h4), err_of gRan gRanT h4⟩, maxL_of2 hs⟩
theorem envReadNatural {W : World} (h : laidMet Tryd.prog Rows.fnExactReadNaturalRow.laid W) (hs : W.ShapedOpen Tryd.prog) : EnvL W := by
  have h2 := laidMet.tail (laidMet.tail (x := ("math/bits.deBruijn32tab", Rows.laid_math_bits_deBruijn32tab)) h)
  have h4 := laidMet.tail (laidMet.tail h2)
  exact ⟨pow_of h2, ⟨err_of gSyn gSynT (laidMet.tail h4), err_of gRan gRanT h4⟩, maxL_of2 hs⟩
end Go.Proofs.YtipmkkojpdjgoaaDoor
