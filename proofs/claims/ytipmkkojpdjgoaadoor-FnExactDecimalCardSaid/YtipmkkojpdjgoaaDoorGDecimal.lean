/- The walk of FnExactDecimal: it returns true. Where the table of powers is laid. -/
import Derived.Test.YtipmkkojpdjgoaaDoorDec
import Derived.Test.YtipmkkojpdjgoaaDoorEnv
namespace Go.Proofs.YtipmkkojpdjgoaaDoor
open Go.RowKit
theorem walkDecimal (a0 : Int) (w : World) (hp : Pow w) (ha0 : -9223372036854775808 ≤ a0 ∧ a0 ≤ 9223372036854775807) :
    Calls Tryd.prog 3 #[.int .i64 a0] w fun e w' => e = .returned (.bool true) ∧ Below w.heap.size w w' := by
  obtain ⟨h0, h1⟩ := ha0
  generalize hs : str (Lib.itoa a0) = s
  have HS := Lib.hid hs
  go_enter Tryd.func3, Tryd.ntmps3
  go_wp2_with fail
  refine (specDecimal_any a0 _ h0 h1).mono ?_
  rintro e w1 ⟨rfl, hb1⟩
  rw [HS.out]
  go_wp2_with fail
  refine (implDecimal_any a0 _ (hp.next hb1) h0 h1).mono ?_
  rintro e w2 ⟨rfl, hb2⟩
  rw [HS.out]
  have hb := below_next hb1 hb2
  go_wp2_with fail
  go_ret
  exact ⟨rfl, hb⟩
theorem envDecimal {W : World} (h : laidMet Tryd.prog Rows.fnExactDecimalRow.laid W) (_hs : W.ShapedOpen Tryd.prog) : Pow W := pow_of (laidMet.tail (laidMet.tail (x := ("math/bits.deBruijn32tab", Rows.laid_math_bits_deBruijn32tab)) h))
end Go.Proofs.YtipmkkojpdjgoaaDoor
