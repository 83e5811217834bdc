/- What the listed variables hold when the call begins: the library's two errors. -/
import Derived.Test.YtipmkkojpdjgoaaDoorEnv
import Derived.Test.YtipmkkojpdjgoaaDoorReadDec
import Derived.ProofKit
namespace Go.Proofs.YtipmkkojpdjgoaaDoor
open Go.RowKit
theorem gSyn : Tryd.prog.globalNamed "strconv.ErrSyntax" = some 1 := by kernel_rfl
theorem gRan : Tryd.prog.globalNamed "strconv.ErrRange" = some 2 := by kernel_rfl
theorem gSynT : (Tryd.prog.globals[1]?).map (·.type) = some 63 := by kernel_rfl
theorem gRanT : (Tryd.prog.globals[2]?).map (·.type) = some 63 := by kernel_rfl
theorem cellsES : Tryd.prog.cellsOf 162 = 1 := by kernel_rfl
theorem cellsStr : Tryd.prog.cellsOf 9 = 1 := by kernel_rfl
theorem starES : "*" ++ "errors.errorString" = "*errors.errorString" := by decide
theorem rowES (u : TypeId) (h : Tryd.prog.typeName? 3 u = some "*errors.errorString") : u = 160 :=
  typeName_ptr_named (nm := "errors.errorString") (by rw [starES]; kernel_rfl) (by kernel_rfl) (by decide) u (by rw [starES]; exact h)
theorem err_of {W : World} {rest : List (String × DataW Unit)} {n : String} {text : List UInt8} {g : Nat} (hg : Tryd.prog.globalNamed n = some g) (ht : (Tryd.prog.globals[g]?).map (·.type) = some 63)
    (h : laidMet Tryd.prog ((n, .iface "*errors.errorString" (.ptr (.agg [.lit (.string text)]))) :: rest) W) : ErrAt g W := by
  obtain ⟨a, s, hv, _, _, _⟩ := laid_sentinel h hg ht Tryd.underlying63 rowES Tryd.underlying160 Tryd.underlying162 rfl rfl Tryd.underlying9 cellsES cellsStr
  refine ⟨_, by simpa using World.var?_cell hg hv 0, .inr ⟨_, _, rfl⟩⟩
theorem envReadDecimal {W : World} (h : laidMet Tryd.prog Rows.fnExactReadDecimalRow.laid W) (_hs : W.ShapedOpen Tryd.prog) : Pow W ∧ Errs W := by
  have h2 := laidMet.tail (laidMet.tail (x := ("math/bits.deBruijn32tab", Rows.laid_math_bits_deBruijn32tab)) h)
  have h3 := laidMet.tail h2
  exact ⟨pow_of h2, ⟨err_of gSyn gSynT (laidMet.tail h3), err_of gRan gRanT h3⟩⟩
end Go.Proofs.YtipmkkojpdjgoaaDoor
