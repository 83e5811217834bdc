/- What the listed variables hold when the call begins: the library's two errors. -/
import Derived.Test.YtfdcpfhiknfpiaaGreatDoorEnv
import Derived.Test.YtfdcpfhiknfpiaaGreatDoorReadDec
import Derived.ProofKit
namespace Go.Proofs.YtfdcpfhiknfpiaaGreatDoor
open Go.RowKit
theorem gSyn : Tryz.prog.globalNamed "strconv.ErrSyntax" = some 0 := by kernel_rfl
theorem gRan : Tryz.prog.globalNamed "strconv.ErrRange" = some 1 := by kernel_rfl
theorem gSynT : (Tryz.prog.globals[0]?).map (·.type) = some 41 := by kernel_rfl
theorem gRanT : (Tryz.prog.globals[1]?).map (·.type) = some 41 := by kernel_rfl
theorem cellsES : Tryz.prog.cellsOf 116 = 1 := by kernel_rfl
theorem cellsStr : Tryz.prog.cellsOf 9 = 1 := by kernel_rfl
theorem starES : "*" ++ "errors.errorString" = "*errors.errorString" := by decide
theorem rowES (u : TypeId) (h : Tryz.prog.typeName? 3 u = some "*errors.errorString") : u = 114 :=
  typeName_ptr_named (nm := "errors.errorString") (by rw [starES]; kernel_rfl) (by kernel_rfl) (by decide) u (by rw [starES]; exact h)
theorem err_of {W : World} {rest : List (String × DataW Unit)} {n : String} {text : List UInt8} {g : Nat} (hg : Tryz.prog.globalNamed n = some g) (ht : (Tryz.prog.globals[g]?).map (·.type) = some 41)
    (h : laidMet Tryz.prog ((n, .iface "*errors.errorString" (.ptr (.agg [.lit (.string text)]))) :: rest) W) : ErrAt g W := by
  obtain ⟨a, s, hv, _, _, _⟩ := laid_sentinel h hg ht Tryz.underlying41 rowES Tryz.underlying114 Tryz.underlying116 rfl rfl Tryz.underlying9 cellsES cellsStr
  refine ⟨_, by simpa using World.var?_cell hg hv 0, .inr ⟨_, _, rfl⟩⟩
end Go.Proofs.YtfdcpfhiknfpiaaGreatDoor
