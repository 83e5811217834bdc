/- Naturals: products and powers with their codes. No condition beyond the stated bounds. -/
import Derived.Test.YtanjpkcacgjgfaaNatMul
namespace Go.Proofs.Ytanjpkcacgjgfaa
open Go.RowKit
/-- A natural of any length, with its code. -/
def fitN (l : List Int) : List Int × Int := if l.length ≤ 40 then (l, 0) else ([], 5)
theorem fitN_len (l : List Int) : (fitN l).1.length ≤ 40 := by unfold fitN; split <;> simp; omega
/-- What MultiplyNaturals answers. -/
def mulN (a b : List Int) : List Int × Int := if nat2 a b = true then fitN (nl (val a * val b)) else ([], 1)
theorem mulN_len (a b : List Int) : (mulN a b).1.length ≤ 40 := by
  unfold mulN
  split
  · exact fitN_len _
  · simp
end Go.Proofs.Ytanjpkcacgjgfaa
