/- SmallOf: what the law needs. No condition beyond the stated bounds. -/
import Derived.Test.YtanjpkcacgjgfaaNatVal
namespace Go.Proofs.Ytanjpkcacgjgfaa
open Go.RowKit
/-- What lies above is no greater than the whole. -/
theorem val_drop_le {l : List Int} (h : Lim l) (k : Nat) (hk : k ≤ l.length) : val (l.drop k) ≤ val l := by
  have h1 := val_split l k hk
  have h2 := val_nonneg (h.take k)
  have h3 := val_nonneg (h.drop k)
  have h4 := pw_pos k
  have := Int.mul_le_mul_of_nonneg_right (show 1 ≤ pw k by omega) h3
  omega
theorem pw3 : pw 3 = 1000000000000000000 := by unfold pw; decide
/-- What SmallOf answers. -/
def smallN (l : List Int) : Int × Int := if natB l = true then (if val l ≤ 1000000000000 then (val l, 0) else (0, 5)) else (0, 1)
end Go.Proofs.Ytanjpkcacgjgfaa
