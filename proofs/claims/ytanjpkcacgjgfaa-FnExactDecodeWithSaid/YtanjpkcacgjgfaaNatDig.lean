/- Naturals: digits and sets. No condition beyond the stated bounds. -/
import Derived.Test.YtanjpkcacgjgfaaNatVal
namespace Go.Proofs.Ytanjpkcacgjgfaa
open Go.RowKit
/-- The length of a slice value. -/
def sliceLen : Value → Nat
  | .slice _ n _ => n
  | _ => 0
/-- What DigitsOf answers. -/
def digs (l : List Int) (b : Int) : List Int × Int := if natB l = true then (if inB b 2 1000000 = true then (dg 800 (val l) b, 0) else ([], 2)) else ([], 1)
theorem digs_len (l : List Int) (b : Int) : (digs l b).1.length ≤ 800 := by
  unfold digs
  split
  · split
    · exact dg_len _ _ _
    · simp
  · simp
/-- What SetOf answers. -/
def setOf (l : List Int) : List Int × Int := if natB l = true then (ones (dg 800 (val l) 2) 0, 0) else ([], 1)
theorem setOf_len (l : List Int) : (setOf l).1.length ≤ 800 := by
  unfold setOf
  split
  · have := ones_len (dg 800 (val l) 2) 0; have := dg_len 800 (val l) 2; show (ones _ _).length ≤ 800; omega
  · simp
theorem digs_two {l : List Int} (h : natB l = true) : digs l 2 = (dg 800 (val l) 2, 0) := by unfold digs; rw [if_pos h, if_pos (by decide)]
theorem digs_no {l : List Int} {b : Int} (h : natB l = false) : digs l b = ([], 1) := by unfold digs; rw [if_neg (by simp [h])]
end Go.Proofs.Ytanjpkcacgjgfaa
