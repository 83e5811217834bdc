/- PrimeNumber (the program's half). No condition beyond the stated bounds. -/
import Derived.Test.YtanjpkcacgjgfaaPlainPrime
import Derived.Test.YtanjpkcacgjgfaaNatWord
namespace Go.Proofs.Ytanjpkcacgjgfaa
open Go.RowKit
/-- The product of powers of primes, from the k-th prime on. -/
def pnum : List Int → Nat → Int → Option Int
  | [], _, x => some x
  | y :: t, k, x => match pwN (y + 1).toNat x (primeK k : Int) with
    | none => none
    | some z => pnum t (k + 1) z
theorem pnum_step {l : List Int} {k : Nat} (h : k < l.length) (x : Int) : pnum (l.drop k) k x = match pwN (geti l k + 1).toNat x (primeK k : Int) with | none => none | some z => pnum (l.drop (k + 1)) (k + 1) z := by
  rw [drop_cons h, pnum]
theorem nl_small {p : Int} (h1 : 1 ≤ p) (h2 : p ≤ 999999) : nl p = [p] := by
  rw [← natL_nl (by omega)]
  unfold natL
  rw [limbs_pos (by omega), limbs_zero (by omega)]
  congr 1
  omega
theorem lim_one {p : Int} (h0 : 0 ≤ p) (h1 : p ≤ 999999) : Lim [p] := fun y hy => by
  have : y = p := by simpa using hy
  subst this
  exact ⟨h0, h1⟩
end Go.Proofs.Ytanjpkcacgjgfaa
