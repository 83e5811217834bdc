/- Plain mathematics: products of powers of primes. No program in sight. -/
import Derived.Test.YtanjpkcacgjgfaaNatArith2
namespace Go.Proofs.Ytanjpkcacgjgfaa
theorem len40 {n : Int} (h : 0 ≤ n) : 40 < (nl n).length ↔ ¬ n < pw 40 := by
  have := nl_len h (k := 40)
  unfold pw
  omega
/-- A power in values. -/
theorem pwN_val {p : Int} (hp : 1 ≤ p) : ∀ (e : Nat) {x : Int}, 0 ≤ x → x < pw 40 → pwN e x p = if x * p ^ e < pw 40 then some (x * p ^ e) else none
  | 0, x, _, hx => by rw [pwN, Int.pow_zero, Int.mul_one, if_pos hx]
  | e + 1, x, h0, hx => by
    have hxp : 0 ≤ x * p := Int.mul_nonneg h0 (by omega)
    have hpe : 1 ≤ p ^ e := by
      have : ∀ k : Nat, 1 ≤ p ^ k := by
        intro k
        induction k with
        | zero => rw [Int.pow_zero]; exact Int.le_refl _
        | succ k ih =>
          rw [Int.pow_succ]
          have := Int.mul_le_mul ih hp (by omega) (by omega)
          omega
      exact this e
    have he : x * p ^ (e + 1) = x * p * p ^ e := by rw [Int.pow_succ]; grind
    rw [he]
    by_cases h : x * p < pw 40
    · rw [pwN_yes (by rw [len40 hxp]; omega), pwN_val hp e hxp h]
    · rw [pwN_no (by rw [len40 hxp]; exact h), if_neg]
      have := Int.mul_le_mul_of_nonneg_left hpe hxp
      omega
/-- A power beside another factor. -/
theorem pwN_split {p x : Int} (hp : 1 ≤ p) (hx : 1 ≤ x) (hx2 : x < pw 40) (e : Nat) :
    pwN e x p = match pwN e 1 p with | none => none | some y => if 40 < (nl (x * y)).length then none else some (x * y) := by
  have h1 : (1 : Int) < pw 40 := by have := pw_mono (show 1 ≤ 40 by omega); have h2 : pw 1 = 1000000 := rfl; omega
  have hpe : 0 ≤ p ^ e := Int.pow_nonneg (by omega)
  have hxy : 0 ≤ x * p ^ e := Int.mul_nonneg (by omega) hpe
  have hge : p ^ e ≤ x * p ^ e := by
    have := Int.mul_le_mul_of_nonneg_right hx hpe
    omega
  rw [pwN_val hp e (by omega) hx2, pwN_val hp e (by omega) h1, Int.one_mul]
  by_cases h2 : p ^ e < pw 40
  · rw [if_pos h2]
    by_cases h3 : x * p ^ e < pw 40
    · rw [if_pos h3]; simp only; rw [if_neg (by rw [len40 hxy]; omega)]
    · rw [if_neg h3]; simp only; rw [if_pos (by rw [len40 hxy]; exact h3)]
  · rw [if_neg h2, if_neg (by omega)]
end Go.Proofs.Ytanjpkcacgjgfaa
