/- Naturals: differences, powers and small values with their codes. No condition beyond the stated bounds. -/
import Derived.Test.YtanjpkcacgjgfaaNatArith
import Derived.Test.YtanjpkcacgjgfaaNatSub
namespace Go.Proofs.Ytanjpkcacgjgfaa
open Go.RowKit
/-- The loop of a power of values: none if it has too many limbs. -/
def pwN : Nat → Int → Int → Option Int
  | 0, x, _ => some x
  | e + 1, x, b => if 40 < (nl (x * b)).length then none else pwN e (x * b) b
theorem pwN_no {e : Nat} {x b : Int} (h : 40 < (nl (x * b)).length) : pwN (e + 1) x b = none := by rw [pwN, if_pos h]
theorem pwN_yes {e : Nat} {x b : Int} (h : ¬ 40 < (nl (x * b)).length) : pwN (e + 1) x b = pwN e (x * b) b := by rw [pwN, if_neg h]
theorem pwN_len : ∀ (e : Nat) (x b y : Int), (nl x).length ≤ 40 → pwN e x b = some y → (nl y).length ≤ 40
  | 0, x, b, y, h, he => by injection he with he; subst he; exact h
  | e + 1, x, b, y, h, he => by
    rw [pwN] at he
    split at he
    · cases he
    · exact pwN_len e _ _ _ (by omega) he
/-- What a power answers. -/
def pwR (o : Option Int) : List Int × Int := match o with | some x => (nl x, 0) | none => ([], 5)
theorem nl_one : nl 1 = [1] := by decide
theorem own_one (w : World) : Owns (w.alloc (.cells #[.int .i64 1] 2)) w.heap.size (.slice (some ⟨w.heap.size, 0, none⟩) 1 1) (nl 1) := by
  rw [nl_one]; exact World.ownsRow_lit w #[.int .i64 1] 1 (Nat.le_refl _) (by simp [maxLen]) rfl
end Go.Proofs.Ytanjpkcacgjgfaa
