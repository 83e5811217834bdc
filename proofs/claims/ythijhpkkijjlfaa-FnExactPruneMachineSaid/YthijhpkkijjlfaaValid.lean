/- Words and naturals: the contracts of IsWord, IsNatural and of what they call. No condition. -/
import Derived.Test.YthijhpkkijjlfaaSl
namespace Go.Proofs.Ythijhpkkijjlfaa
open Go.RowKit
/-- l is a word. -/
def wordB (l : List Int) : Bool := allIn l 0 9 && decide (l.length ≤ 400)
theorem wordB_true {l : List Int} : wordB l = true ↔ allIn l 0 9 = true ∧ l.length ≤ 400 := by unfold wordB; simp
/-- l is a natural. -/
def natB (l : List Int) : Bool := decide (l.length ≤ 40) && (allIn l 0 999999 && (decide (l.length = 0) || decide (geti l (l.length - 1) ≠ 0)))
theorem natB_true {l : List Int} : natB l = true ↔ l.length ≤ 40 ∧ allIn l 0 999999 = true ∧ (l.length = 0 ∨ geti l (l.length - 1) ≠ 0) := by
  unfold natB; simp only [Bool.and_eq_true, Bool.or_eq_true, decide_eq_true_eq]
end Go.Proofs.Ythijhpkkijjlfaa
