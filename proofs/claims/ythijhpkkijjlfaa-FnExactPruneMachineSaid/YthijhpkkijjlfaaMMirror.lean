/- MirrorMachine, SetRule: l05Own, l05Mirror, mirrored and what the laws need. No condition beyond the stated bounds. -/
import Derived.Test.YthijhpkkijjlfaaMOwn
namespace Go.Proofs.Ythijhpkkijjlfaa
open Go.RowKit
theorem C3.set {w : World} {b : Nat} {x y z : Value} (h : C3 w b x y z) {p : Addr} (hne : p.block ≠ b) (u : Value) : C3 (w.setCell p u) b x y z :=
  C3.kept h (grown_set w p u) (fun k hk => by injection hk with hk; omega)
/-- The flat list in which the moves of the first k rules are turned. -/
def mirUp (l : List Int) (k : Nat) : List Int := (List.range l.length).map (fun j => if j % 3 = 1 ∧ j / 3 < k then - geti l j else geti l j)
theorem mirUp_len (l : List Int) (k : Nat) : (mirUp l k).length = l.length := by simp [mirUp]
theorem mirUp_at {l : List Int} {k j : Nat} (h : j < l.length) : geti (mirUp l k) j = if j % 3 = 1 ∧ j / 3 < k then - geti l j else geti l j := by
  rw [geti_eq (by rw [mirUp_len]; exact h)]; simp [mirUp]
theorem mirUp_zero (l : List Int) : mirUp l 0 = l := by
  apply ext_geti' (mirUp_len l 0)
  intro j hj
  rw [mirUp_len] at hj
  rw [mirUp_at hj, if_neg (by omega)]
theorem mirUp_step {l : List Int} {k : Nat} (h : k * 3 + 1 < l.length) : (mirUp l k).set (k * 3 + 1) (- geti l (k * 3 + 1)) = mirUp l (k + 1) := by
  apply ext_geti' (by rw [List.length_set, mirUp_len, mirUp_len])
  intro j hj
  rw [List.length_set, mirUp_len] at hj
  rw [geti_set (by rw [mirUp_len]; exact h), mirUp_at hj, mirUp_at hj]
  by_cases e : k * 3 + 1 = j
  · subst e
    rw [if_pos rfl, if_pos (by omega)]
  · rw [if_neg e]
    by_cases h1 : j % 3 = 1 ∧ j / 3 < k
    · rw [if_pos h1, if_pos (by omega)]
    · rw [if_neg h1, if_neg (by omega)]
/-- Every move is small. -/
def Moves (l : List Int) : Prop := ∀ k, k * 3 + 1 < l.length → -1 ≤ geti l (k * 3 + 1) ∧ geti l (k * 3 + 1) ≤ 1
theorem moves_of {sy st : Int} {l : List Int} (h : validB sy st l = true) (h3 : l.length % 3 = 0) : Moves l := by
  obtain ⟨s1, s2, s3, s4⟩ := validB_true h
  intro k hk
  unfold rulesB at s4
  rw [List.all_eq_true] at s4
  have := s4 k (by simp; omega)
  unfold ruleAt ruleB noneB at this
  simp only [Bool.or_eq_true, Bool.and_eq_true, decide_eq_true_eq] at this
  omega
end Go.Proofs.Ythijhpkkijjlfaa
