/- Plain mathematics: occurrences of a part, powers of a word. No program in sight. -/
import Derived.Test.YtanjpkcacgjgfaaPlainLists
namespace Go.Proofs.Ytanjpkcacgjgfaa
/-- The part occurs at k. -/
def occB (l p : List Int) (k : Nat) : Bool := decide (k + p.length ≤ l.length) && decide ((l.drop k).take p.length = p)
theorem occB_yes {l p : List Int} {k : Nat} (h : k + p.length ≤ l.length) : occB l p k = decide ((l.drop k).take p.length = p) := by
  unfold occB; rw [decide_eq_true h]; rfl
theorem occB_no {l p : List Int} {k : Nat} (h : ¬ k + p.length ≤ l.length) : occB l p k = false := by
  unfold occB; rw [decide_eq_false h]; rfl
/-- All occurrences below n, as numbers. -/
def occI (l p : List Int) (n : Nat) : List Int := ((List.range n).filter (occB l p)).map (fun (k : Nat) => (k : Int))
theorem occI_len (l p : List Int) (n : Nat) : (occI l p n).length ≤ n := by
  unfold occI
  rw [List.length_map]
  have := List.length_filter_le (occB l p) (List.range n)
  simpa using this
theorem occI_yes {l p : List Int} {n : Nat} (h : occB l p n = true) : occI l p (n + 1) = occI l p n ++ [(n : Int)] := by
  unfold occI; rw [List.range_succ, List.filter_append, List.map_append]; simp [h]
theorem occI_no {l p : List Int} {n : Nat} (h : occB l p n = false) : occI l p (n + 1) = occI l p n := by
  unfold occI; rw [List.range_succ, List.filter_append, List.map_append]; simp [h]
theorem occI_gap {l p : List Int} {a b : Nat} (hab : a ≤ b) (h : ∀ j, a ≤ j → j < b → occB l p j = false) : occI l p b = occI l p a := by
  obtain ⟨d, rfl⟩ : ∃ d, b = a + d := ⟨b - a, by omega⟩
  clear hab
  induction d with
  | zero => rfl
  | succ d ih =>
    rw [← Nat.add_assoc, occI_no (h (a + d) (by omega) (by omega))]
    exact ih (fun j h1 h2 => h j h1 (by omega))
/-- What a search for an occurrence answers: the first one from a place on, or -1. -/
def FindP (l p : List Int) (from_ : Nat) (n : Int) : Prop :=
  (n = -1 ∧ ∀ j, from_ ≤ j → occB l p j = false) ∨ ∃ m : Nat, n = (m : Int) ∧ from_ ≤ m ∧ occB l p m = true ∧ ∀ j, from_ ≤ j → j < m → occB l p j = false
theorem FindP.none_ {l p : List Int} {f k : Nat} (hk : ∀ j, f ≤ j → j < k → occB l p j = false) (he : ¬ k + p.length ≤ l.length) : FindP l p f (-1) := by
  refine .inl ⟨rfl, fun j hj => ?_⟩
  rcases Nat.lt_or_ge j k with h | h
  · exact hk j hj h
  · exact occB_no (by omega)
/-- A measure for a search that ends at -1. -/
def downTo (n : Int) : Nat := if n < 0 then 0 else 1000000 - n.toNat
theorem downTo_lt {m n : Int} (h0 : 0 ≤ m) (h1 : m ≤ 400) (h : n < 0 ∨ m < n ∧ n ≤ 400) : downTo n < downTo m := by
  unfold downTo
  rw [if_neg (show ¬ m < 0 by omega)]
  by_cases h : n < 0
  · rw [if_pos h]; omega
  · rw [if_neg h]; omega
/-- A list n times in a row. -/
def powL (l : List Int) : Nat → List Int
  | 0 => []
  | n + 1 => powL l n ++ l
theorem powL_len (l : List Int) : ∀ n, (powL l n).length = n * l.length
  | 0 => by simp [powL]
  | n + 1 => by rw [powL, List.length_append, powL_len l n, Nat.succ_mul]
end Go.Proofs.Ytanjpkcacgjgfaa
