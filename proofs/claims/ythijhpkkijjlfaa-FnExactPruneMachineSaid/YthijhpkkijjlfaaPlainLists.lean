/- Plain mathematics: comparing lists, ranks of words. No program in sight. -/
import Derived.Test.YthijhpkkijjlfaaWords
namespace Go.Proofs.Ythijhpkkijjlfaa
theorem drop_cons {l : List Int} {k : Nat} (h : k < l.length) : l.drop k = geti l k :: l.drop (k + 1) := by
  rw [List.drop_eq_getElem_cons h, geti_eq h]
/-- Lists compared lexicographically. -/
def cmpL : List Int → List Int → Int
  | [], [] => 0
  | [], _ :: _ => -1
  | _ :: _, [] => 1
  | x :: xs, y :: ys => if x < y then -1 else if y < x then 1 else cmpL xs ys
theorem cmpL_step {a b : List Int} {k : Nat} (ha : k < a.length) (hb : k < b.length) :
    cmpL (a.drop k) (b.drop k) = if geti a k < geti b k then -1 else if geti b k < geti a k then 1 else cmpL (a.drop (k + 1)) (b.drop (k + 1)) := by
  rw [drop_cons ha, drop_cons hb, cmpL]
theorem cmpL_end {a b : List Int} {k : Nat} (h : a.length ≤ k ∨ b.length ≤ k) (ha : k ≤ a.length) (hb : k ≤ b.length) :
    cmpL (a.drop k) (b.drop k) = if a.length < b.length then -1 else if b.length < a.length then 1 else 0 := by
  rcases Nat.lt_trichotomy a.length b.length with h1 | h1 | h1
  · rw [List.drop_eq_nil_of_le (by omega : a.length ≤ k), drop_cons (by omega : k < b.length), if_pos h1]; rfl
  · rw [List.drop_eq_nil_of_le (by omega : a.length ≤ k), List.drop_eq_nil_of_le (by omega : b.length ≤ k), if_neg (by omega), if_neg (by omega)]; rfl
  · rw [List.drop_eq_nil_of_le (by omega : b.length ≤ k), drop_cons (by omega : k < a.length), if_neg (by omega), if_pos h1]; rfl
theorem cmpL_bd : ∀ (a b : List Int), cmpL a b = -1 ∨ cmpL a b = 0 ∨ cmpL a b = 1
  | [], [] => .inr (.inl rfl)
  | [], _ :: _ => .inl rfl
  | _ :: _, [] => .inr (.inr rfl)
  | x :: xs, y :: ys => by
    rw [cmpL]
    split
    · exact .inl rfl
    · split
      · exact .inr (.inr rfl)
      · exact cmpL_bd xs ys
theorem cmpL_anti : ∀ (a b : List Int), cmpL b a = - cmpL a b
  | [], [] => rfl
  | [], _ :: _ => rfl
  | _ :: _, [] => rfl
  | x :: xs, y :: ys => by
    rw [cmpL, cmpL]
    rcases Int.lt_trichotomy x y with h | h | h
    · rw [if_neg (by omega), if_pos h, if_pos h]; rfl
    · rw [if_neg (by omega), if_neg (by omega), if_neg (by omega), if_neg (by omega)]; exact cmpL_anti xs ys
    · rw [if_pos h, if_neg (by omega), if_pos h]
theorem cmpL_zero : ∀ (a b : List Int), cmpL a b = 0 ↔ a = b
  | [], [] => by simp [cmpL]
  | [], _ :: _ => by simp [cmpL]
  | _ :: _, [] => by simp [cmpL]
  | x :: xs, y :: ys => by
    rw [cmpL]
    rcases Int.lt_trichotomy x y with h | h | h
    · rw [if_pos h]; simp; omega
    · rw [if_neg (by omega), if_neg (by omega), cmpL_zero xs ys]; simp [h]
    · rw [if_neg (by omega), if_pos h]; simp; omega
/-- Shortlex order. -/
def slexL (a b : List Int) : Int := if a.length < b.length then -1 else if b.length < a.length then 1 else cmpL a b
/-- The loop of a rank: none beyond the greatest value. -/
def rk : List Int → Int → Int → Option Int
  | [], _, acc => some acc
  | x :: xs, m, acc => if 1000000000000 < acc * m + x + 1 then none else rk xs m (acc * m + x + 1)
theorem rk_step {l : List Int} {k : Nat} (h : k < l.length) (m acc : Int) :
    rk (l.drop k) m acc = if 1000000000000 < acc * m + geti l k + 1 then none else rk (l.drop (k + 1)) m (acc * m + geti l k + 1) := by
  rw [drop_cons h, rk]
theorem rk_end {l : List Int} {k : Nat} (h : l.length ≤ k) (m acc : Int) : rk (l.drop k) m acc = some acc := by
  rw [List.drop_eq_nil_of_le h]; rfl
theorem mul10 {a m : Int} (h0 : 0 ≤ a) (h1 : a ≤ 1000000000000) (m0 : 1 ≤ m) (m1 : m ≤ 10) : 0 ≤ a * m ∧ a * m ≤ 10000000000000 := by
  constructor
  · exact Int.mul_nonneg h0 (by omega)
  · have := Int.mul_le_mul h1 m1 (by omega) (by omega)
    omega
/-- The letters of a rank, the last one first, f at most. -/
def wa : Nat → Int → Int → Option (List Int)
  | 0, r, _ => if 0 < r then none else some []
  | f + 1, r, m => if 0 < r then (wa f ((r - 1) / m) m).map (fun t => (r - 1) % m :: t) else some []
theorem wa_pos {f : Nat} {r m : Int} (h : 0 < r) : wa (f + 1) r m = (wa f ((r - 1) / m) m).map (fun t => (r - 1) % m :: t) := by rw [wa, if_pos h]
theorem wa_none {r m : Int} (h : 0 < r) : wa 0 r m = none := by rw [wa, if_pos h]
theorem wa_zero {f : Nat} {r m : Int} (h : r ≤ 0) : wa f r m = some [] := by cases f <;> rw [wa, if_neg (by omega)]
theorem wa_len : ∀ (f : Nat) (r m : Int) (t : List Int), wa f r m = some t → t.length ≤ f
  | 0, r, m, t, h => by
    rw [wa] at h
    split at h
    · cases h
    · injection h with h; subst h; exact Nat.le_refl _
  | f + 1, r, m, t, h => by
    rw [wa] at h
    split at h
    · cases e : wa f ((r - 1) / m) m with
      | none => rw [e] at h; cases h
      | some u =>
        rw [e] at h
        injection h with h
        subst h
        have := wa_len f _ _ _ e
        simp; omega
    · injection h with h; subst h; simp
theorem div_lt {r m : Int} (hm : 1 ≤ m) (hr : 0 < r) : (r - 1) / m < r ∧ 0 ≤ (r - 1) / m := by
  constructor
  · have := Int.ediv_le_self m (show 0 ≤ r - 1 by omega); omega
  · exact Int.ediv_nonneg (by omega) (by omega)
theorem mod_bd {r m : Int} (hm : 1 ≤ m) : 0 ≤ r % m ∧ r % m < m := ⟨Int.emod_nonneg _ (by omega), Int.emod_lt_of_pos _ (by omega)⟩
theorem reverse_snoc {l : List Int} {k : Nat} (h : k < l.length) : (l.drop (k + 1)).reverse ++ [geti l k] = (l.drop k).reverse := by
  rw [drop_cons h, List.reverse_cons]
/-- The list in whose middle the elements from i to n - i still stand in the old order. -/
def revUp (l : List Int) (i : Nat) : List Int := (List.range l.length).map (fun j => if j < i ∨ l.length ≤ j + i then geti l (l.length - 1 - j) else geti l j)
theorem revUp_len (l : List Int) (i : Nat) : (revUp l i).length = l.length := by simp [revUp]
theorem revUp_at {l : List Int} {i j : Nat} (h : j < l.length) : geti (revUp l i) j = if j < i ∨ l.length ≤ j + i then geti l (l.length - 1 - j) else geti l j := by
  rw [geti_eq (by rw [revUp_len]; exact h)]; simp [revUp]
theorem geti_set {l : List Int} {i j : Nat} {x : Int} (h : i < l.length) : geti (l.set i x) j = if i = j then x else geti l j := by
  unfold geti
  rw [List.getD_eq_getElem?_getD, List.getD_eq_getElem?_getD, List.getElem?_set]
  by_cases e : i = j
  · subst e; simp [h]
  · simp [e]
theorem ext_geti' {l m : List Int} (hl : l.length = m.length) (h : ∀ j, j < l.length → geti l j = geti m j) : l = m := by
  apply List.ext_getElem hl
  intro j h1 h2
  have := h j h1
  rwa [geti_eq h1, geti_eq h2] at this
theorem revUp_zero (l : List Int) : revUp l 0 = l := by
  apply ext_geti' (revUp_len l 0)
  intro j hj
  rw [revUp_len] at hj
  rw [revUp_at hj, if_neg (by omega)]
theorem revUp_all {l : List Int} {i : Nat} (h : l.length ≤ 2 * i + 1) : revUp l i = l.reverse := by
  apply ext_geti' (by rw [revUp_len, List.length_reverse])
  intro j hj
  rw [revUp_len] at hj
  have e : geti l.reverse j = geti l (l.length - 1 - j) := by
    rw [geti_eq (by rw [List.length_reverse]; exact hj), geti_eq (by omega), List.getElem_reverse]
  rw [revUp_at hj, e]
  split
  · rfl
  · congr 1; omega
theorem revUp_step {l : List Int} {i : Nat} (h : 2 * i + 1 < l.length) :
    ((revUp l i).set i (geti l (l.length - 1 - i))).set (l.length - 1 - i) (geti l i) = revUp l (i + 1) := by
  apply ext_geti' (by simp [revUp_len])
  intro j hj
  have hj' : j < l.length := by simpa [revUp_len] using hj
  rw [geti_set (by simp [revUp_len]; omega), geti_set (by rw [revUp_len]; omega), revUp_at hj', revUp_at hj']
  by_cases h1 : l.length - 1 - i = j
  · rw [if_pos h1, if_pos (by omega)]; congr 1; omega
  · rw [if_neg h1]
    by_cases h2 : i = j
    · rw [if_pos h2, if_pos (by omega), h2]
    · rw [if_neg h2]
      by_cases h3 : j < i ∨ l.length ≤ j + i
      · rw [if_pos h3, if_pos (by omega)]
      · rw [if_neg h3, if_neg (by omega)]
end Go.Proofs.Ythijhpkkijjlfaa
