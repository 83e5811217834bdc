/- Plain mathematics: limbs. No program in sight. -/
import Derived.Test.YthijhpkkijjlfaaWords
namespace Go.Proofs.Ythijhpkkijjlfaa
/-- A list without zeros at its end. -/
def trim : List Int → List Int
  | [] => []
  | x :: t => match trim t with
    | [] => if x = 0 then [] else [x]
    | y :: u => x :: y :: u
theorem trim_cons_ne {x : Int} {t : List Int} (h : trim t ≠ []) : trim (x :: t) = x :: trim t := by
  rw [trim]
  cases e : trim t with
  | nil => exact absurd e h
  | cons y u => rfl
theorem trim_cons_nil {x : Int} {t : List Int} (h : trim t = []) : trim (x :: t) = if x = 0 then [] else [x] := by rw [trim, h]
theorem trim_snoc0 (l : List Int) : trim (l ++ [0]) = trim l := by
  induction l with
  | nil => rfl
  | cons x t ih =>
    rw [List.cons_append]
    by_cases h : trim t = []
    · rw [trim_cons_nil h, trim_cons_nil (by rw [ih, h])]
    · rw [trim_cons_ne h, trim_cons_ne (by rw [ih]; exact h), ih]
theorem trim_snoc {x : Int} (hx : x ≠ 0) (l : List Int) : trim (l ++ [x]) = l ++ [x] := by
  induction l with
  | nil => simp [trim, hx]
  | cons y t ih => rw [List.cons_append, trim_cons_ne (by rw [ih]; simp), ih]
theorem trim_last (l : List Int) (h : l.length = 0 ∨ geti l (l.length - 1) ≠ 0) : trim l = l := by
  rcases Nat.eq_zero_or_pos l.length with h0 | h0
  · rw [List.eq_nil_of_length_eq_zero h0]; rfl
  · have hl : l = l.take (l.length - 1) ++ [geti l (l.length - 1)] := by
      rw [← take_snoc (by omega), show l.length - 1 + 1 = l.length by omega, List.take_length]
    rcases h with h | h
    · omega
    · rw [hl]; rw [← hl]; rw [hl]; exact trim_snoc h _
theorem trim_step {l : List Int} {k : Nat} (hk : k < l.length) (h0 : geti l k = 0) : trim (l.take (k + 1)) = trim (l.take k) := by
  rw [take_snoc hk, h0, trim_snoc0]
theorem trim_stop {l : List Int} {k : Nat} (hk : k < l.length) (h0 : geti l k ≠ 0) : trim (l.take (k + 1)) = l.take (k + 1) := by
  rw [take_snoc hk, trim_snoc h0]
theorem trim_len (l : List Int) : (trim l).length ≤ l.length := by
  induction l with
  | nil => exact Nat.le_refl _
  | cons x t ih =>
    by_cases h : trim t = []
    · rw [trim_cons_nil h]; split <;> simp
    · rw [trim_cons_ne h]; simpa using ih
theorem trim_take (l : List Int) : trim l = l.take (trim l).length := by
  induction l with
  | nil => rfl
  | cons x t ih =>
    by_cases h : trim t = []
    · rw [trim_cons_nil h]; split <;> simp
    · rw [trim_cons_ne h]; rw [List.length_cons, List.take_succ_cons, ← ih]
theorem trim_mem {l : List Int} {x : Int} (h : x ∈ trim l) : x ∈ l := by rw [trim_take] at h; exact List.mem_of_mem_take h
theorem trim_trim (l : List Int) : trim (trim l) = trim l := by
  induction l with
  | nil => rfl
  | cons x t ih =>
    by_cases h : trim t = []
    · rw [trim_cons_nil h]; split
      · rfl
      · rename_i hx; simp [trim, hx]
    · rw [trim_cons_ne h, trim_cons_ne (by rw [ih]; exact h), ih]

/-- The limbs of a number, f of them at most. -/
def limbs : Nat → Int → List Int
  | 0, _ => []
  | f + 1, n => if 0 < n then n % 1000000 :: limbs f (n / 1000000) else []
theorem limbs_pos {f : Nat} {n : Int} (h : 0 < n) : limbs (f + 1) n = n % 1000000 :: limbs f (n / 1000000) := by rw [limbs, if_pos h]
theorem limbs_zero {f : Nat} {n : Int} (h : n ≤ 0) : limbs f n = [] := by
  cases f with
  | zero => rfl
  | succ f => rw [limbs, if_neg (by omega)]
/-- n has f limbs at most. -/
def Under (f : Nat) (n : Int) : Prop := n < 1000000 ^ f
theorem Under.step {f : Nat} {n : Int} (h : Under (f + 1) n) : Under f (n / 1000000) := by
  unfold Under at *
  rw [Int.pow_succ] at h
  exact Int.ediv_lt_of_lt_mul (by omega) h
theorem Under.zero {n : Int} (h : Under 0 n) : n ≤ 0 := by unfold Under at h; simp at h; omega
theorem Under.four {n : Int} (h : n ≤ 9223372036854775807) : Under 4 n := by
  unfold Under
  have : (1000000 : Int) ^ 4 = 1000000000000000000000000 := by decide
  omega
theorem Under.three {n : Int} (h : n ≤ 100000000000000000) : Under 3 n := by
  unfold Under
  have : (1000000 : Int) ^ 3 = 1000000000000000000 := by decide
  omega
theorem limbs_more : ∀ (f : Nat) {n : Int}, Under f n → limbs (f + 1) n = limbs f n
  | 0, n, h => by rw [limbs_zero h.zero, limbs_zero h.zero]
  | f + 1, n, h => by
    rcases Int.lt_or_le 0 n with hn | hn
    · rw [limbs_pos hn, limbs_pos hn, limbs_more f h.step]
    · rw [limbs_zero hn, limbs_zero hn]
theorem limbs_trim : ∀ (f : Nat) {n : Int}, Under f n → trim (limbs f n) = limbs f n
  | 0, _, _ => rfl
  | f + 1, n, h => by
    rcases Int.lt_or_le 0 n with hn | hn
    · rw [limbs_pos hn]
      rcases Int.lt_or_le 0 (n / 1000000) with hq | hq
      · have ih := limbs_trim f h.step
        rw [trim_cons_ne, ih]
        rw [ih]
        cases f with
        | zero => have := h.step.zero; omega
        | succ f => rw [limbs_pos hq]; simp
      · have e : limbs f (n / 1000000) = [] := limbs_zero hq
        rw [e]
        have : ¬ n % 1000000 = 0 := by omega
        simp [trim, this]
    · rw [limbs_zero hn]; rfl
/-- The natural of a number. -/
def natL (n : Int) : List Int := limbs 4 n
theorem natL_bd : ∀ (f : Nat) (n : Int), ∀ x ∈ limbs f n, 0 ≤ x ∧ x ≤ 999999
  | 0, _, _, h => by simp [limbs] at h
  | f + 1, n, x, h => by
    rcases Int.lt_or_le 0 n with hn | hn
    · rw [limbs_pos hn] at h
      rcases List.mem_cons.1 h with rfl | h
      · omega
      · exact natL_bd f _ x h
    · rw [limbs_zero hn] at h; simp at h
theorem limbs_len : ∀ (f : Nat) (n : Int), (limbs f n).length ≤ f
  | 0, _ => Nat.le_refl _
  | f + 1, n => by
    rcases Int.lt_or_le 0 n with hn | hn
    · rw [limbs_pos hn]; simpa using limbs_len f _
    · rw [limbs_zero hn]; simp
/-- Limbs that may be too great, with a carry. -/
def carr (f : Nat) : List Int → Int → List Int
  | [], c => limbs f c
  | x :: xs, c => (c + x) % 1000000 :: carr f xs ((c + x) / 1000000)
theorem carr_one {n : Int} (h0 : 0 ≤ n) (h : n ≤ 9223372036854775807) : trim (carr 4 [n] 0) = natL n := by
  rw [carr, carr, Int.zero_add]
  unfold natL
  rcases Int.lt_or_le 0 n with hn | hn
  · have h3 : Under 3 (n / 1000000) := Under.three (by omega)
    rw [limbs_more 3 h3, ← limbs_pos hn]
    exact limbs_trim 4 (Under.four h)
  · have : n = 0 := by omega
    subst this
    decide
end Go.Proofs.Ythijhpkkijjlfaa
