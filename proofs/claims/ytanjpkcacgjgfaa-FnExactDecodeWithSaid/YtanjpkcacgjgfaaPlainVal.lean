/- Plain mathematics: the value of limbs. No program in sight. -/
import Derived.Test.YtanjpkcacgjgfaaPlainNat
import Derived.Test.YtanjpkcacgjgfaaPlainLists
namespace Go.Proofs.Ytanjpkcacgjgfaa
/-- The value of limbs, the least first. -/
def val : List Int → Int
  | [] => 0
  | x :: t => x + 1000000 * val t
/-- All limbs are limbs. -/
def Lim (l : List Int) : Prop := ∀ x ∈ l, 0 ≤ x ∧ x ≤ 999999
theorem Lim.tail {x : Int} {t : List Int} (h : Lim (x :: t)) : Lim t := fun y hy => h y (List.mem_cons_of_mem _ hy)
theorem Lim.head {x : Int} {t : List Int} (h : Lim (x :: t)) : 0 ≤ x ∧ x ≤ 999999 := h x List.mem_cons_self
theorem Lim.geti {l : List Int} (h : Lim l) (k : Nat) : 0 ≤ geti l k ∧ geti l k ≤ 999999 := by
  rcases Nat.lt_or_ge k l.length with h1 | h1
  · exact h _ (geti_mem h1)
  · unfold Proofs.Ytanjpkcacgjgfaa.geti; rw [List.getD_eq_getElem?_getD, List.getElem?_eq_none h1]; simp
theorem Lim.drop {l : List Int} (h : Lim l) (k : Nat) : Lim (l.drop k) := fun x hx => h x (List.mem_of_mem_drop hx)
theorem Lim.take {l : List Int} (h : Lim l) (k : Nat) : Lim (l.take k) := fun x hx => h x (List.mem_of_mem_take hx)
theorem Lim.trim {l : List Int} (h : Lim l) : Lim (trim l) := fun x hx => h x (trim_mem hx)
theorem Lim.of_all {l : List Int} (h : ∀ x ∈ l, 0 ≤ x ∧ x ≤ 999999) : Lim l := h
theorem val_nonneg : ∀ {l : List Int}, Lim l → 0 ≤ val l
  | [], _ => Int.le_refl _
  | x :: t, h => by have := val_nonneg h.tail; have := h.head; unfold val; omega
theorem val_lt : ∀ {l : List Int}, Lim l → val l < 1000000 ^ l.length
  | [], _ => by decide
  | x :: t, h => by
    have h1 := val_lt h.tail
    have h2 := h.head
    rw [List.length_cons, Int.pow_succ]
    unfold val
    generalize (1000000 : Int) ^ t.length = p at h1 ⊢
    omega
theorem val_trim : ∀ (l : List Int), val (trim l) = val l
  | [] => rfl
  | x :: t => by
    have ih := val_trim t
    by_cases h : trim t = []
    · rw [trim_cons_nil h]
      rw [h] at ih
      have h0 : val t = 0 := ih.symm
      split
      · rename_i hx; unfold val; rw [h0, hx]; rfl
      · unfold val; rw [h0]; rfl
    · rw [trim_cons_ne h]; unfold val; rw [ih]
theorem val_zero : ∀ {l : List Int}, Lim l → val l = 0 → trim l = []
  | [], _, _ => rfl
  | x :: t, h, h0 => by
    have h1 := val_nonneg h.tail
    have h2 := h.head
    unfold val at h0
    have e1 : x = 0 := by omega
    have e2 : val t = 0 := by omega
    rw [trim_cons_nil (val_zero h.tail e2), if_pos e1]
theorem val_append : ∀ (l m : List Int), val (l ++ m) = val l + 1000000 ^ l.length * val m
  | [], m => by simp [val]
  | x :: t, m => by
    rw [List.cons_append, val, val, val_append t m, List.length_cons, Int.pow_succ, Int.mul_add, Int.add_assoc, ← Int.mul_assoc, Int.mul_comm (1000000 ^ t.length) 1000000]
theorem pow_pos6 : ∀ k : Nat, 0 < (1000000 : Int) ^ k
  | 0 => by decide
  | k + 1 => by have := pow_pos6 k; rw [Int.pow_succ]; omega
theorem lt_pow6 : ∀ k : Nat, (k : Int) < 1000000 ^ k
  | 0 => by decide
  | k + 1 => by have := lt_pow6 k; have := pow_pos6 k; rw [Int.pow_succ]; omega
theorem Under.mono {f g : Nat} {n : Int} (h : Under f n) (hg : f ≤ g) : Under g n := by
  unfold Under at *
  obtain ⟨k, rfl⟩ := Nat.exists_eq_add_of_le hg
  rw [Int.pow_add]
  have h1 : (1 : Int) ≤ 1000000 ^ k := pow_pos6 k
  have h0 : (0 : Int) ≤ 1000000 ^ f := Int.le_of_lt (pow_pos6 f)
  have := Int.mul_le_mul_of_nonneg_left h1 h0
  omega
theorem Under.self (n : Int) : Under n.toNat n := by
  unfold Under
  rcases Int.lt_or_le n 0 with h | h
  · have := pow_pos6 n.toNat
    omega
  · obtain ⟨k, rfl⟩ := Int.eq_ofNat_of_zero_le h
    rw [Int.toNat_natCast]
    exact lt_pow6 k
theorem limbs_fuel {f : Nat} {n : Int} (h : Under f n) : ∀ k, limbs (f + k) n = limbs f n
  | 0 => rfl
  | k + 1 => by rw [← Nat.add_assoc, limbs_more (f + k) (h.mono (by omega)), limbs_fuel h k]
theorem limbs_any {f g : Nat} {n : Int} (h : Under f n) (hg : Under g n) : limbs f n = limbs g n := by
  rcases Nat.le_total f g with h1 | h1
  · obtain ⟨k, rfl⟩ := Nat.exists_eq_add_of_le h1
    exact (limbs_fuel h k).symm
  · obtain ⟨k, rfl⟩ := Nat.exists_eq_add_of_le h1
    exact limbs_fuel hg k
theorem val_limbs : ∀ (f : Nat) {n : Int}, 0 ≤ n → Under f n → val (limbs f n) = n
  | 0, n, h0, h => by have := h.zero; rw [limbs_zero this]; unfold val; omega
  | f + 1, n, h0, h => by
    rcases Int.lt_or_le 0 n with hn | hn
    · rw [limbs_pos hn, val, val_limbs f (by omega) h.step]; omega
    · rw [limbs_zero hn]; unfold val; omega
/-- The natural with a value. -/
def nl (n : Int) : List Int := limbs n.toNat n
theorem nl_lim (n : Int) : Lim (nl n) := fun x hx => natL_bd _ _ x hx
theorem nl_trim (n : Int) : trim (nl n) = nl n := limbs_trim _ (Under.self n)
theorem val_nl {n : Int} (h : 0 ≤ n) : val (nl n) = n := val_limbs _ h (Under.self n)
theorem natL_nl {n : Int} (h : n ≤ 9223372036854775807) : natL n = nl n := limbs_any (Under.four h) (Under.self n)
theorem limbs_val : ∀ {l : List Int}, Lim l → trim l = l → ∀ f, Under f (val l) → limbs f (val l) = l
  | [], _, _, f, _ => limbs_zero (Int.le_refl _)
  | x :: t, h, ht, f, hu => by
    have hx := h.head
    have hv := val_nonneg h.tail
    have htt : trim t = t := by
      by_cases e : trim t = []
      · rw [trim_cons_nil e] at ht
        split at ht
        · cases ht
        · injection ht with _ ht; rw [← ht]; rfl
      · rw [trim_cons_ne e] at ht
        injection ht
    have hpos : 0 < val (x :: t) := by
      rcases Int.lt_or_le 0 (val (x :: t)) with h1 | h1
      · exact h1
      · have h2 := val_nonneg h
        have := val_zero h (by omega)
        rw [ht] at this; cases this
    cases f with
    | zero => have := hu.zero; omega
    | succ f =>
      rw [limbs_pos hpos]
      have ev : val (x :: t) = x + 1000000 * val t := rfl
      have e1 : val (x :: t) % 1000000 = x := by rw [ev]; omega
      have e2 : val (x :: t) / 1000000 = val t := by rw [ev]; omega
      have hu2 := hu.step
      rw [e2] at hu2
      rw [e1, e2, limbs_val h.tail htt f hu2]
theorem nl_val {l : List Int} (h : Lim l) (ht : trim l = l) : nl (val l) = l := limbs_val h ht _ (Under.self _)
theorem trim_nl {l : List Int} (h : Lim l) : trim l = nl (val l) := by
  have := nl_val h.trim (trim_trim l)
  rw [val_trim] at this
  exact this.symm
/-- The number of limbs tells how great the value is. -/
theorem len_le {l : List Int} (h : Lim l) (ht : trim l = l) {k : Nat} : l.length ≤ k ↔ val l < 1000000 ^ k := by
  constructor
  · intro hk
    have h1 := val_lt h
    exact Under.mono h1 hk
  · intro hv
    have : l = limbs k (val l) := (limbs_val h ht k hv).symm
    rw [this]; exact limbs_len _ _
theorem nl_len {n : Int} (h : 0 ≤ n) {k : Nat} : (nl n).length ≤ k ↔ n < 1000000 ^ k := by
  have := len_le (nl_lim n) (nl_trim n) (k := k)
  rwa [val_nl h] at this
theorem nat_nl {l : List Int} (hl : Lim l) (ht : l.length = 0 ∨ geti l (l.length - 1) ≠ 0) : nl (val l) = l := nl_val hl (trim_last l ht)
end Go.Proofs.Ytanjpkcacgjgfaa
