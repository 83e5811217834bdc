/- Plain mathematics: primes, powers, exponents. No program in sight. -/
namespace Go.Proofs.Ythijhpkkijjlfaa

/-- n is a prime number. -/
def primeB (n : Int) : Bool := decide (2 ≤ n) && (List.range n.toNat).all (fun d => !(decide (2 ≤ d) && decide (d * d ≤ n.toNat) && decide (n.toNat % d = 0)))
theorem primeB_small {n : Int} (h : n < 2) : primeB n = false := by
  unfold primeB
  have : decide (2 ≤ n) = false := by simp; omega
  rw [this]; rfl
theorem primeB_div {n : Int} {d : Nat} (h2 : 2 ≤ d) (hd : (d : Int) * d ≤ n) (hm : n % (d : Int) = 0) : primeB n = false := by
  have hn : 0 ≤ n := by have : (0 : Int) ≤ (d : Int) * d := by exact Int.mul_nonneg (by omega) (by omega)
                        omega
  obtain ⟨m, rfl⟩ := Int.eq_ofNat_of_zero_le hn
  have h1 : d * d ≤ m := by exact_mod_cast hd
  have h3 : m % d = 0 := by exact_mod_cast hm
  have h4 : d < m := Nat.lt_of_lt_of_le (by have := Nat.mul_le_mul_right d h2; omega) h1
  unfold primeB
  rw [Bool.and_eq_false_iff]
  right
  rw [List.all_eq_false]
  exact ⟨d, by simpa using h4, by simp [h2, h1, h3]⟩
theorem primeB_yes {n : Int} (h2 : 2 ≤ n) (h : ∀ c : Nat, 2 ≤ c → (c : Int) * c ≤ n → n % (c : Int) ≠ 0) : primeB n = true := by
  obtain ⟨m, rfl⟩ := Int.eq_ofNat_of_zero_le (show 0 ≤ n by omega)
  unfold primeB
  rw [Bool.and_eq_true]
  refine ⟨by simpa using h2, ?_⟩
  rw [List.all_eq_true]
  intro c _
  by_cases a : 2 ≤ c
  · by_cases b : c * c ≤ m
    · have hh := h c a (by exact_mod_cast b)
      have : ¬ m % c = 0 := fun e => hh (by exact_mod_cast e)
      simp [this]
    · simp [b]
  · simp [a]
theorem sq_up {d : Nat} (h : d ≤ 1000001) : (d : Int) * (d : Int) ≤ 1000002000001 := by
  have h1 : (d : Int) ≤ 1000001 := by omega
  have := Int.mul_le_mul h1 h1 (by omega) (by omega)
  omega
theorem sq_down {d : Nat} (h : (d : Int) * (d : Int) ≤ 1000000000000) : d ≤ 1000000 := by
  rcases Nat.lt_or_ge 1000000 d with h1 | h1
  · have h2 : (1000001 : Int) ≤ (d : Int) := by omega
    have := Int.mul_le_mul h2 h2 (by omega) (by omega)
    omega
  · exact h1
theorem sq_mono {c d : Nat} (h : d ≤ c) : (d : Int) * (d : Int) ≤ (c : Int) * (c : Int) :=
  Int.mul_le_mul (by omega) (by omega) (by omega) (by omega)

/-- The search for the k-th prime from n on. -/
def primeFrom : Nat → Nat → Nat → Option Nat
  | 0, _, _ => none
  | f + 1, k, n => if primeB n then (if k = 0 then some n else primeFrom f (k - 1) (n + 1)) else primeFrom f k (n + 1)
/-- The prime number with the number k. -/
def primeK (k : Nat) : Nat := (primeFrom 100 k 2).getD 0
theorem primeK_found : ∀ k, k < 24 → primeFrom 100 k 2 = some (primeK k) ∧ primeK k ≤ 89 ∧ 2 ≤ primeK k := by decide +kernel

/-- How often n can be divided by d (with fuel). -/
def expo : Nat → Int → Int → Nat
  | 0, _, _ => 0
  | f + 1, n, d => if n % d = 0 then expo f (n / d) d + 1 else 0
theorem expo_fuel (d : Int) (hd : 2 ≤ d) : ∀ (f g : Nat) (n : Int), 1 ≤ n → n ≤ f → n ≤ g → expo f n d = expo g n d
  | 0, _, n, h1, h2, _ => by omega
  | _, 0, n, h1, _, h2 => by omega
  | f + 1, g + 1, n, h1, h2, h3 => by
    unfold expo
    by_cases h : n % d = 0
    · rw [if_pos h, if_pos h]
      have hlt : n / d < n := Int.ediv_lt_self_of_pos_of_ne_one (by omega) (by omega) |> fun h => h
      have hge : 1 ≤ n / d := by
        have := Int.mul_ediv_cancel' (Int.dvd_of_emod_eq_zero h)
        rcases Int.lt_or_le (n / d) 1 with hh | hh
        · exfalso
          have : d * (n / d) ≤ 0 := Int.mul_nonpos_of_nonneg_of_nonpos (by omega) (by omega)
          omega
        · exact hh
      rw [expo_fuel d hd f g (n / d) hge (by omega) (by omega)]
    · rw [if_neg h, if_neg h]
theorem div_step {n d : Int} (hd : 2 ≤ d) (h1 : 1 ≤ n) (h : n % d = 0) : n / d < n ∧ 1 ≤ n / d := by
  refine ⟨Int.ediv_lt_self_of_pos_of_ne_one (by omega) (by omega), ?_⟩
  have := Int.mul_ediv_cancel' (Int.dvd_of_emod_eq_zero h)
  rcases Int.lt_or_le (n / d) 1 with hh | hh
  · exfalso
    have : d * (n / d) ≤ 0 := Int.mul_nonpos_of_nonneg_of_nonpos (by omega) (by omega)
    omega
  · exact hh
theorem expo_step {n d : Int} (hd : 2 ≤ d) (h1 : 1 ≤ n) (h : n % d = 0) : expo n.toNat n d = expo (n / d).toNat (n / d) d + 1 := by
  obtain ⟨f, hf⟩ : ∃ f, n.toNat = f + 1 := ⟨n.toNat - 1, by omega⟩
  have := div_step hd h1 h
  rw [hf, expo, if_pos h, expo_fuel d hd f (n / d).toNat (n / d) (by omega) (by omega) (by omega)]
theorem expo_stop {n d : Int} (h1 : 1 ≤ n) (h : ¬ n % d = 0) : expo n.toNat n d = 0 := by
  obtain ⟨f, hf⟩ : ∃ f, n.toNat = f + 1 := ⟨n.toNat - 1, by omega⟩
  rw [hf, expo, if_neg h]

/-- The loop of a power: e further factors onto out; none if it becomes greater than the greatest value. -/
def pwI : Nat → Int → Int → Option Int
  | 0, out, _ => some out
  | e + 1, out, b => if 0 < b ∧ 1000000000000 / b < out then none else pwI e (out * b) b
theorem pwI_zero : ∀ e : Nat, pwI e 0 0 = some 0
  | 0 => rfl
  | e + 1 => by unfold pwI; rw [if_neg (by omega)]; simpa using pwI_zero e
theorem pwI_one : ∀ e : Nat, pwI e 1 1 = some 1
  | 0 => rfl
  | e + 1 => by unfold pwI; rw [if_neg (by omega)]; simpa using pwI_one e
/-- base to the power e: the value and the code. -/
def powR (b : Int) (e : Nat) : Int × Int := match pwI e 1 b with | some x => (x, 0) | none => (0, 5)
theorem pwI_small {b : Int} {e : Nat} (h0 : 0 ≤ b) (h : b < 2) (he : 0 < e) : pwI e 1 b = some b := by
  obtain ⟨f, rfl⟩ : ∃ f, e = f + 1 := ⟨e - 1, by omega⟩
  have : b = 0 ∨ b = 1 := by omega
  rcases this with rfl | rfl
  · unfold pwI; rw [if_neg (by omega)]; simpa using pwI_zero f
  · exact pwI_one _
theorem mul_le_of_div {x b : Int} (hb : 1 ≤ b) (h : ¬ 1000000000000 / b < x) : x * b ≤ 1000000000000 := by
  have h1 : x ≤ 1000000000000 / b := by omega
  exact (Int.le_ediv_iff_mul_le (by omega)).1 h1
end Go.Proofs.Ythijhpkkijjlfaa
