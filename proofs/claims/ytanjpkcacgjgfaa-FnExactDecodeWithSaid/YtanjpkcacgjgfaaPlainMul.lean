/- Plain mathematics: products, differences and comparisons of limbs. No program in sight. -/
import Derived.Test.YtanjpkcacgjgfaaPlainVal
namespace Go.Proofs.Ytanjpkcacgjgfaa
/-- The weight of a place. -/
def pw (k : Nat) : Int := 1000000 ^ k
theorem pw_zero : pw 0 = 1 := rfl
theorem pw_succ (k : Nat) : pw (k + 1) = pw k * 1000000 := Int.pow_succ ..
theorem pw_add (i k : Nat) : pw (i + k) = pw i * pw k := Int.pow_add ..
theorem pw_pos (k : Nat) : 0 < pw k := pow_pos6 k
theorem pw_mono {i k : Nat} (h : i ≤ k) : pw i ≤ pw k := by
  obtain ⟨j, rfl⟩ := Nat.exists_eq_add_of_le h
  rw [pw_add]
  have h1 := pw_pos i
  have h2 := pw_pos j
  have := Int.mul_le_mul_of_nonneg_left (show 1 ≤ pw j by omega) (Int.le_of_lt h1)
  omega
theorem val_lt_pw {l : List Int} (h : Lim l) : val l < pw l.length := val_lt h
theorem val_set : ∀ (l : List Int) (j : Nat) (y : Int), j < l.length → val (l.set j y) = val l + (y - geti l j) * pw j
  | [], j, y, h => by simp at h
  | x :: t, 0, y, _ => by
    rw [List.set_cons_zero, val, val, pw_zero, geti_eq (by simp)]
    simp only [List.getElem_cons_zero]; omega
  | x :: t, j + 1, y, h => by
    have ih := val_set t j y (by simpa using h)
    have e : geti (x :: t) (j + 1) = geti t j := by unfold geti; simp
    rw [List.set_cons_succ, val, val, ih, pw_succ, e]
    grind
theorem val_snoc (l : List Int) (y : Int) : val (l ++ [y]) = val l + y * pw l.length := by
  rw [val_append, val, val]
  unfold pw
  grind
theorem val_take {l : List Int} {k : Nat} (h : k < l.length) : val (l.take (k + 1)) = val (l.take k) + geti l k * pw k := by
  rw [take_snoc h, val_snoc, List.length_take, Nat.min_eq_left (by omega)]
theorem val_take_all {l : List Int} {k : Nat} (h : l.length ≤ k) : val (l.take k) = val l := by rw [List.take_of_length_le h]
theorem val_split (l : List Int) (k : Nat) (h : k ≤ l.length) : val l = val (l.take k) + pw k * val (l.drop k) := by
  have := val_append (l.take k) (l.drop k)
  rw [List.take_append_drop, List.length_take, Nat.min_eq_left h] at this
  exact this
theorem Lim.set {l : List Int} (h : Lim l) (j : Nat) {y : Int} (h0 : 0 ≤ y) (h1 : y ≤ 999999) : Lim (l.set j y) := by
  intro x hx
  rcases List.mem_or_eq_of_mem_set hx with h2 | h2
  · exact h x h2
  · subst h2; exact ⟨h0, h1⟩
theorem Lim.snoc {l : List Int} (h : Lim l) {y : Int} (h0 : 0 ≤ y) (h1 : y ≤ 999999) : Lim (l ++ [y]) := by
  intro x hx
  rcases List.mem_append.1 hx with h2 | h2
  · exact h x h2
  · have : x = y := by simpa using h2
    subst this; exact ⟨h0, h1⟩
theorem Lim.cons {l : List Int} (h : Lim l) {y : Int} (h0 : 0 ≤ y) (h1 : y ≤ 999999) : Lim (y :: l) := by
  intro x hx
  rcases List.mem_cons.1 hx with rfl | h2
  · exact ⟨h0, h1⟩
  · exact h x h2
theorem Lim.replicate (n : Nat) : Lim (List.replicate n 0) := fun x hx => by
  have := (List.mem_replicate.1 hx).2; omega
theorem val_replicate : ∀ n : Nat, val (List.replicate n 0) = 0
  | 0 => rfl
  | n + 1 => by rw [List.replicate_succ, val, val_replicate n]; rfl
/-- Beyond the value's size all limbs are 0. -/
theorem high_zero {l : List Int} (h : Lim l) {m : Nat} (hv : val l < pw m) {j : Nat} (hj : m ≤ j) : geti l j = 0 := by
  rcases Nat.lt_or_ge j l.length with h1 | h1
  · have hs := val_split l j (by omega)
    have ht := val_nonneg (h.take j)
    have hd := drop_cons h1
    rw [hd, val] at hs
    have h2 := val_nonneg (h.drop (j + 1))
    have h3 := h.geti j
    have h4 := pw_mono hj
    have h5 := pw_pos j
    rcases Int.lt_or_le 0 (geti l j) with h6 | h6
    · exfalso
      have := Int.mul_le_mul_of_nonneg_left (show 1 ≤ geti l j + 1000000 * val (l.drop (j + 1)) by omega) (Int.le_of_lt h5)
      omega
    · omega
  · unfold geti; rw [List.getD_eq_getElem?_getD, List.getElem?_eq_none h1]; rfl
/-- The inner loop of a product: o is being built from o0, the carry is c. -/
structure MulIn (o0 b : List Int) (x : Int) (i k : Nat) (o : List Int) (c : Int) : Prop where
  lim : Lim o
  len : o.length = o0.length
  c0 : 0 ≤ c
  c1 : c ≤ 999999
  eq : val o + c * pw (i + k) = val o0 + x * val (b.take k) * pw i
  high : ∀ j, i + k ≤ j → geti o j = geti o0 j
theorem MulIn.start {o0 b : List Int} {x : Int} {i : Nat} (h : Lim o0) : MulIn o0 b x i 0 o0 0 :=
  ⟨h, rfl, by omega, by omega, by simp [val], fun _ _ => rfl⟩
theorem prod_bd {x y : Int} (hx0 : 0 ≤ x) (hx : x ≤ 999999) (hy0 : 0 ≤ y) (hy : y ≤ 999999) : 0 ≤ x * y ∧ x * y ≤ 999998000001 := by
  refine ⟨Int.mul_nonneg hx0 hy0, ?_⟩
  have := Int.mul_le_mul hx hy hy0 (by omega)
  omega
theorem MulIn.step {o0 b o : List Int} {x c : Int} {i k : Nat} (h : MulIn o0 b x i k o c) (hb : Lim b) (hx0 : 0 ≤ x) (hx : x ≤ 999999) (hk : k < b.length) (hi : i + k < o.length) :
    MulIn o0 b x i (k + 1) (o.set (i + k) ((c + geti o (i + k) + x * geti b k) % 1000000)) ((c + geti o (i + k) + x * geti b k) / 1000000) := by
  have ho := h.lim.geti (i + k)
  have hbk := hb.geti k
  have hp := prod_bd hx0 hx hbk.1 hbk.2
  have hc0 := h.c0
  have hc1 := h.c1
  have hv := val_set o (i + k) ((c + geti o (i + k) + x * geti b k) % 1000000) hi
  have hbt := val_take hk
  have heq := h.eq
  refine ⟨h.lim.set _ (by omega) (by omega), by rw [List.length_set]; exact h.len, by omega, by omega, ?_, fun j hj => ?_⟩
  · rw [hv, hbt, ← Nat.add_assoc, pw_succ]
    have e : c + geti o (i + k) + x * geti b k = 1000000 * ((c + geti o (i + k) + x * geti b k) / 1000000) + (c + geti o (i + k) + x * geti b k) % 1000000 := by omega
    rw [pw_add] at heq ⊢
    generalize (c + geti o (i + k) + x * geti b k) / 1000000 = q at *
    generalize (c + geti o (i + k) + x * geti b k) % 1000000 = r at *
    grind
  · rw [geti_set hi, if_neg (by omega)]
    exact h.high j (by omega)
/-- The carry behind the last factor goes into a limb that is 0. -/
theorem MulIn.last {o0 b o : List Int} {x c : Int} {i k : Nat} (h : MulIn o0 b x i k o c) (hk : b.length ≤ k) (hi : i + k < o.length) (hz : geti o0 (i + k) = 0) :
    MulIn o0 b x i (k + 1) (o.set (i + k) ((c + geti o (i + k)) % 1000000)) ((c + geti o (i + k)) / 1000000) ∧ (c + geti o (i + k)) / 1000000 = 0 := by
  have hc0 := h.c0
  have hc1 := h.c1
  have hz2 : geti o (i + k) = 0 := by rw [h.high _ (Nat.le_refl _), hz]
  have hv := val_set o (i + k) ((c + geti o (i + k)) % 1000000) hi
  have heq := h.eq
  rw [hz2] at hv ⊢
  have e1 : (c + 0) % 1000000 = c := by omega
  have e2 : (c + 0) / 1000000 = 0 := by omega
  rw [e1] at hv
  rw [e1, e2]
  refine ⟨⟨h.lim.set _ hc0 hc1, by rw [List.length_set]; exact h.len, by omega, by omega, ?_, fun j hj => ?_⟩, rfl⟩
  · rw [hv, val_take_all (by omega)]
    rw [val_take_all hk] at heq
    grind
  · rw [geti_set hi, if_neg (by omega)]
    exact h.high j (by omega)
/-- The outer loop of a product behind i rows. -/
structure MulOut (a b : List Int) (n i : Nat) (o : List Int) : Prop where
  lim : Lim o
  len : o.length = n
  eq : val o = val (a.take i) * val b
theorem MulOut.start (a b : List Int) (n : Nat) : MulOut a b n 0 (List.replicate n 0) :=
  ⟨Lim.replicate n, by simp, by rw [val_replicate]; simp [val]⟩
theorem MulOut.under {a b o : List Int} {n i : Nat} (h : MulOut a b n i o) (ha : Lim a) (hb : Lim b) : val o < pw (i + b.length) := by
  rw [h.eq, pw_add]
  have h1 := val_lt_pw (ha.take i)
  have h2 := val_lt_pw hb
  have h3 := val_nonneg (ha.take i)
  have h4 := val_nonneg hb
  have h5 : pw (a.take i).length ≤ pw i := pw_mono (by rw [List.length_take]; omega)
  have h6 := pw_pos i
  have h7 := pw_pos b.length
  rcases Int.lt_or_le 0 (val b) with h8 | h8
  · have a1 := Int.mul_lt_mul_of_pos_right (show val (a.take i) < pw i by omega) h8
    have a2 := Int.mul_lt_mul_of_pos_left h2 h6
    omega
  · have e : val b = 0 := by omega
    rw [e, Int.mul_zero]
    exact Int.mul_pos h6 h7
theorem MulOut.next {a b o o' : List Int} {n i k : Nat} (h : MulOut a b n i o) (hi : i < a.length) (hin : MulIn o b (geti a i) i k o' 0) (hk : b.length ≤ k) : MulOut a b n (i + 1) o' := by
  refine ⟨hin.lim, by rw [hin.len, h.len], ?_⟩
  have h1 := hin.eq
  rw [val_take_all hk, h.eq] at h1
  rw [val_take hi]
  grind
theorem MulOut.done {a b o : List Int} {n : Nat} (h : MulOut a b n a.length o) : trim o = nl (val a * val b) := by
  rw [trim_nl h.lim, h.eq, List.take_length]
end Go.Proofs.Ytanjpkcacgjgfaa
