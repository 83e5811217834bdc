/- Plain mathematics: digits, valuations and words of values. No program in sight. -/
import Derived.Test.YtanjpkcacgjgfaaPlainDiv
namespace Go.Proofs.Ytanjpkcacgjgfaa
/-- m lies below 2 to the power f. -/
def Und2 (f : Nat) (m : Int) : Prop := m < 2 ^ f
theorem Und2.zero {m : Int} (h : Und2 0 m) : m ≤ 0 := by unfold Und2 at h; simp at h; omega
theorem Und2.step {f : Nat} {m d : Int} (h : Und2 (f + 1) m) (hd : 2 ≤ d) (hm : 0 ≤ m) : Und2 f (m / d) := by
  unfold Und2 at *
  rw [Int.pow_succ] at h
  have h1 : m / d ≤ m / 2 := by
    apply (Int.le_ediv_iff_mul_le (by omega)).2
    have h2 := Int.ediv_mul_le m (show d ≠ 0 by omega)
    have h3 : 0 ≤ m / d := Int.ediv_nonneg hm (by omega)
    have h4 := Int.mul_le_mul_of_nonneg_left hd h3
    omega
  omega
theorem Und2.pred {f : Nat} {m n : Int} (h : Und2 f m) (hn : n ≤ m) : Und2 f n := by unfold Und2 at *; omega
theorem Und2.nat {l : List Int} (h : Lim l) (hl : l.length ≤ 40) : Und2 800 (val l) := by
  unfold Und2
  have h1 := val_lt_pw h
  have h2 := pw_mono hl
  have h3 : pw 40 < 2 ^ 800 := by unfold pw; decide +kernel
  omega
/-- The digits of a value, f at most. -/
def dg : Nat → Int → Int → List Int
  | 0, _, _ => []
  | f + 1, m, b => if 0 < m then m % b :: dg f (m / b) b else []
theorem dg_pos {f : Nat} {m b : Int} (h : 0 < m) : dg (f + 1) m b = m % b :: dg f (m / b) b := by rw [dg, if_pos h]
theorem dg_zero {f : Nat} {m b : Int} (h : m ≤ 0) : dg f m b = [] := by cases f <;> simp [dg]; omega
theorem dg_len : ∀ (f : Nat) (m b : Int), (dg f m b).length ≤ f
  | 0, _, _ => Nat.le_refl _
  | f + 1, m, b => by
    rw [dg]; split
    · have := dg_len f (m / b) b; simp; omega
    · simp
/-- expo with fuel, one step. -/
theorem expo_yes {f : Nat} {m p : Int} (h : m % p = 0) : expo (f + 1) m p = expo f (m / p) p + 1 := by rw [expo, if_pos h]
theorem expo_no {f : Nat} {m p : Int} (h : ¬ m % p = 0) : expo (f + 1) m p = 0 := by rw [expo, if_neg h]
theorem expo_le : ∀ (f : Nat) (m p : Int), expo f m p ≤ f
  | 0, _, _ => Nat.le_refl _
  | f + 1, m, p => by
    rw [expo]; split
    · have := expo_le f (m / p) p; omega
    · omega
theorem quot_pos {m p : Int} (hm : 1 ≤ m) (hp : 2 ≤ p) (h : m % p = 0) : 1 ≤ m / p := (div_step hp hm h).2
/-- A value above 0 has a limb. -/
theorem nl_ne {m : Int} (h : 0 < m) : 0 < (nl m).length := by
  rcases Nat.eq_zero_or_pos (nl m).length with h1 | h1
  · have h2 := List.eq_nil_of_length_eq_zero h1
    have := val_nl (show 0 ≤ m by omega)
    rw [h2] at this
    unfold val at this
    omega
  · exact h1
theorem nl_nil {m : Int} (h : m ≤ 0) : nl m = [] := by unfold nl; exact limbs_zero h
/-- The indices of the ones. -/
def ones : List Int → Nat → List Int
  | [], _ => []
  | x :: t, k => if x = 1 then (k : Int) :: ones t (k + 1) else ones t (k + 1)
theorem ones_step {l : List Int} {k : Nat} (h : k < l.length) : ones (l.drop k) k = if geti l k = 1 then (k : Int) :: ones (l.drop (k + 1)) (k + 1) else ones (l.drop (k + 1)) (k + 1) := by
  rw [drop_cons h, ones]
theorem ones_len : ∀ (l : List Int) (k : Nat), (ones l k).length ≤ l.length
  | [], _ => Nat.le_refl _
  | x :: t, k => by
    rw [ones]; split
    · have := ones_len t (k + 1); simp; omega
    · have := ones_len t (k + 1); simp; omega
/-- All letters of a rank, the last one first. -/
def wl : Nat → Int → Int → List Int
  | 0, _, _ => []
  | f + 1, r, m => if 0 < r then (r - 1) % m :: wl f ((r - 1) / m) m else []
theorem wl_pos {f : Nat} {r m : Int} (h : 0 < r) : wl (f + 1) r m = (r - 1) % m :: wl f ((r - 1) / m) m := by rw [wl, if_pos h]
theorem wl_zero {f : Nat} {r m : Int} (h : r ≤ 0) : wl f r m = [] := by cases f <;> simp [wl]; omega
theorem wl_len : ∀ (f : Nat) (r m : Int), (wl f r m).length ≤ f
  | 0, _, _ => Nat.le_refl _
  | f + 1, r, m => by
    rw [wl]; split
    · have := wl_len f ((r - 1) / m) m; simp; omega
    · simp
theorem wa_wl {m : Int} (hm : 2 ≤ m) : ∀ (g f : Nat) {r : Int}, 0 ≤ r → Und2 f r → wa g r m = if (wl f r m).length ≤ g then some (wl f r m) else none
  | g, f, r, h0, hu => by
    rcases Int.lt_or_le 0 r with hr | hr
    · cases f with
      | zero => have := hu.zero; omega
      | succ f =>
        have hq := div_lt (show 1 ≤ m by omega) hr
        have hu2 : Und2 f ((r - 1) / m) := (hu.pred (show r - 1 ≤ r by omega)).step hm (by omega)
        rw [wl_pos hr]
        cases g with
        | zero => rw [wa_none hr, if_neg (by simp)]
        | succ g =>
          rw [wa_pos hr, wa_wl hm g f hq.2 hu2]
          by_cases h : (wl f ((r - 1) / m) m).length ≤ g
          · rw [if_pos h, if_pos (by simp; omega)]; rfl
          · rw [if_neg h, if_neg (by simp; omega)]; rfl
    · rw [wa_zero hr, wl_zero hr, if_pos (by simp)]
theorem wa_one : ∀ (g : Nat) {r : Int}, 0 ≤ r → wa g r 1 = if r ≤ g then some (List.replicate r.toNat 0) else none
  | 0, r, h0 => by
    rcases Int.lt_or_le 0 r with hr | hr
    · rw [wa_none hr, if_neg (by omega)]
    · have : r = 0 := by omega
      subst this; rfl
  | g + 1, r, h0 => by
    rcases Int.lt_or_le 0 r with hr | hr
    · rw [wa_pos hr, Int.ediv_one, Int.emod_one, wa_one g (by omega)]
      by_cases h : r - 1 ≤ g
      · rw [if_pos h, if_pos (by omega)]
        obtain ⟨k, rfl⟩ := Int.eq_ofNat_of_zero_le h0
        obtain ⟨j, rfl⟩ : ∃ j, k = j + 1 := ⟨k - 1, by omega⟩
        have e : ((j + 1 : Nat) : Int) - 1 = (j : Int) := by omega
        rw [e, Int.toNat_natCast, Int.toNat_natCast, List.replicate_succ]; rfl
      · rw [if_neg h, if_neg (by omega)]; rfl
    · have : r = 0 := by omega
      subst this
      rw [wa_zero (by omega), if_pos (by omega)]; rfl
end Go.Proofs.Ytanjpkcacgjgfaa
