/- Plain facts for the root: the greatest digit of which something holds. No condition. -/
import Derived.Test.YtanjpkcacgjgfaaPlainDiv2
namespace Go.Proofs.Ytanjpkcacgjgfaa
/-- The greatest number up to k of which p holds, or 0. -/
def dig (p : Int → Bool) : Nat → Int
  | 0 => 0
  | k + 1 => if p ((k + 1 : Nat) : Int) = true then ((k + 1 : Nat) : Int) else dig p k
theorem dig_eq {p : Int → Bool} {x : Nat} (hx : p (x : Int) = true) : ∀ k, x ≤ k → (∀ y : Nat, x < y → y ≤ k → p (y : Int) = false) → dig p k = (x : Int)
  | 0, h, _ => by obtain rfl : x = 0 := by omega
                  rfl
  | k + 1, h, hn => by
    unfold dig
    by_cases e : x = k + 1
    · subst e; rw [if_pos hx]
    · rw [if_neg (by rw [hn (k + 1) (by omega) (Nat.le_refl _)]; simp)]
      exact dig_eq hx k (by omega) (fun y h1 h2 => hn y h1 (by omega))
/-- x is the greatest digit of which p holds. -/
def Best (p : Int → Bool) (x : Int) : Prop := 0 ≤ x ∧ x ≤ 999999 ∧ p x = true ∧ ∀ y, x < y → y ≤ 999999 → p y = false
theorem Best.dig {p : Int → Bool} {x : Int} (h : Best p x) : dig p 999999 = x := by
  obtain ⟨h0, h1, h2, h3⟩ := h
  obtain ⟨n, rfl⟩ : ∃ n : Nat, x = n := ⟨x.toNat, by omega⟩
  exact dig_eq h2 999999 (by omega) (fun y h4 h5 => h3 y (by omega) (by omega))
/-- With the digit x at i the square is at most N. -/
def sq (N : Int) (o : List Int) (i : Nat) (x : Int) : Bool := decide (val (o.set i x) * val (o.set i x) ≤ N)
def rdig (N : Int) (o : List Int) (i : Nat) : Int := dig (sq N o i) 999999
def rts (N : Int) : Nat → List Int → List Int
  | 0, o => o
  | k + 1, o => rts N k (o.set k (rdig N o k))
theorem sq_set (N : Int) (o : List Int) (i : Nat) (x y : Int) : sq N (o.set i y) i x = sq N o i x := by unfold sq; rw [List.set_set]
theorem val_set_le {o : List Int} {i : Nat} (hi : i < o.length) {x y : Int} (h : x ≤ y) : val (o.set i x) ≤ val (o.set i y) := by
  rw [val_set _ _ _ hi, val_set _ _ _ hi]
  have := Int.mul_le_mul_of_nonneg_right (show x - geti o i ≤ y - geti o i by omega) (Int.le_of_lt (pw_pos i))
  omega
theorem sqr_mono {N : Int} {o : List Int} {i : Nat} (hl : Lim o) (hi : i < o.length) {x y : Int} (h0 : 0 ≤ x) (h1 : y ≤ 999999) (h : x ≤ y) (hs : sq N o i y = true) : sq N o i x = true := by
  unfold sq at *
  rw [decide_eq_true_eq] at *
  have a := val_set_le hi h
  have b := val_nonneg (hl.set i h0 (show x ≤ 999999 by omega))
  have c := Int.mul_le_mul a a b (Int.le_trans b a)
  omega
theorem sq_anti {N : Int} {o : List Int} {i : Nat} (hl : Lim o) (hi : i < o.length) {x y : Int} (h0 : 0 ≤ x) (h1 : y ≤ 999999) (h : x ≤ y) (hs : sq N o i x = false) : sq N o i y = false := by
  cases e : sq N o i y with
  | false => rfl
  | true => rw [sqr_mono hl hi h0 h1 h e] at hs; cases hs
/-- How the root stands ahead of the digit k - 1. -/
structure RootI (N : Int) (L k : Nat) (o : List Int) : Prop where
  lim : Lim o
  len : o.length = L
  low : ∀ j, j < k → geti o j = 0
  le : val o * val o ≤ N
theorem RootI.start {N : Int} (h : 0 ≤ N) (L : Nat) : RootI N L L (List.replicate L 0) :=
  ⟨Lim.replicate L, by simp, fun j hj => by rw [geti_eq (by simpa using hj)]; simp, by rw [val_replicate]; simpa using h⟩
theorem set_self {o : List Int} {i : Nat} (hi : i < o.length) : o.set i (geti o i) = o := by rw [geti_eq hi]; simp
theorem RootI.zero {N : Int} {L k : Nat} {o : List Int} (h : RootI N L (k + 1) o) (hk : k < L) : sq N o k 0 = true := by
  have h1 := h.low k (by omega)
  have h2 := set_self (o := o) (i := k) (by rw [h.len]; exact hk)
  rw [h1] at h2
  unfold sq
  rw [h2]
  exact decide_eq_true h.le
theorem geti_set0 {o : List Int} {i j : Nat} {x : Int} (h : i < o.length) : geti (o.set i x) j = if i = j then x else geti o j := by
  unfold geti
  rw [List.getD_eq_getElem?_getD, List.getD_eq_getElem?_getD, List.getElem?_set]
  split
  · rename_i e; subst e; simp [h]
  · rfl
theorem RootI.step {N : Int} {L k : Nat} {o : List Int} (h : RootI N L (k + 1) o) (hk : k < L) {x : Int} (hb : Best (sq N o k) x) : RootI N L k (o.set k x) ∧ rdig N o k = x := by
  refine ⟨⟨h.lim.set k hb.1 hb.2.1, by rw [List.length_set]; exact h.len, fun j hj => ?_, ?_⟩, hb.dig⟩
  · rw [geti_set0 (by rw [h.len]; exact hk), if_neg (by omega)]
    exact h.low j (by omega)
  · have := hb.2.2.1
    unfold sq at this
    rwa [decide_eq_true_eq] at this
theorem rts_lim : ∀ (k : Nat) {N : Int} {L : Nat} {o : List Int}, Lim o → o.length = L → k ≤ L → (rts N k o).length = L
  | 0, _, _, _, _, h, _ => h
  | k + 1, N, L, o, hl, h, hk => by
    unfold rts
    have hd : 0 ≤ rdig N o k ∧ rdig N o k ≤ 999999 := by
      unfold rdig
      have : ∀ n : Nat, 0 ≤ dig (sq N o k) n ∧ dig (sq N o k) n ≤ n := by
        intro n
        induction n with
        | zero => simp [dig]
        | succ n ih => unfold dig; split <;> omega
      have := this 999999
      omega
    exact rts_lim k (hl.set k hd.1 hd.2) (by rw [List.length_set]; exact h) (by omega)
end Go.Proofs.Ytanjpkcacgjgfaa
