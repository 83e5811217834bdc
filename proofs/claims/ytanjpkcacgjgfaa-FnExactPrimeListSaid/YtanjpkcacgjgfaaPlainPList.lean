/- Plain facts for the list of exponents. No program in sight. -/
import Derived.Test.YtanjpkcacgjgfaaPlainPrime
import Derived.Test.YtanjpkcacgjgfaaNatVal
namespace Go.Proofs.Ytanjpkcacgjgfaa
theorem trim_last' {l : List Int} (h : trim l = l) : l.length = 0 ∨ geti l (l.length - 1) ≠ 0 := by
  by_cases h0 : l.length = 0
  · exact .inl h0
  · right
    intro hz
    have h1 := trim_step (l := l) (k := l.length - 1) (by omega) hz
    rw [show l.length - 1 + 1 = l.length by omega, List.take_length, h] at h1
    have h2 := trim_len (l.take (l.length - 1))
    rw [← h1, List.length_take] at h2
    omega
theorem natB_nl {m : Int} (h0 : 0 ≤ m) (h : m < pw 40) : natB (nl m) = true :=
  natB_true.2 ⟨nl_len40 h0 h, allIn_true.2 (nl_lim m), trim_last' (nl_trim m)⟩
/-- m divided by p so many times. -/
def pdiv (p : Int) : Nat → Int → Int
  | 0, m => m
  | e + 1, m => pdiv p e (m / p)
theorem pdiv_snoc (p : Int) : ∀ (e : Nat) (m : Int), pdiv p (e + 1) m = pdiv p e m / p
  | 0, _ => rfl
  | e + 1, m => by rw [pdiv, pdiv_snoc p e (m / p)]; rfl
theorem pdiv_bd {p : Int} (hp : 2 ≤ p) : ∀ (e f : Nat) (m : Int), 1 ≤ m → e ≤ expo f m p → 1 ≤ pdiv p e m ∧ pdiv p e m ≤ m
  | 0, _, m, h, _ => ⟨h, Int.le_refl _⟩
  | e + 1, 0, m, h, he => by unfold expo at he; omega
  | e + 1, f + 1, m, h, he => by
    unfold expo at he
    by_cases hm : m % p = 0
    · rw [if_pos hm] at he
      have hs := div_step hp h hm
      have := pdiv_bd hp e f (m / p) hs.2 (by omega)
      unfold pdiv
      omega
    · rw [if_neg hm] at he
      omega
theorem expo_one {p : Int} (hp : 2 ≤ p) (f : Nat) : expo f 1 p = 0 := by
  cases f with
  | zero => rfl
  | succ f => unfold expo; rw [if_neg (by rw [Int.emod_eq_of_lt (by omega) (by omega)]; omega)]
/-- The list of exponents, less one each, of r primes at most, behind those of out. -/
def plist : Nat → Int → List Int → Option (List Int)
  | 0, m, out => if m = 1 then some out else none
  | r + 1, m, out => if expo 800 m (primeK out.length : Int) = 0 then (if m = 1 then some out else none)
      else plist r (pdiv (primeK out.length : Int) (expo 800 m (primeK out.length : Int)) m) (out ++ [(expo 800 m (primeK out.length : Int) : Int) - 1])
theorem plist_stop {r : Nat} {m : Int} {out : List Int} (h : expo 800 m (primeK out.length : Int) = 0) : plist (r + 1) m out = if m = 1 then some out else none := by
  unfold plist; rw [if_pos h]
theorem plist_go {r : Nat} {m : Int} {out : List Int} {E : Nat} (h : expo 800 m (primeK out.length : Int) = E) (h0 : E ≠ 0) :
    plist (r + 1) m out = plist r (pdiv (primeK out.length : Int) E m) (out ++ [(E : Int) - 1]) := by
  rw [plist, h, if_neg h0]
theorem plist_one {r : Nat} {out : List Int} (h : out.length + r = 24) : plist r 1 out = some out := by
  cases r with
  | zero => simp [plist]
  | succ r =>
    have h2 := (primeK_found out.length (by omega)).2.2
    rw [plist_stop (expo_one (by omega) 800), if_pos rfl]
theorem plist_len : ∀ (r : Nat) (m : Int) (out : List Int) (l : List Int), out.length + r ≤ 24 → plist r m out = some l → l.length ≤ 24
  | 0, m, out, l, h, he => by
    unfold plist at he
    split at he
    · injection he with he; subst he; omega
    · cases he
  | r + 1, m, out, l, h, he => by
    unfold plist at he
    split at he
    · split at he
      · injection he with he; subst he; omega
      · cases he
    · exact plist_len r _ _ l (by simp; omega) he
/-- The result: the list and the code. -/
def plR (o : Option (List Int)) : List Int × Int := match o with | some l => (l, 0) | none => ([], 3)
theorem plR_len {o : Option (List Int)} (h : ∀ l, o = some l → l.length ≤ 24) : (plR o).1.length ≤ 24 := by
  unfold plR
  cases o with
  | none => simp
  | some l => exact h l rfl
theorem nl_is_one {m : Int} (h1 : 1 ≤ m) (hl : (nl m).length = 1) : geti (nl m) 0 = m := by
  have h := val_nl (show 0 ≤ m by omega)
  generalize nl m = l at *
  rcases l with _ | ⟨x, _ | ⟨y, t⟩⟩
  · simp at hl
  · simp [val] at h; simp [geti, h]
  · simp at hl
theorem valu_nl {m p : Int} (h1 : 1 ≤ m) (h : m < pw 40) (hp : 2 ≤ p) (hp2 : p ≤ 999999) : valu (nl m) p = ((expo 800 m p : Int), 0) := by
  have h0 : (nl m).length ≠ 0 := fun e => by
    have h2 := val_nl (show 0 ≤ m by omega)
    rw [List.eq_nil_of_length_eq_zero e] at h2
    simp [val] at h2
    omega
  unfold valu
  rw [if_pos (natB_nl (by omega) h), if_neg (by rw [inB_false]; omega), val_nl (by omega)]
end Go.Proofs.Ytanjpkcacgjgfaa
