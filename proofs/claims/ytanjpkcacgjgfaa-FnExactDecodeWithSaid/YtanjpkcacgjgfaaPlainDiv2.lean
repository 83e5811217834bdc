/- Plain facts for long division: lengths, the search for a digit, what a comparison of canonical naturals says. No condition. -/
import Derived.Test.YtanjpkcacgjgfaaPlainDiv
namespace Go.Proofs.Ytanjpkcacgjgfaa
theorem nl_len_mono {m n : Int} (h0 : 0 ≤ m) (h : m ≤ n) : (nl m).length ≤ (nl n).length := by
  rw [nl_len h0]
  have h1 := val_lt (nl_lim n)
  rw [val_nl (Int.le_trans h0 h)] at h1
  exact Int.lt_of_le_of_lt h h1
theorem nl_len_one {x : Int} (h0 : 0 ≤ x) (h : x ≤ 999999) : (nl x).length ≤ 1 := by
  rw [nl_len h0]
  have : (1000000 : Int) ^ 1 = 1000000 := rfl
  omega
theorem trim_cons_nl {x r : Int} (hx0 : 0 ≤ x) (hx : x ≤ 999999) (hr : 0 ≤ r) : trim ([x] ++ nl r) = nl (r * 1000000 + x) := by
  rw [trim_nl (show Lim ([x] ++ nl r) from Lim.cons (nl_lim r) hx0 hx)]
  congr 1
  show x + 1000000 * val (nl r) = _
  rw [val_nl hr]; omega
theorem cmp_nl {x y : Int} (hx : 0 ≤ x) (hy : 0 ≤ y) : (cmpN (nl x) (nl y) ≤ 0 ↔ x ≤ y) ∧ (cmpN (nl x) (nl y) < 0 ↔ x < y) := by
  have h := cmpN_val (nl_lim x) (nl_lim y) (nl_trim x) (nl_trim y)
  rw [val_nl hx, val_nl hy] at h
  rcases h with ⟨h1, h2⟩ | ⟨h1, h2⟩ | ⟨h1, h2⟩ <;> rw [h1] <;> constructor <;> omega
theorem dm1 (d m : Int) : d * (m - 1) + d = d * m := by rw [Int.mul_sub]; omega
theorem digit_of {d T x : Int} (hd : 1 ≤ d) (h0 : d * x ≤ T) (h1 : T < d * x + d) : T / d = x ∧ T % d = T - d * x :=
  (Int.ediv_emod_unique (by omega)).2 ⟨by omega, by omega, by omega⟩
theorem nl_len41 {T d : Int} {b : List Int} (hb : Lim b) (lb : b.length ≤ 40) (hv : val b = d) (h0 : 0 ≤ T) (h : T < d * 1000000) : (nl T).length ≤ 41 := by
  rw [nl_len h0]
  have h1 := val_lt hb
  have h2 := pw_mono lb
  unfold pw at h2
  have h3 : (1000000 : Int) ^ 41 = 1000000 ^ 40 * 1000000 := Int.pow_succ ..
  rw [h3]
  generalize (1000000 : Int) ^ 40 = P at *
  generalize (1000000 : Int) ^ b.length = Q at *
  omega
end Go.Proofs.Ytanjpkcacgjgfaa
