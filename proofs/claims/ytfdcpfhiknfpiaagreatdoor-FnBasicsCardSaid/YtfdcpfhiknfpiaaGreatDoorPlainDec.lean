/- Plain mathematics: decimal numerals as bytes, written and read. No program in sight. -/
import Derived.Lib.ItoaNum
import Derived.Lib.ParseIntB
import Derived.Lib.Strings
namespace Go.Proofs.YtfdcpfhiknfpiaaGreatDoor
open Go.Lib

/-- The byte of a digit. -/
def dchr (d : Nat) : UInt8 := UInt8.ofNat (48 + d)
theorem dchr_toNat {d : Nat} (h : d < 10) : (dchr d).toNat = 48 + d := by
  unfold dchr
  rw [UInt8.toNat_ofNat']
  omega
/-- The digits of u, the last ahead; none for 0. -/
def digs (u : Nat) : List UInt8 := if h : u = 0 then [] else dchr (u % 10) :: digs (u / 10)
termination_by u
decreasing_by omega
theorem digs_zero : digs 0 = [] := by rw [digs, dif_pos rfl]
theorem digs_pos {u : Nat} (h : u ≠ 0) : digs u = dchr (u % 10) :: digs (u / 10) := by rw [digs, dif_neg h]
theorem decDigits_digs (u : Nat) (h : u ≠ 0) : decDigits u = (digs u).reverse := by
  induction u using Nat.strongRecOn with
  | _ u ih =>
    by_cases h1 : u < 10
    · rw [decDigits, dif_pos h1, digs_pos h, Nat.mod_eq_of_lt h1, show u / 10 = 0 by omega, digs_zero]; rfl
    · rw [decDigits, dif_neg h1, digs_pos h, List.reverse_cons, ih (u / 10) (by omega) (by omega)]; rfl
theorem digs_len (u : Nat) (k : Nat) (h : u < 10 ^ k) : (digs u).length ≤ k := by
  induction k generalizing u with
  | zero => have : u = 0 := by simpa using h
            subst this; rw [digs_zero]; simp
  | succ k ih =>
    by_cases h0 : u = 0
    · subst h0; rw [digs_zero]; simp
    · rw [digs_pos h0, List.length_cons]
      have := ih (u / 10) (by rw [Nat.pow_succ] at h; omega)
      omega
/-- A digit's byte. -/
def isDig (c : UInt8) : Bool := decide (48 ≤ c.toNat) && decide (c.toNat ≤ 57)
theorem isDig_true {c : UInt8} : isDig c = true ↔ 48 ≤ c.toNat ∧ c.toNat ≤ 57 := by unfold isDig; simp
theorem isDig_false {c : UInt8} : isDig c = false ↔ ¬ (48 ≤ c.toNat ∧ c.toNat ≤ 57) := by rw [← isDig_true]; cases isDig c <;> simp
theorem isDig_dchr {d : Nat} (h : d < 10) : isDig (dchr d) = true := by rw [isDig_true, dchr_toNat h]; omega
theorem dchr_of {c : UInt8} (h : isDig c = true) : dchr (c.toNat - 48) = c := by
  have := isDig_true.1 h
  unfold dchr
  rw [show 48 + (c.toNat - 48) = c.toNat by omega]
  exact UInt8.ofNat_toNat
/-- What digits spell. -/
def dval (a : Nat) (l : List UInt8) : Nat := l.foldl (fun x c => 10 * x + (c.toNat - 48)) a
theorem dval_nil (a : Nat) : dval a [] = a := rfl
theorem dval_cons (a : Nat) (c : UInt8) (l : List UInt8) : dval a (c :: l) = dval (10 * a + (c.toNat - 48)) l := by unfold dval; rw [List.foldl_cons]
theorem dval_snoc (a : Nat) (c : UInt8) (l : List UInt8) : dval a (l ++ [c]) = 10 * dval a l + (c.toNat - 48) := by unfold dval; rw [List.foldl_append]; rfl
theorem dval_lt (l : List UInt8) (a k : Nat) (h : a < 10 ^ k) (hd : ∀ c ∈ l, isDig c = true) : dval a l < 10 ^ (k + l.length) := by
  induction l generalizing a k with
  | nil => rw [dval_nil, List.length_nil, Nat.add_zero]; exact h
  | cons c l ih =>
    rw [dval_cons, List.length_cons, show k + (l.length + 1) = (k + 1) + l.length by omega]
    have := isDig_true.1 (hd c (by simp))
    exact ih _ (k + 1) (by rw [Nat.pow_succ]; omega) (fun x hx => hd x (by simp [hx]))
theorem dval_mono (l : List UInt8) (a : Nat) : a ≤ dval a l := by
  induction l generalizing a with
  | nil => exact Nat.le_refl _
  | cons c l ih => rw [dval_cons]; have := ih (10 * a + (c.toNat - 48)); omega
theorem decDigits_snoc (a d : Nat) (ha : a ≠ 0) (hd : d < 10) : decDigits (10 * a + d) = decDigits a ++ [dchr d] := by
  rw [decDigits, dif_neg (by omega), show (10 * a + d) / 10 = a by omega, show (10 * a + d) % 10 = d by omega]; rfl
theorem decDigits_one (d : Nat) (hd : d < 10) : decDigits d = [dchr d] := by rw [decDigits, dif_pos hd]; rfl
theorem dec_of_dval (l : List UInt8) (a : Nat) (ha : a ≠ 0) (hd : ∀ c ∈ l, isDig c = true) : decDigits (dval a l) = decDigits a ++ l := by
  induction l generalizing a with
  | nil => simp [dval_nil]
  | cons c l ih =>
    have hc := hd c (by simp)
    have h2 := isDig_true.1 hc
    rw [dval_cons, ih _ (by omega) (fun x hx => hd x (by simp [hx])), decDigits_snoc a _ ha (by omega), dchr_of hc, List.append_assoc]; rfl
/-- Digits that begin with no 0 are the numeral of what they spell; a lone digit too. -/
theorem dec_dval (c : UInt8) (l : List UInt8) (hd : ∀ x ∈ c :: l, isDig x = true) (h0 : c.toNat ≠ 48 ∨ l = []) : decDigits (dval 0 (c :: l)) = c :: l := by
  have hc := hd c (by simp)
  have h2 := isDig_true.1 hc
  rw [dval_cons, Nat.mul_zero, Nat.zero_add]
  by_cases hz : c.toNat = 48
  · obtain rfl : l = [] := by rcases h0 with h | h; exact absurd hz h; exact h
    rw [dval_nil, decDigits_one _ (by omega), dchr_of hc]
  · rw [dec_of_dval l _ (by omega) (fun x hx => hd x (by simp [hx])), decDigits_one _ (by omega), dchr_of hc]; rfl
theorem dec_facts (u : Nat) : dval 0 (decDigits u) = u ∧ (∀ c ∈ decDigits u, isDig c = true) ∧ ∃ c l, decDigits u = c :: l ∧ (c.toNat = 48 → u = 0 ∧ l = []) := by
  induction u using Nat.strongRecOn with
  | _ u ih =>
    by_cases h : u < 10
    · rw [decDigits_one u h]
      refine ⟨by rw [dval_cons, dval_nil, dchr_toNat h]; omega, fun c hc => by rw [List.mem_singleton.1 hc]; exact isDig_dchr h, _, _, rfl, fun e => ?_⟩
      rw [dchr_toNat h] at e
      exact ⟨by omega, rfl⟩
    · obtain ⟨i1, i2, c, l, i3, i4⟩ := ih (u / 10) (by omega)
      rw [decDigits, dif_neg h]
      refine ⟨?_, fun x hx => ?_, c, l ++ [UInt8.ofNat (48 + u % 10)], by rw [i3]; rfl, fun e => ?_⟩
      · rw [dval_snoc, i1, show (UInt8.ofNat (48 + u % 10)).toNat = 48 + u % 10 from dchr_toNat (by omega)]; omega
      · rcases List.mem_append.1 hx with hx | hx
        · exact i2 x hx
        · rw [List.mem_singleton.1 hx]; exact isDig_dchr (by omega)
      · have := (i4 e).1
        omega

/-- The sign ahead. -/
def negB (l : List UInt8) : Bool := match l with | [] => false | c :: _ => c.toNat == 45
/-- What stands behind the sign. -/
def magB (l : List UInt8) : List UInt8 := if negB l then l.drop 1 else l
/-- The number with a decimal form of at most 18 digits. -/
def numOk (l : List UInt8) : Bool :=
  !(magB l).isEmpty && decide ((magB l).length ≤ 18) && !(((magB l).head?.map (·.toNat)) == some 48 && decide (1 < l.length)) && (magB l).all isDig
def numV (l : List UInt8) : Int := if negB l then -(dval 0 (magB l) : Int) else (dval 0 (magB l) : Int)
theorem mag_len (l : List UInt8) : (magB l).length ≤ l.length := by unfold magB; split <;> simp
theorem parseM (l : List UInt8) (a k : Nat) (ha : a < 10 ^ k) (hk : k + l.length ≤ 18) (hd : ∀ c ∈ l, isDig c = true) : parseUintM (2 ^ 64 - 1) a l = .ok (dval a l) := by
  induction l generalizing a k with
  | nil => rfl
  | cons c l ih =>
    have h2 := isDig_true.1 (hd c (by simp))
    rw [List.length_cons] at hk
    have hp : 10 ^ k ≤ 10 ^ 17 := Nat.pow_le_pow_right (by decide) (by omega)
    have hp2 : (10 : Nat) ^ 17 = 100000000000000000 := by decide
    rw [parseUintM, if_pos h2, if_neg (by omega), if_neg (by omega), dval_cons, show a * 10 + (c.toNat - 48) = 10 * a + (c.toNat - 48) by omega]
    exact ih _ (k + 1) (by rw [Nat.pow_succ]; omega) (by omega) (fun x hx => hd x (by simp [hx]))
theorem num_parts {l : List UInt8} (h : numOk l = true) : ∃ c r, magB l = c :: r ∧ (c :: r).length ≤ 18 ∧ (∀ x ∈ c :: r, isDig x = true) ∧ ¬ (c.toNat = 48 ∧ 1 < l.length) := by
  unfold numOk at h
  simp only [Bool.and_eq_true] at h
  obtain ⟨⟨⟨h1, h2⟩, h3⟩, h4⟩ := h
  cases e : magB l with
  | nil => rw [e] at h1; cases h1
  | cons c r =>
    rw [e] at h2 h3 h4
    refine ⟨c, r, rfl, by simpa using h2, fun x hx => List.all_eq_true.1 h4 x hx, fun hh => ?_⟩
    simp [hh.1, hh.2] at h3
/-- A number's text is its numeral, and is read as that number. -/
theorem num_good {l : List UInt8} (h : numOk l = true) : itoa (numV l) = l ∧ parseIntB 64 l = .ok (numV l) ∧ (-1000000000000000000 < numV l ∧ numV l < 1000000000000000000) := by
  obtain ⟨c, r, e, h2, h3, h4⟩ := num_parts h
  have hlt := dval_lt (c :: r) 0 0 (by simp) h3
  have hlt2 : dval 0 (c :: r) < 1000000000000000000 := Nat.lt_of_lt_of_le hlt (by
    have : (10 : Nat) ^ (0 + (c :: r).length) ≤ 10 ^ 18 := Nat.pow_le_pow_right (by decide) (by omega)
    simpa using this)
  have hpm := parseM (c :: r) 0 0 (by simp) (by omega) h3
  have hcd := isDig_true.1 (h3 c (by simp))
  cases l with
  | nil => simp [magB, negB] at e
  | cons x l =>
    by_cases hx : x.toNat = 45
    · have hn : negB (x :: l) = true := by simp [negB, hx]
      have hl : l = c :: r := by simpa [magB, hn] using e
      subst hl
      have h48 : c.toNat ≠ 48 := fun hh => h4 ⟨hh, by simp⟩
      have hpos : dval 0 (c :: r) ≠ 0 := by rw [dval_cons]; have := dval_mono r (10 * 0 + (c.toNat - 48)); omega
      have hv : numV (x :: c :: r) = -(dval 0 (c :: r) : Int) := by simp [numV, hn, magB]
      have hxe : x = 45 := UInt8.toNat_inj.1 (by simpa using hx)
      refine ⟨?_, ?_, by rw [hv]; omega⟩
      · rw [hv, itoa, if_pos (by omega), show (-(dval 0 (c :: r) : Int)).natAbs = dval 0 (c :: r) by omega, dec_dval c r h3 (.inl h48), hxe]
      · have : parseUintB 64 (c :: r) = .ok (dval 0 (c :: r)) := by unfold parseUintB; rw [if_neg (by simp)]; exact hpm
        simp only [parseIntB, hx, or_true, if_true, this, hv]
        rw [if_neg (by simp), if_neg (by simp; omega)]
    · have hn : negB (x :: l) = false := by simp [negB, hx]
      have hl : x :: l = c :: r := by simpa [magB, hn] using e
      have hv : numV (x :: l) = (dval 0 (c :: r) : Int) := by simp [numV, hn, magB, ← hl]
      have h0 : c.toNat ≠ 48 ∨ r = [] := by
        by_cases hz : c.toNat = 48
        · right
          have : ¬ 1 < (x :: l).length := fun hh => h4 ⟨hz, hh⟩
          rw [hl] at this
          simp at this
          exact this
        · exact .inl hz
      refine ⟨?_, ?_, by rw [hv]; omega⟩
      · rw [hv, itoa, if_neg (by omega), Int.toNat_natCast, dec_dval c r h3 h0, hl]
      · have : parseUintB 64 (x :: l) = .ok (dval 0 (c :: r)) := by rw [hl]; unfold parseUintB; rw [if_neg (by simp)]; exact hpm
        have hx43 : ¬ (x.toNat = 43 ∨ x.toNat = 45) := by
          have : x = c := by simpa using (List.cons.inj hl).1
          rw [this]; omega
        simp only [parseIntB, hx43, if_false, this, hv]
        rw [if_neg (by simp; omega), if_neg (by simp [hx]), if_neg hx]
/-- A numeral of at most 18 digits is a number's text. -/
theorem num_itoa (v : Int) (h : (magB (itoa v)).length ≤ 18) : numOk (itoa v) = true ∧ numV (itoa v) = v := by
  unfold itoa at h ⊢
  by_cases hv : v < 0
  · rw [if_pos hv] at h ⊢
    obtain ⟨d1, d2, c, l, d3, d4⟩ := dec_facts v.natAbs
    have hn : negB (45 :: decDigits v.natAbs) = true := rfl
    have hm : magB (45 :: decDigits v.natAbs) = decDigits v.natAbs := by simp [magB, hn]
    rw [hm] at h
    have h48 : c.toNat ≠ 48 := fun e => by have := (d4 e).1; omega
    refine ⟨?_, by simp only [numV, hn, hm, d1, if_true]; omega⟩
    simp only [numOk, hm, Bool.and_eq_true]
    refine ⟨⟨⟨by rw [d3]; rfl, by simpa using h⟩, ?_⟩, List.all_eq_true.2 d2⟩
    rw [d3]
    simp [h48]
  · rw [if_neg hv] at h ⊢
    obtain ⟨d1, d2, c, l, d3, d4⟩ := dec_facts v.toNat
    have hn : negB (decDigits v.toNat) = false := by
      rw [d3]
      have := isDig_true.1 (d2 c (by rw [d3]; simp))
      simp [negB]; omega
    have hm : magB (decDigits v.toNat) = decDigits v.toNat := by simp [magB, hn]
    rw [hm] at h
    refine ⟨?_, by simp only [numV, hn, hm, d1]; simp; omega⟩
    simp only [numOk, hm, Bool.and_eq_true]
    refine ⟨⟨⟨by rw [d3]; rfl, by simpa using h⟩, ?_⟩, List.all_eq_true.2 d2⟩
    rw [d3]
    by_cases hz : c.toNat = 48
    · simp [(d4 hz).2]
    · simp [hz]
theorem trim_mag (l : List UInt8) : trimPrefix l [45] = magB l := by
  unfold trimPrefix magB
  cases l with
  | nil => rfl
  | cons x l =>
    by_cases hx : x.toNat = 45
    · have hxe : x = 45 := UInt8.toNat_inj.1 (by simpa using hx)
      subst hxe
      rfl
    · have : ¬ (45 : UInt8) = x := fun e => hx (by rw [← e]; rfl)
      simp [hasPrefix, List.isPrefixOf, negB, hx, this]
/-- What the program's test asks. -/
theorem num_iff (l : List UInt8) (v : Int) (h : parseIntB 64 l = .ok v) (e : itoa v = l) (h18 : (trimPrefix l [45]).length ≤ 18) : numOk l = true ∧ numV l = v := by
  rw [trim_mag] at h18
  subst e
  exact num_itoa v h18
theorem itoa_inj {a b : Int} (h : itoa a = itoa b) : a = b := by
  have key : ∀ v : Int, v = if negB (itoa v) then -(dval 0 ((itoa v).drop 1) : Int) else (dval 0 (itoa v) : Int) := by
    intro v
    unfold itoa
    by_cases hv : v < 0
    · rw [if_pos hv, if_pos (show negB (45 :: decDigits v.natAbs) = true from rfl), List.drop_one, List.tail_cons, (dec_facts v.natAbs).1]; omega
    · rw [if_neg hv]
      obtain ⟨d1, d2, c, l, d3, d4⟩ := dec_facts v.toNat
      have hn : negB (decDigits v.toNat) = false := by
        rw [d3]
        have := isDig_true.1 (d2 c (by rw [d3]; simp))
        simp [negB]; omega
      rw [hn, d1]; simp; omega
  rw [key a, key b, h]
end Go.Proofs.YtfdcpfhiknfpiaaGreatDoor
