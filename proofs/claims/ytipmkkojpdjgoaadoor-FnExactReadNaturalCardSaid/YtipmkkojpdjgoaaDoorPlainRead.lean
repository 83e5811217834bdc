/- Plain mathematics: a natural's text, cut into limbs of six digits from the end. No program in sight. -/
import Derived.Test.YtipmkkojpdjgoaaDoorNText
import Derived.Test.YtipmkkojpdjgoaaDoorNumber
import Derived.Test.YtipmkkojpdjgoaaDoorPlainNat
import Derived.Lib.Strings
namespace Go.Proofs.YtipmkkojpdjgoaaDoor
open Go.RowKit
/-- The k-th stretch of six digits, the last ahead. -/
def ck (L : List UInt8) (k : Nat) : List UInt8 := (L.take (L.length - 6 * k)).drop (L.length - 6 * k - 6)
def nck (L : List UInt8) : Nat := (L.length + 5) / 6
def vals (L : List UInt8) (n : Nat) : List Int := (List.range n).map (fun k => (dval 0 (ck L k) : Int))
def lead (L : List UInt8) : Bool := decide (1 < L.length) && L.head? == some 48
/-- Has a text a natural? -/
def okN (L : List UInt8) : Bool := decide (0 < L.length) && (decide (L.length ≤ 240) && (!lead L && L.all isDig))
/-- What ReadNatural answers. -/
def rdNat (L : List UInt8) : List Int × Bool := if okN L then (trim (vals L (nck L)), true) else ([], false)
theorem rdNat_no {L : List UInt8} (h : okN L = false) : rdNat L = ([], false) := by unfold rdNat; rw [h]; rfl
theorem rdNat_yes {L : List UInt8} (h : okN L = true) : rdNat L = (trim (vals L (nck L)), true) := by unfold rdNat; rw [h]; rfl
theorem vals_step (L : List UInt8) (k : Nat) : vals L k ++ [(dval 0 (ck L k) : Int)] = vals L (k + 1) := by unfold vals; rw [List.range_succ, List.map_append]; rfl
theorem vals_len (L : List UInt8) (n : Nat) : (vals L n).length = n := by unfold vals; rw [List.length_map, List.length_range]
theorem vals_at (L : List UInt8) {n j : Nat} (h : j < n) : geti (vals L n) j = (dval 0 (ck L j) : Int) := by
  rw [geti_eq (show j < (vals L n).length by rw [vals_len]; exact h)]
  unfold vals; rw [List.getElem_map, List.getElem_range]
theorem ck_mem {L : List UInt8} {k : Nat} {x : UInt8} (h : x ∈ ck L k) : x ∈ L := List.mem_of_mem_take (List.mem_of_mem_drop h)
theorem ck_len (L : List UInt8) (k : Nat) : (ck L k).length ≤ 6 := by unfold ck; rw [List.length_drop, List.length_take]; omega
theorem ck_full {L : List UInt8} {k : Nat} (h : 6 * k + 6 ≤ L.length) : (ck L k).length = 6 := by unfold ck; rw [List.length_drop, List.length_take]; omega
theorem all_no {L : List UInt8} {k : Nat} (h : (ck L k).all isDig = false) : L.all isDig = false := by
  rw [List.all_eq_false] at h ⊢
  obtain ⟨x, hx, h2⟩ := h
  exact ⟨x, ck_mem hx, h2⟩
theorem all_yes {L : List UInt8} (h : ∀ k, k < nck L → (ck L k).all isDig = true) : L.all isDig = true := by
  rw [List.all_eq_true]
  intro x hx
  obtain ⟨i, hi, rfl⟩ := List.getElem_of_mem hx
  have hk : (L.length - 1 - i) / 6 < nck L := by unfold nck; omega
  refine List.all_eq_true.1 (h _ hk) _ ?_
  unfold ck
  generalize hq : (L.length - 1 - i) / 6 = q
  have h1 : i < L.length - 6 * q := by omega
  have h2 : L.length - 6 * q - 6 ≤ i := by omega
  refine List.mem_of_getElem? (i := i - (L.length - 6 * q - 6)) ?_
  rw [List.getElem?_drop, show L.length - 6 * q - 6 + (i - (L.length - 6 * q - 6)) = i by omega, List.getElem?_take, if_pos h1, List.getElem?_eq_getElem hi]
theorem okN_all {L : List UInt8} {k : Nat} (h : (ck L k).all isDig = false) : okN L = false := by unfold okN; rw [all_no h]; simp
theorem dval_add (l : List UInt8) (a : Nat) : dval a l = a * 10 ^ l.length + dval 0 l := by
  induction l generalizing a with
  | nil => simp [dval_nil]
  | cons c l ih =>
    rw [dval_cons, dval_cons, ih, ih (10 * 0 + _), List.length_cons, Nat.pow_succ]
    generalize 10 ^ l.length = p
    generalize c.toNat - 48 = d
    rw [Nat.mul_zero, Nat.zero_add, Nat.add_mul, Nat.mul_comm 10 a, Nat.mul_assoc, Nat.mul_comm 10 p]
    omega
theorem dval_six {p : List UInt8} (hl : p.length ≤ 6) (hd : p.all isDig = true) : dval 0 p ≤ 999999 := by
  have := dval_lt p 0 0 (by simp) (fun c hc => List.all_eq_true.1 hd c hc)
  have h2 : (10 : Nat) ^ (0 + p.length) ≤ 10 ^ 6 := Nat.pow_le_pow_right (by decide) (by omega)
  have h3 : (10 : Nat) ^ 6 = 1000000 := by decide
  omega
theorem pad_dval {p : List UInt8} (hl : p.length = 6) (hd : p.all isDig = true) : pad6 (dval 0 p : Int) = p := by
  have h6 := dval_six (by omega) hd
  rw [← (pad_eq (x := (dval 0 p : Int)) (by omega) (by omega)).1, itoa_nn (by omega)]
  have e : ((1000000 : Int) + (dval 0 p : Int)).toNat = dval 1 p := by
    rw [dval_add p 1, hl]
    have h3 : (10 : Nat) ^ 6 = 1000000 := by decide
    omega
  rw [e, dec_of_dval p 1 (by decide) (fun c hc => List.all_eq_true.1 hd c hc), decDigits_one 1 (by decide)]
  rfl
theorem itoa_dval {c : UInt8} {r : List UInt8} (hd : (c :: r).all isDig = true) (h0 : c.toNat ≠ 48 ∨ r = []) : Lib.itoa (dval 0 (c :: r) : Int) = c :: r := by
  rw [itoa_nn (by omega), Int.toNat_natCast]
  exact dec_dval c r (fun x hx => List.all_eq_true.1 hd x hx) h0
theorem ck_all {L : List UInt8} (h : L.all isDig = true) (k : Nat) : (ck L k).all isDig = true := by
  rw [List.all_eq_true] at h ⊢
  exact fun x hx => h x (ck_mem hx)
/-- The limbs of digits spell them again. -/
theorem natR_vals {c : UInt8} {r L : List UInt8} (e : L = c :: r) (hd : L.all isDig = true) (h0 : c.toNat ≠ 48) : ∀ d j, j + d + 1 = nck L → natR ((vals L (nck L)).drop j) = L.take (L.length - 6 * j) := by
  have hlen : L.length = r.length + 1 := by rw [e, List.length_cons]
  intro d
  induction d with
  | zero =>
    intro j hj
    have hj6 : L.length - 6 * j - 6 = 0 ∧ 6 * j < L.length := by unfold nck at hj; omega
    rw [natR_last (by rw [vals_len]; omega), vals_at L (by omega)]
    have hc : ck L j = c :: r.take (L.length - 6 * j - 1) := by
      unfold ck
      rw [hj6.1, List.drop_zero]
      rw [show L.length - 6 * j = (L.length - 6 * j - 1) + 1 by omega]
      conv => lhs; rw [e]
      rw [List.take_succ_cons]
      congr 2
      rw [hlen, List.length_cons]; omega
    have hk := ck_all hd j
    rw [hc] at hk
    rw [hc, itoa_dval hk (.inl h0), ← hc]
    unfold ck
    rw [hj6.1, List.drop_zero]
  | succ d ih =>
    intro j hj
    rw [natR_step (by rw [vals_len]; omega), ih (j + 1) (by omega), vals_at L (by omega), pad_dval (ck_full (by unfold nck at hj; omega)) (ck_all hd j)]
    unfold ck
    have h1 : L.length - 6 * (j + 1) = L.length - 6 * j - 6 := by omega
    rw [h1]
    have h2 : L.take (L.length - 6 * j - 6) = (L.take (L.length - 6 * j)).take (L.length - 6 * j - 6) := by
      rw [List.take_take]; congr 1; omega
    rw [h2, List.take_append_drop]
theorem itoa_head {x : Int} (h : 0 < x) : ∃ c r, Lib.itoa x = c :: r ∧ c.toNat ≠ 48 := by
  rw [itoa_nn (by omega)]
  obtain ⟨_, _, c, l, e, h2⟩ := dec_facts x.toNat
  exact ⟨c, l, e, fun hc => by have := (h2 hc).1; omega⟩
theorem natR_head : ∀ (l : List Int), 0 < l.length → 0 < geti l (l.length - 1) → ∃ c r, natR l = c :: r ∧ c.toNat ≠ 48
  | [], h, _ => by simp at h
  | [x], _, h2 => by rw [natR]; exact itoa_head h2
  | x :: y :: t, _, h2 => by
    obtain ⟨c, r, e, h3⟩ := natR_head (y :: t) (by simp) (by
      have : geti (x :: y :: t) ((x :: y :: t).length - 1) = geti (y :: t) ((y :: t).length - 1) := by simp [geti]
      rw [← this]; exact h2)
    exact ⟨c, r ++ pad6 x, by rw [natR, e]; rfl, h3⟩
theorem natT_head {n : List Int} (h : natB n = true) : natT n = [48] ∨ ∃ c r, natT n = c :: r ∧ c.toNat ≠ 48 := by
  unfold natT
  by_cases h0 : n.length = 0
  · rw [if_pos h0]; exact .inl rfl
  · rw [if_neg h0]
    have h1 := natB_lim h
    have h2 := (natB_true.1 h).2.2
    have h3 := (h1.2 _ (geti_mem (show n.length - 1 < n.length by omega))).1
    exact .inr (natR_head n (by omega) (by omega))
theorem natT_len {n : List Int} (h : natB n = true) : (natT n).length ≤ 240 := by
  unfold natT
  split
  · simp
  · have h1 := natB_lim h
    have := natR_len h1.2 n (List.suffix_refl n)
    omega
theorem nck_bd {L : List UInt8} (h : L.length ≤ 240) : nck L ≤ 40 := by unfold nck; omega
/-- A natural's text is a text that has a natural. -/
theorem okN_of {L : List UInt8} {n : List Int} (hn : natB n = true) (hT : natT n = L) (hd : ∀ k, k < nck L → k < 41 → (ck L k).all isDig = true) : okN L = true := by
  have hl := natT_len hn
  rw [hT] at hl
  have hm := nck_bd hl
  have ha := all_yes (fun k hk => hd k hk (by omega))
  have hh := natT_head hn
  rw [hT] at hh
  unfold okN lead
  rw [decide_eq_true hl, ha]
  rcases hh with rfl | ⟨c, r, rfl, hc⟩
  · rfl
  · have : (c == 48) = false := by
      rw [beq_eq_false_iff_ne]
      intro e
      subst e
      exact hc rfl
    simp [this]
/-- Of a text that has a natural the limbs are that natural, and its text is the text. -/
theorem okN_vals {L : List UInt8} (h : okN L = true) : natB (trim (vals L (nck L))) = true ∧ natT (trim (vals L (nck L))) = L ∧ nck L ≤ 40 := by
  unfold okN at h
  simp only [Bool.and_eq_true, decide_eq_true_eq, Bool.not_eq_true'] at h
  obtain ⟨h1, h2, h3, h4⟩ := h
  have hm := nck_bd h2
  cases L with
  | nil => simp at h1
  | cons c r =>
    by_cases hz : c.toNat = 48
    · have hc : c = 48 := by
        apply UInt8.toNat_inj.1; exact hz
      subst hc
      cases r with
      | nil => exact ⟨rfl, rfl, hm⟩
      | cons d r => simp [lead] at h3
    · have hpos : 0 < nck (c :: r) := by unfold nck; rw [List.length_cons]; omega
      have hR := natR_vals (L := c :: r) rfl h4 hz
      have hlast : geti (vals (c :: r) (nck (c :: r))) (nck (c :: r) - 1) ≠ 0 := by
        intro e0
        have h5 := hR 0 (nck (c :: r) - 1) (by omega)
        rw [natR_last (by rw [vals_len]; omega), e0] at h5
        have h6 : Lib.itoa 0 = [48] := by rw [itoa_nn (by decide)]; exact decDigits_one 0 (by decide)
        rw [h6] at h5
        have h7 : (c :: r).length - 6 * (nck (c :: r) - 1) = ((c :: r).length - 6 * (nck (c :: r) - 1) - 1) + 1 := by unfold nck; rw [List.length_cons]; omega
        rw [h7, List.take_succ_cons] at h5
        injection h5 with h8
        subst h8
        exact hz rfl
      have htr : trim (vals (c :: r) (nck (c :: r))) = vals (c :: r) (nck (c :: r)) := trim_last _ (.inr (by rw [vals_len]; exact hlast))
      rw [htr]
      refine ⟨natB_true.2 ⟨by rw [vals_len]; exact hm, allIn_true.2 (fun x hx => ?_), .inr (by rw [vals_len]; exact hlast)⟩, ?_, hm⟩
      · unfold vals at hx
        obtain ⟨k, _, rfl⟩ := List.mem_map.1 hx
        have := dval_six (ck_len (c :: r) k) (ck_all h4 k)
        omega
      · unfold natT
        rw [if_neg (by rw [vals_len]; omega)]
        have := hR (nck (c :: r) - 1) 0 (by omega)
        rw [List.drop_zero, Nat.mul_zero, Nat.sub_zero, List.take_length] at this
        exact this
theorem trimL_dval (p : List UInt8) : dval 0 (Lib.trimLeftB p 48) = dval 0 p := by
  unfold Lib.trimLeftB
  induction p with
  | nil => rfl
  | cons c p ih =>
    by_cases h : c = 48
    · subst h
      rw [List.dropWhile_cons, if_pos (by rfl), ih, dval_cons]; rfl
    · rw [List.dropWhile_cons, if_neg (by simp [h])]
theorem trimL_all (p : List UInt8) : (Lib.trimLeftB p 48).all isDig = p.all isDig := by
  unfold Lib.trimLeftB
  induction p with
  | nil => rfl
  | cons c p ih =>
    by_cases h : c = 48
    · subst h
      rw [List.dropWhile_cons, if_pos (by rfl), ih, List.all_cons, show isDig 48 = true from rfl, Bool.true_and]
    · rw [List.dropWhile_cons, if_neg (by simp [h])]
theorem trimL_head {p : List UInt8} {c : UInt8} {r : List UInt8} (h : Lib.trimLeftB p 48 = c :: r) : c ≠ 48 := by
  unfold Lib.trimLeftB at h
  have := List.head?_dropWhile_not (fun x : UInt8 => x == 48) p
  rw [h] at this
  simpa using this
theorem trimL_len (p : List UInt8) : (Lib.trimLeftB p 48).length ≤ p.length := by unfold Lib.trimLeftB; exact (List.dropWhile_sublist _).length_le
/-- Digits, without their zeros ahead: none, or a numeral of their value. -/
theorem chunk_yes {p : List UInt8} (hl : p.length ≤ 6) (hd : p.all isDig = true) : (Lib.trimLeftB p 48 = [] ∧ numOk (Lib.trimLeftB p 48) = false ∧ dval 0 p = 0) ∨ (Lib.trimLeftB p 48 ≠ [] ∧ numOk (Lib.trimLeftB p 48) = true ∧ numV (Lib.trimLeftB p 48) = (dval 0 p : Int)) := by
  have h1 := trimL_dval p
  have h2 := trimL_all p
  have h3 := trimL_len p
  rw [hd] at h2
  cases e : Lib.trimLeftB p 48 with
  | nil => rw [e] at h1; exact .inl ⟨rfl, numOk_nil rfl rfl, by rw [← h1]; rfl⟩
  | cons c r =>
    have hc := trimL_head e
    rw [e] at h1 h2 h3
    have h4 := List.all_eq_true.1 h2
    have h5 := isDig_true.1 (h4 c (by simp))
    have hn : negB (c :: r) = false := by unfold negB; rw [beq_eq_false_iff_ne]; omega
    have hm : magB (c :: r) = c :: r := by unfold magB; rw [hn]; rfl
    refine .inr ⟨by simp, numOk_yes hm rfl (by omega) (fun h => hc (UInt8.toNat_inj.1 h.1)) h4, ?_⟩
    unfold numV; rw [hn, hm, ← h1]; rfl
theorem chunk_no {p : List UInt8} (hd : p.all isDig = false) : Lib.trimLeftB p 48 ≠ [] ∧ (numOk (Lib.trimLeftB p 48) = false ∨ (numOk (Lib.trimLeftB p 48) = true ∧ numV (Lib.trimLeftB p 48) < 0)) := by
  have h2 := trimL_all p
  rw [hd] at h2
  refine ⟨fun e => (by rw [e] at h2; cases h2), ?_⟩
  cases ho : numOk (Lib.trimLeftB p 48) with
  | false => exact .inl rfl
  | true =>
    refine .inr ⟨rfl, ?_⟩
    obtain ⟨c, r, e, _, h4, h5⟩ := num_parts ho
    unfold numV
    cases hn : negB (Lib.trimLeftB p 48) with
    | false =>
      have hm : magB (Lib.trimLeftB p 48) = Lib.trimLeftB p 48 := by unfold magB; rw [hn]; rfl
      rw [← hm, e, List.all_eq_true.2 h4] at h2
      cases h2
    | true =>
      have hm : magB (Lib.trimLeftB p 48) = (Lib.trimLeftB p 48).drop 1 := by unfold magB; rw [hn]; rfl
      have hl : 1 < (Lib.trimLeftB p 48).length := by
        have := congrArg List.length (hm.symm.trans e)
        rw [List.length_drop, List.length_cons] at this
        omega
      have hc : c.toNat ≠ 48 := fun h => h5 ⟨h, hl⟩
      have h6 := isDig_true.1 (h4 c (by simp))
      have h7 : 0 < dval 0 (c :: r) := by
        rw [dval_cons]
        have := dval_mono r (10 * 0 + (c.toNat - 48))
        omega
      rw [e, if_pos rfl]
      omega
end Go.Proofs.YtipmkkojpdjgoaaDoor
