/- FnBasics in plain terms: numbers and lists are read back from their texts, a check value goes on from part to part, powers of primes. No program here; no condition beyond the stated bounds. -/
import Derived.Test.YtfdcpfhiknfpiaaGreatDoorRListP
import Derived.Test.YtfdcpfhiknfpiaaGreatDoorPlainLists
import Derived.Test.YtfdcpfhiknfpiaaGreatDoorPlainSort
import Derived.Test.YtfdcpfhiknfpiaaGreatDoorWCrc
import Derived.Test.YtfdcpfhiknfpiaaGreatDoorWNum
namespace Go.Proofs.YtfdcpfhiknfpiaaGreatDoor
open Go.RowKit
theorem itoa_bytes (v : Int) : ∀ b ∈ Lib.itoa v, b = 45 ∨ isDig b = true := by
  intro b hb
  unfold Lib.itoa at hb
  split at hb
  · rcases List.mem_cons.1 hb with h | h
    · exact .inl h
    · exact .inr ((dec_facts _).2.1 b h)
  · exact .inr ((dec_facts _).2.1 b hb)
theorem itoa_comma (v : Int) : ∀ b ∈ Lib.itoa v, b ≠ 44 := by
  intro b hb e
  subst e
  rcases itoa_bytes v _ hb with h | h
  · exact absurd h (by decide)
  · exact absurd h (by decide)
theorem dec_len {u k : Nat} (hk : 1 ≤ k) (h : u < 10 ^ k) : (Lib.decDigits u).length ≤ k := by
  by_cases h0 : u = 0
  · subst h0; rw [decDigits_one 0 (by omega)]; simpa using hk
  · rw [decDigits_digs u h0, List.length_reverse]; exact digs_len u k h
theorem ten18 : (10 : Nat) ^ 18 = 1000000000000000000 := by decide
theorem mag_itoa {v : Int} (h0 : -1000000000000000000 < v) (h1 : v < 1000000000000000000) : (magB (Lib.itoa v)).length ≤ 18 := by
  unfold Lib.itoa
  split
  · have e : magB (45 :: Lib.decDigits v.natAbs) = Lib.decDigits v.natAbs := rfl
    rw [e]; exact dec_len (by omega) (by rw [ten18]; omega)
  · exact Nat.le_trans (mag_len _) (dec_len (by omega) (by rw [ten18]; omega))
/-- A number is read back from its text. -/
theorem num_back {v : Int} (h0 : -1000000000000000000 < v) (h1 : v < 1000000000000000000) : numOk (Lib.itoa v) = true ∧ numR (Lib.itoa v) = v := by
  obtain ⟨a, b⟩ := num_itoa v (mag_itoa h0 h1)
  exact ⟨a, by rw [numR_yes a, b]⟩
theorem splitC_join (c : UInt8) : ∀ xs : List (List UInt8), xs ≠ [] → (∀ x ∈ xs, ∀ b ∈ x, b ≠ c) → splitC c (Lib.join xs [c]) = xs
  | [], h, _ => absurd rfl h
  | [x], _, h => by
    have e : Lib.join [x] [c] = x := by simp [Lib.join, List.intercalate]
    rw [e]; exact splitC_all c x (h x (by simp))
  | x :: y :: l, _, h => by
    have ih := splitC_join c (y :: l) (by simp) (fun z hz => h z (by simp only [List.mem_cons] at hz ⊢; exact .inr hz))
    have e : Lib.join (x :: y :: l) [c] = x ++ c :: Lib.join (y :: l) [c] := by
      unfold Lib.join; rw [List.intercalate_cons_cons]; simp
    rw [e, splitC_step c x _ (h x (by simp)), ih]
theorem splitC_joinI {l : List Int} (h : l ≠ []) : splitC 44 (joinI l) = l.map Lib.itoa :=
  splitC_join 44 _ (by simpa using h) (by rintro x hx b hb; obtain ⟨v, _, rfl⟩ := List.mem_map.1 hx; exact itoa_comma v b hb)
theorem str_list (l : List UInt8) : (str l).toList = l := by rw [ByteArray.toList_eq]; rfl
/-- A list is read back from its text. -/
theorem list_back {l : List Int} (hf : fitsB l = true) : readL (str (ltxt l)) = (l, true) := by
  have e1 : ltxt l = listTxt l := by unfold ltxt; rw [if_pos hf]
  rw [e1]
  by_cases h0 : l = []
  · subst h0
    exact readL_dash (by rw [str_list]; rfl)
  · have hl : ¬ l.length = 0 := fun e => h0 (List.eq_nil_of_length_eq_zero e)
    have e2 : listTxt l = joinI l := by unfold listTxt; rw [if_neg hl]
    rw [e2]
    unfold fitsB allIn at hf
    rw [Bool.and_eq_true, List.all_eq_true, decide_eq_true_eq] at hf
    have hb := fun v (hv : v ∈ l) => inB_true.1 (hf.1 v hv)
    have hnum := fun v (hv : v ∈ l) => num_itoa v (mag_itoa (by have := hb v hv; omega) (by have := hb v hv; omega))
    have hs := splitC_joinI h0
    have hp : partsB (splitC 44 (joinI l)) = true := by
      rw [hs]
      unfold partsB
      rw [List.length_map, Bool.and_eq_true, decide_eq_true_eq, List.all_eq_true]
      refine ⟨hf.2, fun x hx => ?_⟩
      obtain ⟨v, hv, rfl⟩ := List.mem_map.1 hx
      unfold partB
      rw [(hnum v hv).1, (hnum v hv).2, inB_true.2 (hb v hv)]; rfl
    have hd : ((str (joinI l)).toList == [45]) = false := by
      rw [str_list, beq_eq_false_iff_ne]
      intro e
      rw [e] at hp
      exact absurd hp (by decide)
    rw [readL_yes hd hp]
    show ((splitC 44 (joinI l)).map numV, true) = (l, true)
    rw [hs, List.map_map]
    congr 1
    conv => rhs; rw [← List.map_id l]
    exact List.map_congr_left (fun v hv => (hnum v hv).2)
theorem crcL_app (a b : List UInt8) (c : Int) : crcL (a ++ b) c = crcL b (crcL a c) := by unfold crcL; rw [List.foldl_append]
theorem expo_pow {d : Int} (hd : 2 ≤ d) : ∀ e : Nat, 1 ≤ d ^ e ∧ expo (d ^ e).toNat (d ^ e) d = e := by
  intro e
  induction e with
  | zero => exact ⟨by simp, by rw [Int.pow_zero]; exact expo_stop (by omega) (by rw [Int.emod_eq_of_lt (by omega) (by omega)]; omega)⟩
  | succ e ih =>
    have hm : d ^ (e + 1) % d = 0 := by rw [Int.pow_succ]; exact Int.mul_emod_left _ _
    have hq : d ^ (e + 1) / d = d ^ e := by rw [Int.pow_succ]; exact Int.mul_ediv_cancel _ (by omega)
    have h1 : 1 ≤ d ^ (e + 1) := by
      rw [Int.pow_succ]
      have := Int.mul_le_mul_of_nonneg_left (show 1 ≤ d by omega) (show 0 ≤ d ^ e by omega)
      omega
    refine ⟨h1, ?_⟩
    rw [expo_step hd h1 hm, hq, ih.2]
theorem primes12 : ∀ k, k < 12 → primeB (primeK k : Int) = true ∧ 2 ≤ primeK k ∧ primeK k ≤ 37 := by decide +kernel
theorem powers12 : ∀ k, k < 12 → ∀ e, e < 8 → powR (primeK k : Int) e = ((primeK k : Int) ^ e, 0) ∧ (primeK k : Int) ^ e ≤ 1000000000000 := by decide +kernel
/-- Powers of the first twelve primes. -/
theorem basics_pow {k e : Nat} (hk : k < 12) (he : e < 8) : pwOf (primeK k : Int) (e : Int) = ((primeK k : Int) ^ e, 0) ∧ exOf ((primeK k : Int) ^ e) (primeK k : Int) = ((e : Int), 0) ∧ 0 ≤ (primeK k : Int) ^ e ∧ (primeK k : Int) ^ e ≤ 1000000000000 := by
  obtain ⟨_, h2, h3⟩ := primes12 k hk
  obtain ⟨p1, p2⟩ := powers12 k hk e he
  obtain ⟨q1, q2⟩ := expo_pow (show (2 : Int) ≤ (primeK k : Int) by omega) e
  refine ⟨?_, ?_, by omega, p2⟩
  · unfold pwOf
    rw [inB_true.2 (by omega), inB_true.2 (by omega), Int.toNat_natCast]
    exact p1
  · unfold exOf
    rw [inB_true.2 ⟨q1, p2⟩, inB_true.2 (by omega), q2]
    rfl
end Go.Proofs.YtfdcpfhiknfpiaaGreatDoor
