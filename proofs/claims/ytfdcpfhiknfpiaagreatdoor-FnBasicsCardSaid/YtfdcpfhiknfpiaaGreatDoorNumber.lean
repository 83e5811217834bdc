/- l01Number of the reference: a numeral of at most 18 digits, read. No condition beyond the stated bounds. -/
import Derived.Test.YtfdcpfhiknfpiaaGreatDoorNums
import Derived.Test.YtfdcpfhiknfpiaaGreatDoorPlainDec
namespace Go.Proofs.YtfdcpfhiknfpiaaGreatDoor
open Go.RowKit
theorem byte_at {s : ByteArray} {k : Nat} (h : k < s.size) : s.data.toList[k]? = some s[k] := by
  rw [List.getElem?_eq_getElem (show k < s.data.toList.length from h)]; rfl
theorem numOk_of {l m : List UInt8} (e : magB l = m) : numOk l = (!m.isEmpty && decide (m.length ≤ 18) && !((m.head?.map (·.toNat)) == some 48 && decide (1 < l.length)) && m.all isDig) := by unfold numOk; rw [e]
theorem numOk_nil {l m : List UInt8} (e : magB l = m) (h : m = []) : numOk l = false := by rw [numOk_of e, h]; rfl
theorem numOk_long {l m : List UInt8} (e : magB l = m) (h : ¬ m.length ≤ 18) : numOk l = false := by rw [numOk_of e, decide_eq_false h]; simp
theorem numOk_zero {l m : List UInt8} (e : magB l = m) {c : UInt8} (h : m.head? = some c) (hc : c.toNat = 48) (h1 : 1 < l.length) : numOk l = false := by rw [numOk_of e, h]; simp [hc, h1]
theorem numOk_bad {l m : List UInt8} (e : magB l = m) {c : UInt8} (h : c ∈ m) (hc : isDig c = false) : numOk l = false := by
  rw [numOk_of e]
  have : m.all isDig = false := by rw [List.all_eq_false]; exact ⟨c, h, by simp [hc]⟩
  rw [this]; simp
theorem numOk_yes {l m : List UInt8} (e : magB l = m) {c : UInt8} (h : m.head? = some c) (h18 : m.length ≤ 18) (h0 : ¬ (c.toNat = 48 ∧ 1 < l.length)) (hd : ∀ x ∈ m, isDig x = true) : numOk l = true := by
  rw [numOk_of e, h, decide_eq_true h18, List.all_eq_true.2 hd]
  cases m with
  | nil => cases h
  | cons a r =>
    simp only [List.isEmpty_cons, Bool.not_false, Bool.true_and, Bool.and_true, Option.map_some, Bool.not_eq_true']
    rw [Bool.and_eq_false_iff]
    by_cases hc : c.toNat = 48
    · right; exact decide_eq_false (fun h => h0 ⟨hc, h⟩)
    · left; simp [hc]
theorem isDig_inB (c : UInt8) : inB (c.toNat : Int) 48 57 = isDig c := by
  cases h : isDig c with
  | true => have := isDig_true.1 h; exact inB_true.2 (by omega)
  | false => have := isDig_false.1 h; exact inB_false.2 (by omega)
/-- What l01Number answers. -/
def numR (l : List UInt8) : Int := if numOk l then numV l else 0
theorem numR_no {l : List UInt8} (h : numOk l = false) : numR l = 0 := by unfold numR; rw [h]; rfl
theorem numR_yes {l : List UInt8} (h : numOk l = true) : numR l = numV l := by unfold numR; rw [h]; rfl
theorem dval_bd {m : List UInt8} {k : Nat} (hk : k ≤ 18) (h : m.length = k) (hd : ∀ c ∈ m, isDig c = true) : dval 0 m < 10 ^ 18 := by
  have := dval_lt m 0 0 (by simp) hd
  exact Nat.lt_of_lt_of_le this (Nat.pow_le_pow_right (by decide) (by omega))
/-- What has been read of the digits. -/
def NumI (m : List UInt8) (j : Nat) (n : Int) : Prop := n = (dval 0 (m.take j) : Int) ∧ ∀ x ∈ m.take j, isDig x = true
theorem NumI.start (m : List UInt8) : NumI m 0 0 := ⟨rfl, fun x hx => by simp at hx⟩
theorem NumI.step {m : List UInt8} {j : Nat} {n : Int} (h : NumI m j n) (hj : j < m.length) (hd : isDig m[j] = true) : NumI m (j + 1) (10 * n + ((m[j].toNat : Int) - 48)) := by
  have h2 := isDig_true.1 hd
  obtain ⟨h1, h3⟩ := h
  rw [NumI, List.take_succ_eq_append_getElem hj, dval_snoc]
  refine ⟨by rw [h1]; omega, fun x hx => ?_⟩
  rcases List.mem_append.1 hx with hx | hx
  · exact h3 x hx
  · rw [List.mem_singleton.1 hx]; exact hd
theorem NumI.bd {m : List UInt8} {j : Nat} {n : Int} (h : NumI m j n) (hm : m.length ≤ 18) (hj : j < m.length) : 0 ≤ n ∧ n < 100000000000000000 := by
  have h1 := dval_lt (m.take j) 0 0 (by simp) h.2
  have h2 : (m.take j).length = j := by rw [List.length_take]; omega
  have h3 : (10 : Nat) ^ (0 + (m.take j).length) ≤ 10 ^ 17 := Nat.pow_le_pow_right (by decide) (by omega)
  have h4 : (10 : Nat) ^ 17 = 100000000000000000 := by decide
  rw [h.1]; omega
theorem NumI.bd' {m : List UInt8} {n : Int} (h : NumI m m.length n) (hm : m.length ≤ 18) : 0 ≤ n ∧ n < 1000000000000000000 := by
  have h1 := dval_lt (m.take m.length) 0 0 (by simp) h.2
  have h2 : (m.take m.length).length = m.length := by rw [List.take_length]
  have h3 : (10 : Nat) ^ (0 + (m.take m.length).length) ≤ 10 ^ 18 := Nat.pow_le_pow_right (by decide) (by omega)
  have h4 : (10 : Nat) ^ 18 = 1000000000000000000 := by decide
  rw [h.1]; omega
theorem ret_num {a b : Int} {x y : Bool} (h : a = b) (h2 : x = y) : Ending.returned (.tuple #[.int .i64 a, .bool x]) = .returned (.tuple #[.int .i64 b, .bool y]) := by rw [h, h2]
end Go.Proofs.YtfdcpfhiknfpiaaGreatDoor
