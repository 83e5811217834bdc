/- The walks of FnExactIsName and of what it calls. No condition. -/
import Derived.Test.YtfdcpfhiknfpiaaGreatDoorNums
namespace Go.Proofs.YtfdcpfhiknfpiaaGreatDoor
open Go.RowKit
/-- The byte at k, as a number. -/
def byteAt (s : ByteArray) (k : Nat) : Int := ((s.data.toList.getD k 0).toNat : Int)
theorem byteAt_eq {s : ByteArray} {k : Nat} (h : k < s.size) : (s[k].toNat : Int) = byteAt s k := by
  unfold byteAt
  rw [List.getD_eq_getElem?_getD, List.getElem?_eq_getElem (by simpa using h)]
  rfl
theorem byteAt_bd (s : ByteArray) (k : Nat) : 0 ≤ byteAt s k ∧ byteAt s k ≤ 255 := by
  unfold byteAt
  have := UInt8.toNat_lt (s.data.toList.getD k 0)
  omega
theorem empty_of_size {s : ByteArray} (h : s.size = 0) : s = ByteArray.empty := by
  obtain ⟨⟨l⟩⟩ := s
  have : l = [] := List.eq_nil_of_length_eq_zero h
  subst this; rfl
/-- The byte at j may stand in a name. -/
def nameCh (s : ByteArray) (j : Nat) : Bool := inB (byteAt s j) 97 122 || inB (byteAt s j) 48 57
/-- s is a name. -/
def nameB (s : ByteArray) : Bool := decide (1 ≤ s.size ∧ s.size ≤ 10) && (inB (byteAt s 0) 97 122 && (List.range s.size).all (nameCh s))
theorem nameB_len {s : ByteArray} (h : ¬ (1 ≤ s.size ∧ s.size ≤ 10)) : nameB s = false := by unfold nameB; rw [decide_eq_false h]; rfl
theorem nameB_first {s : ByteArray} (h : inB (byteAt s 0) 97 122 = false) : nameB s = false := by unfold nameB; rw [h]; simp
theorem nameB_at {s : ByteArray} {j : Nat} (hj : j < s.size) (h : nameCh s j = false) : nameB s = false := by
  unfold nameB
  have : (List.range s.size).all (nameCh s) = false := by rw [List.all_eq_false]; exact ⟨j, by simpa using hj, by simp [h]⟩
  rw [this]; simp
theorem nameB_yes {s : ByteArray} (h1 : 1 ≤ s.size) (h2 : s.size ≤ 10) (h : inB (byteAt s 0) 97 122 = true) (ha : ∀ j, j < s.size → nameCh s j = true) : nameB s = true := by
  unfold nameB
  rw [decide_eq_true ⟨h1, h2⟩, h]
  simpa using ha
end Go.Proofs.YtfdcpfhiknfpiaaGreatDoor
