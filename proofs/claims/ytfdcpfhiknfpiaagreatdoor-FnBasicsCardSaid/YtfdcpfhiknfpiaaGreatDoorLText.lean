/- ListText of the reference and of the program: the numerals of a list between commas. Where the table of powers is laid. -/
import Derived.Test.YtfdcpfhiknfpiaaGreatDoorStrs
import Derived.Test.YtfdcpfhiknfpiaaGreatDoorPlainSplit
namespace Go.Proofs.YtfdcpfhiknfpiaaGreatDoor
open Go.RowKit
/-- Has a list a text? -/
def fitsB (l : List Int) : Bool := allIn l (-1000000000000) 1000000000000 && decide (l.length ≤ 64)
/-- Numerals between commas. -/
def joinI (l : List Int) : List UInt8 := Lib.join (l.map Lib.itoa) [44]
def listTxt (l : List Int) : List UInt8 := if l.length = 0 then [45] else joinI l
/-- What ListText answers. -/
def ltxt (l : List Int) : List UInt8 := if fitsB l then listTxt l else []
theorem fitsB_no {l : List Int} {k : Nat} (hk : k < l.length) (h : inB (geti l k) (-1000000000000) 1000000000000 = false) : fitsB l = false := by
  unfold fitsB; rw [allIn_no hk h]; rfl
theorem fitsB_yes {l : List Int} (h : ∀ k, k < l.length → inB (geti l k) (-1000000000000) 1000000000000 = true) : fitsB l = decide (l.length ≤ 64) := by
  unfold fitsB; rw [allIn_yes h]; rfl
theorem join_snoc (xs : List (List UInt8)) (x : List UInt8) (h : xs ≠ []) : Lib.join (xs ++ [x]) [44] = Lib.join xs [44] ++ [44] ++ x := by
  unfold Lib.join
  induction xs with
  | nil => exact absurd rfl h
  | cons a t ih =>
    cases t with
    | nil => simp [List.intercalate, List.intersperse]
    | cons b t =>
      have := ih (by simp)
      simp only [List.intercalate, List.cons_append, List.intersperse_cons_cons, List.flatten_cons, List.append_assoc] at this ⊢
      rw [this]
theorem joinI_snoc {l : List Int} {k : Nat} (hk : k < l.length) (h0 : 0 < k) : joinI (l.take (k + 1)) = joinI (l.take k) ++ [44] ++ Lib.itoa (geti l k) := by
  unfold joinI
  rw [take_snoc hk, List.map_append, List.map_cons, List.map_nil, join_snoc]
  intro e
  have := congrArg List.length e
  rw [List.length_map, List.length_take, List.length_nil] at this
  omega
theorem joinI_one {l : List Int} (hk : 0 < l.length) : joinI (l.take 1) = Lib.itoa (geti l 0) := by
  rw [show (1 : Nat) = 0 + 1 from rfl, take_snoc hk]
  simp [joinI, Lib.join, List.intercalate, List.intersperse]
theorem itoa_len {n : Int} (h0 : -9223372036854775808 ≤ n) (h1 : n ≤ 9223372036854775807) : (Lib.itoa n).length ≤ 21 := by
  by_cases hz : n = 0
  · subst hz
    unfold Lib.itoa; rw [if_neg (by decide), show (0 : Int).toNat = 0 from rfl, decDigits_one 0 (by decide)]; simp
  · rw [itoa_decR hz, List.length_reverse]; exact decR_len h0 h1
theorem joinI_len {l : List Int} (hf : Fit l) : ∀ k, k ≤ l.length → (joinI (l.take k)).length ≤ 22 * k := by
  intro k
  induction k with
  | zero => intro _; simp [joinI, Lib.join, List.intercalate, List.intersperse]
  | succ k ih =>
    intro hk
    have h1 := ih (by omega)
    have hb := hf _ (geti_mem (show k < l.length by omega))
    have h2 := itoa_len hb.1 hb.2
    by_cases h0 : 0 < k
    · rw [joinI_snoc (by omega) h0, List.length_append, List.length_append]; simp; omega
    · obtain rfl : k = 0 := by omega
      rw [joinI_one (by omega)]; omega
end Go.Proofs.YtfdcpfhiknfpiaaGreatDoor
