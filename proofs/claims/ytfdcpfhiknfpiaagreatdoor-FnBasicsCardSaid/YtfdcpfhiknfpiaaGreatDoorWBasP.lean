/- FnBasics: what its walk needs beside the contracts: the lists that it makes, and what the contracts say of them. No condition beyond the stated bounds. -/
import Derived.Test.YtfdcpfhiknfpiaaGreatDoorPlainBasics
import Derived.Test.YtfdcpfhiknfpiaaGreatDoorWBas
import Derived.Test.YtfdcpfhiknfpiaaGreatDoorSortP
import Derived.Test.YtfdcpfhiknfpiaaGreatDoorLists
namespace Go.Proofs.YtfdcpfhiknfpiaaGreatDoor
open Go.RowKit
theorem below_nil1 (w : World) : Below w.heap.size w (w.alloc (.cells #[] 2)) := (Below.refl _ _).alloc (Nat.le_refl _) _
def b256 : Nat → Int
  | 0 => 1
  | k + 1 => 256 * b256 k
theorem b256_le : ∀ k, k < 7 → 1 ≤ b256 k ∧ b256 k ≤ 281474976710656 := by decide
/-- A list that the statement makes. -/
structure Bas (l : List Int) (k : Nat) : Prop where
  len : l.length = k
  bd : ∀ z ∈ l, -50 ≤ z ∧ z ≤ 49
theorem Bas.nil_ : Bas [] 0 := ⟨rfl, fun z hz => by cases hz⟩
theorem Bas.push {l : List Int} {k : Nat} {r : Int} (h : Bas l k) (hr : R8 100 r) : Bas (l ++ [r - 50]) (k + 1) := by
  refine ⟨by rw [List.length_append, h.len]; rfl, fun z hz => ?_⟩
  have := hr.1
  have := hr.2
  rcases List.mem_append.1 hz with hz | hz
  · exact h.bd z hz
  · rw [List.mem_singleton.1 hz]; omega
theorem Bas.fit {l : List Int} {k : Nat} (h : Bas l k) : Fit l := fun z hz => by have := h.bd z hz; omega
theorem Bas.fits {l : List Int} {k : Nat} (h : Bas l k) (hk : k ≤ 6) : fitsB l = true := by
  unfold fitsB allIn
  rw [Bool.and_eq_true, List.all_eq_true, decide_eq_true_eq]
  exact ⟨fun z hz => inB_true.2 (by have := h.bd z hz; omega), by have := h.len; omega⟩
theorem Bas.text {l : List Int} {k : Nat} (h : Bas l k) (hk : k ≤ 6) : (ltxt l).length ≤ 132 := by
  have e1 : ltxt l = listTxt l := by unfold ltxt; rw [if_pos (h.fits hk)]
  rw [e1]
  unfold listTxt
  split
  · simp
  · have := joinI_len h.fit l.length (Nat.le_refl _)
    rw [List.take_length] at this
    have := h.len
    omega
theorem b256_step {k : Nat} {x r : Int} (hk : k < 6) (h : 0 ≤ x ∧ x < b256 k) (hr : R8 256 r) : 0 ≤ 256 * x ∧ 256 * x ≤ 281474976710656 ∧ 0 ≤ 256 * x + r ∧ 256 * x + r < b256 (k + 1) ∧ 256 * x + r ≤ 281474976710656 := by
  have h1 := b256_le k (by omega)
  have h2 := b256_le (k + 1) (by omega)
  have h3 : b256 (k + 1) = 256 * b256 k := rfl
  have := hr.1
  have := hr.2
  omega
theorem implCompareLists_any (a b : List Int) (w : World) (v1 v2 : Value) (h1 : Sl w v1 a) (h2 : Sl w v2 b) :
    Calls Tryz.prog 11 #[v1, v2] w fun e w' => e = .returned (.int .i64 (cmpL a b)) ∧ w = w' := by
  have hd := cmpL_bd a b
  have hlo : -1 ≤ cmpL a b := by omega
  have hhi : cmpL a b ≤ 1 := by omega
  clear hd
  go_enter Tryz.func11, Tryz.ntmps11
  go_wp2_with (go_at_call 24; refine (slicesCompare_any _ _ _ _ _ h1 h2).mono ?_; rintro e w' ⟨rfl, rfl⟩)
  go_ret
  exact ⟨rfl, rfl⟩
theorem sum_str (l : List UInt8) (r : Nat) : ((str l).extract r (str l).size).data.toList = l.drop r := by rw [extract_end]; rfl
theorem cut_str (l : List UInt8) (r : Nat) : ((str l).extract 0 r).data.toList = l.take r := by rw [extract_list]; simp; rfl
theorem crc_cut (l : List UInt8) (r : Nat) (c : Int) : crcL (l.drop r) (crcL (l.take r) c) = crcL l c := by rw [← crcL_app, List.take_append_drop]
end Go.Proofs.YtfdcpfhiknfpiaaGreatDoor
