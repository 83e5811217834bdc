/- A text cut at a byte: l01Split of the reference, strings.Split at one byte. No condition beyond the stated bounds. -/
import Derived.Test.YtfdcpfhiknfpiaaGreatDoorStrs
import Derived.Test.YtfdcpfhiknfpiaaGreatDoorPlainSplit
import Derived.Test.YtfdcpfhiknfpiaaGreatDoorShelf
namespace Go.Proofs.YtfdcpfhiknfpiaaGreatDoor
open Go.RowKit Go.Joins
theorem extract_list (s : ByteArray) (a b : Nat) : (s.extract a b).data.toList = (s.data.toList.drop a).take (b - a) := by
  rw [ByteArray.data_extract, Array.toList_extract]
theorem extract_end (s : ByteArray) (a : Nat) : (s.extract a s.size).data.toList = s.data.toList.drop a := by
  rw [extract_list, List.take_of_length_le]
  rw [List.length_drop]
  exact Nat.le_refl _
theorem bytes_at {s : ByteArray} {k : Nat} (h : k < s.size) : s.data.toList[k]? = some s[k] := by
  rw [List.getElem?_eq_getElem (show k < s.data.toList.length from h)]; rfl
/-- What a call leaves that returns a new row of texts. -/
def RetStrs (w : World) (l : List (List UInt8)) (e : Ending) (w' : World) : Prop := ∃ r, e = .returned r ∧ OwnsS w' w.heap.size r l ∧ Below w.heap.size w w'
/-- What is known while a text is cut: the parts ahead of f are in pre; none from f to i is the byte. -/
def SpI (c : UInt8) (l : List UInt8) (f i : Nat) (pre : List (List UInt8)) : Prop := f ≤ i ∧ pre ++ splitC c (l.drop f) = splitC c l ∧ ∀ j, f ≤ j → j < i → l[j]? ≠ some c
theorem SpI.start (c : UInt8) (l : List UInt8) : SpI c l 0 0 [] := ⟨Nat.le_refl _, by simp, fun j h1 h2 => by omega⟩
theorem SpI.miss {c : UInt8} {l : List UInt8} {f i : Nat} {pre : List (List UInt8)} (h : SpI c l f i pre) (hc : l[i]? ≠ some c) : SpI c l f (i + 1) pre :=
  ⟨by have := h.1; omega, h.2.1, fun j h1 h2 => by
    rcases Nat.lt_or_ge j i with h3 | h3
    · exact h.2.2 j h1 h3
    · obtain rfl : j = i := by omega
      exact hc⟩
theorem SpI.hit {c : UInt8} {l : List UInt8} {f i : Nat} {pre : List (List UInt8)} (h : SpI c l f i pre) (hi : i < l.length) (hc : l[i]? = some c) : SpI c l (i + 1) (i + 1) (pre ++ [(l.drop f).take (i - f)]) :=
  ⟨Nat.le_refl _, by rw [← h.2.1, splitC_at c l f i h.1 hi h.2.2 hc, List.append_assoc]; rfl, fun j h1 h2 => by omega⟩
theorem SpI.done {c : UInt8} {l : List UInt8} {f : Nat} {pre : List (List UInt8)} (h : SpI c l f l.length pre) : pre ++ [l.drop f] = splitC c l := by
  rw [← h.2.1, splitC_end c l f h.2.2]
/-- bytealg's bound holds some number. -/
def MaxL (w : World) : Prop := ∃ m, w.cell? ⟨5, 0, none⟩ = some (.int .i64 m)
theorem MaxL.next {w w' : World} (h : MaxL w) (hb : Below w.heap.size w w') : MaxL w' := by
  obtain ⟨m, hc⟩ := h
  exact ⟨m, (hb.cell (p := ⟨5, 0, none⟩) (cell_lt hc)).trans hc⟩
theorem split_any (s : ByteArray) (c : UInt8) (w : World) (hm : MaxL w) (hs : s.size ≤ 100000000) :
    Calls Tryz.prog 35 #[.string s, .string ⟨#[c]⟩] w (RetStrs w (splitC c s.data.toList)) := by
  obtain ⟨m, hm⟩ := hm
  refine (Tryz.strings_Split s ⟨#[c]⟩ m w (by omega) hm (Nat.le_refl _)).mono ?_
  rintro e w' ⟨rfl, rfl⟩
  have e1 : Lib.splitB ⟨#[c]⟩ 0 (Lib.countB s ⟨#[c]⟩) s = (splitC c s.data.toList).map str := by
    have h := Lib.splitB_data ⟨#[c]⟩ 0 (Lib.countB s ⟨#[c]⟩) s
    have h2 : Lib.splitK [c] 0 (Lib.countB s ⟨#[c]⟩) s.data.toList = splitC c s.data.toList := splitK_C c s.data.toList
    rw [show ((⟨#[c]⟩ : ByteArray).data.toList) = [c] from rfl, h2] at h
    rw [← h, List.map_map]
    exact (List.map_id'' (fun a => rfl) _).symm
  have e2 : Lib.countB s ⟨#[c]⟩ + 1 = (splitC c s.data.toList).length := by
    have h := Lib.splitB_all ⟨#[c]⟩ (Nat.le_refl _) 0 (Lib.countB s ⟨#[c]⟩) s rfl
    rw [e1, List.length_map] at h
    exact h.symm
  refine ⟨_, rfl, ?_, (Below.refl _ _).alloc (Nat.le_refl _) _⟩
  rw [e1, e2]
  have hl : (splitC c s.data.toList).length ≤ 100000001 := by have := splitC_len c s.data.toList; have : s.data.toList.length = s.size := rfl; omega
  have h := World.ownsRow_lit (e := 9) (size := 1) w (((splitC c s.data.toList).map str).map Value.string).toArray (splitC c s.data.toList).length (Nat.le_refl w.heap.size) (by unfold maxLen; omega) (by simp)
  unfold OwnsS
  rw [show (strV : List UInt8 → Value) = fun x => Value.string (str x) from rfl]
  simpa [Function.comp_def] using h
end Go.Proofs.YtfdcpfhiknfpiaaGreatDoor
