/- A text cut at a byte: l01Split of the reference, strings.Split at one byte. No condition beyond the stated bounds. -/
import Derived.Test.YtipmkkojpdjgoaaDoorStrs
import Derived.Test.YtipmkkojpdjgoaaDoorPlainSplit
import Derived.Test.YtipmkkojpdjgoaaDoorShelf
namespace Go.Proofs.YtipmkkojpdjgoaaDoor
open Go.RowKit Go.Joins
theorem extract_list (s : ByteArray) (a b : Nat) : (s.extract a b).data.toList = (s.data.toList.drop a).take (b - a) := by
  rw [ByteArray.data_extract, Array.toList_extract]
theorem extract_end (s : ByteArray) (a : Nat) : (s.extract a s.size).data.toList = s.data.toList.drop a := by
  rw [extract_list, List.take_of_length_le]
  rw [List.length_drop]
  exact Nat.le_refl _
theorem bytes_at {s : ByteArray} {k : Nat} (h : k < s.size) : s.data.toList[k]? = some s[k] := by
  rw [List.getElem?_eq_getElem (show k < s.data.toList.length from h)]; rfl
/-- What a call leaves that returns a new row of texts. -/
def RetStrs (w : World) (l : List (List UInt8)) (e : Ending) (w' : World) : Prop := ∃ r, e = .returned r ∧ OwnsS w' w.heap.size r l ∧ Below w.heap.size w w'
/-- What is known while a text is cut: the parts ahead of f are in pre; none from f to i is the byte. -/
def SpI (c : UInt8) (l : List UInt8) (f i : Nat) (pre : List (List UInt8)) : Prop := f ≤ i ∧ pre ++ splitC c (l.drop f) = splitC c l ∧ ∀ j, f ≤ j → j < i → l[j]? ≠ some c
theorem SpI.start (c : UInt8) (l : List UInt8) : SpI c l 0 0 [] := ⟨Nat.le_refl _, by simp, fun j h1 h2 => by omega⟩
theorem SpI.miss {c : UInt8} {l : List UInt8} {f i : Nat} {pre : List (List UInt8)} (h : SpI c l f i pre) (hc : l[i]? ≠ some c) : SpI c l f (i + 1) pre :=
  ⟨by have := h.1; omega, h.2.1, fun j h1 h2 => by
    rcases Nat.lt_or_ge j i with h3 | h3
    · exact h.2.2 j h1 h3
    · obtain rfl : j = i := by omega
      exact hc⟩
theorem SpI.hit {c : UInt8} {l : List UInt8} {f i : Nat} {pre : List (List UInt8)} (h : SpI c l f i pre) (hi : i < l.length) (hc : l[i]? = some c) : SpI c l (i + 1) (i + 1) (pre ++ [(l.drop f).take (i - f)]) :=
  ⟨Nat.le_refl _, by rw [← h.2.1, splitC_at c l f i h.1 hi h.2.2 hc, List.append_assoc]; rfl, fun j h1 h2 => by omega⟩
theorem SpI.done {c : UInt8} {l : List UInt8} {f : Nat} {pre : List (List UInt8)} (h : SpI c l f l.length pre) : pre ++ [l.drop f] = splitC c l := by
  rw [← h.2.1, splitC_end c l f h.2.2]
set_option maxHeartbeats 400000 in
theorem l01Split_any (s : ByteArray) (cv : Int) (c : UInt8) (w : World) (hcv : cv = (c.toNat : Int)) (hs : s.size ≤ 100000000) :
    Calls Tryd.prog 39 #[.string s, .int .u8 cv] w (RetStrs w (splitC c s.data.toList)) := by
  have HCV := Lib.hid hcv
  clear hcv
  have hsl : s.data.toList.length = s.size := rfl
  have HSL := Lib.hid hsl
  clear hsl
  have HO := Lib.hid (OwnsS.empty w w.heap.size (Nat.le_refl _))
  have hB0 : Below w.heap.size w (w.alloc (.cells #[] 9)) := (Below.refl _ _).alloc (Nat.le_refl _) _
  go_enter Tryd.func39, Tryd.ntmps39
  go_wp2_with fail
  go_loopw [5, 6, 7] (fun u fv iv wr => ∃ (i f : Nat) (pre : List (List UInt8)), i ≤ s.size ∧ f ≤ i ∧ pre.length ≤ i ∧ iv = .int .i64 i ∧ fv = .int .i64 f ∧ Hid (SpI c s.data.toList f i pre) ∧ Hid (OwnsS wr w.heap.size u pre) ∧ Below w.heap.size w wr) (fun _ _ iv _ => s.size - (intOf iv).toNat)
  case atStart => exact ⟨0, 0, [], Nat.zero_le _, Nat.le_refl _, Nat.le_refl _, rfl, rfl, Lib.hid (SpI.start c _), HO, hB0⟩
  case round =>
    clear HO hB0
    obtain ⟨i, f, pre, hi, hfi, hpl, rfl, rfl, HI, HO, hB⟩ := hrel
    have hfii : (f : Int) ≤ (i : Int) := by omega
    by_cases hlt : i < s.size
    · have hli : (i : Int) < (s.size : Int) := by omega
      by_cases hb : s[i] = c
      · have e1 : ((s[i].toNat : Int) == cv) = true := by rw [HCV.out, hb, beq_iff_eq]
        have HN := Lib.hid (HI.out.hit (by rw [HSL.out]; exact hlt) (by rw [bytes_at hlt, hb]))
        have HX := Lib.hid (extract_list s f i)
        clear hb
        go_wp2_with (at_builtin; refine wpList_pushS rfl _ _ rfl w.heap.size _ pre rfl HO.out _ rfl (by omega) hB.size ?_; intro v1 w1 o1 hg1 _; rw [HX.out] at o1; have hB1 := hB.grown hg1 hB.size (fun k hk => (HO.out.lt k hk).1); have HO1 := Lib.hid o1; clear o1 hg1)
        go_roundw
        case rel => exact ⟨i + 1, i + 1, _, by omega, Nat.le_refl _, by rw [List.length_append]; simp; omega, by go_num, by go_num, HN, HO1, hB1⟩
        case measure => simp [intOf] <;> omega
      · have e1 : ((s[i].toNat : Int) == cv) = false := by
          rw [HCV.out, beq_eq_false_iff_ne]
          intro h
          exact hb (UInt8.toNat_inj.1 (by omega))
        have HN := Lib.hid (HI.out.miss (by rw [bytes_at hlt]; exact fun h => hb (Option.some.inj h)))
        clear hb
        go_wp2_with fail
        go_roundw
        case rel => exact ⟨i + 1, f, pre, by omega, by omega, by omega, by go_num, rfl, HN, HO, hB⟩
        case measure => simp [intOf] <;> omega
    · obtain rfl : i = s.size := by omega
      have HN : Hid (pre ++ [s.data.toList.drop f] = splitC c s.data.toList) := Lib.hid (HI.out.done)
      have HX := Lib.hid (extract_end s f)
      go_wp2_with (at_builtin; refine wpList_pushS rfl _ _ rfl w.heap.size _ pre rfl HO.out _ rfl (by omega) hB.size ?_; intro v1 w1 o1 hg1 _; rw [HX.out, HN.out] at o1; have hB1 := hB.grown hg1 hB.size (fun k hk => (HO.out.lt k hk).1); have HO1 := Lib.hid o1; clear o1 hg1)
      go_ret
      exact ⟨_, rfl, HO1.out, hB1⟩
/-- bytealg's bound holds some number. -/
def MaxL (w : World) : Prop := ∃ m, w.cell? ⟨3, 0, none⟩ = some (.int .i64 m)
theorem MaxL.next {w w' : World} (h : MaxL w) (hb : Below w.heap.size w w') : MaxL w' := by
  obtain ⟨m, hc⟩ := h
  exact ⟨m, (hb.cell (p := ⟨3, 0, none⟩) (cell_lt hc)).trans hc⟩
theorem split_any (s : ByteArray) (c : UInt8) (w : World) (hm : MaxL w) (hs : s.size ≤ 100000000) :
    Calls Tryd.prog 41 #[.string s, .string ⟨#[c]⟩] w (RetStrs w (splitC c s.data.toList)) := by
  obtain ⟨m, hm⟩ := hm
  refine (Tryd.strings_Split s ⟨#[c]⟩ m w (by omega) hm (Nat.le_refl _)).mono ?_
  rintro e w' ⟨rfl, rfl⟩
  have e1 : Lib.splitB ⟨#[c]⟩ 0 (Lib.countB s ⟨#[c]⟩) s = (splitC c s.data.toList).map str := by
    have h := Lib.splitB_data ⟨#[c]⟩ 0 (Lib.countB s ⟨#[c]⟩) s
    have h2 : Lib.splitK [c] 0 (Lib.countB s ⟨#[c]⟩) s.data.toList = splitC c s.data.toList := splitK_C c s.data.toList
    rw [show ((⟨#[c]⟩ : ByteArray).data.toList) = [c] from rfl, h2] at h
    rw [← h, List.map_map]
    exact (List.map_id'' (fun a => rfl) _).symm
  have e2 : Lib.countB s ⟨#[c]⟩ + 1 = (splitC c s.data.toList).length := by
    have h := Lib.splitB_all ⟨#[c]⟩ (Nat.le_refl _) 0 (Lib.countB s ⟨#[c]⟩) s rfl
    rw [e1, List.length_map] at h
    exact h.symm
  refine ⟨_, rfl, ?_, (Below.refl _ _).alloc (Nat.le_refl _) _⟩
  rw [e1, e2]
  have hl : (splitC c s.data.toList).length ≤ 100000001 := by have := splitC_len c s.data.toList; have : s.data.toList.length = s.size := rfl; omega
  have h := World.ownsRow_lit (e := 9) (size := 1) w (((splitC c s.data.toList).map str).map Value.string).toArray (splitC c s.data.toList).length (Nat.le_refl w.heap.size) (by unfold maxLen; omega) (by simp)
  unfold OwnsS
  rw [show (strV : List UInt8 → Value) = fun x => Value.string (str x) from rfl]
  simpa [Function.comp_def] using h
end Go.Proofs.YtipmkkojpdjgoaaDoor
