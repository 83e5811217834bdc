/- The walk of FnExactSplitWords: it returns true. Where bytealg's bound holds some number. -/
import Derived.Test.YtipmkkojpdjgoaaDoorSplitW
import Derived.Test.YtipmkkojpdjgoaaDoorSMark
import Derived.Shelf.Vars
namespace Go.Proofs.YtipmkkojpdjgoaaDoor
open Go.RowKit
theorem wordsL_len (s : ByteArray) : (wordsL s.data.toList).length ≤ s.size + 1 := by
  unfold wordsL
  have h1 := List.length_filter_le (fun x : List UInt8 => !x.isEmpty) (splitC 32 s.data.toList)
  have h2 := splitC_len 32 s.data.toList
  have : s.data.toList.length = s.size := rfl
  omega
set_option maxHeartbeats 1000000 in
theorem walkSplitWords (s : ByteArray) (w : World) (hp : MaxL w) (_hs : s.size ≤ maxLen) :
    Calls Tryd.prog 4 #[.string s] w fun e w' => e = .returned (.bool true) ∧ Below w.heap.size w w' := by
  by_cases hg : (1048576 : Int) < (s.size : Int)
  · go_enter Tryd.func4, Tryd.ntmps4
    go_wp2
    go_ret
    exact ⟨rfl, Below.refl _ _⟩
  have hs : s.size ≤ 100000000 := by omega
  have HPE := Lib.hid hp
  clear hp
  obtain ⟨L, hL⟩ : ∃ L, wordsL s.data.toList = L := ⟨_, rfl⟩
  have hLn : L.length ≤ 1048577 := by rw [← hL]; have := wordsL_len s; omega
  have HL := Lib.hid hL
  clear hL
  go_enter Tryd.func4, Tryd.ntmps4
  go_wp2_with fail
  refine (specSplitWords_any s _ hs).mono ?_
  rintro e w1 ⟨r1, rfl, o1, hb1⟩
  rw [HL.out] at o1
  go_wp2_with fail
  refine (implSplitWords_any s _ (HPE.out.next hb1) hs).mono ?_
  rintro e w2 ⟨r2, rfl, o2, hb2⟩
  rw [HL.out] at o2
  have hB2 := below_next hb1 hb2
  have lt1 := fun k hk => (o1.lt k hk).2
  replace o1 := o1.next hb2
  go_wp2_with fail
  refine (eqStringS_same _ _ L _ o2.sl o1.sl).mono ?_
  rintro e w3 ⟨rfl, hb3⟩
  have hB3 := below_next hB2 hb3
  have lt2 := fun k hk => (o2.lt k hk).2
  replace o1 := o1.next hb3
  replace o2 := o2.next hb3
  go_wp2_with fail
  refine (markStringS_any _ L _ 1 _ o2 (by have := hb2.size; have := hb3.size; omega) (by omega) (by omega) (by omega)).mono ?_
  rintro e w4 ⟨rfl, o2m, hg4⟩
  replace o1 := o1.kept hg4 (by
    cases e1 : r1.ownBlock with
    | none => exact .inl rfl
    | some k =>
      right
      intro e2
      have h1 := lt1 k e1
      have h2 := (o2.lt k e2.symm).1
      omega)
  have hB4 := hB3.grown hg4 hB3.size (fun k hk => by have h2 := (o2.lt k hk).1; have := hb1.size; omega)
  have hz4 := hg4.size
  clear o2
  go_wp2_with fail
  refine (heldStringS_any _ L.length 1 _ o2m.sl (by omega) (by omega) (by omega)).mono ?_
  rintro e w5 ⟨rfl, hb5⟩
  have hB5 := below_next hB4 hb5
  replace o1 := o1.next hb5
  replace o2m := o2m.next hb5
  go_wp2_with fail
  refine (implSplitWords_any s _ (HPE.out.next hB5) hs).mono ?_
  rintro e w6 ⟨r6, rfl, o6, hb6⟩
  rw [HL.out] at o6
  have hB6 := below_next hB5 hb6
  replace o1 := o1.next hb6
  replace o2m := o2m.next hb6
  go_wp2_with fail
  refine (eqStringS_same _ _ L _ o6.sl o1.sl).mono ?_
  rintro e w7 ⟨rfl, hb7⟩
  have hB7 := below_next hB6 hb7
  replace o2m := o2m.next hb7
  go_wp2_with fail
  refine (heldStringS_any _ L.length 1 _ o2m.sl (by omega) (by omega) (by omega)).mono ?_
  rintro e w8 ⟨rfl, hb8⟩
  have hB8 := below_next hB7 hb8
  go_wp2_with fail
  go_ret
  exact ⟨rfl, hB8⟩
theorem maxL_of {W : World} (h : W.ShapedOpen Tryd.prog) : MaxL W :=
  cell_of_shapedOpen_int (g := 3) (t := 3) (k := .i64) (zero := #[.int .i64 0]) h (of_decide_eq_true (by kernel_rfl)) (by kernel_rfl) rfl (by kernel_rfl) (by kernel_rfl) Tryd.underlying3
theorem envSplitWords {W : World} (_h : laidMet Tryd.prog Rows.fnExactSplitWordsRow.laid W) (hs : W.ShapedOpen Tryd.prog) : MaxL W := maxL_of hs
end Go.Proofs.YtipmkkojpdjgoaaDoor
