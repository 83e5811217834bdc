/- The walk of FnExactIsPrefixCode: it returns true. No condition. -/
import Derived.Test.YtanjpkcacgjgfaaCode
namespace Go.Proofs.Ytanjpkcacgjgfaa
open Go.RowKit
set_option maxHeartbeats 1000000 in
theorem walkIsPrefixCode (v_0 : Value) (ls0 : List (List Int)) (w : World) (h0 : SlL w v_0 ls0 ∧ ∀ l ∈ ls0, Fit l) :
    Calls Try.prog 11 #[v_0] w fun e w' => e = .returned (.bool true) ∧ Below w.heap.size w w' := by
  have hS0 := Lib.hid h0.1
  have hF0 := Lib.hid h0.2
  clear h0
  go_enter Try.func11, Try.ntmps11
  go_wp2_with fail
  refine (szInt64SS_any _ _ _ hS0.out).mono ?_
  rintro e w' ⟨szr, rfl, sz1, sz2, rfl⟩
  have HSZ := Lib.hid sz2
  clear sz2
  by_cases szn : szr < 0
  · go_wp2_with fail
    go_ret
    exact ⟨rfl, Below.refl _ _⟩
  have szd : decide (szr < 0) = false := decide_eq_false szn
  have hn0 := HSZ.out (by omega)
  obtain ⟨R0, hs, hi⟩ := bothIsPrefixCode ls0 hF0.out hn0
  have HS := Lib.hid hs
  have HI := Lib.hid hi
  clear hs hi
  have hB : Below w.heap.size w w := Below.refl _ _
  go_wp2_with fail
  refine (toInt64SS_any _ ls0 _ (hS0.out.next hB) hn0).mono ?_
  rintro e w1 ⟨v1, vs1, rfl, o1, hb1⟩
  have hz1 := hb1.size
  replace hB := below_next hB hb1
  go_wp2_with fail
  refine (HS.out _ _ o1.sl).mono ?_
  rintro e w2 ⟨rfl, hb2⟩
  have hz2 := hb2.size
  replace o1 := o1.next hb2
  replace hB := below_next hB hb2
  go_wp2_with fail
  refine (toInt64SS_any _ ls0 _ (hS0.out.next hB) hn0).mono ?_
  rintro e w3 ⟨v2, vs2, rfl, o2, hb3⟩
  have hz3 := hb3.size
  replace o1 := o1.next hb3
  replace hB := below_next hB hb3
  go_wp2_with fail
  refine (HI.out _ _ o2.sl).mono ?_
  rintro e w4 ⟨rfl, hb4⟩
  have hz4 := hb4.size
  replace o1 := o1.next hb4
  replace o2 := o2.next hb4
  replace hB := below_next hB hb4
  go_wp2_with fail
  refine (toInt64SS_any _ ls0 _ (hS0.out.next hB) hn0).mono ?_
  rintro e w5 ⟨v3, vs3, rfl, o3, hb5⟩
  have hz5 := hb5.size
  replace o1 := o1.next hb5
  replace o2 := o2.next hb5
  replace hB := below_next hB hb5
  go_wp2_with fail
  refine (eqInt64SS_same _ _ _ _ o2.sl o3.sl).mono ?_
  rintro e w6 ⟨rfl, hb6⟩
  have hz6 := hb6.size
  replace o1 := o1.next hb6
  replace o2 := o2.next hb6
  replace o3 := o3.next hb6
  replace hB := below_next hB hb6
  go_wp2_with fail
  go_ret
  exact ⟨rfl, hB⟩
end Go.Proofs.Ytanjpkcacgjgfaa
