/- The walk of FnExactDecodeWith: it returns true. No condition. -/
import Derived.Test.YtanjpkcacgjgfaaDecode3
namespace Go.Proofs.Ytanjpkcacgjgfaa
open Go.RowKit
set_option maxHeartbeats 1000000 in
theorem walkDecodeWith (v_0 : Value) (ls0 : List (List Int)) (A1 : Option Addr) (n1 c1 : Nat) (l1 : List Int) (w : World) (h0 : SlL w v_0 ls0 ∧ ∀ l ∈ ls0, Fit l) (h1 : Ints w w.heap.size A1 n1 l1) (f1 : Fit l1) (hc1 : n1 ≤ c1 ∧ c1 ≤ maxLen) :
    Calls Try.prog 12 #[v_0, .slice A1 n1 c1] w fun e w' => e = .returned (.bool true) ∧ Below w.heap.size w w' := by
  have hS1 := Lib.hid (Sl.of h1 hc1.1 hc1.2)
  by_cases hg1 : (1048576 : Int) < (n1 : Int)
  · clear h1 hc1
    go_enter Try.func12, Try.ntmps12
    go_wp2
    go_ret
    exact ⟨rfl, Below.refl _ _⟩
  have hn1 : l1.length ≤ 1048576 := by have := h1.1; omega
  have hS0 := Lib.hid h0.1
  have hF0 := Lib.hid h0.2
  clear h0
  clear h1 hc1
  go_enter Try.func12, Try.ntmps12
  go_wp2_with fail
  refine (szInt64SS_any _ _ _ hS0.out).mono ?_
  rintro e w' ⟨szr, rfl, sz1, sz2, rfl⟩
  have HSZ := Lib.hid sz2
  clear sz2
  by_cases szn : szr < 0
  · go_wp2_with fail
    go_ret
    exact ⟨rfl, Below.refl _ _⟩
  have szd : decide (szr < 0) = false := decide_eq_false szn
  have hn0 := HSZ.out (by omega)
  obtain ⟨R0, R1, hR0, hs, hi⟩ := bothDecodeWith ls0 l1 hF0.out hn0 f1 hn1
  have HS := Lib.hid hs
  have HI := Lib.hid hi
  clear hs hi
  have hB : Below w.heap.size w w := Below.refl _ _
  go_wp2_with fail
  refine (toInt64SS_any _ ls0 _ (hS0.out.next hB) hn0).mono ?_
  rintro e w1 ⟨v1, vs1, rfl, o1, hb1⟩
  have hz1 := hb1.size
  replace hB := below_next hB hb1
  go_wp2_with fail
  refine (toInt64S_any _ l1 _ (hS1.out.next hB) (by omega)).mono ?_
  rintro e w2 ⟨v2, rfl, o2, hb2⟩
  have hz2 := hb2.size
  replace o1 := o1.next hb2
  replace hB := below_next hB hb2
  have lt_o2 := fun k hk => (o2.lt k hk).2
  go_wp2_with fail
  refine (HS.out _ _ _ o1.sl o2.sl).mono ?_
  rintro e w3 ⟨v3, rfl, o3, hb3⟩
  have hz3 := hb3.size
  replace o1 := o1.next hb3
  replace o2 := o2.next hb3
  replace hB := below_next hB hb3
  have lt_o3 := fun k hk => (o3.lt k hk).2
  go_wp2_with fail
  refine (toInt64SS_any _ ls0 _ (hS0.out.next hB) hn0).mono ?_
  rintro e w4 ⟨v4, vs4, rfl, o4, hb4⟩
  have hz4 := hb4.size
  replace o1 := o1.next hb4
  replace o2 := o2.next hb4
  replace o3 := o3.next hb4
  replace hB := below_next hB hb4
  go_wp2_with fail
  refine (toInt64S_any _ l1 _ (hS1.out.next hB) (by omega)).mono ?_
  rintro e w5 ⟨v5, rfl, o5, hb5⟩
  have hz5 := hb5.size
  replace o1 := o1.next hb5
  replace o2 := o2.next hb5
  replace o3 := o3.next hb5
  replace o4 := o4.next hb5
  replace hB := below_next hB hb5
  have lt_o5 := fun k hk => (o5.lt k hk).2
  go_wp2_with fail
  refine (HI.out _ _ _ o4.sl o5.sl).mono ?_
  rintro e w6 ⟨v6, rfl, o6, hb6⟩
  have hz6 := hb6.size
  replace o1 := o1.next hb6
  replace o2 := o2.next hb6
  replace o3 := o3.next hb6
  replace o4 := o4.next hb6
  replace o5 := o5.next hb6
  replace hB := below_next hB hb6
  have lt_o6 := fun k hk => (o6.lt k hk).2
  go_wp2_with fail
  refine (eqInt64S_any _ _ _ _ _ o6.sl o3.sl).mono ?_
  rintro e w7 ⟨rfl, hb7⟩
  have hz7 := hb7.size
  replace o1 := o1.next hb7
  replace o2 := o2.next hb7
  replace o3 := o3.next hb7
  replace o4 := o4.next hb7
  replace o5 := o5.next hb7
  replace o6 := o6.next hb7
  replace hB := below_next hB hb7
  go_wp2_with fail
  refine (toInt64SS_any _ ls0 _ (hS0.out.next hB) hn0).mono ?_
  rintro e w8 ⟨v7, vs7, rfl, o7, hb8⟩
  have hz8 := hb8.size
  replace o1 := o1.next hb8
  replace o2 := o2.next hb8
  replace o3 := o3.next hb8
  replace o4 := o4.next hb8
  replace o5 := o5.next hb8
  replace o6 := o6.next hb8
  replace hB := below_next hB hb8
  go_wp2_with fail
  refine (eqInt64SS_same _ _ _ _ o4.sl o7.sl).mono ?_
  rintro e w9 ⟨rfl, hb9⟩
  have hz9 := hb9.size
  replace o1 := o1.next hb9
  replace o2 := o2.next hb9
  replace o3 := o3.next hb9
  replace o4 := o4.next hb9
  replace o5 := o5.next hb9
  replace o6 := o6.next hb9
  replace o7 := o7.next hb9
  replace hB := below_next hB hb9
  go_wp2_with fail
  refine (toInt64S_any _ l1 _ (hS1.out.next hB) (by omega)).mono ?_
  rintro e w10 ⟨v8, rfl, o8, hb10⟩
  have hz10 := hb10.size
  replace o1 := o1.next hb10
  replace o2 := o2.next hb10
  replace o3 := o3.next hb10
  replace o4 := o4.next hb10
  replace o5 := o5.next hb10
  replace o6 := o6.next hb10
  replace o7 := o7.next hb10
  replace hB := below_next hB hb10
  have lt_o8 := fun k hk => (o8.lt k hk).2
  go_wp2_with fail
  refine (eqInt64S_any _ _ _ _ _ o5.sl o8.sl).mono ?_
  rintro e w11 ⟨rfl, hb11⟩
  have hz11 := hb11.size
  replace o1 := o1.next hb11
  replace o2 := o2.next hb11
  replace o3 := o3.next hb11
  replace o4 := o4.next hb11
  replace o5 := o5.next hb11
  replace o6 := o6.next hb11
  replace o7 := o7.next hb11
  replace o8 := o8.next hb11
  replace hB := below_next hB hb11
  go_wp2_with fail
  refine (markInt64SS_any _ _ _ _ _ _ _ _ o4 hn0 (by omega) (by omega)).mono ?_
  rintro e w12 ⟨rfl, hH12⟩
  have hz12 := hH12.2.1
  clear o1
  replace o2 := hH12.2.2 _ _ _ o2 (fun k hk => by have h1 := o2.lt k hk; have h3 := lt_o2 k hk; omega)
  replace o3 := hH12.2.2 _ _ _ o3 (fun k hk => by have h1 := o3.lt k hk; have h3 := lt_o3 k hk; omega)
  clear o4
  replace o5 := hH12.2.2 _ _ _ o5 (fun k hk => by have h1 := o5.lt k hk; have h3 := lt_o5 k hk; omega)
  replace o6 := hH12.2.2 _ _ _ o6 (fun k hk => by have h1 := o6.lt k hk; have h3 := lt_o6 k hk; omega)
  clear o7
  replace o8 := hH12.2.2 _ _ _ o8 (fun k hk => by have h1 := o8.lt k hk; have h3 := lt_o8 k hk; omega)
  replace hB := hB.trans (hH12.1.mono (by omega))
  have htl := totL_le ls0 ls0.length
  go_wp2_with fail
  refine (markInt64S_any _ _ _ _ _ o5 (by omega) (by omega) (by omega)).mono ?_
  rintro e w13 ⟨rfl, om13, hg13⟩
  have hz13 := hg13.size
  replace o2 := o2.kept hg13 (fun k hk e => by have h1 := o2.lt k hk; have h2 := o5.lt k e; have h3 := lt_o2 k hk; have h4 := lt_o5 k e; omega)
  replace o3 := o3.kept hg13 (fun k hk e => by have h1 := o3.lt k hk; have h2 := o5.lt k e; have h3 := lt_o3 k hk; have h4 := lt_o5 k e; omega)
  replace o6 := o6.kept hg13 (fun k hk e => by have h1 := o6.lt k hk; have h2 := o5.lt k e; have h3 := lt_o6 k hk; have h4 := lt_o5 k e; omega)
  replace o8 := o8.kept hg13 (fun k hk e => by have h1 := o8.lt k hk; have h2 := o5.lt k e; have h3 := lt_o8 k hk; have h4 := lt_o5 k e; omega)
  replace hB := hB.grown hg13 hB.size (fun k hk => by have := (o5.lt k hk).1; omega)
  clear o5
  have o5 := om13
  clear om13
  go_wp2_with fail
  refine (eqInt64S_any _ _ _ _ _ o6.sl o3.sl).mono ?_
  rintro e w14 ⟨rfl, hb14⟩
  have hz14 := hb14.size
  replace o2 := o2.next hb14
  replace o3 := o3.next hb14
  replace o5 := o5.next hb14
  replace o6 := o6.next hb14
  replace o8 := o8.next hb14
  replace hB := below_next hB hb14
  go_wp2_with fail
  refine (markInt64S_any _ _ _ _ _ o6 (by omega) (by omega) (by omega)).mono ?_
  rintro e w15 ⟨rfl, om15, hg15⟩
  have hz15 := hg15.size
  replace o2 := o2.kept hg15 (fun k hk e => by have h1 := o2.lt k hk; have h2 := o6.lt k e; have h3 := lt_o2 k hk; have h4 := lt_o6 k e; omega)
  replace o3 := o3.kept hg15 (fun k hk e => by have h1 := o3.lt k hk; have h2 := o6.lt k e; have h3 := lt_o3 k hk; have h4 := lt_o6 k e; omega)
  replace o5 := o5.kept hg15 (fun k hk e => by have h1 := o5.lt k hk; have h2 := o6.lt k e; have h3 := lt_o5 k hk; have h4 := lt_o6 k e; omega)
  replace o8 := o8.kept hg15 (fun k hk e => by have h1 := o8.lt k hk; have h2 := o6.lt k e; have h3 := lt_o8 k hk; have h4 := lt_o6 k e; omega)
  replace hB := hB.grown hg15 hB.size (fun k hk => by have := (o6.lt k hk).1; omega)
  clear o6
  have o6 := om15
  clear om15
  go_wp2_with fail
  refine (heldInt64S_any _ _ _ _ o6.sl (by omega) (by omega) (by omega)).mono ?_
  rintro e _ ⟨rfl, rfl⟩
  go_wp2_with fail
  refine (toInt64SS_any _ ls0 _ (hS0.out.next hB) hn0).mono ?_
  rintro e w16 ⟨v9, vs9, rfl, o9, hb16⟩
  have hz16 := hb16.size
  replace o2 := o2.next hb16
  replace o3 := o3.next hb16
  replace o5 := o5.next hb16
  replace o6 := o6.next hb16
  replace o8 := o8.next hb16
  replace hB := below_next hB hb16
  go_wp2_with fail
  refine (toInt64S_any _ l1 _ (hS1.out.next hB) (by omega)).mono ?_
  rintro e w17 ⟨v10, rfl, o10, hb17⟩
  have hz17 := hb17.size
  replace o2 := o2.next hb17
  replace o3 := o3.next hb17
  replace o5 := o5.next hb17
  replace o6 := o6.next hb17
  replace o8 := o8.next hb17
  replace o9 := o9.next hb17
  replace hB := below_next hB hb17
  have lt_o10 := fun k hk => (o10.lt k hk).2
  go_wp2_with fail
  refine (HI.out _ _ _ o9.sl o10.sl).mono ?_
  rintro e w18 ⟨v11, rfl, o11, hb18⟩
  have hz18 := hb18.size
  replace o2 := o2.next hb18
  replace o3 := o3.next hb18
  replace o5 := o5.next hb18
  replace o6 := o6.next hb18
  replace o8 := o8.next hb18
  replace o9 := o9.next hb18
  replace o10 := o10.next hb18
  replace hB := below_next hB hb18
  have lt_o11 := fun k hk => (o11.lt k hk).2
  go_wp2_with fail
  refine (eqInt64S_any _ _ _ _ _ o11.sl o3.sl).mono ?_
  rintro e w19 ⟨rfl, hb19⟩
  have hz19 := hb19.size
  replace o2 := o2.next hb19
  replace o3 := o3.next hb19
  replace o5 := o5.next hb19
  replace o6 := o6.next hb19
  replace o8 := o8.next hb19
  replace o9 := o9.next hb19
  replace o10 := o10.next hb19
  replace o11 := o11.next hb19
  replace hB := below_next hB hb19
  go_wp2_with fail
  refine (heldInt64S_any _ _ _ _ o6.sl (by omega) (by omega) (by omega)).mono ?_
  rintro e _ ⟨rfl, rfl⟩
  go_wp2_with fail
  go_ret
  exact ⟨rfl, hB⟩
end Go.Proofs.Ytanjpkcacgjgfaa
