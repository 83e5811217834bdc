/- The walk of FnExactCompareNaturals: it returns true. No condition. -/
import Derived.Test.YtkaicdljgchifaaNatCmp
namespace Go.Proofs.Ytkaicdljgchifaa
open Go.RowKit
set_option maxHeartbeats 1000000 in
theorem walkCompareNaturals (A0 : Option Addr) (n0 c0 : Nat) (l0 : List Int) (A1 : Option Addr) (n1 c1 : Nat) (l1 : List Int) (w : World) (h0 : Ints w w.heap.size A0 n0 l0) (f0 : Fit l0) (hc0 : n0 ≤ c0 ∧ c0 ≤ maxLen) (h1 : Ints w w.heap.size A1 n1 l1) (f1 : Fit l1) (hc1 : n1 ≤ c1 ∧ c1 ≤ maxLen) :
    Calls Try.prog 3 #[.slice A0 n0 c0, .slice A1 n1 c1] w fun e w' => e = .returned (.bool true) ∧ Below w.heap.size w w' := by
  have hS0 := Lib.hid (Sl.of h0 hc0.1 hc0.2)
  by_cases hg0 : (1048576 : Int) < (n0 : Int)
  · clear h0 hc0
    go_enter Try.func3, Try.ntmps3
    go_wp2
    go_ret
    exact ⟨rfl, Below.refl _ _⟩
  have hn0 : l0.length ≤ 1048576 := by have := h0.1; omega
  have hS1 := Lib.hid (Sl.of h1 hc1.1 hc1.2)
  by_cases hg1 : (1048576 : Int) < (n1 : Int)
  · clear h1 hc1
    go_enter Try.func3, Try.ntmps3
    go_wp2
    go_ret
    exact ⟨rfl, Below.refl _ _⟩
  have hn1 : l1.length ≤ 1048576 := by have := h1.1; omega
  obtain ⟨R0, R1, hs, hi⟩ := bothCompareNaturals l0 l1 f0 hn0 f1 hn1
  have HS := Lib.hid hs
  have HI := Lib.hid hi
  clear hs hi
  clear h0 hc0 h1 hc1
  go_enter Try.func3, Try.ntmps3
  have hB : Below w.heap.size w w := Below.refl _ _
  go_wp2_with fail
  refine (toInt64S_any _ l0 _ (hS0.out.next hB) (by omega)).mono ?_
  rintro e w1 ⟨v1, rfl, o1, hb1⟩
  have hz1 := hb1.size
  replace hB := below_next hB hb1
  have lt_o1 := fun k hk => (o1.lt k hk).2
  go_wp2_with fail
  refine (toInt64S_any _ l1 _ (hS1.out.next hB) (by omega)).mono ?_
  rintro e w2 ⟨v2, rfl, o2, hb2⟩
  have hz2 := hb2.size
  replace o1 := o1.next hb2
  replace hB := below_next hB hb2
  have lt_o2 := fun k hk => (o2.lt k hk).2
  go_wp2_with fail
  refine (HS.out _ _ _ o1.sl o2.sl).mono ?_
  rintro e w3 ⟨rfl, hb3⟩
  have hz3 := hb3.size
  replace o1 := o1.next hb3
  replace o2 := o2.next hb3
  replace hB := below_next hB hb3
  go_wp2_with fail
  refine (toInt64S_any _ l0 _ (hS0.out.next hB) (by omega)).mono ?_
  rintro e w4 ⟨v3, rfl, o3, hb4⟩
  have hz4 := hb4.size
  replace o1 := o1.next hb4
  replace o2 := o2.next hb4
  replace hB := below_next hB hb4
  have lt_o3 := fun k hk => (o3.lt k hk).2
  go_wp2_with fail
  refine (toInt64S_any _ l1 _ (hS1.out.next hB) (by omega)).mono ?_
  rintro e w5 ⟨v4, rfl, o4, hb5⟩
  have hz5 := hb5.size
  replace o1 := o1.next hb5
  replace o2 := o2.next hb5
  replace o3 := o3.next hb5
  replace hB := below_next hB hb5
  have lt_o4 := fun k hk => (o4.lt k hk).2
  go_wp2_with fail
  refine (HI.out _ _ _ o3.sl o4.sl).mono ?_
  rintro e w6 ⟨rfl, hb6⟩
  have hz6 := hb6.size
  replace o1 := o1.next hb6
  replace o2 := o2.next hb6
  replace o3 := o3.next hb6
  replace o4 := o4.next hb6
  replace hB := below_next hB hb6
  go_wp2_with fail
  refine (toInt64S_any _ l0 _ (hS0.out.next hB) (by omega)).mono ?_
  rintro e w7 ⟨v5, rfl, o5, hb7⟩
  have hz7 := hb7.size
  replace o1 := o1.next hb7
  replace o2 := o2.next hb7
  replace o3 := o3.next hb7
  replace o4 := o4.next hb7
  replace hB := below_next hB hb7
  have lt_o5 := fun k hk => (o5.lt k hk).2
  go_wp2_with fail
  refine (eqInt64S_any _ _ _ _ _ o3.sl o5.sl).mono ?_
  rintro e w8 ⟨rfl, hb8⟩
  have hz8 := hb8.size
  replace o1 := o1.next hb8
  replace o2 := o2.next hb8
  replace o3 := o3.next hb8
  replace o4 := o4.next hb8
  replace o5 := o5.next hb8
  replace hB := below_next hB hb8
  go_wp2_with fail
  refine (toInt64S_any _ l1 _ (hS1.out.next hB) (by omega)).mono ?_
  rintro e w9 ⟨v6, rfl, o6, hb9⟩
  have hz9 := hb9.size
  replace o1 := o1.next hb9
  replace o2 := o2.next hb9
  replace o3 := o3.next hb9
  replace o4 := o4.next hb9
  replace o5 := o5.next hb9
  replace hB := below_next hB hb9
  have lt_o6 := fun k hk => (o6.lt k hk).2
  go_wp2_with fail
  refine (eqInt64S_any _ _ _ _ _ o4.sl o6.sl).mono ?_
  rintro e w10 ⟨rfl, hb10⟩
  have hz10 := hb10.size
  replace o1 := o1.next hb10
  replace o2 := o2.next hb10
  replace o3 := o3.next hb10
  replace o4 := o4.next hb10
  replace o5 := o5.next hb10
  replace o6 := o6.next hb10
  replace hB := below_next hB hb10
  go_wp2_with fail
  go_ret
  exact ⟨rfl, hB⟩
end Go.Proofs.Ytkaicdljgchifaa
