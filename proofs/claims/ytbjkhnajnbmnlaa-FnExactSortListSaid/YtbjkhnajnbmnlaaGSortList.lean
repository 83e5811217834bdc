/- The walk of FnExactSortList: it returns true. No condition. -/
import Derived.Test.YtbjkhnajnbmnlaaSortP
namespace Go.Proofs.Ytbjkhnajnbmnlaa
open Go.RowKit
set_option maxHeartbeats 1000000 in
theorem walkSortList (A0 : Option Addr) (n0 c0 : Nat) (l0 : List Int) (w : World) (h0 : Ints w w.heap.size A0 n0 l0) (f0 : Fit l0) (hc0 : n0 ≤ c0 ∧ c0 ≤ maxLen) :
    Calls Try.prog 5 #[.slice A0 n0 c0] w fun e w' => e = .returned (.bool true) ∧ Below w.heap.size w w' := by
  have hS0 := Lib.hid (Sl.of h0 hc0.1 hc0.2)
  by_cases hg0 : (1048576 : Int) < (n0 : Int)
  · clear h0 hc0
    go_enter Try.func5, Try.ntmps5
    go_wp2
    go_ret
    exact ⟨rfl, Below.refl _ _⟩
  have hn0 : l0.length ≤ 1048576 := by have := h0.1; omega
  obtain ⟨R0, hR0, hs, hi⟩ := bothSortList l0 f0 hn0
  have HS := Lib.hid hs
  have HI := Lib.hid hi
  clear hs hi
  clear h0 hc0
  go_enter Try.func5, Try.ntmps5
  have hB : Below w.heap.size w w := Below.refl _ _
  go_wp2_with fail
  refine (toInt64S_any _ l0 _ (hS0.out.next hB) (by omega)).mono ?_
  rintro e w1 ⟨v1, rfl, o1, hb1⟩
  have hz1 := hb1.size
  replace hB := below_next hB hb1
  have lt_o1 := fun k hk => (o1.lt k hk).2
  go_wp2_with fail
  refine (HS.out _ _ o1.sl).mono ?_
  rintro e w2 ⟨v2, rfl, o2, hb2⟩
  have hz2 := hb2.size
  replace o1 := o1.next hb2
  replace hB := below_next hB hb2
  have lt_o2 := fun k hk => (o2.lt k hk).2
  go_wp2_with fail
  refine (toInt64S_any _ l0 _ (hS0.out.next hB) (by omega)).mono ?_
  rintro e w3 ⟨v3, rfl, o3, hb3⟩
  have hz3 := hb3.size
  replace o1 := o1.next hb3
  replace o2 := o2.next hb3
  replace hB := below_next hB hb3
  have lt_o3 := fun k hk => (o3.lt k hk).2
  go_wp2_with fail
  refine (HI.out _ _ o3.sl).mono ?_
  rintro e w4 ⟨v4, rfl, o4, hb4⟩
  have hz4 := hb4.size
  replace o1 := o1.next hb4
  replace o2 := o2.next hb4
  replace o3 := o3.next hb4
  replace hB := below_next hB hb4
  have lt_o4 := fun k hk => (o4.lt k hk).2
  go_wp2_with fail
  refine (eqInt64S_any _ _ _ _ _ o4.sl o2.sl).mono ?_
  rintro e w5 ⟨rfl, hb5⟩
  have hz5 := hb5.size
  replace o1 := o1.next hb5
  replace o2 := o2.next hb5
  replace o3 := o3.next hb5
  replace o4 := o4.next hb5
  replace hB := below_next hB hb5
  go_wp2_with fail
  refine (toInt64S_any _ l0 _ (hS0.out.next hB) (by omega)).mono ?_
  rintro e w6 ⟨v5, rfl, o5, hb6⟩
  have hz6 := hb6.size
  replace o1 := o1.next hb6
  replace o2 := o2.next hb6
  replace o3 := o3.next hb6
  replace o4 := o4.next hb6
  replace hB := below_next hB hb6
  have lt_o5 := fun k hk => (o5.lt k hk).2
  go_wp2_with fail
  refine (eqInt64S_any _ _ _ _ _ o3.sl o5.sl).mono ?_
  rintro e w7 ⟨rfl, hb7⟩
  have hz7 := hb7.size
  replace o1 := o1.next hb7
  replace o2 := o2.next hb7
  replace o3 := o3.next hb7
  replace o4 := o4.next hb7
  replace o5 := o5.next hb7
  replace hB := below_next hB hb7
  go_wp2_with fail
  refine (markInt64S_any _ _ _ _ _ o3 (by omega) (by omega) (by omega)).mono ?_
  rintro e w8 ⟨rfl, om8, hg8⟩
  have hz8 := hg8.size
  replace o1 := o1.kept hg8 (fun k hk e => by have h1 := o1.lt k hk; have h2 := o3.lt k e; have h3 := lt_o1 k hk; have h4 := lt_o3 k e; omega)
  replace o2 := o2.kept hg8 (fun k hk e => by have h1 := o2.lt k hk; have h2 := o3.lt k e; have h3 := lt_o2 k hk; have h4 := lt_o3 k e; omega)
  replace o4 := o4.kept hg8 (fun k hk e => by have h1 := o4.lt k hk; have h2 := o3.lt k e; have h3 := lt_o4 k hk; have h4 := lt_o3 k e; omega)
  replace o5 := o5.kept hg8 (fun k hk e => by have h1 := o5.lt k hk; have h2 := o3.lt k e; have h3 := lt_o5 k hk; have h4 := lt_o3 k e; omega)
  replace hB := hB.grown hg8 hB.size (fun k hk => by have := (o3.lt k hk).1; omega)
  clear o3
  have o3 := om8
  clear om8
  go_wp2_with fail
  refine (eqInt64S_any _ _ _ _ _ o4.sl o2.sl).mono ?_
  rintro e w9 ⟨rfl, hb9⟩
  have hz9 := hb9.size
  replace o1 := o1.next hb9
  replace o2 := o2.next hb9
  replace o3 := o3.next hb9
  replace o4 := o4.next hb9
  replace o5 := o5.next hb9
  replace hB := below_next hB hb9
  go_wp2_with fail
  refine (markInt64S_any _ _ _ _ _ o4 (by omega) (by omega) (by omega)).mono ?_
  rintro e w10 ⟨rfl, om10, hg10⟩
  have hz10 := hg10.size
  replace o1 := o1.kept hg10 (fun k hk e => by have h1 := o1.lt k hk; have h2 := o4.lt k e; have h3 := lt_o1 k hk; have h4 := lt_o4 k e; omega)
  replace o2 := o2.kept hg10 (fun k hk e => by have h1 := o2.lt k hk; have h2 := o4.lt k e; have h3 := lt_o2 k hk; have h4 := lt_o4 k e; omega)
  replace o3 := o3.kept hg10 (fun k hk e => by have h1 := o3.lt k hk; have h2 := o4.lt k e; have h3 := lt_o3 k hk; have h4 := lt_o4 k e; omega)
  replace o5 := o5.kept hg10 (fun k hk e => by have h1 := o5.lt k hk; have h2 := o4.lt k e; have h3 := lt_o5 k hk; have h4 := lt_o4 k e; omega)
  replace hB := hB.grown hg10 hB.size (fun k hk => by have := (o4.lt k hk).1; omega)
  clear o4
  have o4 := om10
  clear om10
  go_wp2_with fail
  refine (heldInt64S_any _ _ _ _ o4.sl (by omega) (by omega) (by omega)).mono ?_
  rintro e _ ⟨rfl, rfl⟩
  go_wp2_with fail
  refine (toInt64S_any _ l0 _ (hS0.out.next hB) (by omega)).mono ?_
  rintro e w11 ⟨v6, rfl, o6, hb11⟩
  have hz11 := hb11.size
  replace o1 := o1.next hb11
  replace o2 := o2.next hb11
  replace o3 := o3.next hb11
  replace o4 := o4.next hb11
  replace o5 := o5.next hb11
  replace hB := below_next hB hb11
  have lt_o6 := fun k hk => (o6.lt k hk).2
  go_wp2_with fail
  refine (HI.out _ _ o6.sl).mono ?_
  rintro e w12 ⟨v7, rfl, o7, hb12⟩
  have hz12 := hb12.size
  replace o1 := o1.next hb12
  replace o2 := o2.next hb12
  replace o3 := o3.next hb12
  replace o4 := o4.next hb12
  replace o5 := o5.next hb12
  replace o6 := o6.next hb12
  replace hB := below_next hB hb12
  have lt_o7 := fun k hk => (o7.lt k hk).2
  go_wp2_with fail
  refine (eqInt64S_any _ _ _ _ _ o7.sl o2.sl).mono ?_
  rintro e w13 ⟨rfl, hb13⟩
  have hz13 := hb13.size
  replace o1 := o1.next hb13
  replace o2 := o2.next hb13
  replace o3 := o3.next hb13
  replace o4 := o4.next hb13
  replace o5 := o5.next hb13
  replace o6 := o6.next hb13
  replace o7 := o7.next hb13
  replace hB := below_next hB hb13
  go_wp2_with fail
  refine (heldInt64S_any _ _ _ _ o4.sl (by omega) (by omega) (by omega)).mono ?_
  rintro e _ ⟨rfl, rfl⟩
  go_wp2_with fail
  go_ret
  exact ⟨rfl, hB⟩
end Go.Proofs.Ytbjkhnajnbmnlaa
