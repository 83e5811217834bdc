/- The walk of FnExactNaturalText: it returns true. Where the listed variables are laid. -/
import Derived.Test.YtipmkkojpdjgoaaDoorNTextP
namespace Go.Proofs.YtipmkkojpdjgoaaDoor
open Go.RowKit
set_option maxHeartbeats 1000000 in
theorem walkNaturalText (A0 : Option Addr) (n0 c0 : Nat) (l0 : List Int) (w : World) (hp : Pow w) (h0 : Ints w w.heap.size A0 n0 l0) (f0 : Fit l0) (hc0 : n0 ≤ c0 ∧ c0 ≤ maxLen) :
    Calls Tryd.prog 7 #[.slice A0 n0 c0] w fun e w' => e = .returned (.bool true) ∧ Below w.heap.size w w' := by
  have HPE := Lib.hid hp
  clear hp
  have hS0 := Lib.hid (Sl.of h0 hc0.1 hc0.2)
  by_cases hg0 : (1048576 : Int) < (n0 : Int)
  · clear h0 hc0
    go_enter Tryd.func7, Tryd.ntmps7
    go_wp2
    go_ret
    exact ⟨rfl, Below.refl _ _⟩
  have hn0 : l0.length ≤ 1048576 := by have := h0.1; omega
  obtain ⟨R0, hs, hi⟩ := bothNaturalText l0 f0 hn0
  have HS := Lib.hid hs
  have HI := Lib.hid hi
  clear hs hi
  clear h0 hc0
  go_enter Tryd.func7, Tryd.ntmps7
  have hB : Below w.heap.size w w := Below.refl _ _
  go_wp2_with fail
  refine (toInt64S_any _ l0 _ (hS0.out.next hB) (by omega)).mono ?_
  rintro e w1 ⟨v1, rfl, o1, hb1⟩
  have hz1 := hb1.size
  replace hB := below_next hB hb1
  have lt_o1 := fun k hk => (o1.lt k hk).2
  go_wp2_with fail
  refine (HS.out _ _ o1.sl).mono ?_
  rintro e w2 ⟨rfl, hb2⟩
  have hz2 := hb2.size
  replace o1 := o1.next hb2
  replace hB := below_next hB hb2
  go_wp2_with fail
  refine (toInt64S_any _ l0 _ (hS0.out.next hB) (by omega)).mono ?_
  rintro e w3 ⟨v2, rfl, o2, hb3⟩
  have hz3 := hb3.size
  replace o1 := o1.next hb3
  replace hB := below_next hB hb3
  have lt_o2 := fun k hk => (o2.lt k hk).2
  go_wp2_with fail
  refine (HI.out _ _ (HPE.out.next hB) o2.sl).mono ?_
  rintro e w4 ⟨rfl, hb4⟩
  have hz4 := hb4.size
  replace o1 := o1.next hb4
  replace o2 := o2.next hb4
  replace hB := below_next hB hb4
  go_wp2_with fail
  refine (toInt64S_any _ l0 _ (hS0.out.next hB) (by omega)).mono ?_
  rintro e w5 ⟨v3, rfl, o3, hb5⟩
  have hz5 := hb5.size
  replace o1 := o1.next hb5
  replace o2 := o2.next hb5
  replace hB := below_next hB hb5
  have lt_o3 := fun k hk => (o3.lt k hk).2
  go_wp2_with fail
  refine (eqInt64S_any _ _ _ _ _ o2.sl o3.sl).mono ?_
  rintro e w6 ⟨rfl, hb6⟩
  have hz6 := hb6.size
  replace o1 := o1.next hb6
  replace o2 := o2.next hb6
  replace o3 := o3.next hb6
  replace hB := below_next hB hb6
  go_wp2_with fail
  go_ret
  exact ⟨rfl, hB⟩
end Go.Proofs.YtipmkkojpdjgoaaDoor
