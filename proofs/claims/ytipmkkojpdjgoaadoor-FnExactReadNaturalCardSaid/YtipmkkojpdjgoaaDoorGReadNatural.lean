/- The walk of FnExactReadNatural: it returns true. Where the listed variables are laid. -/
import Derived.Test.YtipmkkojpdjgoaaDoorNReadP
namespace Go.Proofs.YtipmkkojpdjgoaaDoor
open Go.RowKit
set_option maxHeartbeats 1000000 in
theorem walkReadNatural (a0 : ByteArray) (w : World) (hp : EnvL w) (_ha0 : a0.size ≤ maxLen) :
    Calls Tryd.prog 8 #[.string a0] w fun e w' => e = .returned (.bool true) ∧ Below w.heap.size w w' := by
  have HPE := Lib.hid hp
  clear hp
  by_cases hg0 : (1048576 : Int) < (a0.size : Int)
  · go_enter Tryd.func8, Tryd.ntmps8
    go_wp2
    go_ret
    exact ⟨rfl, Below.refl _ _⟩
  obtain ⟨R0, R1, hR0, hs, hi⟩ := bothReadNatural a0 (by omega)
  have HS := Lib.hid hs
  have HI := Lib.hid hi
  clear hs hi
  go_enter Tryd.func8, Tryd.ntmps8
  have hB : Below w.heap.size w w := Below.refl _ _
  go_wp2_with fail
  refine (HS.out _ ).mono ?_
  rintro e w1 ⟨v1, rfl, o1, hb1⟩
  have hz1 := hb1.size
  replace hB := below_next hB hb1
  have lt_o1 := fun k hk => (o1.lt k hk).2
  go_wp2_with fail
  refine (HI.out _ (HPE.out.next hB) ).mono ?_
  rintro e w2 ⟨v2, rfl, o2, hb2⟩
  have hz2 := hb2.size
  replace o1 := o1.next hb2
  replace hB := below_next hB hb2
  have lt_o2 := fun k hk => (o2.lt k hk).2
  go_wp2_with fail
  refine (eqInt64S_any _ _ _ _ _ o2.sl o1.sl).mono ?_
  rintro e w3 ⟨rfl, hb3⟩
  have hz3 := hb3.size
  replace o1 := o1.next hb3
  replace o2 := o2.next hb3
  replace hB := below_next hB hb3
  go_wp2_with fail
  refine (markInt64S_any _ _ _ _ _ o2 (by omega) (by omega) (by omega)).mono ?_
  rintro e w4 ⟨rfl, om4, hg4⟩
  have hz4 := hg4.size
  replace o1 := o1.kept hg4 (fun k hk e => by have h1 := o1.lt k hk; have h2 := o2.lt k e; have h3 := lt_o1 k hk; have h4 := lt_o2 k e; omega)
  replace hB := hB.grown hg4 hB.size (fun k hk => by have := (o2.lt k hk).1; omega)
  clear o2
  have o2 := om4
  clear om4
  go_wp2_with fail
  refine (heldInt64S_any _ _ _ _ o2.sl (by omega) (by omega) (by omega)).mono ?_
  rintro e _ ⟨rfl, rfl⟩
  go_wp2_with fail
  refine (HI.out _ (HPE.out.next hB) ).mono ?_
  rintro e w5 ⟨v3, rfl, o3, hb5⟩
  have hz5 := hb5.size
  replace o1 := o1.next hb5
  replace o2 := o2.next hb5
  replace hB := below_next hB hb5
  have lt_o3 := fun k hk => (o3.lt k hk).2
  go_wp2_with fail
  refine (eqInt64S_any _ _ _ _ _ o3.sl o1.sl).mono ?_
  rintro e w6 ⟨rfl, hb6⟩
  have hz6 := hb6.size
  replace o1 := o1.next hb6
  replace o2 := o2.next hb6
  replace o3 := o3.next hb6
  replace hB := below_next hB hb6
  go_wp2_with fail
  refine (heldInt64S_any _ _ _ _ o2.sl (by omega) (by omega) (by omega)).mono ?_
  rintro e _ ⟨rfl, rfl⟩
  go_wp2_with fail
  go_ret
  exact ⟨rfl, hB⟩
end Go.Proofs.YtipmkkojpdjgoaaDoor
