/- The walk of FnExactDivideNaturals: it returns true. No condition. -/
import Derived.Test.YtanjpkcacgjgfaaNatDivs
namespace Go.Proofs.Ytanjpkcacgjgfaa
open Go.RowKit
set_option maxHeartbeats 1000000 in
theorem walkDivideNaturals (A0 : Option Addr) (n0 c0 : Nat) (l0 : List Int) (A1 : Option Addr) (n1 c1 : Nat) (l1 : List Int) (w : World) (h0 : Ints w w.heap.size A0 n0 l0) (f0 : Fit l0) (hc0 : n0 ≤ c0 ∧ c0 ≤ maxLen) (h1 : Ints w w.heap.size A1 n1 l1) (f1 : Fit l1) (hc1 : n1 ≤ c1 ∧ c1 ≤ maxLen) :
    Calls Try.prog 8 #[.slice A0 n0 c0, .slice A1 n1 c1] w fun e w' => e = .returned (.bool true) ∧ Below w.heap.size w w' := by
  have hS0 := Lib.hid (Sl.of h0 hc0.1 hc0.2)
  by_cases hg0 : (1048576 : Int) < (n0 : Int)
  · clear h0 hc0
    go_enter Try.func8, Try.ntmps8
    go_wp2
    go_ret
    exact ⟨rfl, Below.refl _ _⟩
  have hn0 : l0.length ≤ 1048576 := by have := h0.1; omega
  have hS1 := Lib.hid (Sl.of h1 hc1.1 hc1.2)
  by_cases hg1 : (1048576 : Int) < (n1 : Int)
  · clear h1 hc1
    go_enter Try.func8, Try.ntmps8
    go_wp2
    go_ret
    exact ⟨rfl, Below.refl _ _⟩
  have hn1 : l1.length ≤ 1048576 := by have := h1.1; omega
  obtain ⟨R0, R1, R2, hR0, hR1, hs, hi⟩ := bothDivideNaturals l0 l1 f0 hn0 f1 hn1
  have HS := Lib.hid hs
  have HI := Lib.hid hi
  clear hs hi
  clear h0 hc0 h1 hc1
  go_enter Try.func8, Try.ntmps8
  have hB : Below w.heap.size w w := Below.refl _ _
  go_wp2_with fail
  refine (toInt64S_any _ l0 _ (hS0.out.next hB) (by omega)).mono ?_
  rintro e w1 ⟨v1, rfl, o1, hb1⟩
  have hz1 := hb1.size
  replace hB := below_next hB hb1
  have lt_o1 := fun k hk => (o1.lt k hk).2
  go_wp2_with fail
  refine (toInt64S_any _ l1 _ (hS1.out.next hB) (by omega)).mono ?_
  rintro e w2 ⟨v2, rfl, o2, hb2⟩
  have hz2 := hb2.size
  replace o1 := o1.next hb2
  replace hB := below_next hB hb2
  have lt_o2 := fun k hk => (o2.lt k hk).2
  go_wp2_with fail
  refine (HS.out _ _ _ o1.sl o2.sl).mono ?_
  rintro e w3 ⟨v3, v4, rfl, o3, o4, ap3, hb3⟩
  have hz3 := hb3.size
  replace o1 := o1.next hb3
  replace o2 := o2.next hb3
  replace hB := below_next hB hb3
  have lt_o3 := fun k hk => (o3.lt k hk).2
  have lt_o4 := fun k hk => (o4.lt k hk).2
  go_wp2_with fail
  refine (toInt64S_any _ l0 _ (hS0.out.next hB) (by omega)).mono ?_
  rintro e w4 ⟨v5, rfl, o5, hb4⟩
  have hz4 := hb4.size
  replace o1 := o1.next hb4
  replace o2 := o2.next hb4
  replace o3 := o3.next hb4
  replace o4 := o4.next hb4
  replace hB := below_next hB hb4
  have lt_o5 := fun k hk => (o5.lt k hk).2
  go_wp2_with fail
  refine (toInt64S_any _ l1 _ (hS1.out.next hB) (by omega)).mono ?_
  rintro e w5 ⟨v6, rfl, o6, hb5⟩
  have hz5 := hb5.size
  replace o1 := o1.next hb5
  replace o2 := o2.next hb5
  replace o3 := o3.next hb5
  replace o4 := o4.next hb5
  replace o5 := o5.next hb5
  replace hB := below_next hB hb5
  have lt_o6 := fun k hk => (o6.lt k hk).2
  go_wp2_with fail
  refine (HI.out _ _ _ o5.sl o6.sl).mono ?_
  rintro e w6 ⟨v7, v8, rfl, o7, o8, ap7, hb6⟩
  have hz6 := hb6.size
  replace o1 := o1.next hb6
  replace o2 := o2.next hb6
  replace o3 := o3.next hb6
  replace o4 := o4.next hb6
  replace o5 := o5.next hb6
  replace o6 := o6.next hb6
  replace hB := below_next hB hb6
  have lt_o7 := fun k hk => (o7.lt k hk).2
  have lt_o8 := fun k hk => (o8.lt k hk).2
  go_wp2_with fail
  refine (eqInt64S_any _ _ _ _ _ o7.sl o3.sl).mono ?_
  rintro e w7 ⟨rfl, hb7⟩
  have hz7 := hb7.size
  replace o1 := o1.next hb7
  replace o2 := o2.next hb7
  replace o3 := o3.next hb7
  replace o4 := o4.next hb7
  replace o5 := o5.next hb7
  replace o6 := o6.next hb7
  replace o7 := o7.next hb7
  replace o8 := o8.next hb7
  replace hB := below_next hB hb7
  go_wp2_with fail
  refine (eqInt64S_any _ _ _ _ _ o8.sl o4.sl).mono ?_
  rintro e w8 ⟨rfl, hb8⟩
  have hz8 := hb8.size
  replace o1 := o1.next hb8
  replace o2 := o2.next hb8
  replace o3 := o3.next hb8
  replace o4 := o4.next hb8
  replace o5 := o5.next hb8
  replace o6 := o6.next hb8
  replace o7 := o7.next hb8
  replace o8 := o8.next hb8
  replace hB := below_next hB hb8
  go_wp2_with fail
  refine (toInt64S_any _ l0 _ (hS0.out.next hB) (by omega)).mono ?_
  rintro e w9 ⟨v9, rfl, o9, hb9⟩
  have hz9 := hb9.size
  replace o1 := o1.next hb9
  replace o2 := o2.next hb9
  replace o3 := o3.next hb9
  replace o4 := o4.next hb9
  replace o5 := o5.next hb9
  replace o6 := o6.next hb9
  replace o7 := o7.next hb9
  replace o8 := o8.next hb9
  replace hB := below_next hB hb9
  have lt_o9 := fun k hk => (o9.lt k hk).2
  go_wp2_with fail
  refine (eqInt64S_any _ _ _ _ _ o5.sl o9.sl).mono ?_
  rintro e w10 ⟨rfl, hb10⟩
  have hz10 := hb10.size
  replace o1 := o1.next hb10
  replace o2 := o2.next hb10
  replace o3 := o3.next hb10
  replace o4 := o4.next hb10
  replace o5 := o5.next hb10
  replace o6 := o6.next hb10
  replace o7 := o7.next hb10
  replace o8 := o8.next hb10
  replace o9 := o9.next hb10
  replace hB := below_next hB hb10
  go_wp2_with fail
  refine (toInt64S_any _ l1 _ (hS1.out.next hB) (by omega)).mono ?_
  rintro e w11 ⟨v10, rfl, o10, hb11⟩
  have hz11 := hb11.size
  replace o1 := o1.next hb11
  replace o2 := o2.next hb11
  replace o3 := o3.next hb11
  replace o4 := o4.next hb11
  replace o5 := o5.next hb11
  replace o6 := o6.next hb11
  replace o7 := o7.next hb11
  replace o8 := o8.next hb11
  replace o9 := o9.next hb11
  replace hB := below_next hB hb11
  have lt_o10 := fun k hk => (o10.lt k hk).2
  go_wp2_with fail
  refine (eqInt64S_any _ _ _ _ _ o6.sl o10.sl).mono ?_
  rintro e w12 ⟨rfl, hb12⟩
  have hz12 := hb12.size
  replace o1 := o1.next hb12
  replace o2 := o2.next hb12
  replace o3 := o3.next hb12
  replace o4 := o4.next hb12
  replace o5 := o5.next hb12
  replace o6 := o6.next hb12
  replace o7 := o7.next hb12
  replace o8 := o8.next hb12
  replace o9 := o9.next hb12
  replace o10 := o10.next hb12
  replace hB := below_next hB hb12
  go_wp2_with fail
  refine (markInt64S_any _ _ _ _ _ o5 (by omega) (by omega) (by omega)).mono ?_
  rintro e w13 ⟨rfl, om13, hg13⟩
  have hz13 := hg13.size
  replace o1 := o1.kept hg13 (fun k hk e => by have h1 := o1.lt k hk; have h2 := o5.lt k e; have h3 := lt_o1 k hk; have h4 := lt_o5 k e; omega)
  replace o2 := o2.kept hg13 (fun k hk e => by have h1 := o2.lt k hk; have h2 := o5.lt k e; have h3 := lt_o2 k hk; have h4 := lt_o5 k e; omega)
  replace o3 := o3.kept hg13 (fun k hk e => by have h1 := o3.lt k hk; have h2 := o5.lt k e; have h3 := lt_o3 k hk; have h4 := lt_o5 k e; omega)
  replace o4 := o4.kept hg13 (fun k hk e => by have h1 := o4.lt k hk; have h2 := o5.lt k e; have h3 := lt_o4 k hk; have h4 := lt_o5 k e; omega)
  replace o6 := o6.kept hg13 (fun k hk e => by have h1 := o6.lt k hk; have h2 := o5.lt k e; have h3 := lt_o6 k hk; have h4 := lt_o5 k e; omega)
  replace o7 := o7.kept hg13 (fun k hk e => by have h1 := o7.lt k hk; have h2 := o5.lt k e; have h3 := lt_o7 k hk; have h4 := lt_o5 k e; omega)
  replace o8 := o8.kept hg13 (fun k hk e => by have h1 := o8.lt k hk; have h2 := o5.lt k e; have h3 := lt_o8 k hk; have h4 := lt_o5 k e; omega)
  replace o9 := o9.kept hg13 (fun k hk e => by have h1 := o9.lt k hk; have h2 := o5.lt k e; have h3 := lt_o9 k hk; have h4 := lt_o5 k e; omega)
  replace o10 := o10.kept hg13 (fun k hk e => by have h1 := o10.lt k hk; have h2 := o5.lt k e; have h3 := lt_o10 k hk; have h4 := lt_o5 k e; omega)
  replace hB := hB.grown hg13 hB.size (fun k hk => by have := (o5.lt k hk).1; omega)
  clear o5
  have o5 := om13
  clear om13
  go_wp2_with fail
  refine (markInt64S_any _ _ _ _ _ o6 (by omega) (by omega) (by omega)).mono ?_
  rintro e w14 ⟨rfl, om14, hg14⟩
  have hz14 := hg14.size
  replace o1 := o1.kept hg14 (fun k hk e => by have h1 := o1.lt k hk; have h2 := o6.lt k e; have h3 := lt_o1 k hk; have h4 := lt_o6 k e; omega)
  replace o2 := o2.kept hg14 (fun k hk e => by have h1 := o2.lt k hk; have h2 := o6.lt k e; have h3 := lt_o2 k hk; have h4 := lt_o6 k e; omega)
  replace o3 := o3.kept hg14 (fun k hk e => by have h1 := o3.lt k hk; have h2 := o6.lt k e; have h3 := lt_o3 k hk; have h4 := lt_o6 k e; omega)
  replace o4 := o4.kept hg14 (fun k hk e => by have h1 := o4.lt k hk; have h2 := o6.lt k e; have h3 := lt_o4 k hk; have h4 := lt_o6 k e; omega)
  replace o5 := o5.kept hg14 (fun k hk e => by have h1 := o5.lt k hk; have h2 := o6.lt k e; have h3 := lt_o5 k hk; have h4 := lt_o6 k e; omega)
  replace o7 := o7.kept hg14 (fun k hk e => by have h1 := o7.lt k hk; have h2 := o6.lt k e; have h3 := lt_o7 k hk; have h4 := lt_o6 k e; omega)
  replace o8 := o8.kept hg14 (fun k hk e => by have h1 := o8.lt k hk; have h2 := o6.lt k e; have h3 := lt_o8 k hk; have h4 := lt_o6 k e; omega)
  replace o9 := o9.kept hg14 (fun k hk e => by have h1 := o9.lt k hk; have h2 := o6.lt k e; have h3 := lt_o9 k hk; have h4 := lt_o6 k e; omega)
  replace o10 := o10.kept hg14 (fun k hk e => by have h1 := o10.lt k hk; have h2 := o6.lt k e; have h3 := lt_o10 k hk; have h4 := lt_o6 k e; omega)
  replace hB := hB.grown hg14 hB.size (fun k hk => by have := (o6.lt k hk).1; omega)
  clear o6
  have o6 := om14
  clear om14
  go_wp2_with fail
  refine (eqInt64S_any _ _ _ _ _ o7.sl o3.sl).mono ?_
  rintro e w15 ⟨rfl, hb15⟩
  have hz15 := hb15.size
  replace o1 := o1.next hb15
  replace o2 := o2.next hb15
  replace o3 := o3.next hb15
  replace o4 := o4.next hb15
  replace o5 := o5.next hb15
  replace o6 := o6.next hb15
  replace o7 := o7.next hb15
  replace o8 := o8.next hb15
  replace o9 := o9.next hb15
  replace o10 := o10.next hb15
  replace hB := below_next hB hb15
  go_wp2_with fail
  refine (eqInt64S_any _ _ _ _ _ o8.sl o4.sl).mono ?_
  rintro e w16 ⟨rfl, hb16⟩
  have hz16 := hb16.size
  replace o1 := o1.next hb16
  replace o2 := o2.next hb16
  replace o3 := o3.next hb16
  replace o4 := o4.next hb16
  replace o5 := o5.next hb16
  replace o6 := o6.next hb16
  replace o7 := o7.next hb16
  replace o8 := o8.next hb16
  replace o9 := o9.next hb16
  replace o10 := o10.next hb16
  replace hB := below_next hB hb16
  go_wp2_with fail
  refine (markInt64S_any _ _ _ _ _ o7 (by omega) (by omega) (by omega)).mono ?_
  rintro e w17 ⟨rfl, om17, hg17⟩
  have hz17 := hg17.size
  replace o1 := o1.kept hg17 (fun k hk e => by have h1 := o1.lt k hk; have h2 := o7.lt k e; have h3 := lt_o1 k hk; have h4 := lt_o7 k e; omega)
  replace o2 := o2.kept hg17 (fun k hk e => by have h1 := o2.lt k hk; have h2 := o7.lt k e; have h3 := lt_o2 k hk; have h4 := lt_o7 k e; omega)
  replace o3 := o3.kept hg17 (fun k hk e => by have h1 := o3.lt k hk; have h2 := o7.lt k e; have h3 := lt_o3 k hk; have h4 := lt_o7 k e; omega)
  replace o4 := o4.kept hg17 (fun k hk e => by have h1 := o4.lt k hk; have h2 := o7.lt k e; have h3 := lt_o4 k hk; have h4 := lt_o7 k e; omega)
  replace o5 := o5.kept hg17 (fun k hk e => by have h1 := o5.lt k hk; have h2 := o7.lt k e; have h3 := lt_o5 k hk; have h4 := lt_o7 k e; omega)
  replace o6 := o6.kept hg17 (fun k hk e => by have h1 := o6.lt k hk; have h2 := o7.lt k e; have h3 := lt_o6 k hk; have h4 := lt_o7 k e; omega)
  replace o8 := o8.kept hg17 (fun k hk e => ap7 k e hk)
  replace o9 := o9.kept hg17 (fun k hk e => by have h1 := o9.lt k hk; have h2 := o7.lt k e; have h3 := lt_o9 k hk; have h4 := lt_o7 k e; omega)
  replace o10 := o10.kept hg17 (fun k hk e => by have h1 := o10.lt k hk; have h2 := o7.lt k e; have h3 := lt_o10 k hk; have h4 := lt_o7 k e; omega)
  replace hB := hB.grown hg17 hB.size (fun k hk => by have := (o7.lt k hk).1; omega)
  clear o7
  have o7 := om17
  clear om17
  go_wp2_with fail
  refine (markInt64S_any _ _ _ _ _ o8 (by omega) (by omega) (by omega)).mono ?_
  rintro e w18 ⟨rfl, om18, hg18⟩
  have hz18 := hg18.size
  replace o1 := o1.kept hg18 (fun k hk e => by have h1 := o1.lt k hk; have h2 := o8.lt k e; have h3 := lt_o1 k hk; have h4 := lt_o8 k e; omega)
  replace o2 := o2.kept hg18 (fun k hk e => by have h1 := o2.lt k hk; have h2 := o8.lt k e; have h3 := lt_o2 k hk; have h4 := lt_o8 k e; omega)
  replace o3 := o3.kept hg18 (fun k hk e => by have h1 := o3.lt k hk; have h2 := o8.lt k e; have h3 := lt_o3 k hk; have h4 := lt_o8 k e; omega)
  replace o4 := o4.kept hg18 (fun k hk e => by have h1 := o4.lt k hk; have h2 := o8.lt k e; have h3 := lt_o4 k hk; have h4 := lt_o8 k e; omega)
  replace o5 := o5.kept hg18 (fun k hk e => by have h1 := o5.lt k hk; have h2 := o8.lt k e; have h3 := lt_o5 k hk; have h4 := lt_o8 k e; omega)
  replace o6 := o6.kept hg18 (fun k hk e => by have h1 := o6.lt k hk; have h2 := o8.lt k e; have h3 := lt_o6 k hk; have h4 := lt_o8 k e; omega)
  replace o7 := o7.kept hg18 ap7
  replace o9 := o9.kept hg18 (fun k hk e => by have h1 := o9.lt k hk; have h2 := o8.lt k e; have h3 := lt_o9 k hk; have h4 := lt_o8 k e; omega)
  replace o10 := o10.kept hg18 (fun k hk e => by have h1 := o10.lt k hk; have h2 := o8.lt k e; have h3 := lt_o10 k hk; have h4 := lt_o8 k e; omega)
  replace hB := hB.grown hg18 hB.size (fun k hk => by have := (o8.lt k hk).1; omega)
  clear o8
  have o8 := om18
  clear om18
  go_wp2_with fail
  refine (heldInt64S_any _ _ _ _ o7.sl (by omega) (by omega) (by omega)).mono ?_
  rintro e _ ⟨rfl, rfl⟩
  go_wp2_with fail
  refine (heldInt64S_any _ _ _ _ o8.sl (by omega) (by omega) (by omega)).mono ?_
  rintro e _ ⟨rfl, rfl⟩
  go_wp2_with fail
  refine (toInt64S_any _ l0 _ (hS0.out.next hB) (by omega)).mono ?_
  rintro e w19 ⟨v11, rfl, o11, hb19⟩
  have hz19 := hb19.size
  replace o1 := o1.next hb19
  replace o2 := o2.next hb19
  replace o3 := o3.next hb19
  replace o4 := o4.next hb19
  replace o5 := o5.next hb19
  replace o6 := o6.next hb19
  replace o7 := o7.next hb19
  replace o8 := o8.next hb19
  replace o9 := o9.next hb19
  replace o10 := o10.next hb19
  replace hB := below_next hB hb19
  have lt_o11 := fun k hk => (o11.lt k hk).2
  go_wp2_with fail
  refine (toInt64S_any _ l1 _ (hS1.out.next hB) (by omega)).mono ?_
  rintro e w20 ⟨v12, rfl, o12, hb20⟩
  have hz20 := hb20.size
  replace o1 := o1.next hb20
  replace o2 := o2.next hb20
  replace o3 := o3.next hb20
  replace o4 := o4.next hb20
  replace o5 := o5.next hb20
  replace o6 := o6.next hb20
  replace o7 := o7.next hb20
  replace o8 := o8.next hb20
  replace o9 := o9.next hb20
  replace o10 := o10.next hb20
  replace o11 := o11.next hb20
  replace hB := below_next hB hb20
  have lt_o12 := fun k hk => (o12.lt k hk).2
  go_wp2_with fail
  refine (HI.out _ _ _ o11.sl o12.sl).mono ?_
  rintro e w21 ⟨v13, v14, rfl, o13, o14, ap13, hb21⟩
  have hz21 := hb21.size
  replace o1 := o1.next hb21
  replace o2 := o2.next hb21
  replace o3 := o3.next hb21
  replace o4 := o4.next hb21
  replace o5 := o5.next hb21
  replace o6 := o6.next hb21
  replace o7 := o7.next hb21
  replace o8 := o8.next hb21
  replace o9 := o9.next hb21
  replace o10 := o10.next hb21
  replace o11 := o11.next hb21
  replace o12 := o12.next hb21
  replace hB := below_next hB hb21
  have lt_o13 := fun k hk => (o13.lt k hk).2
  have lt_o14 := fun k hk => (o14.lt k hk).2
  go_wp2_with fail
  refine (eqInt64S_any _ _ _ _ _ o13.sl o3.sl).mono ?_
  rintro e w22 ⟨rfl, hb22⟩
  have hz22 := hb22.size
  replace o1 := o1.next hb22
  replace o2 := o2.next hb22
  replace o3 := o3.next hb22
  replace o4 := o4.next hb22
  replace o5 := o5.next hb22
  replace o6 := o6.next hb22
  replace o7 := o7.next hb22
  replace o8 := o8.next hb22
  replace o9 := o9.next hb22
  replace o10 := o10.next hb22
  replace o11 := o11.next hb22
  replace o12 := o12.next hb22
  replace o13 := o13.next hb22
  replace o14 := o14.next hb22
  replace hB := below_next hB hb22
  go_wp2_with fail
  refine (eqInt64S_any _ _ _ _ _ o14.sl o4.sl).mono ?_
  rintro e w23 ⟨rfl, hb23⟩
  have hz23 := hb23.size
  replace o1 := o1.next hb23
  replace o2 := o2.next hb23
  replace o3 := o3.next hb23
  replace o4 := o4.next hb23
  replace o5 := o5.next hb23
  replace o6 := o6.next hb23
  replace o7 := o7.next hb23
  replace o8 := o8.next hb23
  replace o9 := o9.next hb23
  replace o10 := o10.next hb23
  replace o11 := o11.next hb23
  replace o12 := o12.next hb23
  replace o13 := o13.next hb23
  replace o14 := o14.next hb23
  replace hB := below_next hB hb23
  go_wp2_with fail
  refine (heldInt64S_any _ _ _ _ o7.sl (by omega) (by omega) (by omega)).mono ?_
  rintro e _ ⟨rfl, rfl⟩
  go_wp2_with fail
  refine (heldInt64S_any _ _ _ _ o8.sl (by omega) (by omega) (by omega)).mono ?_
  rintro e _ ⟨rfl, rfl⟩
  go_wp2_with fail
  go_ret
  exact ⟨rfl, hB⟩
end Go.Proofs.Ytanjpkcacgjgfaa
