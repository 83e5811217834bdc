/- The walk of FnExactPruneMachine: it returns true. No condition. -/
import Derived.Test.YthijhpkkijjlfaaMPrune
import Derived.Test.YthijhpkkijjlfaaMDraw
namespace Go.Proofs.Ythijhpkkijjlfaa
open Go.RowKit
set_option maxHeartbeats 4000000 in
set_option maxRecDepth 100000 in
theorem walkPruneMachine (v0 : Value) (z0 : Int × Int × List Int) (w : World) (h0 : IsM w v0 z0) :
    Calls Try.prog 3 #[v0] w fun e w' => e = .returned (.bool true) ∧ Below w.heap.size w w' := by
  obtain ⟨sy0, st0, l0⟩ := z0
  obtain ⟨rv0, rfl, hs0, f0, hy0, ht0⟩ := h0
  have hS0 : Hid (Sl3 w rv0 l0) := Lib.hid hs0
  obtain ⟨A0, n0, c0, rfl, hnc0, hcm0, hr0⟩ := hs0
  have hl0 := hr0.1
  clear hr0
  simp only at hl0 hy0 ht0 f0
  have HL0 := Lib.hid hl0
  clear hl0
  have hB : Below w.heap.size w w := Below.refl _ _
  go_enter Try.func3, Try.ntmps3
  go_wp2_with fail
  refine (szMachine_any sy0 st0 A0 n0 c0 1048576 _ (by omega) (by omega) hnc0 hcm0).mono ?_
  rintro e w1 ⟨rfl, hb1⟩
  have hd1 : Below w.heap.size w w1 := (below_one w (.cells #[.int .i64 sy0, .int .i64 st0, .slice A0 n0 c0] 24)).trans (hb1.mono (by simp))
  have hz1 : w.heap.size + 1 ≤ w1.heap.size := by have := hb1.size; first | omega | (simp at this; omega)
  have HB_P0 : Hid (C3 w1 (w.heap.size) (.int .i64 sy0) (.int .i64 st0) (.slice A0 n0 c0)) := Lib.hid (C3.next (C3.made w _ _ _ _) hb1)
  replace hB := below_next hB hd1
  by_cases hg0 : 1048576 < ((n0 : Nat) : Int)
  · rw [szI_no hg0]
    go_wp2_with fail
    go_ret
    exact ⟨rfl, hB⟩
  rw [szI_yes hg0]
  have he0 : decide ((1048576 - ((n0 : Nat) : Int)) < 0) = false := decide_eq_false (by omega)
  have hn0 : l0.length ≤ 3145728 := by have := HL0.out; omega
  obtain ⟨RS0, RT0, R0, R1, R2, hR0, hR1, hs, hi⟩ := bothPruneMachine sy0 st0 l0 ⟨f0, hn0, hy0, ht0⟩
  have HS := Lib.hid hs
  have HI := Lib.hid hi
  clear hs hi
  -- w0, w1, w2 := spec.PruneMachine(toMachine(aM))
  obtain ⟨pP00, pP01, pP02⟩ := HB_P0.out
  go_wp2_with fail
  refine (toMachine_any sy0 st0 _ l0 _ (hS0.out.next hB) (by omega)).mono ?_
  rintro e w2 ⟨v_1, rfl, o1, hb2⟩
  obtain ⟨A_1, N_1, C_1, rfl, _, _, hq_1⟩ := o1.sl
  clear hq_1
  replace o1 := o1.lower (base' := w1.heap.size + 0) (by first | exact Nat.le_refl _ | (simp; done) | (simp; omega))
  have hd2 := hb2
  have hz2 : w1.heap.size + 0 ≤ w2.heap.size := by have := hb2.size; first | omega | (simp at this; omega)
  replace HB_P0 := Lib.hid (HB_P0.out.next hd2)
  replace hB := below_next hB hd2
  have lt_o1 := fun k hk => (o1.lt k hk).2
  clear pP00 pP01 pP02
  obtain ⟨pP00, pP01, pP02⟩ := HB_P0.out
  go_wp2_with fail
  refine (HS.out _ _ o1.sl).mono ?_
  rintro e w3 ⟨v_2, v_3, rfl, o2, o3, ap2, hb3⟩
  obtain ⟨A_2, N_2, C_2, rfl, _, _, hq_2⟩ := o2.sl
  clear hq_2
  replace o2 := o2.lower (base' := w2.heap.size + 0) (by first | exact Nat.le_refl _ | (simp; done) | (simp; omega))
  replace o3 := o3.lower (base' := w2.heap.size + 0) (by first | exact Nat.le_refl _ | (simp; done) | (simp; omega))
  have hd3 := hb3
  have hz3 : w2.heap.size + 0 ≤ w3.heap.size := by have := hb3.size; first | omega | (simp at this; omega)
  replace o1 := o1.next hd3
  replace HB_P0 := Lib.hid (HB_P0.out.next hd3)
  replace hB := below_next hB hd3
  have lt_o2 := fun k hk => (o2.lt k hk).2
  have lt_o3 := fun k hk => (o3.lt k hk).2
  clear pP00 pP01 pP02
  -- x0 := toMachine(aM)
  obtain ⟨pP00, pP01, pP02⟩ := C3.next HB_P0.out (below_one w3 (.cells #[.int .i64 RS0, .int .i64 RT0, .slice A_2 N_2 C_2] 28))
  go_wp2_with fail
  refine (toMachine_any sy0 st0 _ l0 _ ((hS0.out.next hB).next (below_one w3 (.cells #[.int .i64 RS0, .int .i64 RT0, .slice A_2 N_2 C_2] 28))) (by omega)).mono ?_
  rintro e w4 ⟨v_4, rfl, o4, hb4⟩
  obtain ⟨A_4, N_4, C_4, rfl, _, _, hq_4⟩ := o4.sl
  clear hq_4
  replace o4 := o4.lower (base' := w3.heap.size + 1) (by first | exact Nat.le_refl _ | (simp; done) | (simp; omega))
  have hd4 : Below w3.heap.size w3 w4 := (below_one w3 (.cells #[.int .i64 RS0, .int .i64 RT0, .slice A_2 N_2 C_2] 28)).trans (hb4.mono (by simp))
  have hz4 : w3.heap.size + 1 ≤ w4.heap.size := by have := hb4.size; first | omega | (simp at this; omega)
  replace o1 := o1.next hd4
  replace o2 := o2.next hd4
  replace o3 := o3.next hd4
  replace HB_P0 := Lib.hid (HB_P0.out.next hd4)
  have HB_w0 : Hid (C3 w4 (w3.heap.size) (.int .i64 RS0) (.int .i64 RT0) (.slice A_2 N_2 C_2)) := Lib.hid (C3.next (C3.made w3 _ _ _ _) hb4)
  replace hB := below_next hB hd4
  have lt_o4 := fun k hk => (o4.lt k hk).2
  clear pP00 pP01 pP02
  -- g0, g1, g2 := impl.PruneMachine(x0)
  go_wp2_with fail
  refine (HI.out _ _ (o4.sl.next (below_one w4 (.cells #[.int .i64 sy0, .int .i64 st0, .slice A_4 N_4 C_4] 28)))).mono ?_
  rintro e w5 ⟨v_5, v_6, rfl, o5, o6, ap5, hb5⟩
  obtain ⟨A_5, N_5, C_5, rfl, _, _, hq_5⟩ := o5.sl
  clear hq_5
  replace o5 := o5.lower (base' := w4.heap.size + 1) (by first | exact Nat.le_refl _ | (simp; done) | (simp; omega))
  replace o6 := o6.lower (base' := w4.heap.size + 1) (by first | exact Nat.le_refl _ | (simp; done) | (simp; omega))
  have hd5 : Below w4.heap.size w4 w5 := (below_one w4 (.cells #[.int .i64 sy0, .int .i64 st0, .slice A_4 N_4 C_4] 28)).trans (hb5.mono (by simp))
  have hz5 : w4.heap.size + 1 ≤ w5.heap.size := by have := hb5.size; first | omega | (simp at this; omega)
  replace o1 := o1.next hd5
  replace o2 := o2.next hd5
  replace o3 := o3.next hd5
  replace o4 := o4.next hd5
  replace HB_P0 := Lib.hid (HB_P0.out.next hd5)
  replace HB_w0 := Lib.hid (HB_w0.out.next hd5)
  have HB_x0 : Hid (C3 w5 (w4.heap.size) (.int .i64 sy0) (.int .i64 st0) (.slice A_4 N_4 C_4)) := Lib.hid (C3.next (C3.made w4 _ _ _ _) hb5)
  replace hB := below_next hB hd5
  have lt_o5 := fun k hk => (o5.lt k hk).2
  have lt_o6 := fun k hk => (o6.lt k hk).2
  -- if !eqMachine(g0, w0) || !eqInt64S(g1, w1) || g2 != w2 
  obtain ⟨pw00, pw01, pw02⟩ := C3.next HB_w0.out (below_one w5 (.cells #[.int .i64 RS0, .int .i64 RT0, .slice A_5 N_5 C_5] 28))
  go_wp2_with fail
  refine (eqMachine_any _ _ _ _ _ _ _ _ _ (o5.sl.next (below_one w5 (.cells #[.int .i64 RS0, .int .i64 RT0, .slice A_5 N_5 C_5] 28))) (o2.sl.next (below_one w5 (.cells #[.int .i64 RS0, .int .i64 RT0, .slice A_5 N_5 C_5] 28)))).mono ?_
  rintro e w6 ⟨rfl, hb6⟩
  have hd6 : Below w5.heap.size w5 w6 := (below_one w5 (.cells #[.int .i64 RS0, .int .i64 RT0, .slice A_5 N_5 C_5] 28)).trans (hb6.mono (by simp))
  have hz6 : w5.heap.size + 1 ≤ w6.heap.size := by have := hb6.size; first | omega | (simp at this; omega)
  replace o1 := o1.next hd6
  replace o2 := o2.next hd6
  replace o3 := o3.next hd6
  replace o4 := o4.next hd6
  replace o5 := o5.next hd6
  replace o6 := o6.next hd6
  replace HB_P0 := Lib.hid (HB_P0.out.next hd6)
  replace HB_w0 := Lib.hid (HB_w0.out.next hd6)
  replace HB_x0 := Lib.hid (HB_x0.out.next hd6)
  have HB_g0 : Hid (C3 w6 (w5.heap.size) (.int .i64 RS0) (.int .i64 RT0) (.slice A_5 N_5 C_5)) := Lib.hid (C3.next (C3.made w5 _ _ _ _) hb6)
  replace hB := below_next hB hd6
  clear pw00 pw01 pw02
  go_wp2_with fail
  refine (eqInt64S_any _ _ _ _ _ o6.sl o3.sl).mono ?_
  rintro e w7 ⟨rfl, hb7⟩
  have hd7 := hb7
  have hz7 : w6.heap.size + 0 ≤ w7.heap.size := by have := hb7.size; first | omega | (simp at this; omega)
  replace o1 := o1.next hd7
  replace o2 := o2.next hd7
  replace o3 := o3.next hd7
  replace o4 := o4.next hd7
  replace o5 := o5.next hd7
  replace o6 := o6.next hd7
  replace HB_P0 := Lib.hid (HB_P0.out.next hd7)
  replace HB_w0 := Lib.hid (HB_w0.out.next hd7)
  replace HB_x0 := Lib.hid (HB_x0.out.next hd7)
  replace HB_g0 := Lib.hid (HB_g0.out.next hd7)
  replace hB := below_next hB hd7
  -- if !eqMachine(x0, toMachine(aM)) 
  obtain ⟨px00, px01, px02⟩ := HB_x0.out
  obtain ⟨pP00, pP01, pP02⟩ := HB_P0.out
  go_wp2_with fail
  go_region_held3 (fun w' => (w'.cell? ⟨w4.heap.size, 0, none⟩ = some (.int .i64 sy0) ∧ w'.cell? ⟨w4.heap.size, 1, none⟩ = some (.int .i64 st0) ∧ w'.cell? ⟨w4.heap.size, 2, none⟩ = some (.slice A_4 N_4 C_4)) ∧ (w'.cell? ⟨w.heap.size, 0, none⟩ = some (.int .i64 sy0) ∧ w'.cell? ⟨w.heap.size, 1, none⟩ = some (.int .i64 st0) ∧ w'.cell? ⟨w.heap.size, 2, none⟩ = some (.slice A0 n0 c0)))
    (first | go_keep | (exact ⟨C3.next (C3.drew (HB_x0.out)) hb8, C3.next (C3.drew (HB_P0.out)) hb8⟩) | (exact ⟨C3.next (C3.next (C3.drew (HB_x0.out)) hb8) hb9, C3.next (C3.next (C3.drew (HB_P0.out)) hb8) hb9⟩))
    (first | (go_at_call 6; (with_reducible refine (toMachine_any sy0 st0 _ l0 _ (((hS0.out.next hB)).drew) (by omega)).mono ?_); rintro e w8 ⟨v_7, rfl, o7, hb8⟩; obtain ⟨A_7, N_7, C_7, rfl, _, _, hq_7⟩ := o7.sl; clear hq_7) | (go_at_call 8; (with_reducible refine (eqMachine_any _ _ _ _ _ _ _ _ _ (((o4.sl).drew).next hb8) (o7.sl)).mono ?_); rintro e w9 ⟨rfl, hb9⟩))
  replace o7 := o7.lower (base' := w7.heap.size + 0) (by first | exact Nat.le_refl _ | (simp; done) | (simp; omega))
  have hb8q : Below w7.heap.size w7 w8 := ⟨hb8.os, hb8.tape, hb8.output, hb8.size, hb8.block⟩
  have hd8 := hb8q
  have hz8 : w7.heap.size + 0 ≤ w8.heap.size := by have := hb8q.size; first | omega | (simp at this; omega)
  replace o1 := o1.next hd8
  replace o2 := o2.next hd8
  replace o3 := o3.next hd8
  replace o4 := o4.next hd8
  replace o5 := o5.next hd8
  replace o6 := o6.next hd8
  replace HB_P0 := Lib.hid (HB_P0.out.next hd8)
  replace HB_w0 := Lib.hid (HB_w0.out.next hd8)
  replace HB_x0 := Lib.hid (HB_x0.out.next hd8)
  replace HB_g0 := Lib.hid (HB_g0.out.next hd8)
  replace hB := below_next hB hd8
  have lt_o7 := fun k hk => (o7.lt k hk).2
  have hd9 := hb9
  have hz9 : w8.heap.size + 0 ≤ w9.heap.size := by have := hb9.size; first | omega | (simp at this; omega)
  replace o1 := o1.next hd9
  replace o2 := o2.next hd9
  replace o3 := o3.next hd9
  replace o4 := o4.next hd9
  replace o5 := o5.next hd9
  replace o6 := o6.next hd9
  replace o7 := o7.next hd9
  replace HB_P0 := Lib.hid (HB_P0.out.next hd9)
  replace HB_w0 := Lib.hid (HB_w0.out.next hd9)
  replace HB_x0 := Lib.hid (HB_x0.out.next hd9)
  replace HB_g0 := Lib.hid (HB_g0.out.next hd9)
  replace hB := below_next hB hd9
  clear px00 px01 px02
  clear pP00 pP01 pP02
  -- k = markMachine(x0, k)
  obtain ⟨px00, px01, px02⟩ := HB_x0.out
  go_wp2_with fail
  refine (markMachine_any _ _ _ _ _ _ _ o4 (by omega) (by omega) (by omega)).mono ?_
  rintro e w10 ⟨rfl, om10, hg10⟩
  have hz10 := hg10.size
  clear px00 px01 px02
  replace o1 := o1.kept hg10 (fun k hk e => by have h1 := o1.lt k hk; have h2 := o4.lt k e; have h3 := lt_o1 k hk; have h4 := lt_o4 k e; omega)
  replace o2 := o2.kept hg10 (fun k hk e => by have h1 := o2.lt k hk; have h2 := o4.lt k e; have h3 := lt_o2 k hk; have h4 := lt_o4 k e; omega)
  replace o3 := o3.kept hg10 (fun k hk e => by have h1 := o3.lt k hk; have h2 := o4.lt k e; have h3 := lt_o3 k hk; have h4 := lt_o4 k e; omega)
  replace o5 := o5.kept hg10 (fun k hk e => by have h1 := o5.lt k hk; have h2 := o4.lt k e; have h3 := lt_o5 k hk; have h4 := lt_o4 k e; omega)
  replace o6 := o6.kept hg10 (fun k hk e => by have h1 := o6.lt k hk; have h2 := o4.lt k e; have h3 := lt_o6 k hk; have h4 := lt_o4 k e; omega)
  replace o7 := o7.kept hg10 (fun k hk e => by have h1 := o7.lt k hk; have h2 := o4.lt k e; have h3 := lt_o7 k hk; have h4 := lt_o4 k e; omega)
  replace HB_P0 := Lib.hid (C3.kept HB_P0.out hg10 (fun k e => by have h2 := o4.lt k e; have h4 := lt_o4 k e; omega))
  replace HB_w0 := Lib.hid (C3.kept HB_w0.out hg10 (fun k e => by have h2 := o4.lt k e; have h4 := lt_o4 k e; omega))
  replace HB_x0 := Lib.hid (C3.kept HB_x0.out hg10 (fun k e => by have h2 := o4.lt k e; have h4 := lt_o4 k e; omega))
  replace HB_g0 := Lib.hid (C3.kept HB_g0.out hg10 (fun k e => by have h2 := o4.lt k e; have h4 := lt_o4 k e; omega))
  replace hB := hB.grown hg10 hB.size (fun k hk => by have := (o4.lt k hk).1; omega)
  clear o4
  have o4 := om10
  clear om10
  -- if k < 0 || !eqMachine(g0, w0) || !eqInt64S(g1, w1) || g2 != w2 
  obtain ⟨pg00, pg01, pg02⟩ := HB_g0.out
  obtain ⟨pw00, pw01, pw02⟩ := HB_w0.out
  go_wp2_with fail
  refine (eqMachine_any _ _ _ _ _ _ _ _ _ o5.sl o2.sl).mono ?_
  rintro e w11 ⟨rfl, hb11⟩
  have hd11 := hb11
  have hz11 : w10.heap.size + 0 ≤ w11.heap.size := by have := hb11.size; first | omega | (simp at this; omega)
  replace o1 := o1.next hd11
  replace o2 := o2.next hd11
  replace o3 := o3.next hd11
  replace o4 := o4.next hd11
  replace o5 := o5.next hd11
  replace o6 := o6.next hd11
  replace o7 := o7.next hd11
  replace HB_P0 := Lib.hid (HB_P0.out.next hd11)
  replace HB_w0 := Lib.hid (HB_w0.out.next hd11)
  replace HB_x0 := Lib.hid (HB_x0.out.next hd11)
  replace HB_g0 := Lib.hid (HB_g0.out.next hd11)
  replace hB := below_next hB hd11
  clear pg00 pg01 pg02
  clear pw00 pw01 pw02
  go_wp2_with fail
  refine (eqInt64S_any _ _ _ _ _ o6.sl o3.sl).mono ?_
  rintro e w12 ⟨rfl, hb12⟩
  have hd12 := hb12
  have hz12 : w11.heap.size + 0 ≤ w12.heap.size := by have := hb12.size; first | omega | (simp at this; omega)
  replace o1 := o1.next hd12
  replace o2 := o2.next hd12
  replace o3 := o3.next hd12
  replace o4 := o4.next hd12
  replace o5 := o5.next hd12
  replace o6 := o6.next hd12
  replace o7 := o7.next hd12
  replace HB_P0 := Lib.hid (HB_P0.out.next hd12)
  replace HB_w0 := Lib.hid (HB_w0.out.next hd12)
  replace HB_x0 := Lib.hid (HB_x0.out.next hd12)
  replace HB_g0 := Lib.hid (HB_g0.out.next hd12)
  replace hB := below_next hB hd12
  -- m = markMachine(g0, m)
  obtain ⟨pg00, pg01, pg02⟩ := HB_g0.out
  go_wp2_with fail
  refine (markMachine_any _ _ _ _ _ _ _ o5 (by omega) (by omega) (by omega)).mono ?_
  rintro e w13 ⟨rfl, om13, hg13⟩
  have hz13 := hg13.size
  clear pg00 pg01 pg02
  replace o1 := o1.kept hg13 (fun k hk e => by have h1 := o1.lt k hk; have h2 := o5.lt k e; have h3 := lt_o1 k hk; have h4 := lt_o5 k e; omega)
  replace o2 := o2.kept hg13 (fun k hk e => by have h1 := o2.lt k hk; have h2 := o5.lt k e; have h3 := lt_o2 k hk; have h4 := lt_o5 k e; omega)
  replace o3 := o3.kept hg13 (fun k hk e => by have h1 := o3.lt k hk; have h2 := o5.lt k e; have h3 := lt_o3 k hk; have h4 := lt_o5 k e; omega)
  replace o4 := o4.kept hg13 (fun k hk e => by have h1 := o4.lt k hk; have h2 := o5.lt k e; have h3 := lt_o4 k hk; have h4 := lt_o5 k e; omega)
  replace o6 := o6.kept hg13 (fun k hk e => ap5 k e hk)
  replace o7 := o7.kept hg13 (fun k hk e => by have h1 := o7.lt k hk; have h2 := o5.lt k e; have h3 := lt_o7 k hk; have h4 := lt_o5 k e; omega)
  replace HB_P0 := Lib.hid (C3.kept HB_P0.out hg13 (fun k e => by have h2 := o5.lt k e; have h4 := lt_o5 k e; omega))
  replace HB_w0 := Lib.hid (C3.kept HB_w0.out hg13 (fun k e => by have h2 := o5.lt k e; have h4 := lt_o5 k e; omega))
  replace HB_x0 := Lib.hid (C3.kept HB_x0.out hg13 (fun k e => by have h2 := o5.lt k e; have h4 := lt_o5 k e; omega))
  replace HB_g0 := Lib.hid (C3.kept HB_g0.out hg13 (fun k e => by have h2 := o5.lt k e; have h4 := lt_o5 k e; omega))
  replace hB := hB.grown hg13 hB.size (fun k hk => by have := (o5.lt k hk).1; omega)
  clear o5
  have o5 := om13
  clear om13
  -- m = markInt64S(g1, m)
  go_wp2_with fail
  refine (markInt64S_any _ _ _ _ _ o6 (by omega) (by omega) (by omega)).mono ?_
  rintro e w14 ⟨rfl, om14, hg14⟩
  have hz14 := hg14.size
  replace o1 := o1.kept hg14 (fun k hk e => by have h1 := o1.lt k hk; have h2 := o6.lt k e; have h3 := lt_o1 k hk; have h4 := lt_o6 k e; omega)
  replace o2 := o2.kept hg14 (fun k hk e => by have h1 := o2.lt k hk; have h2 := o6.lt k e; have h3 := lt_o2 k hk; have h4 := lt_o6 k e; omega)
  replace o3 := o3.kept hg14 (fun k hk e => by have h1 := o3.lt k hk; have h2 := o6.lt k e; have h3 := lt_o3 k hk; have h4 := lt_o6 k e; omega)
  replace o4 := o4.kept hg14 (fun k hk e => by have h1 := o4.lt k hk; have h2 := o6.lt k e; have h3 := lt_o4 k hk; have h4 := lt_o6 k e; omega)
  replace o5 := o5.kept hg14 (fun k hk e => ap5 k hk e)
  replace o7 := o7.kept hg14 (fun k hk e => by have h1 := o7.lt k hk; have h2 := o6.lt k e; have h3 := lt_o7 k hk; have h4 := lt_o6 k e; omega)
  replace HB_P0 := Lib.hid (C3.kept HB_P0.out hg14 (fun k e => by have h2 := o6.lt k e; have h4 := lt_o6 k e; omega))
  replace HB_w0 := Lib.hid (C3.kept HB_w0.out hg14 (fun k e => by have h2 := o6.lt k e; have h4 := lt_o6 k e; omega))
  replace HB_x0 := Lib.hid (C3.kept HB_x0.out hg14 (fun k e => by have h2 := o6.lt k e; have h4 := lt_o6 k e; omega))
  replace HB_g0 := Lib.hid (C3.kept HB_g0.out hg14 (fun k e => by have h2 := o6.lt k e; have h4 := lt_o6 k e; omega))
  replace hB := hB.grown hg14 hB.size (fun k hk => by have := (o6.lt k hk).1; omega)
  clear o6
  have o6 := om14
  clear om14
  -- q = heldMachine(g0, q)
  obtain ⟨pg00, pg01, pg02⟩ := HB_g0.out
  go_wp2_with fail
  refine (heldMachine_any _ _ _ _ _ _ o5.sl (by omega) (by omega) (by omega)).mono ?_
  rintro e w15 ⟨rfl, hb15⟩
  have hd15 := hb15
  have hz15 : w14.heap.size + 0 ≤ w15.heap.size := by have := hb15.size; first | omega | (simp at this; omega)
  replace o1 := o1.next hd15
  replace o2 := o2.next hd15
  replace o3 := o3.next hd15
  replace o4 := o4.next hd15
  replace o5 := o5.next hd15
  replace o6 := o6.next hd15
  replace o7 := o7.next hd15
  replace HB_P0 := Lib.hid (HB_P0.out.next hd15)
  replace HB_w0 := Lib.hid (HB_w0.out.next hd15)
  replace HB_x0 := Lib.hid (HB_x0.out.next hd15)
  replace HB_g0 := Lib.hid (HB_g0.out.next hd15)
  replace hB := below_next hB hd15
  clear pg00 pg01 pg02
  -- q = heldInt64S(g1, q)
  go_wp2_with fail
  refine (heldInt64S_any _ _ _ _ o6.sl (by omega) (by omega) (by omega)).mono ?_
  rintro e _ ⟨rfl, rfl⟩
  -- h0, h1, h2 := impl.PruneMachine(toMachine(aM))
  obtain ⟨pP00, pP01, pP02⟩ := HB_P0.out
  go_wp2_with fail
  refine (toMachine_any sy0 st0 _ l0 _ (hS0.out.next hB) (by omega)).mono ?_
  rintro e w16 ⟨v_8, rfl, o8, hb16⟩
  obtain ⟨A_8, N_8, C_8, rfl, _, _, hq_8⟩ := o8.sl
  clear hq_8
  replace o8 := o8.lower (base' := w15.heap.size + 0) (by first | exact Nat.le_refl _ | (simp; done) | (simp; omega))
  have hd16 := hb16
  have hz16 : w15.heap.size + 0 ≤ w16.heap.size := by have := hb16.size; first | omega | (simp at this; omega)
  replace o1 := o1.next hd16
  replace o2 := o2.next hd16
  replace o3 := o3.next hd16
  replace o4 := o4.next hd16
  replace o5 := o5.next hd16
  replace o6 := o6.next hd16
  replace o7 := o7.next hd16
  replace HB_P0 := Lib.hid (HB_P0.out.next hd16)
  replace HB_w0 := Lib.hid (HB_w0.out.next hd16)
  replace HB_x0 := Lib.hid (HB_x0.out.next hd16)
  replace HB_g0 := Lib.hid (HB_g0.out.next hd16)
  replace hB := below_next hB hd16
  have lt_o8 := fun k hk => (o8.lt k hk).2
  clear pP00 pP01 pP02
  obtain ⟨pP00, pP01, pP02⟩ := HB_P0.out
  go_wp2_with fail
  refine (HI.out _ _ o8.sl).mono ?_
  rintro e w17 ⟨v_9, v_10, rfl, o9, o10, ap9, hb17⟩
  obtain ⟨A_9, N_9, C_9, rfl, _, _, hq_9⟩ := o9.sl
  clear hq_9
  replace o9 := o9.lower (base' := w16.heap.size + 0) (by first | exact Nat.le_refl _ | (simp; done) | (simp; omega))
  replace o10 := o10.lower (base' := w16.heap.size + 0) (by first | exact Nat.le_refl _ | (simp; done) | (simp; omega))
  have hd17 := hb17
  have hz17 : w16.heap.size + 0 ≤ w17.heap.size := by have := hb17.size; first | omega | (simp at this; omega)
  replace o1 := o1.next hd17
  replace o2 := o2.next hd17
  replace o3 := o3.next hd17
  replace o4 := o4.next hd17
  replace o5 := o5.next hd17
  replace o6 := o6.next hd17
  replace o7 := o7.next hd17
  replace o8 := o8.next hd17
  replace HB_P0 := Lib.hid (HB_P0.out.next hd17)
  replace HB_w0 := Lib.hid (HB_w0.out.next hd17)
  replace HB_x0 := Lib.hid (HB_x0.out.next hd17)
  replace HB_g0 := Lib.hid (HB_g0.out.next hd17)
  replace hB := below_next hB hd17
  have lt_o9 := fun k hk => (o9.lt k hk).2
  have lt_o10 := fun k hk => (o10.lt k hk).2
  clear pP00 pP01 pP02
  -- if !eqMachine(h0, w0) || !eqInt64S(h1, w1) || h2 != w2 
  obtain ⟨pw00, pw01, pw02⟩ := C3.next HB_w0.out (below_one w17 (.cells #[.int .i64 RS0, .int .i64 RT0, .slice A_9 N_9 C_9] 28))
  go_wp2_with fail
  refine (eqMachine_any _ _ _ _ _ _ _ _ _ (o9.sl.next (below_one w17 (.cells #[.int .i64 RS0, .int .i64 RT0, .slice A_9 N_9 C_9] 28))) (o2.sl.next (below_one w17 (.cells #[.int .i64 RS0, .int .i64 RT0, .slice A_9 N_9 C_9] 28)))).mono ?_
  rintro e w18 ⟨rfl, hb18⟩
  have hd18 : Below w17.heap.size w17 w18 := (below_one w17 (.cells #[.int .i64 RS0, .int .i64 RT0, .slice A_9 N_9 C_9] 28)).trans (hb18.mono (by simp))
  have hz18 : w17.heap.size + 1 ≤ w18.heap.size := by have := hb18.size; first | omega | (simp at this; omega)
  replace o1 := o1.next hd18
  replace o2 := o2.next hd18
  replace o3 := o3.next hd18
  replace o4 := o4.next hd18
  replace o5 := o5.next hd18
  replace o6 := o6.next hd18
  replace o7 := o7.next hd18
  replace o8 := o8.next hd18
  replace o9 := o9.next hd18
  replace o10 := o10.next hd18
  replace HB_P0 := Lib.hid (HB_P0.out.next hd18)
  replace HB_w0 := Lib.hid (HB_w0.out.next hd18)
  replace HB_x0 := Lib.hid (HB_x0.out.next hd18)
  replace HB_g0 := Lib.hid (HB_g0.out.next hd18)
  have HB_h0 : Hid (C3 w18 (w17.heap.size) (.int .i64 RS0) (.int .i64 RT0) (.slice A_9 N_9 C_9)) := Lib.hid (C3.next (C3.made w17 _ _ _ _) hb18)
  replace hB := below_next hB hd18
  clear pw00 pw01 pw02
  go_wp2_with fail
  refine (eqInt64S_any _ _ _ _ _ o10.sl o3.sl).mono ?_
  rintro e w19 ⟨rfl, hb19⟩
  have hd19 := hb19
  have hz19 : w18.heap.size + 0 ≤ w19.heap.size := by have := hb19.size; first | omega | (simp at this; omega)
  replace o1 := o1.next hd19
  replace o2 := o2.next hd19
  replace o3 := o3.next hd19
  replace o4 := o4.next hd19
  replace o5 := o5.next hd19
  replace o6 := o6.next hd19
  replace o7 := o7.next hd19
  replace o8 := o8.next hd19
  replace o9 := o9.next hd19
  replace o10 := o10.next hd19
  replace HB_P0 := Lib.hid (HB_P0.out.next hd19)
  replace HB_w0 := Lib.hid (HB_w0.out.next hd19)
  replace HB_x0 := Lib.hid (HB_x0.out.next hd19)
  replace HB_g0 := Lib.hid (HB_g0.out.next hd19)
  replace HB_h0 := Lib.hid (HB_h0.out.next hd19)
  replace hB := below_next hB hd19
  -- q = heldMachine(g0, q)
  obtain ⟨pg00, pg01, pg02⟩ := HB_g0.out
  go_wp2_with fail
  refine (heldMachine_any _ _ _ _ _ _ o5.sl (by omega) (by omega) (by omega)).mono ?_
  rintro e w20 ⟨rfl, hb20⟩
  have hd20 := hb20
  have hz20 : w19.heap.size + 0 ≤ w20.heap.size := by have := hb20.size; first | omega | (simp at this; omega)
  replace o1 := o1.next hd20
  replace o2 := o2.next hd20
  replace o3 := o3.next hd20
  replace o4 := o4.next hd20
  replace o5 := o5.next hd20
  replace o6 := o6.next hd20
  replace o7 := o7.next hd20
  replace o8 := o8.next hd20
  replace o9 := o9.next hd20
  replace o10 := o10.next hd20
  replace HB_P0 := Lib.hid (HB_P0.out.next hd20)
  replace HB_w0 := Lib.hid (HB_w0.out.next hd20)
  replace HB_x0 := Lib.hid (HB_x0.out.next hd20)
  replace HB_g0 := Lib.hid (HB_g0.out.next hd20)
  replace HB_h0 := Lib.hid (HB_h0.out.next hd20)
  replace hB := below_next hB hd20
  clear pg00 pg01 pg02
  -- q = heldInt64S(g1, q)
  go_wp2_with fail
  refine (heldInt64S_any _ _ _ _ o6.sl (by omega) (by omega) (by omega)).mono ?_
  rintro e _ ⟨rfl, rfl⟩
  go_wp2_with fail
  go_ret
  exact ⟨rfl, hB⟩
end Go.Proofs.Ythijhpkkijjlfaa
