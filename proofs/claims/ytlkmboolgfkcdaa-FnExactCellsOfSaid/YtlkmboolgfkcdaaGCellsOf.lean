/- The walk of FnExactCellsOf: it returns true. No condition. -/
import Derived.Test.YtlkmboolgfkcdaaMCells
namespace Go.Proofs.Ytlkmboolgfkcdaa
open Go.RowKit
set_option maxHeartbeats 4000000 in
set_option maxRecDepth 100000 in
theorem walkCellsOf (v0 : Value) (z0 : Int × Int × List Int) (v1 : Value) (z1 : Int × List Int × List Int) (w : World) (h0 : IsM w v0 z0) (h1 : IsC w v1 z1) :
    Calls Try.prog 12 #[v0, v1] w fun e w' => e = .returned (.bool true) ∧ Below w.heap.size w w' := by
  obtain ⟨sy0, st0, l0⟩ := z0
  obtain ⟨rv0, rfl, hs0, f0, hy0, ht0⟩ := h0
  have hS0 : Hid (Sl3 w rv0 l0) := Lib.hid hs0
  obtain ⟨A0, n0, c0, rfl, hnc0, hcm0, hr0⟩ := hs0
  have hl0 := hr0.1
  clear hr0
  simp only at hl0 hy0 ht0 f0
  have HL0 := Lib.hid hl0
  clear hl0
  obtain ⟨st1, l1, r1⟩ := z1
  obtain ⟨lv1, rv1, rfl, hs1, ht1, f1, g1, hy1⟩ := h1
  have hS1 : Hid (Sl w lv1 l1) := Lib.hid hs1
  have hT1 : Hid (Sl w rv1 r1) := Lib.hid ht1
  obtain ⟨A1, c1, rfl, hnc1, hcm1, hr1⟩ := hs1
  obtain ⟨B1, d1, rfl, hnd1, hdm1, hq1⟩ := ht1
  clear hr1 hq1
  simp only at hnc1 hnd1 hS1 hT1 f1 g1 hy1 ⊢
  have hB : Below w.heap.size w w := Below.refl _ _
  go_enter Try.func12, Try.ntmps12
  go_wp2_with fail
  refine (szMachine_any sy0 st0 A0 n0 c0 1048576 _ (by omega) (by omega) hnc0 hcm0).mono ?_
  rintro e w1 ⟨rfl, hb1⟩
  have hd1 : Below w.heap.size w w1 := (below_two w (.cells #[.int .i64 sy0, .int .i64 st0, .slice A0 n0 c0] 24) (.cells #[.int .i64 st1, .slice A1 l1.length c1, .slice B1 r1.length d1] 49)).trans (hb1.mono (by simp; omega))
  have hz1 : w.heap.size + 2 ≤ w1.heap.size := by have := hb1.size; first | omega | (simp at this; omega)
  have HB_P0 : Hid (C3 w1 (w.heap.size) (.int .i64 sy0) (.int .i64 st0) (.slice A0 n0 c0)) := Lib.hid (C3.next (C3.next (C3.made w _ _ _ _) (below_one _ _)) hb1)
  have HB_P1 : Hid (C3 w1 (w.heap.size + 1) (.int .i64 st1) (.slice A1 l1.length c1) (.slice B1 r1.length d1)) := Lib.hid (by have h := C3.next (C3.made (w.alloc (.cells #[.int .i64 sy0, .int .i64 st0, .slice A0 n0 c0] 24)) (.int .i64 st1) (.slice A1 l1.length c1) (.slice B1 r1.length d1) _) hb1; simpa using h)
  replace hB := below_next hB hd1
  by_cases hg0 : 1048576 < ((n0 : Nat) : Int)
  · rw [szI_no hg0]
    go_wp2_with fail
    go_ret
    exact ⟨rfl, hB⟩
  rw [szI_yes hg0]
  have he0 : decide ((1048576 - ((n0 : Nat) : Int)) < 0) = false := decide_eq_false (by omega)
  obtain ⟨pP10, pP11, pP12⟩ := HB_P1.out
  go_wp2_with fail
  refine (szConfig_any st1 A1 B1 l1.length r1.length c1 d1 (1048576 - ((n0 : Nat) : Int)) _ (by omega) (by omega) hnc1 hcm1 hnd1 hdm1).mono ?_
  rintro e w2 ⟨rfl, hb2⟩
  have hd2 := hb2
  have hz2 : w1.heap.size + 0 ≤ w2.heap.size := by have := hb2.size; first | omega | (simp at this; omega)
  replace HB_P0 := Lib.hid (HB_P0.out.next hd2)
  replace HB_P1 := Lib.hid (HB_P1.out.next hd2)
  replace hB := below_next hB hd2
  clear pP10 pP11 pP12
  by_cases hg1 : (1048576 - ((n0 : Nat) : Int)) < (((l1.length + r1.length) : Nat) : Int)
  · rw [szI_no hg1]
    go_wp2_with fail
    go_ret
    exact ⟨rfl, hB⟩
  rw [szI_yes hg1]
  have he1 : decide (((1048576 - ((n0 : Nat) : Int)) - (((l1.length + r1.length) : Nat) : Int)) < 0) = false := decide_eq_false (by omega)
  have hn0 : l0.length ≤ 3145728 := by have := HL0.out; omega
  have hn1 : l1.length ≤ 1048576 := by omega
  have hm1 : r1.length ≤ 1048576 := by omega
  obtain ⟨R0, R1, R2, hR0, hs, hi⟩ := bothCellsOf sy0 st0 l0 st1 l1 r1 ⟨f0, hn0, hy0, ht0⟩ ⟨f1, hn1, g1, hm1, hy1⟩
  have HS := Lib.hid hs
  have HI := Lib.hid hi
  clear hs hi
  -- w0, w1, w2 := spec.CellsOf(toMachine(aM), toConfig(aC))
  obtain ⟨pP00, pP01, pP02⟩ := HB_P0.out
  obtain ⟨pP10, pP11, pP12⟩ := HB_P1.out
  go_wp2_with fail
  go_region_held3 (fun w' => (w'.cell? ⟨w.heap.size, 0, none⟩ = some (.int .i64 sy0) ∧ w'.cell? ⟨w.heap.size, 1, none⟩ = some (.int .i64 st0) ∧ w'.cell? ⟨w.heap.size, 2, none⟩ = some (.slice A0 n0 c0)) ∧ (w'.cell? ⟨w.heap.size + 1, 0, none⟩ = some (.int .i64 st1) ∧ w'.cell? ⟨w.heap.size + 1, 1, none⟩ = some (.slice A1 l1.length c1) ∧ w'.cell? ⟨w.heap.size + 1, 2, none⟩ = some (.slice B1 r1.length d1)))
    (first | go_keep | (exact ⟨C3.next (C3.drew (HB_P0.out)) hb3, C3.next (C3.drew (HB_P1.out)) hb3⟩) | (exact ⟨C3.next (C3.next (C3.drew (HB_P0.out)) hb3) hb4, C3.next (C3.next (C3.drew (HB_P1.out)) hb3) hb4⟩) | (exact ⟨C3.next (C3.next (C3.next (C3.drew (HB_P0.out)) hb3) hb4) hb5, C3.next (C3.next (C3.next (C3.drew (HB_P1.out)) hb3) hb4) hb5⟩))
    (first | (go_at_call 15; (with_reducible refine (toMachine_any sy0 st0 _ l0 _ (((hS0.out.next hB)).drew) (by omega)).mono ?_); rintro e w3 ⟨v_1, rfl, o1, hb3⟩; obtain ⟨A_1, N_1, C_1, rfl, _, _, hq_1⟩ := o1.sl; clear hq_1) | (go_at_call 34; (with_reducible refine (toConfig_any st1 _ _ l1 r1 _ ((((hS1.out.next hB)).drew).next hb3) ((((hT1.out.next hB)).drew).next hb3) (by omega) (by omega)).mono ?_); rintro e w4 ⟨v_2, v_3, rfl, o2, o3, ap2, hb4⟩; obtain ⟨A_2, C_2, rfl, _, _, hq_2⟩ := o2.sl; clear hq_2; obtain ⟨A_3, C_3, rfl, _, _, hq_3⟩ := o3.sl; clear hq_3) | (go_at_call 46; (with_reducible refine (HS.out _ _ _ _ ((o1.sl).next hb4) (o2.sl) (o3.sl)).mono ?_); rintro e w5 ⟨v_4, rfl, o4, hb5⟩))
  replace o1 := o1.lower (base' := w2.heap.size + 0) (by first | exact Nat.le_refl _ | (simp; done) | (simp; omega))
  have hb3q : Below w2.heap.size w2 w3 := ⟨hb3.os, hb3.tape, hb3.output, hb3.size, hb3.block⟩
  have hd3 := hb3q
  have hz3 : w2.heap.size + 0 ≤ w3.heap.size := by have := hb3q.size; first | omega | (simp at this; omega)
  replace HB_P0 := Lib.hid (HB_P0.out.next hd3)
  replace HB_P1 := Lib.hid (HB_P1.out.next hd3)
  replace hB := below_next hB hd3
  have lt_o1 := fun k hk => (o1.lt k hk).2
  replace o2 := o2.lower (base' := w3.heap.size + 0) (by first | exact Nat.le_refl _ | (simp; done) | (simp; omega))
  replace o3 := o3.lower (base' := w3.heap.size + 0) (by first | exact Nat.le_refl _ | (simp; done) | (simp; omega))
  have hd4 := hb4
  have hz4 : w3.heap.size + 0 ≤ w4.heap.size := by have := hb4.size; first | omega | (simp at this; omega)
  replace o1 := o1.next hd4
  replace HB_P0 := Lib.hid (HB_P0.out.next hd4)
  replace HB_P1 := Lib.hid (HB_P1.out.next hd4)
  replace hB := below_next hB hd4
  have lt_o2 := fun k hk => (o2.lt k hk).2
  have lt_o3 := fun k hk => (o3.lt k hk).2
  replace o4 := o4.lower (base' := w4.heap.size + 0) (by first | exact Nat.le_refl _ | (simp; done) | (simp; omega))
  have hd5 := hb5
  have hz5 : w4.heap.size + 0 ≤ w5.heap.size := by have := hb5.size; first | omega | (simp at this; omega)
  replace o1 := o1.next hd5
  replace o2 := o2.next hd5
  replace o3 := o3.next hd5
  replace HB_P0 := Lib.hid (HB_P0.out.next hd5)
  replace HB_P1 := Lib.hid (HB_P1.out.next hd5)
  replace hB := below_next hB hd5
  have lt_o4 := fun k hk => (o4.lt k hk).2
  clear pP00 pP01 pP02
  clear pP10 pP11 pP12
  -- x0 := toMachine(aM)
  obtain ⟨pP00, pP01, pP02⟩ := HB_P0.out
  go_wp2_with fail
  refine (toMachine_any sy0 st0 _ l0 _ (hS0.out.next hB) (by omega)).mono ?_
  rintro e w6 ⟨v_5, rfl, o5, hb6⟩
  obtain ⟨A_5, N_5, C_5, rfl, _, _, hq_5⟩ := o5.sl
  clear hq_5
  replace o5 := o5.lower (base' := w5.heap.size + 0) (by first | exact Nat.le_refl _ | (simp; done) | (simp; omega))
  have hd6 := hb6
  have hz6 : w5.heap.size + 0 ≤ w6.heap.size := by have := hb6.size; first | omega | (simp at this; omega)
  replace o1 := o1.next hd6
  replace o2 := o2.next hd6
  replace o3 := o3.next hd6
  replace o4 := o4.next hd6
  replace HB_P0 := Lib.hid (HB_P0.out.next hd6)
  replace HB_P1 := Lib.hid (HB_P1.out.next hd6)
  replace hB := below_next hB hd6
  have lt_o5 := fun k hk => (o5.lt k hk).2
  clear pP00 pP01 pP02
  -- x1 := toConfig(aC)
  obtain ⟨pP10, pP11, pP12⟩ := C3.next HB_P1.out (below_one w6 (.cells #[.int .i64 sy0, .int .i64 st0, .slice A_5 N_5 C_5] 29))
  go_wp2_with fail
  refine (toConfig_any st1 _ _ l1 r1 _ ((hS1.out.next hB).next (below_one w6 (.cells #[.int .i64 sy0, .int .i64 st0, .slice A_5 N_5 C_5] 29))) ((hT1.out.next hB).next (below_one w6 (.cells #[.int .i64 sy0, .int .i64 st0, .slice A_5 N_5 C_5] 29))) (by omega) (by omega)).mono ?_
  rintro e w7 ⟨v_6, v_7, rfl, o6, o7, ap6, hb7⟩
  obtain ⟨A_6, C_6, rfl, _, _, hq_6⟩ := o6.sl
  clear hq_6
  obtain ⟨A_7, C_7, rfl, _, _, hq_7⟩ := o7.sl
  clear hq_7
  replace o6 := o6.lower (base' := w6.heap.size + 1) (by first | exact Nat.le_refl _ | (simp; done) | (simp; omega))
  replace o7 := o7.lower (base' := w6.heap.size + 1) (by first | exact Nat.le_refl _ | (simp; done) | (simp; omega))
  have hd7 : Below w6.heap.size w6 w7 := (below_one w6 (.cells #[.int .i64 sy0, .int .i64 st0, .slice A_5 N_5 C_5] 29)).trans (hb7.mono (by simp))
  have hz7 : w6.heap.size + 1 ≤ w7.heap.size := by have := hb7.size; first | omega | (simp at this; omega)
  replace o1 := o1.next hd7
  replace o2 := o2.next hd7
  replace o3 := o3.next hd7
  replace o4 := o4.next hd7
  replace o5 := o5.next hd7
  replace HB_P0 := Lib.hid (HB_P0.out.next hd7)
  replace HB_P1 := Lib.hid (HB_P1.out.next hd7)
  have HB_x0 : Hid (C3 w7 (w6.heap.size) (.int .i64 sy0) (.int .i64 st0) (.slice A_5 N_5 C_5)) := Lib.hid (C3.next (C3.made w6 _ _ _ _) hb7)
  replace hB := below_next hB hd7
  have lt_o6 := fun k hk => (o6.lt k hk).2
  have lt_o7 := fun k hk => (o7.lt k hk).2
  clear pP10 pP11 pP12
  -- g0, g1, g2 := impl.CellsOf(x0, x1)
  obtain ⟨px00, px01, px02⟩ := C3.next HB_x0.out (below_one w7 (.cells #[.int .i64 st1, .slice A_6 l1.length C_6, .slice A_7 r1.length C_7] 52))
  go_wp2_with fail
  refine (HI.out _ _ _ _ (o5.sl.next (below_one w7 (.cells #[.int .i64 st1, .slice A_6 l1.length C_6, .slice A_7 r1.length C_7] 52))) (o6.sl.next (below_one w7 (.cells #[.int .i64 st1, .slice A_6 l1.length C_6, .slice A_7 r1.length C_7] 52))) (o7.sl.next (below_one w7 (.cells #[.int .i64 st1, .slice A_6 l1.length C_6, .slice A_7 r1.length C_7] 52)))).mono ?_
  rintro e w8 ⟨v_8, rfl, o8, hb8⟩
  replace o8 := o8.lower (base' := w7.heap.size + 1) (by first | exact Nat.le_refl _ | (simp; done) | (simp; omega))
  have hd8 : Below w7.heap.size w7 w8 := (below_one w7 (.cells #[.int .i64 st1, .slice A_6 l1.length C_6, .slice A_7 r1.length C_7] 52)).trans (hb8.mono (by simp))
  have hz8 : w7.heap.size + 1 ≤ w8.heap.size := by have := hb8.size; first | omega | (simp at this; omega)
  replace o1 := o1.next hd8
  replace o2 := o2.next hd8
  replace o3 := o3.next hd8
  replace o4 := o4.next hd8
  replace o5 := o5.next hd8
  replace o6 := o6.next hd8
  replace o7 := o7.next hd8
  replace HB_P0 := Lib.hid (HB_P0.out.next hd8)
  replace HB_P1 := Lib.hid (HB_P1.out.next hd8)
  replace HB_x0 := Lib.hid (HB_x0.out.next hd8)
  have HB_x1 : Hid (C3 w8 (w7.heap.size) (.int .i64 st1) (.slice A_6 l1.length C_6) (.slice A_7 r1.length C_7)) := Lib.hid (C3.next (C3.made w7 _ _ _ _) hb8)
  replace hB := below_next hB hd8
  have lt_o8 := fun k hk => (o8.lt k hk).2
  clear px00 px01 px02
  -- if !eqInt64S(g0, w0) || g1 != w1 || g2 != w2 
  go_wp2_with fail
  refine (eqInt64S_any _ _ _ _ _ o8.sl o4.sl).mono ?_
  rintro e w9 ⟨rfl, hb9⟩
  have hd9 := hb9
  have hz9 : w8.heap.size + 0 ≤ w9.heap.size := by have := hb9.size; first | omega | (simp at this; omega)
  replace o1 := o1.next hd9
  replace o2 := o2.next hd9
  replace o3 := o3.next hd9
  replace o4 := o4.next hd9
  replace o5 := o5.next hd9
  replace o6 := o6.next hd9
  replace o7 := o7.next hd9
  replace o8 := o8.next hd9
  replace HB_P0 := Lib.hid (HB_P0.out.next hd9)
  replace HB_P1 := Lib.hid (HB_P1.out.next hd9)
  replace HB_x0 := Lib.hid (HB_x0.out.next hd9)
  replace HB_x1 := Lib.hid (HB_x1.out.next hd9)
  replace hB := below_next hB hd9
  -- if !eqMachine(x0, toMachine(aM)) 
  obtain ⟨px00, px01, px02⟩ := HB_x0.out
  obtain ⟨pP00, pP01, pP02⟩ := HB_P0.out
  go_wp2_with fail
  go_region_held3 (fun w' => (w'.cell? ⟨w6.heap.size, 0, none⟩ = some (.int .i64 sy0) ∧ w'.cell? ⟨w6.heap.size, 1, none⟩ = some (.int .i64 st0) ∧ w'.cell? ⟨w6.heap.size, 2, none⟩ = some (.slice A_5 N_5 C_5)) ∧ (w'.cell? ⟨w.heap.size, 0, none⟩ = some (.int .i64 sy0) ∧ w'.cell? ⟨w.heap.size, 1, none⟩ = some (.int .i64 st0) ∧ w'.cell? ⟨w.heap.size, 2, none⟩ = some (.slice A0 n0 c0)))
    (first | go_keep | (exact ⟨C3.next (C3.drew (HB_x0.out)) hb10, C3.next (C3.drew (HB_P0.out)) hb10⟩) | (exact ⟨C3.next (C3.next (C3.drew (HB_x0.out)) hb10) hb11, C3.next (C3.next (C3.drew (HB_P0.out)) hb10) hb11⟩))
    (first | (go_at_call 15; (with_reducible refine (toMachine_any sy0 st0 _ l0 _ (((hS0.out.next hB)).drew) (by omega)).mono ?_); rintro e w10 ⟨v_9, rfl, o9, hb10⟩; obtain ⟨A_9, N_9, C_9, rfl, _, _, hq_9⟩ := o9.sl; clear hq_9) | (go_at_call 17; (with_reducible refine (eqMachine_any _ _ _ _ _ _ _ _ _ (((o5.sl).drew).next hb10) (o9.sl)).mono ?_); rintro e w11 ⟨rfl, hb11⟩))
  replace o9 := o9.lower (base' := w9.heap.size + 0) (by first | exact Nat.le_refl _ | (simp; done) | (simp; omega))
  have hb10q : Below w9.heap.size w9 w10 := ⟨hb10.os, hb10.tape, hb10.output, hb10.size, hb10.block⟩
  have hd10 := hb10q
  have hz10 : w9.heap.size + 0 ≤ w10.heap.size := by have := hb10q.size; first | omega | (simp at this; omega)
  replace o1 := o1.next hd10
  replace o2 := o2.next hd10
  replace o3 := o3.next hd10
  replace o4 := o4.next hd10
  replace o5 := o5.next hd10
  replace o6 := o6.next hd10
  replace o7 := o7.next hd10
  replace o8 := o8.next hd10
  replace HB_P0 := Lib.hid (HB_P0.out.next hd10)
  replace HB_P1 := Lib.hid (HB_P1.out.next hd10)
  replace HB_x0 := Lib.hid (HB_x0.out.next hd10)
  replace HB_x1 := Lib.hid (HB_x1.out.next hd10)
  replace hB := below_next hB hd10
  have lt_o9 := fun k hk => (o9.lt k hk).2
  have hd11 := hb11
  have hz11 : w10.heap.size + 0 ≤ w11.heap.size := by have := hb11.size; first | omega | (simp at this; omega)
  replace o1 := o1.next hd11
  replace o2 := o2.next hd11
  replace o3 := o3.next hd11
  replace o4 := o4.next hd11
  replace o5 := o5.next hd11
  replace o6 := o6.next hd11
  replace o7 := o7.next hd11
  replace o8 := o8.next hd11
  replace o9 := o9.next hd11
  replace HB_P0 := Lib.hid (HB_P0.out.next hd11)
  replace HB_P1 := Lib.hid (HB_P1.out.next hd11)
  replace HB_x0 := Lib.hid (HB_x0.out.next hd11)
  replace HB_x1 := Lib.hid (HB_x1.out.next hd11)
  replace hB := below_next hB hd11
  clear px00 px01 px02
  clear pP00 pP01 pP02
  -- if !eqConfig(x1, toConfig(aC)) 
  obtain ⟨px10, px11, px12⟩ := HB_x1.out
  obtain ⟨pP10, pP11, pP12⟩ := HB_P1.out
  go_wp2_with fail
  go_region_held3 (fun w' => (w'.cell? ⟨w7.heap.size, 0, none⟩ = some (.int .i64 st1) ∧ w'.cell? ⟨w7.heap.size, 1, none⟩ = some (.slice A_6 l1.length C_6) ∧ w'.cell? ⟨w7.heap.size, 2, none⟩ = some (.slice A_7 r1.length C_7)) ∧ (w'.cell? ⟨w.heap.size + 1, 0, none⟩ = some (.int .i64 st1) ∧ w'.cell? ⟨w.heap.size + 1, 1, none⟩ = some (.slice A1 l1.length c1) ∧ w'.cell? ⟨w.heap.size + 1, 2, none⟩ = some (.slice B1 r1.length d1)))
    (first | go_keep | (exact ⟨C3.next (C3.drew (HB_x1.out)) hb12, C3.next (C3.drew (HB_P1.out)) hb12⟩) | (exact ⟨C3.next (C3.next (C3.drew (HB_x1.out)) hb12) hb13, C3.next (C3.next (C3.drew (HB_P1.out)) hb12) hb13⟩))
    (first | (go_at_call 34; (with_reducible refine (toConfig_any st1 _ _ l1 r1 _ (((hS1.out.next hB)).drew) (((hT1.out.next hB)).drew) (by omega) (by omega)).mono ?_); rintro e w12 ⟨v_10, v_11, rfl, o10, o11, ap10, hb12⟩; obtain ⟨A_10, C_10, rfl, _, _, hq_10⟩ := o10.sl; clear hq_10; obtain ⟨A_11, C_11, rfl, _, _, hq_11⟩ := o11.sl; clear hq_11) | (go_at_call 36; (with_reducible refine (eqConfig_any _ _ _ _ _ _ _ _ _ _ _ (((o6.sl).drew).next hb12) (((o7.sl).drew).next hb12) (o10.sl) (o11.sl)).mono ?_); rintro e w13 ⟨rfl, hb13⟩))
  replace o10 := o10.lower (base' := w11.heap.size + 0) (by first | exact Nat.le_refl _ | (simp; done) | (simp; omega))
  replace o11 := o11.lower (base' := w11.heap.size + 0) (by first | exact Nat.le_refl _ | (simp; done) | (simp; omega))
  have hb12q : Below w11.heap.size w11 w12 := ⟨hb12.os, hb12.tape, hb12.output, hb12.size, hb12.block⟩
  have hd12 := hb12q
  have hz12 : w11.heap.size + 0 ≤ w12.heap.size := by have := hb12q.size; first | omega | (simp at this; omega)
  replace o1 := o1.next hd12
  replace o2 := o2.next hd12
  replace o3 := o3.next hd12
  replace o4 := o4.next hd12
  replace o5 := o5.next hd12
  replace o6 := o6.next hd12
  replace o7 := o7.next hd12
  replace o8 := o8.next hd12
  replace o9 := o9.next hd12
  replace HB_P0 := Lib.hid (HB_P0.out.next hd12)
  replace HB_P1 := Lib.hid (HB_P1.out.next hd12)
  replace HB_x0 := Lib.hid (HB_x0.out.next hd12)
  replace HB_x1 := Lib.hid (HB_x1.out.next hd12)
  replace hB := below_next hB hd12
  have lt_o10 := fun k hk => (o10.lt k hk).2
  have lt_o11 := fun k hk => (o11.lt k hk).2
  have hd13 := hb13
  have hz13 : w12.heap.size + 0 ≤ w13.heap.size := by have := hb13.size; first | omega | (simp at this; omega)
  replace o1 := o1.next hd13
  replace o2 := o2.next hd13
  replace o3 := o3.next hd13
  replace o4 := o4.next hd13
  replace o5 := o5.next hd13
  replace o6 := o6.next hd13
  replace o7 := o7.next hd13
  replace o8 := o8.next hd13
  replace o9 := o9.next hd13
  replace o10 := o10.next hd13
  replace o11 := o11.next hd13
  replace HB_P0 := Lib.hid (HB_P0.out.next hd13)
  replace HB_P1 := Lib.hid (HB_P1.out.next hd13)
  replace HB_x0 := Lib.hid (HB_x0.out.next hd13)
  replace HB_x1 := Lib.hid (HB_x1.out.next hd13)
  replace hB := below_next hB hd13
  clear px10 px11 px12
  clear pP10 pP11 pP12
  -- k = markMachine(x0, k)
  obtain ⟨px00, px01, px02⟩ := HB_x0.out
  go_wp2_with fail
  refine (markMachine_any _ _ _ _ _ _ _ o5 (by omega) (by omega) (by omega)).mono ?_
  rintro e w14 ⟨rfl, om14, hg14⟩
  have hz14 := hg14.size
  clear px00 px01 px02
  replace o1 := o1.kept hg14 (fun k hk e => by have h1 := o1.lt k hk; have h2 := o5.lt k e; have h3 := lt_o1 k hk; have h4 := lt_o5 k e; omega)
  replace o2 := o2.kept hg14 (fun k hk e => by have h1 := o2.lt k hk; have h2 := o5.lt k e; have h3 := lt_o2 k hk; have h4 := lt_o5 k e; omega)
  replace o3 := o3.kept hg14 (fun k hk e => by have h1 := o3.lt k hk; have h2 := o5.lt k e; have h3 := lt_o3 k hk; have h4 := lt_o5 k e; omega)
  replace o4 := o4.kept hg14 (fun k hk e => by have h1 := o4.lt k hk; have h2 := o5.lt k e; have h3 := lt_o4 k hk; have h4 := lt_o5 k e; omega)
  replace o6 := o6.kept hg14 (fun k hk e => by have h1 := o6.lt k hk; have h2 := o5.lt k e; have h3 := lt_o6 k hk; have h4 := lt_o5 k e; omega)
  replace o7 := o7.kept hg14 (fun k hk e => by have h1 := o7.lt k hk; have h2 := o5.lt k e; have h3 := lt_o7 k hk; have h4 := lt_o5 k e; omega)
  replace o8 := o8.kept hg14 (fun k hk e => by have h1 := o8.lt k hk; have h2 := o5.lt k e; have h3 := lt_o8 k hk; have h4 := lt_o5 k e; omega)
  replace o9 := o9.kept hg14 (fun k hk e => by have h1 := o9.lt k hk; have h2 := o5.lt k e; have h3 := lt_o9 k hk; have h4 := lt_o5 k e; omega)
  replace o10 := o10.kept hg14 (fun k hk e => by have h1 := o10.lt k hk; have h2 := o5.lt k e; have h3 := lt_o10 k hk; have h4 := lt_o5 k e; omega)
  replace o11 := o11.kept hg14 (fun k hk e => by have h1 := o11.lt k hk; have h2 := o5.lt k e; have h3 := lt_o11 k hk; have h4 := lt_o5 k e; omega)
  replace HB_P0 := Lib.hid (C3.kept HB_P0.out hg14 (fun k e => by have h2 := o5.lt k e; have h4 := lt_o5 k e; omega))
  replace HB_P1 := Lib.hid (C3.kept HB_P1.out hg14 (fun k e => by have h2 := o5.lt k e; have h4 := lt_o5 k e; omega))
  replace HB_x0 := Lib.hid (C3.kept HB_x0.out hg14 (fun k e => by have h2 := o5.lt k e; have h4 := lt_o5 k e; omega))
  replace HB_x1 := Lib.hid (C3.kept HB_x1.out hg14 (fun k e => by have h2 := o5.lt k e; have h4 := lt_o5 k e; omega))
  replace hB := hB.grown hg14 hB.size (fun k hk => by have := (o5.lt k hk).1; omega)
  clear o5
  have o5 := om14
  clear om14
  -- k = markConfig(x1, k)
  obtain ⟨px10, px11, px12⟩ := HB_x1.out
  go_wp2_with fail
  refine (markConfig_any _ _ _ _ _ _ _ _ o6 o7 ap6 (by omega) (by omega) (by omega) (by omega)).mono ?_
  rintro e w15 ⟨rfl, wm15, om15a, om15b, hg15a, hg15b⟩
  have hzm15 := hg15a.size
  have hz15 := hg15b.size
  clear px10 px11 px12
  replace o1 := o1.kept hg15a (fun k hk e => by have h1 := o1.lt k hk; have h2 := o6.lt k e; have h3 := lt_o1 k hk; have h4 := lt_o6 k e; omega)
  replace o2 := o2.kept hg15a (fun k hk e => by have h1 := o2.lt k hk; have h2 := o6.lt k e; have h3 := lt_o2 k hk; have h4 := lt_o6 k e; omega)
  replace o3 := o3.kept hg15a (fun k hk e => by have h1 := o3.lt k hk; have h2 := o6.lt k e; have h3 := lt_o3 k hk; have h4 := lt_o6 k e; omega)
  replace o4 := o4.kept hg15a (fun k hk e => by have h1 := o4.lt k hk; have h2 := o6.lt k e; have h3 := lt_o4 k hk; have h4 := lt_o6 k e; omega)
  replace o5 := o5.kept hg15a (fun k hk e => by have h1 := o5.lt k hk; have h2 := o6.lt k e; have h3 := lt_o5 k hk; have h4 := lt_o6 k e; omega)
  replace o8 := o8.kept hg15a (fun k hk e => by have h1 := o8.lt k hk; have h2 := o6.lt k e; have h3 := lt_o8 k hk; have h4 := lt_o6 k e; omega)
  replace o9 := o9.kept hg15a (fun k hk e => by have h1 := o9.lt k hk; have h2 := o6.lt k e; have h3 := lt_o9 k hk; have h4 := lt_o6 k e; omega)
  replace o10 := o10.kept hg15a (fun k hk e => by have h1 := o10.lt k hk; have h2 := o6.lt k e; have h3 := lt_o10 k hk; have h4 := lt_o6 k e; omega)
  replace o11 := o11.kept hg15a (fun k hk e => by have h1 := o11.lt k hk; have h2 := o6.lt k e; have h3 := lt_o11 k hk; have h4 := lt_o6 k e; omega)
  replace HB_P0 := Lib.hid (C3.kept HB_P0.out hg15a (fun k e => by have h2 := o6.lt k e; have h4 := lt_o6 k e; omega))
  replace HB_P1 := Lib.hid (C3.kept HB_P1.out hg15a (fun k e => by have h2 := o6.lt k e; have h4 := lt_o6 k e; omega))
  replace HB_x0 := Lib.hid (C3.kept HB_x0.out hg15a (fun k e => by have h2 := o6.lt k e; have h4 := lt_o6 k e; omega))
  replace HB_x1 := Lib.hid (C3.kept HB_x1.out hg15a (fun k e => by have h2 := o6.lt k e; have h4 := lt_o6 k e; omega))
  replace o7 := o7.kept hg15a (fun k hk e => ap6 k e hk)
  replace hB := hB.grown hg15a hB.size (fun k hk => by have := (o6.lt k hk).1; omega)
  replace o1 := o1.kept hg15b (fun k hk e => by have h1 := o1.lt k hk; have h2 := o7.lt k e; have h3 := lt_o1 k hk; have h4 := lt_o7 k e; omega)
  replace o2 := o2.kept hg15b (fun k hk e => by have h1 := o2.lt k hk; have h2 := o7.lt k e; have h3 := lt_o2 k hk; have h4 := lt_o7 k e; omega)
  replace o3 := o3.kept hg15b (fun k hk e => by have h1 := o3.lt k hk; have h2 := o7.lt k e; have h3 := lt_o3 k hk; have h4 := lt_o7 k e; omega)
  replace o4 := o4.kept hg15b (fun k hk e => by have h1 := o4.lt k hk; have h2 := o7.lt k e; have h3 := lt_o4 k hk; have h4 := lt_o7 k e; omega)
  replace o5 := o5.kept hg15b (fun k hk e => by have h1 := o5.lt k hk; have h2 := o7.lt k e; have h3 := lt_o5 k hk; have h4 := lt_o7 k e; omega)
  replace o8 := o8.kept hg15b (fun k hk e => by have h1 := o8.lt k hk; have h2 := o7.lt k e; have h3 := lt_o8 k hk; have h4 := lt_o7 k e; omega)
  replace o9 := o9.kept hg15b (fun k hk e => by have h1 := o9.lt k hk; have h2 := o7.lt k e; have h3 := lt_o9 k hk; have h4 := lt_o7 k e; omega)
  replace o10 := o10.kept hg15b (fun k hk e => by have h1 := o10.lt k hk; have h2 := o7.lt k e; have h3 := lt_o10 k hk; have h4 := lt_o7 k e; omega)
  replace o11 := o11.kept hg15b (fun k hk e => by have h1 := o11.lt k hk; have h2 := o7.lt k e; have h3 := lt_o11 k hk; have h4 := lt_o7 k e; omega)
  replace HB_P0 := Lib.hid (C3.kept HB_P0.out hg15b (fun k e => by have h2 := o7.lt k e; have h4 := lt_o7 k e; omega))
  replace HB_P1 := Lib.hid (C3.kept HB_P1.out hg15b (fun k e => by have h2 := o7.lt k e; have h4 := lt_o7 k e; omega))
  replace HB_x0 := Lib.hid (C3.kept HB_x0.out hg15b (fun k e => by have h2 := o7.lt k e; have h4 := lt_o7 k e; omega))
  replace HB_x1 := Lib.hid (C3.kept HB_x1.out hg15b (fun k e => by have h2 := o7.lt k e; have h4 := lt_o7 k e; omega))
  replace hB := hB.grown hg15b hB.size (fun k hk => by have := (o7.lt k hk).1; omega)
  clear o6 o7
  have o6 := om15a
  have o7 := om15b
  clear om15a om15b
  -- if k < 0 || !eqInt64S(g0, w0) || g1 != w1 || g2 != w2 
  go_wp2_with fail
  refine (eqInt64S_any _ _ _ _ _ o8.sl o4.sl).mono ?_
  rintro e w16 ⟨rfl, hb16⟩
  have hd16 := hb16
  have hz16 : w15.heap.size + 0 ≤ w16.heap.size := by have := hb16.size; first | omega | (simp at this; omega)
  replace o1 := o1.next hd16
  replace o2 := o2.next hd16
  replace o3 := o3.next hd16
  replace o4 := o4.next hd16
  replace o5 := o5.next hd16
  replace o6 := o6.next hd16
  replace o7 := o7.next hd16
  replace o8 := o8.next hd16
  replace o9 := o9.next hd16
  replace o10 := o10.next hd16
  replace o11 := o11.next hd16
  replace HB_P0 := Lib.hid (HB_P0.out.next hd16)
  replace HB_P1 := Lib.hid (HB_P1.out.next hd16)
  replace HB_x0 := Lib.hid (HB_x0.out.next hd16)
  replace HB_x1 := Lib.hid (HB_x1.out.next hd16)
  replace hB := below_next hB hd16
  -- m = markInt64S(g0, m)
  go_wp2_with fail
  refine (markInt64S_any _ _ _ _ _ o8 (by omega) (by omega) (by omega)).mono ?_
  rintro e w17 ⟨rfl, om17, hg17⟩
  have hz17 := hg17.size
  replace o1 := o1.kept hg17 (fun k hk e => by have h1 := o1.lt k hk; have h2 := o8.lt k e; have h3 := lt_o1 k hk; have h4 := lt_o8 k e; omega)
  replace o2 := o2.kept hg17 (fun k hk e => by have h1 := o2.lt k hk; have h2 := o8.lt k e; have h3 := lt_o2 k hk; have h4 := lt_o8 k e; omega)
  replace o3 := o3.kept hg17 (fun k hk e => by have h1 := o3.lt k hk; have h2 := o8.lt k e; have h3 := lt_o3 k hk; have h4 := lt_o8 k e; omega)
  replace o4 := o4.kept hg17 (fun k hk e => by have h1 := o4.lt k hk; have h2 := o8.lt k e; have h3 := lt_o4 k hk; have h4 := lt_o8 k e; omega)
  replace o5 := o5.kept hg17 (fun k hk e => by have h1 := o5.lt k hk; have h2 := o8.lt k e; have h3 := lt_o5 k hk; have h4 := lt_o8 k e; omega)
  replace o6 := o6.kept hg17 (fun k hk e => by have h1 := o6.lt k hk; have h2 := o8.lt k e; have h3 := lt_o6 k hk; have h4 := lt_o8 k e; omega)
  replace o7 := o7.kept hg17 (fun k hk e => by have h1 := o7.lt k hk; have h2 := o8.lt k e; have h3 := lt_o7 k hk; have h4 := lt_o8 k e; omega)
  replace o9 := o9.kept hg17 (fun k hk e => by have h1 := o9.lt k hk; have h2 := o8.lt k e; have h3 := lt_o9 k hk; have h4 := lt_o8 k e; omega)
  replace o10 := o10.kept hg17 (fun k hk e => by have h1 := o10.lt k hk; have h2 := o8.lt k e; have h3 := lt_o10 k hk; have h4 := lt_o8 k e; omega)
  replace o11 := o11.kept hg17 (fun k hk e => by have h1 := o11.lt k hk; have h2 := o8.lt k e; have h3 := lt_o11 k hk; have h4 := lt_o8 k e; omega)
  replace HB_P0 := Lib.hid (C3.kept HB_P0.out hg17 (fun k e => by have h2 := o8.lt k e; have h4 := lt_o8 k e; omega))
  replace HB_P1 := Lib.hid (C3.kept HB_P1.out hg17 (fun k e => by have h2 := o8.lt k e; have h4 := lt_o8 k e; omega))
  replace HB_x0 := Lib.hid (C3.kept HB_x0.out hg17 (fun k e => by have h2 := o8.lt k e; have h4 := lt_o8 k e; omega))
  replace HB_x1 := Lib.hid (C3.kept HB_x1.out hg17 (fun k e => by have h2 := o8.lt k e; have h4 := lt_o8 k e; omega))
  replace hB := hB.grown hg17 hB.size (fun k hk => by have := (o8.lt k hk).1; omega)
  clear o8
  have o8 := om17
  clear om17
  -- q = heldInt64S(g0, q)
  go_wp2_with fail
  refine (heldInt64S_any _ _ _ _ o8.sl (by omega) (by omega) (by omega)).mono ?_
  rintro e _ ⟨rfl, rfl⟩
  -- h0, h1, h2 := impl.CellsOf(toMachine(aM), toConfig(aC))
  obtain ⟨pP00, pP01, pP02⟩ := HB_P0.out
  obtain ⟨pP10, pP11, pP12⟩ := HB_P1.out
  go_wp2_with fail
  go_region_held3 (fun w' => (w'.cell? ⟨w.heap.size, 0, none⟩ = some (.int .i64 sy0) ∧ w'.cell? ⟨w.heap.size, 1, none⟩ = some (.int .i64 st0) ∧ w'.cell? ⟨w.heap.size, 2, none⟩ = some (.slice A0 n0 c0)) ∧ (w'.cell? ⟨w.heap.size + 1, 0, none⟩ = some (.int .i64 st1) ∧ w'.cell? ⟨w.heap.size + 1, 1, none⟩ = some (.slice A1 l1.length c1) ∧ w'.cell? ⟨w.heap.size + 1, 2, none⟩ = some (.slice B1 r1.length d1)))
    (first | go_keep | (exact ⟨C3.next (C3.drew (HB_P0.out)) hb18, C3.next (C3.drew (HB_P1.out)) hb18⟩) | (exact ⟨C3.next (C3.next (C3.drew (HB_P0.out)) hb18) hb19, C3.next (C3.next (C3.drew (HB_P1.out)) hb18) hb19⟩) | (exact ⟨C3.next (C3.next (C3.next (C3.drew (HB_P0.out)) hb18) hb19) hb20, C3.next (C3.next (C3.next (C3.drew (HB_P1.out)) hb18) hb19) hb20⟩))
    (first | (go_at_call 15; (with_reducible refine (toMachine_any sy0 st0 _ l0 _ (((hS0.out.next hB)).drew) (by omega)).mono ?_); rintro e w18 ⟨v_12, rfl, o12, hb18⟩; obtain ⟨A_12, N_12, C_12, rfl, _, _, hq_12⟩ := o12.sl; clear hq_12) | (go_at_call 34; (with_reducible refine (toConfig_any st1 _ _ l1 r1 _ ((((hS1.out.next hB)).drew).next hb18) ((((hT1.out.next hB)).drew).next hb18) (by omega) (by omega)).mono ?_); rintro e w19 ⟨v_13, v_14, rfl, o13, o14, ap13, hb19⟩; obtain ⟨A_13, C_13, rfl, _, _, hq_13⟩ := o13.sl; clear hq_13; obtain ⟨A_14, C_14, rfl, _, _, hq_14⟩ := o14.sl; clear hq_14) | (go_at_call 47; (with_reducible refine (HI.out _ _ _ _ ((o12.sl).next hb19) (o13.sl) (o14.sl)).mono ?_); rintro e w20 ⟨v_15, rfl, o15, hb20⟩))
  replace o12 := o12.lower (base' := w17.heap.size + 0) (by first | exact Nat.le_refl _ | (simp; done) | (simp; omega))
  have hb18q : Below w17.heap.size w17 w18 := ⟨hb18.os, hb18.tape, hb18.output, hb18.size, hb18.block⟩
  have hd18 := hb18q
  have hz18 : w17.heap.size + 0 ≤ w18.heap.size := by have := hb18q.size; first | omega | (simp at this; omega)
  replace o1 := o1.next hd18
  replace o2 := o2.next hd18
  replace o3 := o3.next hd18
  replace o4 := o4.next hd18
  replace o5 := o5.next hd18
  replace o6 := o6.next hd18
  replace o7 := o7.next hd18
  replace o8 := o8.next hd18
  replace o9 := o9.next hd18
  replace o10 := o10.next hd18
  replace o11 := o11.next hd18
  replace HB_P0 := Lib.hid (HB_P0.out.next hd18)
  replace HB_P1 := Lib.hid (HB_P1.out.next hd18)
  replace HB_x0 := Lib.hid (HB_x0.out.next hd18)
  replace HB_x1 := Lib.hid (HB_x1.out.next hd18)
  replace hB := below_next hB hd18
  have lt_o12 := fun k hk => (o12.lt k hk).2
  replace o13 := o13.lower (base' := w18.heap.size + 0) (by first | exact Nat.le_refl _ | (simp; done) | (simp; omega))
  replace o14 := o14.lower (base' := w18.heap.size + 0) (by first | exact Nat.le_refl _ | (simp; done) | (simp; omega))
  have hd19 := hb19
  have hz19 : w18.heap.size + 0 ≤ w19.heap.size := by have := hb19.size; first | omega | (simp at this; omega)
  replace o1 := o1.next hd19
  replace o2 := o2.next hd19
  replace o3 := o3.next hd19
  replace o4 := o4.next hd19
  replace o5 := o5.next hd19
  replace o6 := o6.next hd19
  replace o7 := o7.next hd19
  replace o8 := o8.next hd19
  replace o9 := o9.next hd19
  replace o10 := o10.next hd19
  replace o11 := o11.next hd19
  replace o12 := o12.next hd19
  replace HB_P0 := Lib.hid (HB_P0.out.next hd19)
  replace HB_P1 := Lib.hid (HB_P1.out.next hd19)
  replace HB_x0 := Lib.hid (HB_x0.out.next hd19)
  replace HB_x1 := Lib.hid (HB_x1.out.next hd19)
  replace hB := below_next hB hd19
  have lt_o13 := fun k hk => (o13.lt k hk).2
  have lt_o14 := fun k hk => (o14.lt k hk).2
  replace o15 := o15.lower (base' := w19.heap.size + 0) (by first | exact Nat.le_refl _ | (simp; done) | (simp; omega))
  have hd20 := hb20
  have hz20 : w19.heap.size + 0 ≤ w20.heap.size := by have := hb20.size; first | omega | (simp at this; omega)
  replace o1 := o1.next hd20
  replace o2 := o2.next hd20
  replace o3 := o3.next hd20
  replace o4 := o4.next hd20
  replace o5 := o5.next hd20
  replace o6 := o6.next hd20
  replace o7 := o7.next hd20
  replace o8 := o8.next hd20
  replace o9 := o9.next hd20
  replace o10 := o10.next hd20
  replace o11 := o11.next hd20
  replace o12 := o12.next hd20
  replace o13 := o13.next hd20
  replace o14 := o14.next hd20
  replace HB_P0 := Lib.hid (HB_P0.out.next hd20)
  replace HB_P1 := Lib.hid (HB_P1.out.next hd20)
  replace HB_x0 := Lib.hid (HB_x0.out.next hd20)
  replace HB_x1 := Lib.hid (HB_x1.out.next hd20)
  replace hB := below_next hB hd20
  have lt_o15 := fun k hk => (o15.lt k hk).2
  clear pP00 pP01 pP02
  clear pP10 pP11 pP12
  -- if !eqInt64S(h0, w0) || h1 != w1 || h2 != w2 
  go_wp2_with fail
  refine (eqInt64S_any _ _ _ _ _ o15.sl o4.sl).mono ?_
  rintro e w21 ⟨rfl, hb21⟩
  have hd21 := hb21
  have hz21 : w20.heap.size + 0 ≤ w21.heap.size := by have := hb21.size; first | omega | (simp at this; omega)
  replace o1 := o1.next hd21
  replace o2 := o2.next hd21
  replace o3 := o3.next hd21
  replace o4 := o4.next hd21
  replace o5 := o5.next hd21
  replace o6 := o6.next hd21
  replace o7 := o7.next hd21
  replace o8 := o8.next hd21
  replace o9 := o9.next hd21
  replace o10 := o10.next hd21
  replace o11 := o11.next hd21
  replace o12 := o12.next hd21
  replace o13 := o13.next hd21
  replace o14 := o14.next hd21
  replace o15 := o15.next hd21
  replace HB_P0 := Lib.hid (HB_P0.out.next hd21)
  replace HB_P1 := Lib.hid (HB_P1.out.next hd21)
  replace HB_x0 := Lib.hid (HB_x0.out.next hd21)
  replace HB_x1 := Lib.hid (HB_x1.out.next hd21)
  replace hB := below_next hB hd21
  -- q = heldInt64S(g0, q)
  go_wp2_with fail
  refine (heldInt64S_any _ _ _ _ o8.sl (by omega) (by omega) (by omega)).mono ?_
  rintro e _ ⟨rfl, rfl⟩
  go_wp2_with fail
  go_ret
  exact ⟨rfl, hB⟩
end Go.Proofs.Ytlkmboolgfkcdaa
