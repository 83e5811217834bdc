/- The walk of FnExactValidConfig: it returns true. No condition. -/
import Derived.Test.YtlkmboolgfkcdaaMConf2
namespace Go.Proofs.Ytlkmboolgfkcdaa
open Go.RowKit
set_option maxHeartbeats 4000000 in
set_option maxRecDepth 100000 in
theorem walkValidConfig (v0 : Value) (z0 : Int × Int × List Int) (v1 : Value) (z1 : Int × List Int × List Int) (w : World) (h0 : IsM w v0 z0) (h1 : IsC w v1 z1) :
    Calls Try.prog 8 #[v0, v1] w fun e w' => e = .returned (.bool true) ∧ Below w.heap.size w w' := by
  obtain ⟨sy0, st0, l0⟩ := z0
  obtain ⟨rv0, rfl, hs0, f0, hy0, ht0⟩ := h0
  have hS0 : Hid (Sl3 w rv0 l0) := Lib.hid hs0
  obtain ⟨A0, n0, c0, rfl, hnc0, hcm0, hr0⟩ := hs0
  have hl0 := hr0.1
  clear hr0
  simp only at hl0 hy0 ht0 f0
  have HL0 := Lib.hid hl0
  clear hl0
  obtain ⟨st1, l1, r1⟩ := z1
  obtain ⟨lv1, rv1, rfl, hs1, ht1, f1, g1, hy1⟩ := h1
  have hS1 : Hid (Sl w lv1 l1) := Lib.hid hs1
  have hT1 : Hid (Sl w rv1 r1) := Lib.hid ht1
  obtain ⟨A1, c1, rfl, hnc1, hcm1, hr1⟩ := hs1
  obtain ⟨B1, d1, rfl, hnd1, hdm1, hq1⟩ := ht1
  clear hr1 hq1
  simp only at hnc1 hnd1 hS1 hT1 f1 g1 hy1 ⊢
  have hB : Below w.heap.size w w := Below.refl _ _
  go_enter Try.func8, Try.ntmps8
  go_wp2_with fail
  refine (szMachine_any sy0 st0 A0 n0 c0 1048576 _ (by omega) (by omega) hnc0 hcm0).mono ?_
  rintro e w1 ⟨rfl, hb1⟩
  have hd1 : Below w.heap.size w w1 := (below_two w (.cells #[.int .i64 sy0, .int .i64 st0, .slice A0 n0 c0] 24) (.cells #[.int .i64 st1, .slice A1 l1.length c1, .slice B1 r1.length d1] 49)).trans (hb1.mono (by simp; omega))
  have hz1 : w.heap.size + 2 ≤ w1.heap.size := by have := hb1.size; first | omega | (simp at this; omega)
  have HB_P0 : Hid (C3 w1 (w.heap.size) (.int .i64 sy0) (.int .i64 st0) (.slice A0 n0 c0)) := Lib.hid (C3.next (C3.next (C3.made w _ _ _ _) (below_one _ _)) hb1)
  have HB_P1 : Hid (C3 w1 (w.heap.size + 1) (.int .i64 st1) (.slice A1 l1.length c1) (.slice B1 r1.length d1)) := Lib.hid (by have h := C3.next (C3.made (w.alloc (.cells #[.int .i64 sy0, .int .i64 st0, .slice A0 n0 c0] 24)) (.int .i64 st1) (.slice A1 l1.length c1) (.slice B1 r1.length d1) _) hb1; simpa using h)
  replace hB := below_next hB hd1
  by_cases hg0 : 1048576 < ((n0 : Nat) : Int)
  · rw [szI_no hg0]
    go_wp2_with fail
    go_ret
    exact ⟨rfl, hB⟩
  rw [szI_yes hg0]
  have he0 : decide ((1048576 - ((n0 : Nat) : Int)) < 0) = false := decide_eq_false (by omega)
  obtain ⟨pP10, pP11, pP12⟩ := HB_P1.out
  go_wp2_with fail
  refine (szConfig_any st1 A1 B1 l1.length r1.length c1 d1 (1048576 - ((n0 : Nat) : Int)) _ (by omega) (by omega) hnc1 hcm1 hnd1 hdm1).mono ?_
  rintro e w2 ⟨rfl, hb2⟩
  have hd2 := hb2
  have hz2 : w1.heap.size + 0 ≤ w2.heap.size := by have := hb2.size; first | omega | (simp at this; omega)
  replace HB_P0 := Lib.hid (HB_P0.out.next hd2)
  replace HB_P1 := Lib.hid (HB_P1.out.next hd2)
  replace hB := below_next hB hd2
  clear pP10 pP11 pP12
  by_cases hg1 : (1048576 - ((n0 : Nat) : Int)) < (((l1.length + r1.length) : Nat) : Int)
  · rw [szI_no hg1]
    go_wp2_with fail
    go_ret
    exact ⟨rfl, hB⟩
  rw [szI_yes hg1]
  have he1 : decide (((1048576 - ((n0 : Nat) : Int)) - (((l1.length + r1.length) : Nat) : Int)) < 0) = false := decide_eq_false (by omega)
  have hn0 : l0.length ≤ 3145728 := by have := HL0.out; omega
  have hn1 : l1.length ≤ 1048576 := by omega
  have hm1 : r1.length ≤ 1048576 := by omega
  obtain ⟨R0, hs, hi⟩ := bothValidConfig sy0 st0 l0 st1 l1 r1 ⟨f0, hn0, hy0, ht0⟩ ⟨f1, hn1, g1, hm1, hy1⟩
  have HS := Lib.hid hs
  have HI := Lib.hid hi
  clear hs hi
  -- w0 := spec.ValidConfig(toMachine(aM), toConfig(aC))
  obtain ⟨pP00, pP01, pP02⟩ := HB_P0.out
  obtain ⟨pP10, pP11, pP12⟩ := HB_P1.out
  go_wp2_with fail
  go_region_held3 (fun w' => (w'.cell? ⟨w.heap.size, 0, none⟩ = some (.int .i64 sy0) ∧ w'.cell? ⟨w.heap.size, 1, none⟩ = some (.int .i64 st0) ∧ w'.cell? ⟨w.heap.size, 2, none⟩ = some (.slice A0 n0 c0)) ∧ (w'.cell? ⟨w.heap.size + 1, 0, none⟩ = some (.int .i64 st1) ∧ w'.cell? ⟨w.heap.size + 1, 1, none⟩ = some (.slice A1 l1.length c1) ∧ w'.cell? ⟨w.heap.size + 1, 2, none⟩ = some (.slice B1 r1.length d1)))
    (first | go_keep | (exact ⟨C3.next (C3.drew (HB_P0.out)) hb3, C3.next (C3.drew (HB_P1.out)) hb3⟩) | (exact ⟨C3.next (C3.next (C3.drew (HB_P0.out)) hb3) hb4, C3.next (C3.next (C3.drew (HB_P1.out)) hb3) hb4⟩) | (exact ⟨C3.next (C3.next (C3.next (C3.drew (HB_P0.out)) hb3) hb4) hb5, C3.next (C3.next (C3.next (C3.drew (HB_P1.out)) hb3) hb4) hb5⟩))
    (first | (go_at_call 15; (with_reducible refine (toMachine_any sy0 st0 _ l0 _ (((hS0.out.next hB)).drew) (by omega)).mono ?_); rintro e w3 ⟨v_1, rfl, o1, hb3⟩; obtain ⟨A_1, N_1, C_1, rfl, _, _, hq_1⟩ := o1.sl; clear hq_1) | (go_at_call 34; (with_reducible refine (toConfig_any st1 _ _ l1 r1 _ ((((hS1.out.next hB)).drew).next hb3) ((((hT1.out.next hB)).drew).next hb3) (by omega) (by omega)).mono ?_); rintro e w4 ⟨v_2, v_3, rfl, o2, o3, ap2, hb4⟩; obtain ⟨A_2, C_2, rfl, _, _, hq_2⟩ := o2.sl; clear hq_2; obtain ⟨A_3, C_3, rfl, _, _, hq_3⟩ := o3.sl; clear hq_3) | (go_at_call 33; (with_reducible refine (HS.out _ _ _ _ ((o1.sl).next hb4) (o2.sl) (o3.sl)).mono ?_); rintro e w5 ⟨rfl, hb5⟩))
  replace o1 := o1.lower (base' := w2.heap.size + 0) (by first | exact Nat.le_refl _ | (simp; done) | (simp; omega))
  have hb3q : Below w2.heap.size w2 w3 := ⟨hb3.os, hb3.tape, hb3.output, hb3.size, hb3.block⟩
  have hd3 := hb3q
  have hz3 : w2.heap.size + 0 ≤ w3.heap.size := by have := hb3q.size; first | omega | (simp at this; omega)
  replace HB_P0 := Lib.hid (HB_P0.out.next hd3)
  replace HB_P1 := Lib.hid (HB_P1.out.next hd3)
  replace hB := below_next hB hd3
  have lt_o1 := fun k hk => (o1.lt k hk).2
  replace o2 := o2.lower (base' := w3.heap.size + 0) (by first | exact Nat.le_refl _ | (simp; done) | (simp; omega))
  replace o3 := o3.lower (base' := w3.heap.size + 0) (by first | exact Nat.le_refl _ | (simp; done) | (simp; omega))
  have hd4 := hb4
  have hz4 : w3.heap.size + 0 ≤ w4.heap.size := by have := hb4.size; first | omega | (simp at this; omega)
  replace o1 := o1.next hd4
  replace HB_P0 := Lib.hid (HB_P0.out.next hd4)
  replace HB_P1 := Lib.hid (HB_P1.out.next hd4)
  replace hB := below_next hB hd4
  have lt_o2 := fun k hk => (o2.lt k hk).2
  have lt_o3 := fun k hk => (o3.lt k hk).2
  have hd5 := hb5
  have hz5 : w4.heap.size + 0 ≤ w5.heap.size := by have := hb5.size; first | omega | (simp at this; omega)
  replace o1 := o1.next hd5
  replace o2 := o2.next hd5
  replace o3 := o3.next hd5
  replace HB_P0 := Lib.hid (HB_P0.out.next hd5)
  replace HB_P1 := Lib.hid (HB_P1.out.next hd5)
  replace hB := below_next hB hd5
  clear pP00 pP01 pP02
  clear pP10 pP11 pP12
  -- x0 := toMachine(aM)
  obtain ⟨pP00, pP01, pP02⟩ := HB_P0.out
  go_wp2_with fail
  refine (toMachine_any sy0 st0 _ l0 _ (hS0.out.next hB) (by omega)).mono ?_
  rintro e w6 ⟨v_4, rfl, o4, hb6⟩
  obtain ⟨A_4, N_4, C_4, rfl, _, _, hq_4⟩ := o4.sl
  clear hq_4
  replace o4 := o4.lower (base' := w5.heap.size + 0) (by first | exact Nat.le_refl _ | (simp; done) | (simp; omega))
  have hd6 := hb6
  have hz6 : w5.heap.size + 0 ≤ w6.heap.size := by have := hb6.size; first | omega | (simp at this; omega)
  replace o1 := o1.next hd6
  replace o2 := o2.next hd6
  replace o3 := o3.next hd6
  replace HB_P0 := Lib.hid (HB_P0.out.next hd6)
  replace HB_P1 := Lib.hid (HB_P1.out.next hd6)
  replace hB := below_next hB hd6
  have lt_o4 := fun k hk => (o4.lt k hk).2
  clear pP00 pP01 pP02
  -- x1 := toConfig(aC)
  obtain ⟨pP10, pP11, pP12⟩ := C3.next HB_P1.out (below_one w6 (.cells #[.int .i64 sy0, .int .i64 st0, .slice A_4 N_4 C_4] 29))
  go_wp2_with fail
  refine (toConfig_any st1 _ _ l1 r1 _ ((hS1.out.next hB).next (below_one w6 (.cells #[.int .i64 sy0, .int .i64 st0, .slice A_4 N_4 C_4] 29))) ((hT1.out.next hB).next (below_one w6 (.cells #[.int .i64 sy0, .int .i64 st0, .slice A_4 N_4 C_4] 29))) (by omega) (by omega)).mono ?_
  rintro e w7 ⟨v_5, v_6, rfl, o5, o6, ap5, hb7⟩
  obtain ⟨A_5, C_5, rfl, _, _, hq_5⟩ := o5.sl
  clear hq_5
  obtain ⟨A_6, C_6, rfl, _, _, hq_6⟩ := o6.sl
  clear hq_6
  replace o5 := o5.lower (base' := w6.heap.size + 1) (by first | exact Nat.le_refl _ | (simp; done) | (simp; omega))
  replace o6 := o6.lower (base' := w6.heap.size + 1) (by first | exact Nat.le_refl _ | (simp; done) | (simp; omega))
  have hd7 : Below w6.heap.size w6 w7 := (below_one w6 (.cells #[.int .i64 sy0, .int .i64 st0, .slice A_4 N_4 C_4] 29)).trans (hb7.mono (by simp))
  have hz7 : w6.heap.size + 1 ≤ w7.heap.size := by have := hb7.size; first | omega | (simp at this; omega)
  replace o1 := o1.next hd7
  replace o2 := o2.next hd7
  replace o3 := o3.next hd7
  replace o4 := o4.next hd7
  replace HB_P0 := Lib.hid (HB_P0.out.next hd7)
  replace HB_P1 := Lib.hid (HB_P1.out.next hd7)
  have HB_x0 : Hid (C3 w7 (w6.heap.size) (.int .i64 sy0) (.int .i64 st0) (.slice A_4 N_4 C_4)) := Lib.hid (C3.next (C3.made w6 _ _ _ _) hb7)
  replace hB := below_next hB hd7
  have lt_o5 := fun k hk => (o5.lt k hk).2
  have lt_o6 := fun k hk => (o6.lt k hk).2
  clear pP10 pP11 pP12
  -- g0 := impl.ValidConfig(x0, x1)
  obtain ⟨px00, px01, px02⟩ := C3.next HB_x0.out (below_one w7 (.cells #[.int .i64 st1, .slice A_5 l1.length C_5, .slice A_6 r1.length C_6] 52))
  go_wp2_with fail
  refine (HI.out _ _ _ _ (o4.sl.next (below_one w7 (.cells #[.int .i64 st1, .slice A_5 l1.length C_5, .slice A_6 r1.length C_6] 52))) (o5.sl.next (below_one w7 (.cells #[.int .i64 st1, .slice A_5 l1.length C_5, .slice A_6 r1.length C_6] 52))) (o6.sl.next (below_one w7 (.cells #[.int .i64 st1, .slice A_5 l1.length C_5, .slice A_6 r1.length C_6] 52)))).mono ?_
  rintro e w8 ⟨rfl, hb8⟩
  have hd8 : Below w7.heap.size w7 w8 := (below_one w7 (.cells #[.int .i64 st1, .slice A_5 l1.length C_5, .slice A_6 r1.length C_6] 52)).trans (hb8.mono (by simp))
  have hz8 : w7.heap.size + 1 ≤ w8.heap.size := by have := hb8.size; first | omega | (simp at this; omega)
  replace o1 := o1.next hd8
  replace o2 := o2.next hd8
  replace o3 := o3.next hd8
  replace o4 := o4.next hd8
  replace o5 := o5.next hd8
  replace o6 := o6.next hd8
  replace HB_P0 := Lib.hid (HB_P0.out.next hd8)
  replace HB_P1 := Lib.hid (HB_P1.out.next hd8)
  replace HB_x0 := Lib.hid (HB_x0.out.next hd8)
  have HB_x1 : Hid (C3 w8 (w7.heap.size) (.int .i64 st1) (.slice A_5 l1.length C_5) (.slice A_6 r1.length C_6)) := Lib.hid (C3.next (C3.made w7 _ _ _ _) hb8)
  replace hB := below_next hB hd8
  clear px00 px01 px02
  -- if g0 != w0 
  -- if !eqMachine(x0, toMachine(aM)) 
  obtain ⟨px00, px01, px02⟩ := HB_x0.out
  obtain ⟨pP00, pP01, pP02⟩ := HB_P0.out
  go_wp2_with fail
  go_region_held3 (fun w' => (w'.cell? ⟨w6.heap.size, 0, none⟩ = some (.int .i64 sy0) ∧ w'.cell? ⟨w6.heap.size, 1, none⟩ = some (.int .i64 st0) ∧ w'.cell? ⟨w6.heap.size, 2, none⟩ = some (.slice A_4 N_4 C_4)) ∧ (w'.cell? ⟨w.heap.size, 0, none⟩ = some (.int .i64 sy0) ∧ w'.cell? ⟨w.heap.size, 1, none⟩ = some (.int .i64 st0) ∧ w'.cell? ⟨w.heap.size, 2, none⟩ = some (.slice A0 n0 c0)))
    (first | go_keep | (exact ⟨C3.next (C3.drew (HB_x0.out)) hb9, C3.next (C3.drew (HB_P0.out)) hb9⟩) | (exact ⟨C3.next (C3.next (C3.drew (HB_x0.out)) hb9) hb10, C3.next (C3.next (C3.drew (HB_P0.out)) hb9) hb10⟩))
    (first | (go_at_call 15; (with_reducible refine (toMachine_any sy0 st0 _ l0 _ (((hS0.out.next hB)).drew) (by omega)).mono ?_); rintro e w9 ⟨v_7, rfl, o7, hb9⟩; obtain ⟨A_7, N_7, C_7, rfl, _, _, hq_7⟩ := o7.sl; clear hq_7) | (go_at_call 17; (with_reducible refine (eqMachine_any _ _ _ _ _ _ _ _ _ (((o4.sl).drew).next hb9) (o7.sl)).mono ?_); rintro e w10 ⟨rfl, hb10⟩))
  replace o7 := o7.lower (base' := w8.heap.size + 0) (by first | exact Nat.le_refl _ | (simp; done) | (simp; omega))
  have hb9q : Below w8.heap.size w8 w9 := ⟨hb9.os, hb9.tape, hb9.output, hb9.size, hb9.block⟩
  have hd9 := hb9q
  have hz9 : w8.heap.size + 0 ≤ w9.heap.size := by have := hb9q.size; first | omega | (simp at this; omega)
  replace o1 := o1.next hd9
  replace o2 := o2.next hd9
  replace o3 := o3.next hd9
  replace o4 := o4.next hd9
  replace o5 := o5.next hd9
  replace o6 := o6.next hd9
  replace HB_P0 := Lib.hid (HB_P0.out.next hd9)
  replace HB_P1 := Lib.hid (HB_P1.out.next hd9)
  replace HB_x0 := Lib.hid (HB_x0.out.next hd9)
  replace HB_x1 := Lib.hid (HB_x1.out.next hd9)
  replace hB := below_next hB hd9
  have lt_o7 := fun k hk => (o7.lt k hk).2
  have hd10 := hb10
  have hz10 : w9.heap.size + 0 ≤ w10.heap.size := by have := hb10.size; first | omega | (simp at this; omega)
  replace o1 := o1.next hd10
  replace o2 := o2.next hd10
  replace o3 := o3.next hd10
  replace o4 := o4.next hd10
  replace o5 := o5.next hd10
  replace o6 := o6.next hd10
  replace o7 := o7.next hd10
  replace HB_P0 := Lib.hid (HB_P0.out.next hd10)
  replace HB_P1 := Lib.hid (HB_P1.out.next hd10)
  replace HB_x0 := Lib.hid (HB_x0.out.next hd10)
  replace HB_x1 := Lib.hid (HB_x1.out.next hd10)
  replace hB := below_next hB hd10
  clear px00 px01 px02
  clear pP00 pP01 pP02
  -- if !eqConfig(x1, toConfig(aC)) 
  obtain ⟨px10, px11, px12⟩ := HB_x1.out
  obtain ⟨pP10, pP11, pP12⟩ := HB_P1.out
  go_wp2_with fail
  go_region_held3 (fun w' => (w'.cell? ⟨w7.heap.size, 0, none⟩ = some (.int .i64 st1) ∧ w'.cell? ⟨w7.heap.size, 1, none⟩ = some (.slice A_5 l1.length C_5) ∧ w'.cell? ⟨w7.heap.size, 2, none⟩ = some (.slice A_6 r1.length C_6)) ∧ (w'.cell? ⟨w.heap.size + 1, 0, none⟩ = some (.int .i64 st1) ∧ w'.cell? ⟨w.heap.size + 1, 1, none⟩ = some (.slice A1 l1.length c1) ∧ w'.cell? ⟨w.heap.size + 1, 2, none⟩ = some (.slice B1 r1.length d1)))
    (first | go_keep | (exact ⟨C3.next (C3.drew (HB_x1.out)) hb11, C3.next (C3.drew (HB_P1.out)) hb11⟩) | (exact ⟨C3.next (C3.next (C3.drew (HB_x1.out)) hb11) hb12, C3.next (C3.next (C3.drew (HB_P1.out)) hb11) hb12⟩))
    (first | (go_at_call 34; (with_reducible refine (toConfig_any st1 _ _ l1 r1 _ (((hS1.out.next hB)).drew) (((hT1.out.next hB)).drew) (by omega) (by omega)).mono ?_); rintro e w11 ⟨v_8, v_9, rfl, o8, o9, ap8, hb11⟩; obtain ⟨A_8, C_8, rfl, _, _, hq_8⟩ := o8.sl; clear hq_8; obtain ⟨A_9, C_9, rfl, _, _, hq_9⟩ := o9.sl; clear hq_9) | (go_at_call 36; (with_reducible refine (eqConfig_any _ _ _ _ _ _ _ _ _ _ _ (((o5.sl).drew).next hb11) (((o6.sl).drew).next hb11) (o8.sl) (o9.sl)).mono ?_); rintro e w12 ⟨rfl, hb12⟩))
  replace o8 := o8.lower (base' := w10.heap.size + 0) (by first | exact Nat.le_refl _ | (simp; done) | (simp; omega))
  replace o9 := o9.lower (base' := w10.heap.size + 0) (by first | exact Nat.le_refl _ | (simp; done) | (simp; omega))
  have hb11q : Below w10.heap.size w10 w11 := ⟨hb11.os, hb11.tape, hb11.output, hb11.size, hb11.block⟩
  have hd11 := hb11q
  have hz11 : w10.heap.size + 0 ≤ w11.heap.size := by have := hb11q.size; first | omega | (simp at this; omega)
  replace o1 := o1.next hd11
  replace o2 := o2.next hd11
  replace o3 := o3.next hd11
  replace o4 := o4.next hd11
  replace o5 := o5.next hd11
  replace o6 := o6.next hd11
  replace o7 := o7.next hd11
  replace HB_P0 := Lib.hid (HB_P0.out.next hd11)
  replace HB_P1 := Lib.hid (HB_P1.out.next hd11)
  replace HB_x0 := Lib.hid (HB_x0.out.next hd11)
  replace HB_x1 := Lib.hid (HB_x1.out.next hd11)
  replace hB := below_next hB hd11
  have lt_o8 := fun k hk => (o8.lt k hk).2
  have lt_o9 := fun k hk => (o9.lt k hk).2
  have hd12 := hb12
  have hz12 : w11.heap.size + 0 ≤ w12.heap.size := by have := hb12.size; first | omega | (simp at this; omega)
  replace o1 := o1.next hd12
  replace o2 := o2.next hd12
  replace o3 := o3.next hd12
  replace o4 := o4.next hd12
  replace o5 := o5.next hd12
  replace o6 := o6.next hd12
  replace o7 := o7.next hd12
  replace o8 := o8.next hd12
  replace o9 := o9.next hd12
  replace HB_P0 := Lib.hid (HB_P0.out.next hd12)
  replace HB_P1 := Lib.hid (HB_P1.out.next hd12)
  replace HB_x0 := Lib.hid (HB_x0.out.next hd12)
  replace HB_x1 := Lib.hid (HB_x1.out.next hd12)
  replace hB := below_next hB hd12
  clear px10 px11 px12
  clear pP10 pP11 pP12
  go_wp2_with fail
  go_ret
  exact ⟨rfl, hB⟩
end Go.Proofs.Ytlkmboolgfkcdaa
