/- The walk of FnExactStartConfig: it returns true. No condition. -/
import Derived.Test.YtanjpkcacgjgfaaMStart
import Derived.Test.YtanjpkcacgjgfaaOpen
namespace Go.Proofs.Ytanjpkcacgjgfaa
open Go.RowKit
set_option maxHeartbeats 4000000 in
set_option maxRecDepth 100000 in
theorem walkStartConfig (v0 : Value) (z0 : Int × Int × List Int) (A1 : Option Addr) (n1 c1 : Nat) (l1 : List Int) (w : World) (h0 : IsM w v0 z0) (h1 : Ints w w.heap.size A1 n1 l1) (f1 : Fit l1) (hc1 : n1 ≤ c1 ∧ c1 ≤ maxLen) :
    Calls Try.prog 4 #[v0, .slice A1 n1 c1] w fun e w' => e = .returned (.bool true) ∧ Below w.heap.size w w' := by
  obtain ⟨sy0, st0, l0⟩ := z0
  obtain ⟨rv0, rfl, hs0, f0, hy0, ht0⟩ := h0
  have hS0 : Hid (Sl3 w rv0 l0) := Lib.hid hs0
  obtain ⟨A0, n0, c0, rfl, hnc0, hcm0, hr0⟩ := hs0
  have hl0 := hr0.1
  clear hr0
  simp only at hl0 hy0 ht0 f0
  have HL0 := Lib.hid hl0
  clear hl0
  have hS1 := Lib.hid (Sl.of h1 hc1.1 hc1.2)
  by_cases hg1 : (1048576 : Int) < (n1 : Int)
  · clear h1 hc1
    go_enter Try.func4, Try.ntmps4
    go_wp2
    go_ret
    exact ⟨rfl, by first | exact Below.refl _ _ | exact below_one _ _ | exact below_two _ _ _⟩
  have hn1 : l1.length ≤ 1048576 := by have := h1.1; omega
  clear h1
  have hB : Below w.heap.size w w := Below.refl _ _
  go_enter Try.func4, Try.ntmps4
  go_wp2_with fail
  refine (szMachine_any sy0 st0 A0 n0 c0 1048576 _ (by omega) (by omega) hnc0 hcm0).mono ?_
  rintro e w1 ⟨rfl, hb1⟩
  have hd1 : Below w.heap.size w w1 := (below_one w (.cells #[.int .i64 sy0, .int .i64 st0, .slice A0 n0 c0] 24)).trans (hb1.mono (by simp))
  have hz1 : w.heap.size + 1 ≤ w1.heap.size := by have := hb1.size; first | omega | (simp at this; omega)
  have HB_P0 : Hid (C3 w1 (w.heap.size) (.int .i64 sy0) (.int .i64 st0) (.slice A0 n0 c0)) := Lib.hid (C3.next (C3.made w _ _ _ _) hb1)
  replace hB := below_next hB hd1
  by_cases hg0 : 1048576 < ((n0 : Nat) : Int)
  · rw [szI_no hg0]
    go_wp2_with fail
    go_ret
    exact ⟨rfl, hB⟩
  rw [szI_yes hg0]
  have he0 : decide ((1048576 - ((n0 : Nat) : Int)) < 0) = false := decide_eq_false (by omega)
  have hn0 : l0.length ≤ 3145728 := by have := HL0.out; omega
  obtain ⟨RS0, R0, RR0, R1, hR0, hRR0, hs, hi⟩ := bothStartConfig sy0 st0 l0 l1 ⟨f0, hn0, hy0, ht0⟩ f1 hn1
  have HS := Lib.hid hs
  have HI := Lib.hid hi
  clear hs hi
  -- w0, w1 := spec.StartConfig(toMachine(aM), toInt64S(aW))
  obtain ⟨pP00, pP01, pP02⟩ := HB_P0.out
  go_wp2_with fail
  refine (toMachine_any sy0 st0 _ l0 _ (hS0.out.next hB) (by omega)).mono ?_
  rintro e w2 ⟨v_1, rfl, o1, hb2⟩
  obtain ⟨A_1, N_1, C_1, rfl, _, _, hq_1⟩ := o1.sl
  clear hq_1
  replace o1 := o1.lower (base' := w1.heap.size + 0) (by first | exact Nat.le_refl _ | (simp; done) | (simp; omega))
  have hd2 := hb2
  have hz2 : w1.heap.size + 0 ≤ w2.heap.size := by have := hb2.size; first | omega | (simp at this; omega)
  replace HB_P0 := Lib.hid (HB_P0.out.next hd2)
  replace hB := below_next hB hd2
  have lt_o1 := fun k hk => (o1.lt k hk).2
  clear pP00 pP01 pP02
  obtain ⟨pP00, pP01, pP02⟩ := HB_P0.out
  go_wp2_with fail
  refine (toInt64S_any _ l1 _ (hS1.out.next hB) (by omega)).mono ?_
  rintro e w3 ⟨v_2, rfl, o2, hb3⟩
  replace o2 := o2.lower (base' := w2.heap.size + 0) (by first | exact Nat.le_refl _ | (simp; done) | (simp; omega))
  have hd3 := hb3
  have hz3 : w2.heap.size + 0 ≤ w3.heap.size := by have := hb3.size; first | omega | (simp at this; omega)
  replace o1 := o1.next hd3
  replace HB_P0 := Lib.hid (HB_P0.out.next hd3)
  replace hB := below_next hB hd3
  have lt_o2 := fun k hk => (o2.lt k hk).2
  clear pP00 pP01 pP02
  obtain ⟨pP00, pP01, pP02⟩ := HB_P0.out
  go_wp2_with fail
  refine (HS.out _ _ _ o1.sl o2.sl).mono ?_
  rintro e w4 ⟨v_3, v_4, rfl, o3, o4, ap3, hb4⟩
  obtain ⟨A_3, C_3, rfl, _, _, hq_3⟩ := o3.sl
  clear hq_3
  obtain ⟨A_4, C_4, rfl, _, _, hq_4⟩ := o4.sl
  clear hq_4
  replace o3 := o3.lower (base' := w3.heap.size + 0) (by first | exact Nat.le_refl _ | (simp; done) | (simp; omega))
  replace o4 := o4.lower (base' := w3.heap.size + 0) (by first | exact Nat.le_refl _ | (simp; done) | (simp; omega))
  have hd4 := hb4
  have hz4 : w3.heap.size + 0 ≤ w4.heap.size := by have := hb4.size; first | omega | (simp at this; omega)
  replace o1 := o1.next hd4
  replace o2 := o2.next hd4
  replace HB_P0 := Lib.hid (HB_P0.out.next hd4)
  replace hB := below_next hB hd4
  have lt_o3 := fun k hk => (o3.lt k hk).2
  have lt_o4 := fun k hk => (o4.lt k hk).2
  clear pP00 pP01 pP02
  -- x0 := toMachine(aM)
  obtain ⟨pP00, pP01, pP02⟩ := C3.next HB_P0.out (below_one w4 (.cells #[.int .i64 RS0, .slice A_3 R0.length C_3, .slice A_4 RR0.length C_4] 41))
  go_wp2_with fail
  refine (toMachine_any sy0 st0 _ l0 _ ((hS0.out.next hB).next (below_one w4 (.cells #[.int .i64 RS0, .slice A_3 R0.length C_3, .slice A_4 RR0.length C_4] 41))) (by omega)).mono ?_
  rintro e w5 ⟨v_5, rfl, o5, hb5⟩
  obtain ⟨A_5, N_5, C_5, rfl, _, _, hq_5⟩ := o5.sl
  clear hq_5
  replace o5 := o5.lower (base' := w4.heap.size + 1) (by first | exact Nat.le_refl _ | (simp; done) | (simp; omega))
  have hd5 : Below w4.heap.size w4 w5 := (below_one w4 (.cells #[.int .i64 RS0, .slice A_3 R0.length C_3, .slice A_4 RR0.length C_4] 41)).trans (hb5.mono (by simp))
  have hz5 : w4.heap.size + 1 ≤ w5.heap.size := by have := hb5.size; first | omega | (simp at this; omega)
  replace o1 := o1.next hd5
  replace o2 := o2.next hd5
  replace o3 := o3.next hd5
  replace o4 := o4.next hd5
  replace HB_P0 := Lib.hid (HB_P0.out.next hd5)
  have HB_w0 : Hid (C3 w5 (w4.heap.size) (.int .i64 RS0) (.slice A_3 R0.length C_3) (.slice A_4 RR0.length C_4)) := Lib.hid (C3.next (C3.made w4 _ _ _ _) hb5)
  replace hB := below_next hB hd5
  have lt_o5 := fun k hk => (o5.lt k hk).2
  clear pP00 pP01 pP02
  -- x1 := toInt64S(aW)
  go_wp2_with fail
  refine (toInt64S_any _ l1 _ ((hS1.out.next hB).next (below_one w5 (.cells #[.int .i64 sy0, .int .i64 st0, .slice A_5 N_5 C_5] 30))) (by omega)).mono ?_
  rintro e w6 ⟨v_6, rfl, o6, hb6⟩
  replace o6 := o6.lower (base' := w5.heap.size + 1) (by first | exact Nat.le_refl _ | (simp; done) | (simp; omega))
  have hd6 : Below w5.heap.size w5 w6 := (below_one w5 (.cells #[.int .i64 sy0, .int .i64 st0, .slice A_5 N_5 C_5] 30)).trans (hb6.mono (by simp))
  have hz6 : w5.heap.size + 1 ≤ w6.heap.size := by have := hb6.size; first | omega | (simp at this; omega)
  replace o1 := o1.next hd6
  replace o2 := o2.next hd6
  replace o3 := o3.next hd6
  replace o4 := o4.next hd6
  replace o5 := o5.next hd6
  replace HB_P0 := Lib.hid (HB_P0.out.next hd6)
  replace HB_w0 := Lib.hid (HB_w0.out.next hd6)
  have HB_x0 : Hid (C3 w6 (w5.heap.size) (.int .i64 sy0) (.int .i64 st0) (.slice A_5 N_5 C_5)) := Lib.hid (C3.next (C3.made w5 _ _ _ _) hb6)
  replace hB := below_next hB hd6
  have lt_o6 := fun k hk => (o6.lt k hk).2
  -- g0, g1 := impl.StartConfig(x0, x1)
  obtain ⟨px00, px01, px02⟩ := HB_x0.out
  go_wp2_with fail
  refine (HI.out _ _ _ o5.sl o6.sl).mono ?_
  rintro e w7 ⟨v_7, v_8, rfl, o7, o8, ap7, hb7⟩
  obtain ⟨A_7, C_7, rfl, _, _, hq_7⟩ := o7.sl
  clear hq_7
  obtain ⟨A_8, C_8, rfl, _, _, hq_8⟩ := o8.sl
  clear hq_8
  replace o7 := o7.lower (base' := w6.heap.size + 0) (by first | exact Nat.le_refl _ | (simp; done) | (simp; omega))
  replace o8 := o8.lower (base' := w6.heap.size + 0) (by first | exact Nat.le_refl _ | (simp; done) | (simp; omega))
  have hd7 := hb7
  have hz7 : w6.heap.size + 0 ≤ w7.heap.size := by have := hb7.size; first | omega | (simp at this; omega)
  replace o1 := o1.next hd7
  replace o2 := o2.next hd7
  replace o3 := o3.next hd7
  replace o4 := o4.next hd7
  replace o5 := o5.next hd7
  replace o6 := o6.next hd7
  replace HB_P0 := Lib.hid (HB_P0.out.next hd7)
  replace HB_w0 := Lib.hid (HB_w0.out.next hd7)
  replace HB_x0 := Lib.hid (HB_x0.out.next hd7)
  replace hB := below_next hB hd7
  have lt_o7 := fun k hk => (o7.lt k hk).2
  have lt_o8 := fun k hk => (o8.lt k hk).2
  clear px00 px01 px02
  -- if !eqConfig(g0, w0) || g1 != w1 
  obtain ⟨pw00, pw01, pw02⟩ := C3.next HB_w0.out (below_one w7 (.cells #[.int .i64 RS0, .slice A_7 R0.length C_7, .slice A_8 RR0.length C_8] 41))
  go_wp2_with fail
  refine (eqConfig_any _ _ _ _ _ _ _ _ _ _ _ (o7.sl.next (below_one w7 (.cells #[.int .i64 RS0, .slice A_7 R0.length C_7, .slice A_8 RR0.length C_8] 41))) (o8.sl.next (below_one w7 (.cells #[.int .i64 RS0, .slice A_7 R0.length C_7, .slice A_8 RR0.length C_8] 41))) (o3.sl.next (below_one w7 (.cells #[.int .i64 RS0, .slice A_7 R0.length C_7, .slice A_8 RR0.length C_8] 41))) (o4.sl.next (below_one w7 (.cells #[.int .i64 RS0, .slice A_7 R0.length C_7, .slice A_8 RR0.length C_8] 41)))).mono ?_
  rintro e w8 ⟨rfl, hb8⟩
  have hd8 : Below w7.heap.size w7 w8 := (below_one w7 (.cells #[.int .i64 RS0, .slice A_7 R0.length C_7, .slice A_8 RR0.length C_8] 41)).trans (hb8.mono (by simp))
  have hz8 : w7.heap.size + 1 ≤ w8.heap.size := by have := hb8.size; first | omega | (simp at this; omega)
  replace o1 := o1.next hd8
  replace o2 := o2.next hd8
  replace o3 := o3.next hd8
  replace o4 := o4.next hd8
  replace o5 := o5.next hd8
  replace o6 := o6.next hd8
  replace o7 := o7.next hd8
  replace o8 := o8.next hd8
  replace HB_P0 := Lib.hid (HB_P0.out.next hd8)
  replace HB_w0 := Lib.hid (HB_w0.out.next hd8)
  replace HB_x0 := Lib.hid (HB_x0.out.next hd8)
  have HB_g0 : Hid (C3 w8 (w7.heap.size) (.int .i64 RS0) (.slice A_7 R0.length C_7) (.slice A_8 RR0.length C_8)) := Lib.hid (C3.next (C3.made w7 _ _ _ _) hb8)
  replace hB := below_next hB hd8
  clear pw00 pw01 pw02
  -- if !eqMachine(x0, toMachine(aM)) 
  obtain ⟨px00, px01, px02⟩ := HB_x0.out
  obtain ⟨pP00, pP01, pP02⟩ := HB_P0.out
  go_wp2_with fail
  go_region_held3 (fun w' => (w'.cell? ⟨w5.heap.size, 0, none⟩ = some (.int .i64 sy0) ∧ w'.cell? ⟨w5.heap.size, 1, none⟩ = some (.int .i64 st0) ∧ w'.cell? ⟨w5.heap.size, 2, none⟩ = some (.slice A_5 N_5 C_5)) ∧ (w'.cell? ⟨w.heap.size, 0, none⟩ = some (.int .i64 sy0) ∧ w'.cell? ⟨w.heap.size, 1, none⟩ = some (.int .i64 st0) ∧ w'.cell? ⟨w.heap.size, 2, none⟩ = some (.slice A0 n0 c0)))
    (first | go_keep | (exact ⟨C3.next (C3.drew (HB_x0.out)) hb9, C3.next (C3.drew (HB_P0.out)) hb9⟩) | (exact ⟨C3.next (C3.next (C3.drew (HB_x0.out)) hb9) hb10, C3.next (C3.next (C3.drew (HB_P0.out)) hb9) hb10⟩))
    (first | (go_at_call 17; (with_reducible refine (toMachine_any sy0 st0 _ l0 _ (((hS0.out.next hB)).drew) (by omega)).mono ?_); rintro e w9 ⟨v_9, rfl, o9, hb9⟩; obtain ⟨A_9, N_9, C_9, rfl, _, _, hq_9⟩ := o9.sl; clear hq_9) | (go_at_call 20; (with_reducible refine (eqMachine_any _ _ _ _ _ _ _ _ _ (((o5.sl).drew).next hb9) (o9.sl)).mono ?_); rintro e w10 ⟨rfl, hb10⟩))
  replace o9 := o9.lower (base' := w8.heap.size + 0) (by first | exact Nat.le_refl _ | (simp; done) | (simp; omega))
  have hb9q : Below w8.heap.size w8 w9 := ⟨hb9.os, hb9.tape, hb9.output, hb9.size, hb9.block⟩
  have hd9 := hb9q
  have hz9 : w8.heap.size + 0 ≤ w9.heap.size := by have := hb9q.size; first | omega | (simp at this; omega)
  replace o1 := o1.next hd9
  replace o2 := o2.next hd9
  replace o3 := o3.next hd9
  replace o4 := o4.next hd9
  replace o5 := o5.next hd9
  replace o6 := o6.next hd9
  replace o7 := o7.next hd9
  replace o8 := o8.next hd9
  replace HB_P0 := Lib.hid (HB_P0.out.next hd9)
  replace HB_w0 := Lib.hid (HB_w0.out.next hd9)
  replace HB_x0 := Lib.hid (HB_x0.out.next hd9)
  replace HB_g0 := Lib.hid (HB_g0.out.next hd9)
  replace hB := below_next hB hd9
  have lt_o9 := fun k hk => (o9.lt k hk).2
  have hd10 := hb10
  have hz10 : w9.heap.size + 0 ≤ w10.heap.size := by have := hb10.size; first | omega | (simp at this; omega)
  replace o1 := o1.next hd10
  replace o2 := o2.next hd10
  replace o3 := o3.next hd10
  replace o4 := o4.next hd10
  replace o5 := o5.next hd10
  replace o6 := o6.next hd10
  replace o7 := o7.next hd10
  replace o8 := o8.next hd10
  replace o9 := o9.next hd10
  replace HB_P0 := Lib.hid (HB_P0.out.next hd10)
  replace HB_w0 := Lib.hid (HB_w0.out.next hd10)
  replace HB_x0 := Lib.hid (HB_x0.out.next hd10)
  replace HB_g0 := Lib.hid (HB_g0.out.next hd10)
  replace hB := below_next hB hd10
  clear px00 px01 px02
  clear pP00 pP01 pP02
  -- if !eqInt64S(x1, toInt64S(aW)) 
  go_wp2_with fail
  refine (toInt64S_any _ l1 _ (hS1.out.next hB) (by omega)).mono ?_
  rintro e w11 ⟨v_10, rfl, o10, hb11⟩
  replace o10 := o10.lower (base' := w10.heap.size + 0) (by first | exact Nat.le_refl _ | (simp; done) | (simp; omega))
  have hd11 := hb11
  have hz11 : w10.heap.size + 0 ≤ w11.heap.size := by have := hb11.size; first | omega | (simp at this; omega)
  replace o1 := o1.next hd11
  replace o2 := o2.next hd11
  replace o3 := o3.next hd11
  replace o4 := o4.next hd11
  replace o5 := o5.next hd11
  replace o6 := o6.next hd11
  replace o7 := o7.next hd11
  replace o8 := o8.next hd11
  replace o9 := o9.next hd11
  replace HB_P0 := Lib.hid (HB_P0.out.next hd11)
  replace HB_w0 := Lib.hid (HB_w0.out.next hd11)
  replace HB_x0 := Lib.hid (HB_x0.out.next hd11)
  replace HB_g0 := Lib.hid (HB_g0.out.next hd11)
  replace hB := below_next hB hd11
  have lt_o10 := fun k hk => (o10.lt k hk).2
  go_wp2_with fail
  refine (eqInt64S_any _ _ _ _ _ o6.sl (o10.sl)).mono ?_
  rintro e w12 ⟨rfl, hb12⟩
  have hd12 := hb12
  have hz12 : w11.heap.size + 0 ≤ w12.heap.size := by have := hb12.size; first | omega | (simp at this; omega)
  replace o1 := o1.next hd12
  replace o2 := o2.next hd12
  replace o3 := o3.next hd12
  replace o4 := o4.next hd12
  replace o5 := o5.next hd12
  replace o6 := o6.next hd12
  replace o7 := o7.next hd12
  replace o8 := o8.next hd12
  replace o9 := o9.next hd12
  replace o10 := o10.next hd12
  replace HB_P0 := Lib.hid (HB_P0.out.next hd12)
  replace HB_w0 := Lib.hid (HB_w0.out.next hd12)
  replace HB_x0 := Lib.hid (HB_x0.out.next hd12)
  replace HB_g0 := Lib.hid (HB_g0.out.next hd12)
  replace hB := below_next hB hd12
  -- k = markMachine(x0, k)
  obtain ⟨px00, px01, px02⟩ := HB_x0.out
  go_wp2_with fail
  refine (markMachine_any _ _ _ _ _ _ _ o5 (by omega) (by omega) (by omega)).mono ?_
  rintro e w13 ⟨rfl, om13, hg13⟩
  have hz13 := hg13.size
  clear px00 px01 px02
  replace o1 := o1.kept hg13 (fun k hk e => by have h1 := o1.lt k hk; have h2 := o5.lt k e; have h3 := lt_o1 k hk; have h4 := lt_o5 k e; omega)
  replace o2 := o2.kept hg13 (fun k hk e => by have h1 := o2.lt k hk; have h2 := o5.lt k e; have h3 := lt_o2 k hk; have h4 := lt_o5 k e; omega)
  replace o3 := o3.kept hg13 (fun k hk e => by have h1 := o3.lt k hk; have h2 := o5.lt k e; have h3 := lt_o3 k hk; have h4 := lt_o5 k e; omega)
  replace o4 := o4.kept hg13 (fun k hk e => by have h1 := o4.lt k hk; have h2 := o5.lt k e; have h3 := lt_o4 k hk; have h4 := lt_o5 k e; omega)
  replace o6 := o6.kept hg13 (fun k hk e => by have h1 := o6.lt k hk; have h2 := o5.lt k e; have h3 := lt_o6 k hk; have h4 := lt_o5 k e; omega)
  replace o7 := o7.kept hg13 (fun k hk e => by have h1 := o7.lt k hk; have h2 := o5.lt k e; have h3 := lt_o7 k hk; have h4 := lt_o5 k e; omega)
  replace o8 := o8.kept hg13 (fun k hk e => by have h1 := o8.lt k hk; have h2 := o5.lt k e; have h3 := lt_o8 k hk; have h4 := lt_o5 k e; omega)
  replace o9 := o9.kept hg13 (fun k hk e => by have h1 := o9.lt k hk; have h2 := o5.lt k e; have h3 := lt_o9 k hk; have h4 := lt_o5 k e; omega)
  replace o10 := o10.kept hg13 (fun k hk e => by have h1 := o10.lt k hk; have h2 := o5.lt k e; have h3 := lt_o10 k hk; have h4 := lt_o5 k e; omega)
  replace HB_P0 := Lib.hid (C3.kept HB_P0.out hg13 (fun k e => by have h2 := o5.lt k e; have h4 := lt_o5 k e; omega))
  replace HB_w0 := Lib.hid (C3.kept HB_w0.out hg13 (fun k e => by have h2 := o5.lt k e; have h4 := lt_o5 k e; omega))
  replace HB_x0 := Lib.hid (C3.kept HB_x0.out hg13 (fun k e => by have h2 := o5.lt k e; have h4 := lt_o5 k e; omega))
  replace HB_g0 := Lib.hid (C3.kept HB_g0.out hg13 (fun k e => by have h2 := o5.lt k e; have h4 := lt_o5 k e; omega))
  replace hB := hB.grown hg13 hB.size (fun k hk => by have := (o5.lt k hk).1; omega)
  clear o5
  have o5 := om13
  clear om13
  -- k = markInt64S(x1, k)
  go_wp2_with fail
  refine (markInt64S_any _ _ _ _ _ o6 (by omega) (by omega) (by omega)).mono ?_
  rintro e w14 ⟨rfl, om14, hg14⟩
  have hz14 := hg14.size
  replace o1 := o1.kept hg14 (fun k hk e => by have h1 := o1.lt k hk; have h2 := o6.lt k e; have h3 := lt_o1 k hk; have h4 := lt_o6 k e; omega)
  replace o2 := o2.kept hg14 (fun k hk e => by have h1 := o2.lt k hk; have h2 := o6.lt k e; have h3 := lt_o2 k hk; have h4 := lt_o6 k e; omega)
  replace o3 := o3.kept hg14 (fun k hk e => by have h1 := o3.lt k hk; have h2 := o6.lt k e; have h3 := lt_o3 k hk; have h4 := lt_o6 k e; omega)
  replace o4 := o4.kept hg14 (fun k hk e => by have h1 := o4.lt k hk; have h2 := o6.lt k e; have h3 := lt_o4 k hk; have h4 := lt_o6 k e; omega)
  replace o5 := o5.kept hg14 (fun k hk e => by have h1 := o5.lt k hk; have h2 := o6.lt k e; have h3 := lt_o5 k hk; have h4 := lt_o6 k e; omega)
  replace o7 := o7.kept hg14 (fun k hk e => by have h1 := o7.lt k hk; have h2 := o6.lt k e; have h3 := lt_o7 k hk; have h4 := lt_o6 k e; omega)
  replace o8 := o8.kept hg14 (fun k hk e => by have h1 := o8.lt k hk; have h2 := o6.lt k e; have h3 := lt_o8 k hk; have h4 := lt_o6 k e; omega)
  replace o9 := o9.kept hg14 (fun k hk e => by have h1 := o9.lt k hk; have h2 := o6.lt k e; have h3 := lt_o9 k hk; have h4 := lt_o6 k e; omega)
  replace o10 := o10.kept hg14 (fun k hk e => by have h1 := o10.lt k hk; have h2 := o6.lt k e; have h3 := lt_o10 k hk; have h4 := lt_o6 k e; omega)
  replace HB_P0 := Lib.hid (C3.kept HB_P0.out hg14 (fun k e => by have h2 := o6.lt k e; have h4 := lt_o6 k e; omega))
  replace HB_w0 := Lib.hid (C3.kept HB_w0.out hg14 (fun k e => by have h2 := o6.lt k e; have h4 := lt_o6 k e; omega))
  replace HB_x0 := Lib.hid (C3.kept HB_x0.out hg14 (fun k e => by have h2 := o6.lt k e; have h4 := lt_o6 k e; omega))
  replace HB_g0 := Lib.hid (C3.kept HB_g0.out hg14 (fun k e => by have h2 := o6.lt k e; have h4 := lt_o6 k e; omega))
  replace hB := hB.grown hg14 hB.size (fun k hk => by have := (o6.lt k hk).1; omega)
  clear o6
  have o6 := om14
  clear om14
  -- if k < 0 || !eqConfig(g0, w0) || g1 != w1 
  obtain ⟨pg00, pg01, pg02⟩ := HB_g0.out
  obtain ⟨pw00, pw01, pw02⟩ := HB_w0.out
  go_wp2_with fail
  refine (eqConfig_any _ _ _ _ _ _ _ _ _ _ _ o7.sl o8.sl o3.sl o4.sl).mono ?_
  rintro e w15 ⟨rfl, hb15⟩
  have hd15 := hb15
  have hz15 : w14.heap.size + 0 ≤ w15.heap.size := by have := hb15.size; first | omega | (simp at this; omega)
  replace o1 := o1.next hd15
  replace o2 := o2.next hd15
  replace o3 := o3.next hd15
  replace o4 := o4.next hd15
  replace o5 := o5.next hd15
  replace o6 := o6.next hd15
  replace o7 := o7.next hd15
  replace o8 := o8.next hd15
  replace o9 := o9.next hd15
  replace o10 := o10.next hd15
  replace HB_P0 := Lib.hid (HB_P0.out.next hd15)
  replace HB_w0 := Lib.hid (HB_w0.out.next hd15)
  replace HB_x0 := Lib.hid (HB_x0.out.next hd15)
  replace HB_g0 := Lib.hid (HB_g0.out.next hd15)
  replace hB := below_next hB hd15
  clear pg00 pg01 pg02
  clear pw00 pw01 pw02
  -- m = markConfig(g0, m)
  obtain ⟨pg00, pg01, pg02⟩ := HB_g0.out
  go_wp2_with fail
  refine (markConfig_any _ _ _ _ _ _ _ _ o7 o8 ap7 (by omega) (by omega) (by omega) (by omega)).mono ?_
  rintro e w16 ⟨rfl, wm16, om16a, om16b, hg16a, hg16b⟩
  have hzm16 := hg16a.size
  have hz16 := hg16b.size
  clear pg00 pg01 pg02
  replace o1 := o1.kept hg16a (fun k hk e => by have h1 := o1.lt k hk; have h2 := o7.lt k e; have h3 := lt_o1 k hk; have h4 := lt_o7 k e; omega)
  replace o2 := o2.kept hg16a (fun k hk e => by have h1 := o2.lt k hk; have h2 := o7.lt k e; have h3 := lt_o2 k hk; have h4 := lt_o7 k e; omega)
  replace o3 := o3.kept hg16a (fun k hk e => by have h1 := o3.lt k hk; have h2 := o7.lt k e; have h3 := lt_o3 k hk; have h4 := lt_o7 k e; omega)
  replace o4 := o4.kept hg16a (fun k hk e => by have h1 := o4.lt k hk; have h2 := o7.lt k e; have h3 := lt_o4 k hk; have h4 := lt_o7 k e; omega)
  replace o5 := o5.kept hg16a (fun k hk e => by have h1 := o5.lt k hk; have h2 := o7.lt k e; have h3 := lt_o5 k hk; have h4 := lt_o7 k e; omega)
  replace o6 := o6.kept hg16a (fun k hk e => by have h1 := o6.lt k hk; have h2 := o7.lt k e; have h3 := lt_o6 k hk; have h4 := lt_o7 k e; omega)
  replace o9 := o9.kept hg16a (fun k hk e => by have h1 := o9.lt k hk; have h2 := o7.lt k e; have h3 := lt_o9 k hk; have h4 := lt_o7 k e; omega)
  replace o10 := o10.kept hg16a (fun k hk e => by have h1 := o10.lt k hk; have h2 := o7.lt k e; have h3 := lt_o10 k hk; have h4 := lt_o7 k e; omega)
  replace HB_P0 := Lib.hid (C3.kept HB_P0.out hg16a (fun k e => by have h2 := o7.lt k e; have h4 := lt_o7 k e; omega))
  replace HB_w0 := Lib.hid (C3.kept HB_w0.out hg16a (fun k e => by have h2 := o7.lt k e; have h4 := lt_o7 k e; omega))
  replace HB_x0 := Lib.hid (C3.kept HB_x0.out hg16a (fun k e => by have h2 := o7.lt k e; have h4 := lt_o7 k e; omega))
  replace HB_g0 := Lib.hid (C3.kept HB_g0.out hg16a (fun k e => by have h2 := o7.lt k e; have h4 := lt_o7 k e; omega))
  replace o8 := o8.kept hg16a (fun k hk e => ap7 k e hk)
  replace hB := hB.grown hg16a hB.size (fun k hk => by have := (o7.lt k hk).1; omega)
  replace o1 := o1.kept hg16b (fun k hk e => by have h1 := o1.lt k hk; have h2 := o8.lt k e; have h3 := lt_o1 k hk; have h4 := lt_o8 k e; omega)
  replace o2 := o2.kept hg16b (fun k hk e => by have h1 := o2.lt k hk; have h2 := o8.lt k e; have h3 := lt_o2 k hk; have h4 := lt_o8 k e; omega)
  replace o3 := o3.kept hg16b (fun k hk e => by have h1 := o3.lt k hk; have h2 := o8.lt k e; have h3 := lt_o3 k hk; have h4 := lt_o8 k e; omega)
  replace o4 := o4.kept hg16b (fun k hk e => by have h1 := o4.lt k hk; have h2 := o8.lt k e; have h3 := lt_o4 k hk; have h4 := lt_o8 k e; omega)
  replace o5 := o5.kept hg16b (fun k hk e => by have h1 := o5.lt k hk; have h2 := o8.lt k e; have h3 := lt_o5 k hk; have h4 := lt_o8 k e; omega)
  replace o6 := o6.kept hg16b (fun k hk e => by have h1 := o6.lt k hk; have h2 := o8.lt k e; have h3 := lt_o6 k hk; have h4 := lt_o8 k e; omega)
  replace o9 := o9.kept hg16b (fun k hk e => by have h1 := o9.lt k hk; have h2 := o8.lt k e; have h3 := lt_o9 k hk; have h4 := lt_o8 k e; omega)
  replace o10 := o10.kept hg16b (fun k hk e => by have h1 := o10.lt k hk; have h2 := o8.lt k e; have h3 := lt_o10 k hk; have h4 := lt_o8 k e; omega)
  replace HB_P0 := Lib.hid (C3.kept HB_P0.out hg16b (fun k e => by have h2 := o8.lt k e; have h4 := lt_o8 k e; omega))
  replace HB_w0 := Lib.hid (C3.kept HB_w0.out hg16b (fun k e => by have h2 := o8.lt k e; have h4 := lt_o8 k e; omega))
  replace HB_x0 := Lib.hid (C3.kept HB_x0.out hg16b (fun k e => by have h2 := o8.lt k e; have h4 := lt_o8 k e; omega))
  replace HB_g0 := Lib.hid (C3.kept HB_g0.out hg16b (fun k e => by have h2 := o8.lt k e; have h4 := lt_o8 k e; omega))
  replace hB := hB.grown hg16b hB.size (fun k hk => by have := (o8.lt k hk).1; omega)
  clear o7 o8
  have o7 := om16a
  have o8 := om16b
  clear om16a om16b
  -- q = heldConfig(g0, q)
  obtain ⟨pg00, pg01, pg02⟩ := HB_g0.out
  go_wp2_with fail
  refine (heldConfig_any _ _ _ _ _ _ _ o7.sl o8.sl (by omega) (by omega) (by omega) (by omega)).mono ?_
  rintro e w17 ⟨rfl, hb17⟩
  have hd17 := hb17
  have hz17 : w16.heap.size + 0 ≤ w17.heap.size := by have := hb17.size; first | omega | (simp at this; omega)
  replace o1 := o1.next hd17
  replace o2 := o2.next hd17
  replace o3 := o3.next hd17
  replace o4 := o4.next hd17
  replace o5 := o5.next hd17
  replace o6 := o6.next hd17
  replace o7 := o7.next hd17
  replace o8 := o8.next hd17
  replace o9 := o9.next hd17
  replace o10 := o10.next hd17
  replace HB_P0 := Lib.hid (HB_P0.out.next hd17)
  replace HB_w0 := Lib.hid (HB_w0.out.next hd17)
  replace HB_x0 := Lib.hid (HB_x0.out.next hd17)
  replace HB_g0 := Lib.hid (HB_g0.out.next hd17)
  replace hB := below_next hB hd17
  clear pg00 pg01 pg02
  -- h0, h1 := impl.StartConfig(toMachine(aM), toInt64S(aW))
  obtain ⟨pP00, pP01, pP02⟩ := HB_P0.out
  go_wp2_with fail
  refine (toMachine_any sy0 st0 _ l0 _ (hS0.out.next hB) (by omega)).mono ?_
  rintro e w18 ⟨v_11, rfl, o11, hb18⟩
  obtain ⟨A_11, N_11, C_11, rfl, _, _, hq_11⟩ := o11.sl
  clear hq_11
  replace o11 := o11.lower (base' := w17.heap.size + 0) (by first | exact Nat.le_refl _ | (simp; done) | (simp; omega))
  have hd18 := hb18
  have hz18 : w17.heap.size + 0 ≤ w18.heap.size := by have := hb18.size; first | omega | (simp at this; omega)
  replace o1 := o1.next hd18
  replace o2 := o2.next hd18
  replace o3 := o3.next hd18
  replace o4 := o4.next hd18
  replace o5 := o5.next hd18
  replace o6 := o6.next hd18
  replace o7 := o7.next hd18
  replace o8 := o8.next hd18
  replace o9 := o9.next hd18
  replace o10 := o10.next hd18
  replace HB_P0 := Lib.hid (HB_P0.out.next hd18)
  replace HB_w0 := Lib.hid (HB_w0.out.next hd18)
  replace HB_x0 := Lib.hid (HB_x0.out.next hd18)
  replace HB_g0 := Lib.hid (HB_g0.out.next hd18)
  replace hB := below_next hB hd18
  have lt_o11 := fun k hk => (o11.lt k hk).2
  clear pP00 pP01 pP02
  obtain ⟨pP00, pP01, pP02⟩ := HB_P0.out
  go_wp2_with fail
  refine (toInt64S_any _ l1 _ (hS1.out.next hB) (by omega)).mono ?_
  rintro e w19 ⟨v_12, rfl, o12, hb19⟩
  replace o12 := o12.lower (base' := w18.heap.size + 0) (by first | exact Nat.le_refl _ | (simp; done) | (simp; omega))
  have hd19 := hb19
  have hz19 : w18.heap.size + 0 ≤ w19.heap.size := by have := hb19.size; first | omega | (simp at this; omega)
  replace o1 := o1.next hd19
  replace o2 := o2.next hd19
  replace o3 := o3.next hd19
  replace o4 := o4.next hd19
  replace o5 := o5.next hd19
  replace o6 := o6.next hd19
  replace o7 := o7.next hd19
  replace o8 := o8.next hd19
  replace o9 := o9.next hd19
  replace o10 := o10.next hd19
  replace o11 := o11.next hd19
  replace HB_P0 := Lib.hid (HB_P0.out.next hd19)
  replace HB_w0 := Lib.hid (HB_w0.out.next hd19)
  replace HB_x0 := Lib.hid (HB_x0.out.next hd19)
  replace HB_g0 := Lib.hid (HB_g0.out.next hd19)
  replace hB := below_next hB hd19
  have lt_o12 := fun k hk => (o12.lt k hk).2
  clear pP00 pP01 pP02
  obtain ⟨pP00, pP01, pP02⟩ := HB_P0.out
  go_wp2_with fail
  refine (HI.out _ _ _ o11.sl o12.sl).mono ?_
  rintro e w20 ⟨v_13, v_14, rfl, o13, o14, ap13, hb20⟩
  obtain ⟨A_13, C_13, rfl, _, _, hq_13⟩ := o13.sl
  clear hq_13
  obtain ⟨A_14, C_14, rfl, _, _, hq_14⟩ := o14.sl
  clear hq_14
  replace o13 := o13.lower (base' := w19.heap.size + 0) (by first | exact Nat.le_refl _ | (simp; done) | (simp; omega))
  replace o14 := o14.lower (base' := w19.heap.size + 0) (by first | exact Nat.le_refl _ | (simp; done) | (simp; omega))
  have hd20 := hb20
  have hz20 : w19.heap.size + 0 ≤ w20.heap.size := by have := hb20.size; first | omega | (simp at this; omega)
  replace o1 := o1.next hd20
  replace o2 := o2.next hd20
  replace o3 := o3.next hd20
  replace o4 := o4.next hd20
  replace o5 := o5.next hd20
  replace o6 := o6.next hd20
  replace o7 := o7.next hd20
  replace o8 := o8.next hd20
  replace o9 := o9.next hd20
  replace o10 := o10.next hd20
  replace o11 := o11.next hd20
  replace o12 := o12.next hd20
  replace HB_P0 := Lib.hid (HB_P0.out.next hd20)
  replace HB_w0 := Lib.hid (HB_w0.out.next hd20)
  replace HB_x0 := Lib.hid (HB_x0.out.next hd20)
  replace HB_g0 := Lib.hid (HB_g0.out.next hd20)
  replace hB := below_next hB hd20
  have lt_o13 := fun k hk => (o13.lt k hk).2
  have lt_o14 := fun k hk => (o14.lt k hk).2
  clear pP00 pP01 pP02
  -- if !eqConfig(h0, w0) || h1 != w1 
  obtain ⟨pw00, pw01, pw02⟩ := C3.next HB_w0.out (below_one w20 (.cells #[.int .i64 RS0, .slice A_13 R0.length C_13, .slice A_14 RR0.length C_14] 41))
  go_wp2_with fail
  refine (eqConfig_any _ _ _ _ _ _ _ _ _ _ _ (o13.sl.next (below_one w20 (.cells #[.int .i64 RS0, .slice A_13 R0.length C_13, .slice A_14 RR0.length C_14] 41))) (o14.sl.next (below_one w20 (.cells #[.int .i64 RS0, .slice A_13 R0.length C_13, .slice A_14 RR0.length C_14] 41))) (o3.sl.next (below_one w20 (.cells #[.int .i64 RS0, .slice A_13 R0.length C_13, .slice A_14 RR0.length C_14] 41))) (o4.sl.next (below_one w20 (.cells #[.int .i64 RS0, .slice A_13 R0.length C_13, .slice A_14 RR0.length C_14] 41)))).mono ?_
  rintro e w21 ⟨rfl, hb21⟩
  have hd21 : Below w20.heap.size w20 w21 := (below_one w20 (.cells #[.int .i64 RS0, .slice A_13 R0.length C_13, .slice A_14 RR0.length C_14] 41)).trans (hb21.mono (by simp))
  have hz21 : w20.heap.size + 1 ≤ w21.heap.size := by have := hb21.size; first | omega | (simp at this; omega)
  replace o1 := o1.next hd21
  replace o2 := o2.next hd21
  replace o3 := o3.next hd21
  replace o4 := o4.next hd21
  replace o5 := o5.next hd21
  replace o6 := o6.next hd21
  replace o7 := o7.next hd21
  replace o8 := o8.next hd21
  replace o9 := o9.next hd21
  replace o10 := o10.next hd21
  replace o11 := o11.next hd21
  replace o12 := o12.next hd21
  replace o13 := o13.next hd21
  replace o14 := o14.next hd21
  replace HB_P0 := Lib.hid (HB_P0.out.next hd21)
  replace HB_w0 := Lib.hid (HB_w0.out.next hd21)
  replace HB_x0 := Lib.hid (HB_x0.out.next hd21)
  replace HB_g0 := Lib.hid (HB_g0.out.next hd21)
  have HB_h0 : Hid (C3 w21 (w20.heap.size) (.int .i64 RS0) (.slice A_13 R0.length C_13) (.slice A_14 RR0.length C_14)) := Lib.hid (C3.next (C3.made w20 _ _ _ _) hb21)
  replace hB := below_next hB hd21
  clear pw00 pw01 pw02
  -- q = heldConfig(g0, q)
  obtain ⟨pg00, pg01, pg02⟩ := HB_g0.out
  go_wp2_with fail
  refine (heldConfig_any _ _ _ _ _ _ _ o7.sl o8.sl (by omega) (by omega) (by omega) (by omega)).mono ?_
  rintro e w22 ⟨rfl, hb22⟩
  have hd22 := hb22
  have hz22 : w21.heap.size + 0 ≤ w22.heap.size := by have := hb22.size; first | omega | (simp at this; omega)
  replace o1 := o1.next hd22
  replace o2 := o2.next hd22
  replace o3 := o3.next hd22
  replace o4 := o4.next hd22
  replace o5 := o5.next hd22
  replace o6 := o6.next hd22
  replace o7 := o7.next hd22
  replace o8 := o8.next hd22
  replace o9 := o9.next hd22
  replace o10 := o10.next hd22
  replace o11 := o11.next hd22
  replace o12 := o12.next hd22
  replace o13 := o13.next hd22
  replace o14 := o14.next hd22
  replace HB_P0 := Lib.hid (HB_P0.out.next hd22)
  replace HB_w0 := Lib.hid (HB_w0.out.next hd22)
  replace HB_x0 := Lib.hid (HB_x0.out.next hd22)
  replace HB_g0 := Lib.hid (HB_g0.out.next hd22)
  replace HB_h0 := Lib.hid (HB_h0.out.next hd22)
  replace hB := below_next hB hd22
  clear pg00 pg01 pg02
  go_wp2_with fail
  go_ret
  exact ⟨rfl, hB⟩
end Go.Proofs.Ytanjpkcacgjgfaa
