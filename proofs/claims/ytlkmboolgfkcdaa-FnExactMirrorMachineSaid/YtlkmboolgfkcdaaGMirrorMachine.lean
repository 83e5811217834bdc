/- The walk of FnExactMirrorMachine: it returns true. No condition. -/
import Derived.Test.YtlkmboolgfkcdaaMMirror
namespace Go.Proofs.Ytlkmboolgfkcdaa
open Go.RowKit
set_option maxHeartbeats 4000000 in
set_option maxRecDepth 100000 in
theorem walkMirrorMachine (v0 : Value) (z0 : Int × Int × List Int) (w : World) (h0 : IsM w v0 z0) :
    Calls Try.prog 6 #[v0] w fun e w' => e = .returned (.bool true) ∧ Below w.heap.size w w' := by
  obtain ⟨sy0, st0, l0⟩ := z0
  obtain ⟨rv0, rfl, hs0, f0, hy0, ht0⟩ := h0
  have hS0 : Hid (Sl3 w rv0 l0) := Lib.hid hs0
  obtain ⟨A0, n0, c0, rfl, hnc0, hcm0, hr0⟩ := hs0
  have hl0 := hr0.1
  clear hr0
  simp only at hl0 hy0 ht0 f0
  have HL0 := Lib.hid hl0
  clear hl0
  have hB : Below w.heap.size w w := Below.refl _ _
  go_enter Try.func6, Try.ntmps6
  go_wp2_with fail
  refine (szMachine_any sy0 st0 A0 n0 c0 1048576 _ (by omega) (by omega) hnc0 hcm0).mono ?_
  rintro e w1 ⟨rfl, hb1⟩
  have hd1 : Below w.heap.size w w1 := (below_one w (.cells #[.int .i64 sy0, .int .i64 st0, .slice A0 n0 c0] 24)).trans (hb1.mono (by simp))
  have hz1 : w.heap.size + 1 ≤ w1.heap.size := by have := hb1.size; first | omega | (simp at this; omega)
  have HB_P0 : Hid (C3 w1 (w.heap.size) (.int .i64 sy0) (.int .i64 st0) (.slice A0 n0 c0)) := Lib.hid (C3.next (C3.made w _ _ _ _) hb1)
  replace hB := below_next hB hd1
  by_cases hg0 : 1048576 < ((n0 : Nat) : Int)
  · rw [szI_no hg0]
    go_wp2_with fail
    go_ret
    exact ⟨rfl, hB⟩
  rw [szI_yes hg0]
  have he0 : decide ((1048576 - ((n0 : Nat) : Int)) < 0) = false := decide_eq_false (by omega)
  have hn0 : l0.length ≤ 3145728 := by have := HL0.out; omega
  obtain ⟨RS0, RT0, R0, R1, hR0, hs, hi⟩ := bothMirrorMachine sy0 st0 l0 ⟨f0, hn0, hy0, ht0⟩
  have HS := Lib.hid hs
  have HI := Lib.hid hi
  clear hs hi
  -- w0, w1 := spec.MirrorMachine(toMachine(aM))
  obtain ⟨pP00, pP01, pP02⟩ := HB_P0.out
  go_wp2_with fail
  refine (toMachine_any sy0 st0 _ l0 _ (hS0.out.next hB) (by omega)).mono ?_
  rintro e w2 ⟨v_1, rfl, o1, hb2⟩
  obtain ⟨A_1, N_1, C_1, rfl, _, _, hq_1⟩ := o1.sl
  clear hq_1
  replace o1 := o1.lower (base' := w1.heap.size + 0) (by first | exact Nat.le_refl _ | (simp; done) | (simp; omega))
  have hd2 := hb2
  have hz2 : w1.heap.size + 0 ≤ w2.heap.size := by have := hb2.size; first | omega | (simp at this; omega)
  replace HB_P0 := Lib.hid (HB_P0.out.next hd2)
  replace hB := below_next hB hd2
  have lt_o1 := fun k hk => (o1.lt k hk).2
  clear pP00 pP01 pP02
  obtain ⟨pP00, pP01, pP02⟩ := HB_P0.out
  go_wp2_with fail
  refine (HS.out _ _ o1.sl).mono ?_
  rintro e w3 ⟨v_2, rfl, o2, hb3⟩
  obtain ⟨A_2, N_2, C_2, rfl, _, _, hq_2⟩ := o2.sl
  clear hq_2
  replace o2 := o2.lower (base' := w2.heap.size + 0) (by first | exact Nat.le_refl _ | (simp; done) | (simp; omega))
  have hd3 := hb3
  have hz3 : w2.heap.size + 0 ≤ w3.heap.size := by have := hb3.size; first | omega | (simp at this; omega)
  replace o1 := o1.next hd3
  replace HB_P0 := Lib.hid (HB_P0.out.next hd3)
  replace hB := below_next hB hd3
  have lt_o2 := fun k hk => (o2.lt k hk).2
  clear pP00 pP01 pP02
  -- x0 := toMachine(aM)
  obtain ⟨pP00, pP01, pP02⟩ := C3.next HB_P0.out (below_one w3 (.cells #[.int .i64 RS0, .int .i64 RT0, .slice A_2 N_2 C_2] 29))
  go_wp2_with fail
  refine (toMachine_any sy0 st0 _ l0 _ ((hS0.out.next hB).next (below_one w3 (.cells #[.int .i64 RS0, .int .i64 RT0, .slice A_2 N_2 C_2] 29))) (by omega)).mono ?_
  rintro e w4 ⟨v_3, rfl, o3, hb4⟩
  obtain ⟨A_3, N_3, C_3, rfl, _, _, hq_3⟩ := o3.sl
  clear hq_3
  replace o3 := o3.lower (base' := w3.heap.size + 1) (by first | exact Nat.le_refl _ | (simp; done) | (simp; omega))
  have hd4 : Below w3.heap.size w3 w4 := (below_one w3 (.cells #[.int .i64 RS0, .int .i64 RT0, .slice A_2 N_2 C_2] 29)).trans (hb4.mono (by simp))
  have hz4 : w3.heap.size + 1 ≤ w4.heap.size := by have := hb4.size; first | omega | (simp at this; omega)
  replace o1 := o1.next hd4
  replace o2 := o2.next hd4
  replace HB_P0 := Lib.hid (HB_P0.out.next hd4)
  have HB_w0 : Hid (C3 w4 (w3.heap.size) (.int .i64 RS0) (.int .i64 RT0) (.slice A_2 N_2 C_2)) := Lib.hid (C3.next (C3.made w3 _ _ _ _) hb4)
  replace hB := below_next hB hd4
  have lt_o3 := fun k hk => (o3.lt k hk).2
  clear pP00 pP01 pP02
  -- g0, g1 := impl.MirrorMachine(x0)
  go_wp2_with fail
  refine (HI.out _ _ (o3.sl.next (below_one w4 (.cells #[.int .i64 sy0, .int .i64 st0, .slice A_3 N_3 C_3] 29)))).mono ?_
  rintro e w5 ⟨v_4, rfl, o4, hb5⟩
  obtain ⟨A_4, N_4, C_4, rfl, _, _, hq_4⟩ := o4.sl
  clear hq_4
  replace o4 := o4.lower (base' := w4.heap.size + 1) (by first | exact Nat.le_refl _ | (simp; done) | (simp; omega))
  have hd5 : Below w4.heap.size w4 w5 := (below_one w4 (.cells #[.int .i64 sy0, .int .i64 st0, .slice A_3 N_3 C_3] 29)).trans (hb5.mono (by simp))
  have hz5 : w4.heap.size + 1 ≤ w5.heap.size := by have := hb5.size; first | omega | (simp at this; omega)
  replace o1 := o1.next hd5
  replace o2 := o2.next hd5
  replace o3 := o3.next hd5
  replace HB_P0 := Lib.hid (HB_P0.out.next hd5)
  replace HB_w0 := Lib.hid (HB_w0.out.next hd5)
  have HB_x0 : Hid (C3 w5 (w4.heap.size) (.int .i64 sy0) (.int .i64 st0) (.slice A_3 N_3 C_3)) := Lib.hid (C3.next (C3.made w4 _ _ _ _) hb5)
  replace hB := below_next hB hd5
  have lt_o4 := fun k hk => (o4.lt k hk).2
  -- if !eqMachine(g0, w0) || g1 != w1 
  obtain ⟨pw00, pw01, pw02⟩ := C3.next HB_w0.out (below_one w5 (.cells #[.int .i64 RS0, .int .i64 RT0, .slice A_4 N_4 C_4] 29))
  go_wp2_with fail
  refine (eqMachine_any _ _ _ _ _ _ _ _ _ (o4.sl.next (below_one w5 (.cells #[.int .i64 RS0, .int .i64 RT0, .slice A_4 N_4 C_4] 29))) (o2.sl.next (below_one w5 (.cells #[.int .i64 RS0, .int .i64 RT0, .slice A_4 N_4 C_4] 29)))).mono ?_
  rintro e w6 ⟨rfl, hb6⟩
  have hd6 : Below w5.heap.size w5 w6 := (below_one w5 (.cells #[.int .i64 RS0, .int .i64 RT0, .slice A_4 N_4 C_4] 29)).trans (hb6.mono (by simp))
  have hz6 : w5.heap.size + 1 ≤ w6.heap.size := by have := hb6.size; first | omega | (simp at this; omega)
  replace o1 := o1.next hd6
  replace o2 := o2.next hd6
  replace o3 := o3.next hd6
  replace o4 := o4.next hd6
  replace HB_P0 := Lib.hid (HB_P0.out.next hd6)
  replace HB_w0 := Lib.hid (HB_w0.out.next hd6)
  replace HB_x0 := Lib.hid (HB_x0.out.next hd6)
  have HB_g0 : Hid (C3 w6 (w5.heap.size) (.int .i64 RS0) (.int .i64 RT0) (.slice A_4 N_4 C_4)) := Lib.hid (C3.next (C3.made w5 _ _ _ _) hb6)
  replace hB := below_next hB hd6
  clear pw00 pw01 pw02
  -- if !eqMachine(x0, toMachine(aM)) 
  obtain ⟨px00, px01, px02⟩ := HB_x0.out
  obtain ⟨pP00, pP01, pP02⟩ := HB_P0.out
  go_wp2_with fail
  go_region_held3 (fun w' => (w'.cell? ⟨w4.heap.size, 0, none⟩ = some (.int .i64 sy0) ∧ w'.cell? ⟨w4.heap.size, 1, none⟩ = some (.int .i64 st0) ∧ w'.cell? ⟨w4.heap.size, 2, none⟩ = some (.slice A_3 N_3 C_3)) ∧ (w'.cell? ⟨w.heap.size, 0, none⟩ = some (.int .i64 sy0) ∧ w'.cell? ⟨w.heap.size, 1, none⟩ = some (.int .i64 st0) ∧ w'.cell? ⟨w.heap.size, 2, none⟩ = some (.slice A0 n0 c0)))
    (first | go_keep | (exact ⟨C3.next (C3.drew (HB_x0.out)) hb7, C3.next (C3.drew (HB_P0.out)) hb7⟩) | (exact ⟨C3.next (C3.next (C3.drew (HB_x0.out)) hb7) hb8, C3.next (C3.next (C3.drew (HB_P0.out)) hb7) hb8⟩))
    (first | (go_at_call 15; (with_reducible refine (toMachine_any sy0 st0 _ l0 _ (((hS0.out.next hB)).drew) (by omega)).mono ?_); rintro e w7 ⟨v_5, rfl, o5, hb7⟩; obtain ⟨A_5, N_5, C_5, rfl, _, _, hq_5⟩ := o5.sl; clear hq_5) | (go_at_call 17; (with_reducible refine (eqMachine_any _ _ _ _ _ _ _ _ _ (((o3.sl).drew).next hb7) (o5.sl)).mono ?_); rintro e w8 ⟨rfl, hb8⟩))
  replace o5 := o5.lower (base' := w6.heap.size + 0) (by first | exact Nat.le_refl _ | (simp; done) | (simp; omega))
  have hb7q : Below w6.heap.size w6 w7 := ⟨hb7.os, hb7.tape, hb7.output, hb7.size, hb7.block⟩
  have hd7 := hb7q
  have hz7 : w6.heap.size + 0 ≤ w7.heap.size := by have := hb7q.size; first | omega | (simp at this; omega)
  replace o1 := o1.next hd7
  replace o2 := o2.next hd7
  replace o3 := o3.next hd7
  replace o4 := o4.next hd7
  replace HB_P0 := Lib.hid (HB_P0.out.next hd7)
  replace HB_w0 := Lib.hid (HB_w0.out.next hd7)
  replace HB_x0 := Lib.hid (HB_x0.out.next hd7)
  replace HB_g0 := Lib.hid (HB_g0.out.next hd7)
  replace hB := below_next hB hd7
  have lt_o5 := fun k hk => (o5.lt k hk).2
  have hd8 := hb8
  have hz8 : w7.heap.size + 0 ≤ w8.heap.size := by have := hb8.size; first | omega | (simp at this; omega)
  replace o1 := o1.next hd8
  replace o2 := o2.next hd8
  replace o3 := o3.next hd8
  replace o4 := o4.next hd8
  replace o5 := o5.next hd8
  replace HB_P0 := Lib.hid (HB_P0.out.next hd8)
  replace HB_w0 := Lib.hid (HB_w0.out.next hd8)
  replace HB_x0 := Lib.hid (HB_x0.out.next hd8)
  replace HB_g0 := Lib.hid (HB_g0.out.next hd8)
  replace hB := below_next hB hd8
  clear px00 px01 px02
  clear pP00 pP01 pP02
  -- k = markMachine(x0, k)
  obtain ⟨px00, px01, px02⟩ := HB_x0.out
  go_wp2_with fail
  refine (markMachine_any _ _ _ _ _ _ _ o3 (by omega) (by omega) (by omega)).mono ?_
  rintro e w9 ⟨rfl, om9, hg9⟩
  have hz9 := hg9.size
  clear px00 px01 px02
  replace o1 := o1.kept hg9 (fun k hk e => by have h1 := o1.lt k hk; have h2 := o3.lt k e; have h3 := lt_o1 k hk; have h4 := lt_o3 k e; omega)
  replace o2 := o2.kept hg9 (fun k hk e => by have h1 := o2.lt k hk; have h2 := o3.lt k e; have h3 := lt_o2 k hk; have h4 := lt_o3 k e; omega)
  replace o4 := o4.kept hg9 (fun k hk e => by have h1 := o4.lt k hk; have h2 := o3.lt k e; have h3 := lt_o4 k hk; have h4 := lt_o3 k e; omega)
  replace o5 := o5.kept hg9 (fun k hk e => by have h1 := o5.lt k hk; have h2 := o3.lt k e; have h3 := lt_o5 k hk; have h4 := lt_o3 k e; omega)
  replace HB_P0 := Lib.hid (C3.kept HB_P0.out hg9 (fun k e => by have h2 := o3.lt k e; have h4 := lt_o3 k e; omega))
  replace HB_w0 := Lib.hid (C3.kept HB_w0.out hg9 (fun k e => by have h2 := o3.lt k e; have h4 := lt_o3 k e; omega))
  replace HB_x0 := Lib.hid (C3.kept HB_x0.out hg9 (fun k e => by have h2 := o3.lt k e; have h4 := lt_o3 k e; omega))
  replace HB_g0 := Lib.hid (C3.kept HB_g0.out hg9 (fun k e => by have h2 := o3.lt k e; have h4 := lt_o3 k e; omega))
  replace hB := hB.grown hg9 hB.size (fun k hk => by have := (o3.lt k hk).1; omega)
  clear o3
  have o3 := om9
  clear om9
  -- if k < 0 || !eqMachine(g0, w0) || g1 != w1 
  obtain ⟨pg00, pg01, pg02⟩ := HB_g0.out
  obtain ⟨pw00, pw01, pw02⟩ := HB_w0.out
  go_wp2_with fail
  refine (eqMachine_any _ _ _ _ _ _ _ _ _ o4.sl o2.sl).mono ?_
  rintro e w10 ⟨rfl, hb10⟩
  have hd10 := hb10
  have hz10 : w9.heap.size + 0 ≤ w10.heap.size := by have := hb10.size; first | omega | (simp at this; omega)
  replace o1 := o1.next hd10
  replace o2 := o2.next hd10
  replace o3 := o3.next hd10
  replace o4 := o4.next hd10
  replace o5 := o5.next hd10
  replace HB_P0 := Lib.hid (HB_P0.out.next hd10)
  replace HB_w0 := Lib.hid (HB_w0.out.next hd10)
  replace HB_x0 := Lib.hid (HB_x0.out.next hd10)
  replace HB_g0 := Lib.hid (HB_g0.out.next hd10)
  replace hB := below_next hB hd10
  clear pg00 pg01 pg02
  clear pw00 pw01 pw02
  -- m = markMachine(g0, m)
  obtain ⟨pg00, pg01, pg02⟩ := HB_g0.out
  go_wp2_with fail
  refine (markMachine_any _ _ _ _ _ _ _ o4 (by omega) (by omega) (by omega)).mono ?_
  rintro e w11 ⟨rfl, om11, hg11⟩
  have hz11 := hg11.size
  clear pg00 pg01 pg02
  replace o1 := o1.kept hg11 (fun k hk e => by have h1 := o1.lt k hk; have h2 := o4.lt k e; have h3 := lt_o1 k hk; have h4 := lt_o4 k e; omega)
  replace o2 := o2.kept hg11 (fun k hk e => by have h1 := o2.lt k hk; have h2 := o4.lt k e; have h3 := lt_o2 k hk; have h4 := lt_o4 k e; omega)
  replace o3 := o3.kept hg11 (fun k hk e => by have h1 := o3.lt k hk; have h2 := o4.lt k e; have h3 := lt_o3 k hk; have h4 := lt_o4 k e; omega)
  replace o5 := o5.kept hg11 (fun k hk e => by have h1 := o5.lt k hk; have h2 := o4.lt k e; have h3 := lt_o5 k hk; have h4 := lt_o4 k e; omega)
  replace HB_P0 := Lib.hid (C3.kept HB_P0.out hg11 (fun k e => by have h2 := o4.lt k e; have h4 := lt_o4 k e; omega))
  replace HB_w0 := Lib.hid (C3.kept HB_w0.out hg11 (fun k e => by have h2 := o4.lt k e; have h4 := lt_o4 k e; omega))
  replace HB_x0 := Lib.hid (C3.kept HB_x0.out hg11 (fun k e => by have h2 := o4.lt k e; have h4 := lt_o4 k e; omega))
  replace HB_g0 := Lib.hid (C3.kept HB_g0.out hg11 (fun k e => by have h2 := o4.lt k e; have h4 := lt_o4 k e; omega))
  replace hB := hB.grown hg11 hB.size (fun k hk => by have := (o4.lt k hk).1; omega)
  clear o4
  have o4 := om11
  clear om11
  -- q = heldMachine(g0, q)
  obtain ⟨pg00, pg01, pg02⟩ := HB_g0.out
  go_wp2_with fail
  refine (heldMachine_any _ _ _ _ _ _ o4.sl (by omega) (by omega) (by omega)).mono ?_
  rintro e w12 ⟨rfl, hb12⟩
  have hd12 := hb12
  have hz12 : w11.heap.size + 0 ≤ w12.heap.size := by have := hb12.size; first | omega | (simp at this; omega)
  replace o1 := o1.next hd12
  replace o2 := o2.next hd12
  replace o3 := o3.next hd12
  replace o4 := o4.next hd12
  replace o5 := o5.next hd12
  replace HB_P0 := Lib.hid (HB_P0.out.next hd12)
  replace HB_w0 := Lib.hid (HB_w0.out.next hd12)
  replace HB_x0 := Lib.hid (HB_x0.out.next hd12)
  replace HB_g0 := Lib.hid (HB_g0.out.next hd12)
  replace hB := below_next hB hd12
  clear pg00 pg01 pg02
  -- h0, h1 := impl.MirrorMachine(toMachine(aM))
  obtain ⟨pP00, pP01, pP02⟩ := HB_P0.out
  go_wp2_with fail
  refine (toMachine_any sy0 st0 _ l0 _ (hS0.out.next hB) (by omega)).mono ?_
  rintro e w13 ⟨v_6, rfl, o6, hb13⟩
  obtain ⟨A_6, N_6, C_6, rfl, _, _, hq_6⟩ := o6.sl
  clear hq_6
  replace o6 := o6.lower (base' := w12.heap.size + 0) (by first | exact Nat.le_refl _ | (simp; done) | (simp; omega))
  have hd13 := hb13
  have hz13 : w12.heap.size + 0 ≤ w13.heap.size := by have := hb13.size; first | omega | (simp at this; omega)
  replace o1 := o1.next hd13
  replace o2 := o2.next hd13
  replace o3 := o3.next hd13
  replace o4 := o4.next hd13
  replace o5 := o5.next hd13
  replace HB_P0 := Lib.hid (HB_P0.out.next hd13)
  replace HB_w0 := Lib.hid (HB_w0.out.next hd13)
  replace HB_x0 := Lib.hid (HB_x0.out.next hd13)
  replace HB_g0 := Lib.hid (HB_g0.out.next hd13)
  replace hB := below_next hB hd13
  have lt_o6 := fun k hk => (o6.lt k hk).2
  clear pP00 pP01 pP02
  obtain ⟨pP00, pP01, pP02⟩ := HB_P0.out
  go_wp2_with fail
  refine (HI.out _ _ o6.sl).mono ?_
  rintro e w14 ⟨v_7, rfl, o7, hb14⟩
  obtain ⟨A_7, N_7, C_7, rfl, _, _, hq_7⟩ := o7.sl
  clear hq_7
  replace o7 := o7.lower (base' := w13.heap.size + 0) (by first | exact Nat.le_refl _ | (simp; done) | (simp; omega))
  have hd14 := hb14
  have hz14 : w13.heap.size + 0 ≤ w14.heap.size := by have := hb14.size; first | omega | (simp at this; omega)
  replace o1 := o1.next hd14
  replace o2 := o2.next hd14
  replace o3 := o3.next hd14
  replace o4 := o4.next hd14
  replace o5 := o5.next hd14
  replace o6 := o6.next hd14
  replace HB_P0 := Lib.hid (HB_P0.out.next hd14)
  replace HB_w0 := Lib.hid (HB_w0.out.next hd14)
  replace HB_x0 := Lib.hid (HB_x0.out.next hd14)
  replace HB_g0 := Lib.hid (HB_g0.out.next hd14)
  replace hB := below_next hB hd14
  have lt_o7 := fun k hk => (o7.lt k hk).2
  clear pP00 pP01 pP02
  -- if !eqMachine(h0, w0) || h1 != w1 
  obtain ⟨pw00, pw01, pw02⟩ := C3.next HB_w0.out (below_one w14 (.cells #[.int .i64 RS0, .int .i64 RT0, .slice A_7 N_7 C_7] 29))
  go_wp2_with fail
  refine (eqMachine_any _ _ _ _ _ _ _ _ _ (o7.sl.next (below_one w14 (.cells #[.int .i64 RS0, .int .i64 RT0, .slice A_7 N_7 C_7] 29))) (o2.sl.next (below_one w14 (.cells #[.int .i64 RS0, .int .i64 RT0, .slice A_7 N_7 C_7] 29)))).mono ?_
  rintro e w15 ⟨rfl, hb15⟩
  have hd15 : Below w14.heap.size w14 w15 := (below_one w14 (.cells #[.int .i64 RS0, .int .i64 RT0, .slice A_7 N_7 C_7] 29)).trans (hb15.mono (by simp))
  have hz15 : w14.heap.size + 1 ≤ w15.heap.size := by have := hb15.size; first | omega | (simp at this; omega)
  replace o1 := o1.next hd15
  replace o2 := o2.next hd15
  replace o3 := o3.next hd15
  replace o4 := o4.next hd15
  replace o5 := o5.next hd15
  replace o6 := o6.next hd15
  replace o7 := o7.next hd15
  replace HB_P0 := Lib.hid (HB_P0.out.next hd15)
  replace HB_w0 := Lib.hid (HB_w0.out.next hd15)
  replace HB_x0 := Lib.hid (HB_x0.out.next hd15)
  replace HB_g0 := Lib.hid (HB_g0.out.next hd15)
  have HB_h0 : Hid (C3 w15 (w14.heap.size) (.int .i64 RS0) (.int .i64 RT0) (.slice A_7 N_7 C_7)) := Lib.hid (C3.next (C3.made w14 _ _ _ _) hb15)
  replace hB := below_next hB hd15
  clear pw00 pw01 pw02
  -- q = heldMachine(g0, q)
  obtain ⟨pg00, pg01, pg02⟩ := HB_g0.out
  go_wp2_with fail
  refine (heldMachine_any _ _ _ _ _ _ o4.sl (by omega) (by omega) (by omega)).mono ?_
  rintro e w16 ⟨rfl, hb16⟩
  have hd16 := hb16
  have hz16 : w15.heap.size + 0 ≤ w16.heap.size := by have := hb16.size; first | omega | (simp at this; omega)
  replace o1 := o1.next hd16
  replace o2 := o2.next hd16
  replace o3 := o3.next hd16
  replace o4 := o4.next hd16
  replace o5 := o5.next hd16
  replace o6 := o6.next hd16
  replace o7 := o7.next hd16
  replace HB_P0 := Lib.hid (HB_P0.out.next hd16)
  replace HB_w0 := Lib.hid (HB_w0.out.next hd16)
  replace HB_x0 := Lib.hid (HB_x0.out.next hd16)
  replace HB_g0 := Lib.hid (HB_g0.out.next hd16)
  replace HB_h0 := Lib.hid (HB_h0.out.next hd16)
  replace hB := below_next hB hd16
  clear pg00 pg01 pg02
  go_wp2_with fail
  go_ret
  exact ⟨rfl, hB⟩
end Go.Proofs.Ytlkmboolgfkcdaa
