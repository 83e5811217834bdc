/- The walk of FnExactMirrorConfig: it returns true. No condition. -/
import Derived.Test.YtbjkhnajnbmnlaaMMirB
import Derived.Test.YtbjkhnajnbmnlaaMDraw
import Derived.Test.YtbjkhnajnbmnlaaOpen
namespace Go.Proofs.Ytbjkhnajnbmnlaa
open Go.RowKit
set_option maxHeartbeats 4000000 in
set_option maxRecDepth 100000 in
theorem walkMirrorConfig (v0 : Value) (z0 : Int × Int × List Int) (v1 : Value) (z1 : Int × List Int × List Int) (w : World) (h0 : IsM w v0 z0) (h1 : IsC w v1 z1) :
    Calls Try.prog 3 #[v0, v1] w fun e w' => e = .returned (.bool true) ∧ Below w.heap.size w w' := by
  obtain ⟨sy0, st0, l0⟩ := z0
  obtain ⟨rv0, rfl, hs0, f0, hy0, ht0⟩ := h0
  have hS0 : Hid (Sl3 w rv0 l0) := Lib.hid hs0
  obtain ⟨A0, n0, c0, rfl, hnc0, hcm0, hr0⟩ := hs0
  have hl0 := hr0.1
  clear hr0
  simp only at hl0 hy0 ht0 f0
  have HL0 := Lib.hid hl0
  clear hl0
  obtain ⟨st1, l1, r1⟩ := z1
  obtain ⟨lv1, rv1, rfl, hs1, ht1, f1, g1, hy1⟩ := h1
  have hS1 : Hid (Sl w lv1 l1) := Lib.hid hs1
  have hT1 : Hid (Sl w rv1 r1) := Lib.hid ht1
  obtain ⟨A1, c1, rfl, hnc1, hcm1, hr1⟩ := hs1
  obtain ⟨B1, d1, rfl, hnd1, hdm1, hq1⟩ := ht1
  clear hr1 hq1
  simp only at hnc1 hnd1 hS1 hT1 f1 g1 hy1 ⊢
  have hB : Below w.heap.size w w := Below.refl _ _
  go_enter Try.func3, Try.ntmps3
  go_wp2_with fail
  refine (szMachine_any sy0 st0 A0 n0 c0 1048576 _ (by omega) (by omega) hnc0 hcm0).mono ?_
  rintro e w1 ⟨rfl, hb1⟩
  have hd1 : Below w.heap.size w w1 := (below_two w (.cells #[.int .i64 sy0, .int .i64 st0, .slice A0 n0 c0] 24) (.cells #[.int .i64 st1, .slice A1 l1.length c1, .slice B1 r1.length d1] 27)).trans (hb1.mono (by simp; omega))
  have hz1 : w.heap.size + 2 ≤ w1.heap.size := by have := hb1.size; first | omega | (simp at this; omega)
  have HB_P0 : Hid (C3 w1 (w.heap.size) (.int .i64 sy0) (.int .i64 st0) (.slice A0 n0 c0)) := Lib.hid (C3.next (C3.next (C3.made w _ _ _ _) (below_one _ _)) hb1)
  have HB_P1 : Hid (C3 w1 (w.heap.size + 1) (.int .i64 st1) (.slice A1 l1.length c1) (.slice B1 r1.length d1)) := Lib.hid (by have h := C3.next (C3.made (w.alloc (.cells #[.int .i64 sy0, .int .i64 st0, .slice A0 n0 c0] 24)) (.int .i64 st1) (.slice A1 l1.length c1) (.slice B1 r1.length d1) _) hb1; simpa using h)
  replace hB := below_next hB hd1
  by_cases hg0 : 1048576 < ((n0 : Nat) : Int)
  · rw [szI_no hg0]
    go_wp2_with fail
    go_ret
    exact ⟨rfl, hB⟩
  rw [szI_yes hg0]
  have he0 : decide ((1048576 - ((n0 : Nat) : Int)) < 0) = false := decide_eq_false (by omega)
  obtain ⟨pP10, pP11, pP12⟩ := HB_P1.out
  go_wp2_with fail
  refine (szConfig_any st1 A1 B1 l1.length r1.length c1 d1 (1048576 - ((n0 : Nat) : Int)) _ (by omega) (by omega) hnc1 hcm1 hnd1 hdm1).mono ?_
  rintro e w2 ⟨rfl, hb2⟩
  have hd2 := hb2
  have hz2 : w1.heap.size + 0 ≤ w2.heap.size := by have := hb2.size; first | omega | (simp at this; omega)
  replace HB_P0 := Lib.hid (HB_P0.out.next hd2)
  replace HB_P1 := Lib.hid (HB_P1.out.next hd2)
  replace hB := below_next hB hd2
  clear pP10 pP11 pP12
  by_cases hg1 : (1048576 - ((n0 : Nat) : Int)) < (((l1.length + r1.length) : Nat) : Int)
  · rw [szI_no hg1]
    go_wp2_with fail
    go_ret
    exact ⟨rfl, hB⟩
  rw [szI_yes hg1]
  have he1 : decide (((1048576 - ((n0 : Nat) : Int)) - (((l1.length + r1.length) : Nat) : Int)) < 0) = false := decide_eq_false (by omega)
  have hn0 : l0.length ≤ 3145728 := by have := HL0.out; omega
  have hn1 : l1.length ≤ 1048576 := by omega
  have hm1 : r1.length ≤ 1048576 := by omega
  obtain ⟨RS0, R0, RR0, R1, hR0, hRR0, hs, hi⟩ := bothMirrorConfig sy0 st0 l0 st1 l1 r1 ⟨f0, hn0, hy0, ht0⟩ ⟨f1, hn1, g1, hm1, hy1⟩
  have HS := Lib.hid hs
  have HI := Lib.hid hi
  clear hs hi
  -- w0, w1 := spec.MirrorConfig(toMachine(aM), toConfig(aC))
  go_upto_region 8 with fail
  obtain ⟨pP00, pP01, pP02⟩ := HB_P0.out
  obtain ⟨pP10, pP11, pP12⟩ := HB_P1.out
  go_cut [6, 7] (fun p c wx => ∃ (vb : Nat) (Aq Dq : Option Addr) (Cq Eq : Nat), p = .pointer (some ⟨vb, 0, none⟩) ∧ c = .int .i64 R1 ∧ Hid (StC w2 wx vb RS0 (.slice Aq R0.length Cq) (.slice Dq RR0.length Eq) R0 RR0))
  case first =>
    go_region_held3 (fun w' => (w'.cell? ⟨w.heap.size, 0, none⟩ = some (.int .i64 sy0) ∧ w'.cell? ⟨w.heap.size, 1, none⟩ = some (.int .i64 st0) ∧ w'.cell? ⟨w.heap.size, 2, none⟩ = some (.slice A0 n0 c0)) ∧ (w'.cell? ⟨w.heap.size + 1, 0, none⟩ = some (.int .i64 st1) ∧ w'.cell? ⟨w.heap.size + 1, 1, none⟩ = some (.slice A1 l1.length c1) ∧ w'.cell? ⟨w.heap.size + 1, 2, none⟩ = some (.slice B1 r1.length d1)))
      (first | (with_reducible assumption) | (with_reducible refine ⟨ka1 (And.left (by assumption)), ka1 (And.right (by assumption))⟩) | (with_reducible refine ⟨kda1 (And.left (by assumption)), kda1 (And.right (by assumption))⟩) | (with_reducible refine ⟨ks1 (And.left (by assumption)) (by omega), ks1 (And.right (by assumption)) (by omega)⟩) | go_keep)
      (first | (go_at_call 9; (with_reducible refine (toMachine_any sy0 st0 _ l0 _ ((hS0.out.next hB).drew) (by omega)).mono ?_); rintro e w3 ⟨v_1, rfl, o1, hb3⟩; obtain ⟨A_1, N_1, C_1, rfl, _, _, hq_1⟩ := o1.sl; clear hq_1; have hq3 : Below w2.heap.size w2 w3 := ⟨hb3.os, hb3.tape, hb3.output, hb3.size, hb3.block⟩; have hz3 := hq3.size; have kk3 : (w3.cell? ⟨w.heap.size, 0, none⟩ = some (.int .i64 sy0) ∧ w3.cell? ⟨w.heap.size, 1, none⟩ = some (.int .i64 st0) ∧ w3.cell? ⟨w.heap.size, 2, none⟩ = some (.slice A0 n0 c0)) ∧ (w3.cell? ⟨w.heap.size + 1, 0, none⟩ = some (.int .i64 st1) ∧ w3.cell? ⟨w.heap.size + 1, 1, none⟩ = some (.slice A1 l1.length c1) ∧ w3.cell? ⟨w.heap.size + 1, 2, none⟩ = some (.slice B1 r1.length d1)) := ⟨C3.next (HB_P0.out) hq3, C3.next (HB_P1.out) hq3⟩) | (go_at_call 9; (with_reducible refine (toMachine_any sy0 st0 _ l0 _ (((hS0.out.next hB).next (below_one w2 (.cells #[.int .i64 0, .slice none 0 0, .slice none 0 0] 30))).drew) (by omega)).mono ?_); rintro e w3 ⟨v_1, rfl, o1, hb3⟩; obtain ⟨A_1, N_1, C_1, rfl, _, _, hq_1⟩ := o1.sl; clear hq_1; have hc3 : Below (w2.alloc (.cells #[.int .i64 0, .slice none 0 0, .slice none 0 0] 30)).heap.size (w2.alloc (.cells #[.int .i64 0, .slice none 0 0, .slice none 0 0] 30)) w3 := ⟨hb3.os, hb3.tape, hb3.output, hb3.size, hb3.block⟩; have hq3 : Below w2.heap.size w2 w3 := (below_one w2 (.cells #[.int .i64 0, .slice none 0 0, .slice none 0 0] 30)).trans (hc3.mono (by simp)); have bx3 := Box.of (heap_one hc3); have lo3 : w2.heap.size ≤ w2.heap.size := (by omega); have up3 : w2.heap.size < w3.heap.size := (by have h := hc3.size; rw [World.size_alloc] at h; omega); have hz3 := hq3.size; have kk3 : (w3.cell? ⟨w.heap.size, 0, none⟩ = some (.int .i64 sy0) ∧ w3.cell? ⟨w.heap.size, 1, none⟩ = some (.int .i64 st0) ∧ w3.cell? ⟨w.heap.size, 2, none⟩ = some (.slice A0 n0 c0)) ∧ (w3.cell? ⟨w.heap.size + 1, 0, none⟩ = some (.int .i64 st1) ∧ w3.cell? ⟨w.heap.size + 1, 1, none⟩ = some (.slice A1 l1.length c1) ∧ w3.cell? ⟨w.heap.size + 1, 2, none⟩ = some (.slice B1 r1.length d1)) := ⟨C3.next (HB_P0.out) hq3, C3.next (HB_P1.out) hq3⟩) | (go_at_call 10; (with_reducible refine (toConfig_any st1 _ _ l1 r1 _ ((hS1.out.next hB).next hq3) ((hT1.out.next hB).next hq3) (by omega) (by omega)).mono ?_); rintro e w4 ⟨v_2, v_3, rfl, o2, o3, ap2, hb4⟩; obtain ⟨A_2, C_2, rfl, _, _, hq_2⟩ := o2.sl; clear hq_2; obtain ⟨A_3, C_3, rfl, _, _, hq_3⟩ := o3.sl; clear hq_3; have hq4 : Below w3.heap.size w3 w4 := ⟨hb4.os, hb4.tape, hb4.output, hb4.size, hb4.block⟩; have bx4 := bx3.next hq4; have lo4 := lo3; have up4 := Nat.lt_of_lt_of_le up3 hq4.size; have hz4 := hq4.size; have kk4 : (w4.cell? ⟨w.heap.size, 0, none⟩ = some (.int .i64 sy0) ∧ w4.cell? ⟨w.heap.size, 1, none⟩ = some (.int .i64 st0) ∧ w4.cell? ⟨w.heap.size, 2, none⟩ = some (.slice A0 n0 c0)) ∧ (w4.cell? ⟨w.heap.size + 1, 0, none⟩ = some (.int .i64 st1) ∧ w4.cell? ⟨w.heap.size + 1, 1, none⟩ = some (.slice A1 l1.length c1) ∧ w4.cell? ⟨w.heap.size + 1, 2, none⟩ = some (.slice B1 r1.length d1)) := ⟨C3.next (C3.next (HB_P0.out) hq3) hq4, C3.next (C3.next (HB_P1.out) hq3) hq4⟩) | (go_at_call 10; (with_reducible refine (toConfig_any st1 _ _ l1 r1 _ ((hS1.out.next hB).next hq3) ((hT1.out.next hB).next hq3) (by omega) (by omega)).mono ?_); rintro e w4 ⟨v_2, v_3, rfl, o2, o3, ap2, hb4⟩; obtain ⟨A_2, C_2, rfl, _, _, hq_2⟩ := o2.sl; clear hq_2; obtain ⟨A_3, C_3, rfl, _, _, hq_3⟩ := o3.sl; clear hq_3; have hq4 : Below w3.heap.size w3 w4 := ⟨hb4.os, hb4.tape, hb4.output, hb4.size, hb4.block⟩; have hz4 := hq4.size; have kk4 : (w4.cell? ⟨w.heap.size, 0, none⟩ = some (.int .i64 sy0) ∧ w4.cell? ⟨w.heap.size, 1, none⟩ = some (.int .i64 st0) ∧ w4.cell? ⟨w.heap.size, 2, none⟩ = some (.slice A0 n0 c0)) ∧ (w4.cell? ⟨w.heap.size + 1, 0, none⟩ = some (.int .i64 st1) ∧ w4.cell? ⟨w.heap.size + 1, 1, none⟩ = some (.slice A1 l1.length c1) ∧ w4.cell? ⟨w.heap.size + 1, 2, none⟩ = some (.slice B1 r1.length d1)) := ⟨C3.next (C3.next (HB_P0.out) hq3) hq4, C3.next (C3.next (HB_P1.out) hq3) hq4⟩) | (go_at_call 10; (with_reducible refine (toConfig_any st1 _ _ l1 r1 _ (((hS1.out.next hB).next hq3).next (below_one w3 (.cells #[.int .i64 0, .slice none 0 0, .slice none 0 0] 30))) (((hT1.out.next hB).next hq3).next (below_one w3 (.cells #[.int .i64 0, .slice none 0 0, .slice none 0 0] 30))) (by omega) (by omega)).mono ?_); rintro e w4 ⟨v_2, v_3, rfl, o2, o3, ap2, hb4⟩; obtain ⟨A_2, C_2, rfl, _, _, hq_2⟩ := o2.sl; clear hq_2; obtain ⟨A_3, C_3, rfl, _, _, hq_3⟩ := o3.sl; clear hq_3; have hc4 : Below (w3.alloc (.cells #[.int .i64 0, .slice none 0 0, .slice none 0 0] 30)).heap.size (w3.alloc (.cells #[.int .i64 0, .slice none 0 0, .slice none 0 0] 30)) w4 := ⟨hb4.os, hb4.tape, hb4.output, hb4.size, hb4.block⟩; have hq4 : Below w3.heap.size w3 w4 := (below_one w3 (.cells #[.int .i64 0, .slice none 0 0, .slice none 0 0] 30)).trans (hc4.mono (by simp)); have bx4 := Box.of (heap_one hc4); have lo4 : w2.heap.size ≤ w3.heap.size := (by omega); have up4 : w3.heap.size < w4.heap.size := (by have h := hc4.size; rw [World.size_alloc] at h; omega); have hz4 := hq4.size; have kk4 : (w4.cell? ⟨w.heap.size, 0, none⟩ = some (.int .i64 sy0) ∧ w4.cell? ⟨w.heap.size, 1, none⟩ = some (.int .i64 st0) ∧ w4.cell? ⟨w.heap.size, 2, none⟩ = some (.slice A0 n0 c0)) ∧ (w4.cell? ⟨w.heap.size + 1, 0, none⟩ = some (.int .i64 st1) ∧ w4.cell? ⟨w.heap.size + 1, 1, none⟩ = some (.slice A1 l1.length c1) ∧ w4.cell? ⟨w.heap.size + 1, 2, none⟩ = some (.slice B1 r1.length d1)) := ⟨C3.next (C3.next (HB_P0.out) hq3) hq4, C3.next (C3.next (HB_P1.out) hq3) hq4⟩) | (go_at_call 8; (with_reducible refine (HS.out _ _ _ _ (o1.sl.next hq4) o2.sl o3.sl).mono ?_); rintro e w5 ⟨v_6, v_7, rfl, o6, o7, ap6, hb5⟩; obtain ⟨A_6, C_6, rfl, _, _, hq_6⟩ := o6.sl; clear hq_6; obtain ⟨A_7, C_7, rfl, _, _, hq_7⟩ := o7.sl; clear hq_7; have hq5 : Below w4.heap.size w4 w5 := ⟨hb5.os, hb5.tape, hb5.output, hb5.size, hb5.block⟩; have bx5 := bx4.next hq5; have lo5 := lo4; have up5 := Nat.lt_of_lt_of_le up4 hq5.size; have ou5 := up4; have HX5 := Lib.hid bx5; obtain ⟨xc0, xc1, xc2, xf0, xf1, xf2⟩ := bx5; have hz5 := hq5.size; have kk5 : (w5.cell? ⟨w.heap.size, 0, none⟩ = some (.int .i64 sy0) ∧ w5.cell? ⟨w.heap.size, 1, none⟩ = some (.int .i64 st0) ∧ w5.cell? ⟨w.heap.size, 2, none⟩ = some (.slice A0 n0 c0)) ∧ (w5.cell? ⟨w.heap.size + 1, 0, none⟩ = some (.int .i64 st1) ∧ w5.cell? ⟨w.heap.size + 1, 1, none⟩ = some (.slice A1 l1.length c1) ∧ w5.cell? ⟨w.heap.size + 1, 2, none⟩ = some (.slice B1 r1.length d1)) := ⟨C3.next (C3.next (C3.next (HB_P0.out) hq3) hq4) hq5, C3.next (C3.next (C3.next (HB_P1.out) hq3) hq4) hq5⟩) | (go_at_call 8; (with_reducible refine (HS.out _ _ _ _ (o1.sl.next hq4) o2.sl o3.sl).mono ?_); rintro e w5 ⟨v_6, v_7, rfl, o6, o7, ap6, hb5⟩; obtain ⟨A_6, C_6, rfl, _, _, hq_6⟩ := o6.sl; clear hq_6; obtain ⟨A_7, C_7, rfl, _, _, hq_7⟩ := o7.sl; clear hq_7; have hq5 : Below w4.heap.size w4 w5 := ⟨hb5.os, hb5.tape, hb5.output, hb5.size, hb5.block⟩; have hz5 := hq5.size; have kk5 : (w5.cell? ⟨w.heap.size, 0, none⟩ = some (.int .i64 sy0) ∧ w5.cell? ⟨w.heap.size, 1, none⟩ = some (.int .i64 st0) ∧ w5.cell? ⟨w.heap.size, 2, none⟩ = some (.slice A0 n0 c0)) ∧ (w5.cell? ⟨w.heap.size + 1, 0, none⟩ = some (.int .i64 st1) ∧ w5.cell? ⟨w.heap.size + 1, 1, none⟩ = some (.slice A1 l1.length c1) ∧ w5.cell? ⟨w.heap.size + 1, 2, none⟩ = some (.slice B1 r1.length d1)) := ⟨C3.next (C3.next (C3.next (HB_P0.out) hq3) hq4) hq5, C3.next (C3.next (C3.next (HB_P1.out) hq3) hq4) hq5⟩) | (go_at_call 8; (with_reducible refine (HS.out _ _ _ _ ((o1.sl.next hq4).next (below_one w4 (.cells #[.int .i64 0, .slice none 0 0, .slice none 0 0] 30))) (o2.sl.next (below_one w4 (.cells #[.int .i64 0, .slice none 0 0, .slice none 0 0] 30))) (o3.sl.next (below_one w4 (.cells #[.int .i64 0, .slice none 0 0, .slice none 0 0] 30)))).mono ?_); rintro e w5 ⟨v_6, v_7, rfl, o6, o7, ap6, hb5⟩; obtain ⟨A_6, C_6, rfl, _, _, hq_6⟩ := o6.sl; clear hq_6; obtain ⟨A_7, C_7, rfl, _, _, hq_7⟩ := o7.sl; clear hq_7; have hc5 : Below (w4.alloc (.cells #[.int .i64 0, .slice none 0 0, .slice none 0 0] 30)).heap.size (w4.alloc (.cells #[.int .i64 0, .slice none 0 0, .slice none 0 0] 30)) w5 := ⟨hb5.os, hb5.tape, hb5.output, hb5.size, hb5.block⟩; have hq5 : Below w4.heap.size w4 w5 := (below_one w4 (.cells #[.int .i64 0, .slice none 0 0, .slice none 0 0] 30)).trans (hc5.mono (by simp)); have bx5 := Box.of (heap_one hc5); have lo5 : w2.heap.size ≤ w4.heap.size := (by omega); have up5 : w4.heap.size < w5.heap.size := (by have h := hc5.size; rw [World.size_alloc] at h; omega); have ou5 : w4.heap.size < (w4.alloc (.cells #[.int .i64 0, .slice none 0 0, .slice none 0 0] 30)).heap.size := (by simp); have HX5 := Lib.hid bx5; obtain ⟨xc0, xc1, xc2, xf0, xf1, xf2⟩ := bx5; have hz5 := hq5.size; have kk5 : (w5.cell? ⟨w.heap.size, 0, none⟩ = some (.int .i64 sy0) ∧ w5.cell? ⟨w.heap.size, 1, none⟩ = some (.int .i64 st0) ∧ w5.cell? ⟨w.heap.size, 2, none⟩ = some (.slice A0 n0 c0)) ∧ (w5.cell? ⟨w.heap.size + 1, 0, none⟩ = some (.int .i64 st1) ∧ w5.cell? ⟨w.heap.size + 1, 1, none⟩ = some (.slice A1 l1.length c1) ∧ w5.cell? ⟨w.heap.size + 1, 2, none⟩ = some (.slice B1 r1.length d1)) := ⟨C3.next (C3.next (C3.next (HB_P0.out) hq3) hq4) hq5, C3.next (C3.next (C3.next (HB_P1.out) hq3) hq4) hq5⟩))
    all_goals (
      go_wp2_with fail
      go_meet
      case rel => first
        | exact ⟨_, _, _, _, _, rfl, rfl, Lib.hid (StC.late (below_next (below_next hq3 hq4) hq5) 30 o6 o7 ap6 (by have := hz5; simp <;> omega))⟩
        | exact ⟨_, _, _, _, _, rfl, rfl, Lib.hid (StC.early (below_next (below_next hq3 hq4) hq5) HX5.out lo5 o6 o7 ap6 ou5)⟩)
  case rest =>
    obtain ⟨vb6, A_6, A_7, C_6, C_7, rfl, rfl, HST6⟩ := hcut
    have hd6 := HST6.out.below
    have hz6 := hd6.size
    rename World => w6
    clear pP00 pP01 pP02
    clear pP10 pP11 pP12
    replace HB_P0 := Lib.hid (HB_P0.out.next hd6)
    replace HB_P1 := Lib.hid (HB_P1.out.next hd6)
    replace hB := below_next hB hd6
    have lo_w0 := HST6.out.lo
    have up_w0 := HST6.out.hi
    have o6 := HST6.out.rowa
    have o7 := HST6.out.rowb
    have ap6 := HST6.out.ap
    have ne_w0 := Lib.hid HST6.out.nea
    have nf_w0 := Lib.hid HST6.out.neb
    have lt_o6 := fun k hk => (o6.lt k hk).2
    have lt_o7 := fun k hk => (o7.lt k hk).2
    have HB_w0 : Hid (C3 w6 vb6 (.int .i64 RS0) (.slice A_6 R0.length C_6) (.slice A_7 RR0.length C_7)) := Lib.hid HST6.out.box
    clear HST6
    -- x0 := toMachine(aM)
    obtain ⟨pP00, pP01, pP02⟩ := HB_P0.out
    go_wp2_with fail
    refine (toMachine_any sy0 st0 _ l0 _ (hS0.out.next hB) (by omega)).mono ?_
    rintro e w7 ⟨v_8, rfl, o8, hb7⟩
    obtain ⟨A_8, N_8, C_8, rfl, _, _, hq_8⟩ := o8.sl
    clear hq_8
    replace o8 := o8.lower (base' := w6.heap.size + 0) (by first | exact Nat.le_refl _ | (simp; done) | (simp; omega))
    have hd7 := hb7
    have hz7 : w6.heap.size + 0 ≤ w7.heap.size := by have := hb7.size; first | omega | (simp at this; omega)
    replace o6 := o6.next hd7
    replace o7 := o7.next hd7
    replace HB_P0 := Lib.hid (HB_P0.out.next hd7)
    replace HB_P1 := Lib.hid (HB_P1.out.next hd7)
    replace HB_w0 := Lib.hid (HB_w0.out.next hd7)
    replace hB := below_next hB hd7
    have lt_o8 := fun k hk => (o8.lt k hk).2
    clear pP00 pP01 pP02
    -- x1 := toConfig(aC)
    obtain ⟨pP10, pP11, pP12⟩ := C3.next HB_P1.out (below_one w7 (.cells #[.int .i64 sy0, .int .i64 st0, .slice A_8 N_8 C_8] 35))
    go_wp2_with fail
    refine (toConfig_any st1 _ _ l1 r1 _ ((hS1.out.next hB).next (below_one w7 (.cells #[.int .i64 sy0, .int .i64 st0, .slice A_8 N_8 C_8] 35))) ((hT1.out.next hB).next (below_one w7 (.cells #[.int .i64 sy0, .int .i64 st0, .slice A_8 N_8 C_8] 35))) (by omega) (by omega)).mono ?_
    rintro e w8 ⟨v_9, v_10, rfl, o9, o10, ap9, hb8⟩
    obtain ⟨A_9, C_9, rfl, _, _, hq_9⟩ := o9.sl
    clear hq_9
    obtain ⟨A_10, C_10, rfl, _, _, hq_10⟩ := o10.sl
    clear hq_10
    replace o9 := o9.lower (base' := w7.heap.size + 1) (by first | exact Nat.le_refl _ | (simp; done) | (simp; omega))
    replace o10 := o10.lower (base' := w7.heap.size + 1) (by first | exact Nat.le_refl _ | (simp; done) | (simp; omega))
    have hd8 : Below w7.heap.size w7 w8 := (below_one w7 (.cells #[.int .i64 sy0, .int .i64 st0, .slice A_8 N_8 C_8] 35)).trans (hb8.mono (by simp))
    have hz8 : w7.heap.size + 1 ≤ w8.heap.size := by have := hb8.size; first | omega | (simp at this; omega)
    replace o6 := o6.next hd8
    replace o7 := o7.next hd8
    replace o8 := o8.next hd8
    replace HB_P0 := Lib.hid (HB_P0.out.next hd8)
    replace HB_P1 := Lib.hid (HB_P1.out.next hd8)
    replace HB_w0 := Lib.hid (HB_w0.out.next hd8)
    have HB_x0 : Hid (C3 w8 (w7.heap.size) (.int .i64 sy0) (.int .i64 st0) (.slice A_8 N_8 C_8)) := Lib.hid (C3.next (C3.made w7 _ _ _ _) hb8)
    replace hB := below_next hB hd8
    have lt_o9 := fun k hk => (o9.lt k hk).2
    have lt_o10 := fun k hk => (o10.lt k hk).2
    clear pP10 pP11 pP12
    -- g0, g1 := impl.MirrorConfig(x0, x1)
    obtain ⟨px00, px01, px02⟩ := C3.next HB_x0.out (below_one w8 (.cells #[.int .i64 st1, .slice A_9 l1.length C_9, .slice A_10 r1.length C_10] 30))
    go_wp2_with fail
    refine (HI.out _ _ _ _ (o8.sl.next (below_one w8 (.cells #[.int .i64 st1, .slice A_9 l1.length C_9, .slice A_10 r1.length C_10] 30))) (o9.sl.next (below_one w8 (.cells #[.int .i64 st1, .slice A_9 l1.length C_9, .slice A_10 r1.length C_10] 30))) (o10.sl.next (below_one w8 (.cells #[.int .i64 st1, .slice A_9 l1.length C_9, .slice A_10 r1.length C_10] 30)))).mono ?_
    rintro e w9 ⟨v_11, v_12, rfl, o11, o12, ap11, hb9⟩
    obtain ⟨A_11, C_11, rfl, _, _, hq_11⟩ := o11.sl
    clear hq_11
    obtain ⟨A_12, C_12, rfl, _, _, hq_12⟩ := o12.sl
    clear hq_12
    replace o11 := o11.lower (base' := w8.heap.size + 1) (by first | exact Nat.le_refl _ | (simp; done) | (simp; omega))
    replace o12 := o12.lower (base' := w8.heap.size + 1) (by first | exact Nat.le_refl _ | (simp; done) | (simp; omega))
    have hd9 : Below w8.heap.size w8 w9 := (below_one w8 (.cells #[.int .i64 st1, .slice A_9 l1.length C_9, .slice A_10 r1.length C_10] 30)).trans (hb9.mono (by simp))
    have hz9 : w8.heap.size + 1 ≤ w9.heap.size := by have := hb9.size; first | omega | (simp at this; omega)
    replace o6 := o6.next hd9
    replace o7 := o7.next hd9
    replace o8 := o8.next hd9
    replace o9 := o9.next hd9
    replace o10 := o10.next hd9
    replace HB_P0 := Lib.hid (HB_P0.out.next hd9)
    replace HB_P1 := Lib.hid (HB_P1.out.next hd9)
    replace HB_w0 := Lib.hid (HB_w0.out.next hd9)
    replace HB_x0 := Lib.hid (HB_x0.out.next hd9)
    have HB_x1 : Hid (C3 w9 (w8.heap.size) (.int .i64 st1) (.slice A_9 l1.length C_9) (.slice A_10 r1.length C_10)) := Lib.hid (C3.next (C3.made w8 _ _ _ _) hb9)
    replace hB := below_next hB hd9
    have lt_o11 := fun k hk => (o11.lt k hk).2
    have lt_o12 := fun k hk => (o12.lt k hk).2
    clear px00 px01 px02
    -- if !eqConfig(g0, w0) || g1 != w1 
    obtain ⟨pw00, pw01, pw02⟩ := C3.next HB_w0.out (below_one w9 (.cells #[.int .i64 RS0, .slice A_11 R0.length C_11, .slice A_12 RR0.length C_12] 30))
    go_wp2_with fail
    refine (eqConfig_any _ _ _ _ _ _ _ _ _ _ _ (o11.sl.next (below_one w9 (.cells #[.int .i64 RS0, .slice A_11 R0.length C_11, .slice A_12 RR0.length C_12] 30))) (o12.sl.next (below_one w9 (.cells #[.int .i64 RS0, .slice A_11 R0.length C_11, .slice A_12 RR0.length C_12] 30))) (o6.sl.next (below_one w9 (.cells #[.int .i64 RS0, .slice A_11 R0.length C_11, .slice A_12 RR0.length C_12] 30))) (o7.sl.next (below_one w9 (.cells #[.int .i64 RS0, .slice A_11 R0.length C_11, .slice A_12 RR0.length C_12] 30)))).mono ?_
    rintro e w10 ⟨rfl, hb10⟩
    have hd10 : Below w9.heap.size w9 w10 := (below_one w9 (.cells #[.int .i64 RS0, .slice A_11 R0.length C_11, .slice A_12 RR0.length C_12] 30)).trans (hb10.mono (by simp))
    have hz10 : w9.heap.size + 1 ≤ w10.heap.size := by have := hb10.size; first | omega | (simp at this; omega)
    replace o6 := o6.next hd10
    replace o7 := o7.next hd10
    replace o8 := o8.next hd10
    replace o9 := o9.next hd10
    replace o10 := o10.next hd10
    replace o11 := o11.next hd10
    replace o12 := o12.next hd10
    replace HB_P0 := Lib.hid (HB_P0.out.next hd10)
    replace HB_P1 := Lib.hid (HB_P1.out.next hd10)
    replace HB_w0 := Lib.hid (HB_w0.out.next hd10)
    replace HB_x0 := Lib.hid (HB_x0.out.next hd10)
    replace HB_x1 := Lib.hid (HB_x1.out.next hd10)
    have HB_g0 : Hid (C3 w10 (w9.heap.size) (.int .i64 RS0) (.slice A_11 R0.length C_11) (.slice A_12 RR0.length C_12)) := Lib.hid (C3.next (C3.made w9 _ _ _ _) hb10)
    replace hB := below_next hB hd10
    clear pw00 pw01 pw02
    -- if !eqMachine(x0, toMachine(aM)) 
    obtain ⟨px00, px01, px02⟩ := HB_x0.out
    obtain ⟨pP00, pP01, pP02⟩ := HB_P0.out
    go_wp2_with fail
    go_region_held3 (fun w' => (w'.cell? ⟨w7.heap.size, 0, none⟩ = some (.int .i64 sy0) ∧ w'.cell? ⟨w7.heap.size, 1, none⟩ = some (.int .i64 st0) ∧ w'.cell? ⟨w7.heap.size, 2, none⟩ = some (.slice A_8 N_8 C_8)) ∧ (w'.cell? ⟨w.heap.size, 0, none⟩ = some (.int .i64 sy0) ∧ w'.cell? ⟨w.heap.size, 1, none⟩ = some (.int .i64 st0) ∧ w'.cell? ⟨w.heap.size, 2, none⟩ = some (.slice A0 n0 c0)))
      (first | go_keep | (exact ⟨C3.next (C3.drew (HB_x0.out)) hb11, C3.next (C3.drew (HB_P0.out)) hb11⟩) | (exact ⟨C3.next (C3.next (C3.drew (HB_x0.out)) hb11) hb12, C3.next (C3.next (C3.drew (HB_P0.out)) hb11) hb12⟩))
      (first | (go_at_call 9; (with_reducible refine (toMachine_any sy0 st0 _ l0 _ (((hS0.out.next hB)).drew) (by omega)).mono ?_); rintro e w11 ⟨v_13, rfl, o13, hb11⟩; obtain ⟨A_13, N_13, C_13, rfl, _, _, hq_13⟩ := o13.sl; clear hq_13) | (go_at_call 13; (with_reducible refine (eqMachine_any _ _ _ _ _ _ _ _ _ (((o8.sl).drew).next hb11) (o13.sl)).mono ?_); rintro e w12 ⟨rfl, hb12⟩))
    replace o13 := o13.lower (base' := w10.heap.size + 0) (by first | exact Nat.le_refl _ | (simp; done) | (simp; omega))
    have hb11q : Below w10.heap.size w10 w11 := ⟨hb11.os, hb11.tape, hb11.output, hb11.size, hb11.block⟩
    have hd11 := hb11q
    have hz11 : w10.heap.size + 0 ≤ w11.heap.size := by have := hb11q.size; first | omega | (simp at this; omega)
    replace o6 := o6.next hd11
    replace o7 := o7.next hd11
    replace o8 := o8.next hd11
    replace o9 := o9.next hd11
    replace o10 := o10.next hd11
    replace o11 := o11.next hd11
    replace o12 := o12.next hd11
    replace HB_P0 := Lib.hid (HB_P0.out.next hd11)
    replace HB_P1 := Lib.hid (HB_P1.out.next hd11)
    replace HB_w0 := Lib.hid (HB_w0.out.next hd11)
    replace HB_x0 := Lib.hid (HB_x0.out.next hd11)
    replace HB_x1 := Lib.hid (HB_x1.out.next hd11)
    replace HB_g0 := Lib.hid (HB_g0.out.next hd11)
    replace hB := below_next hB hd11
    have lt_o13 := fun k hk => (o13.lt k hk).2
    have hd12 := hb12
    have hz12 : w11.heap.size + 0 ≤ w12.heap.size := by have := hb12.size; first | omega | (simp at this; omega)
    replace o6 := o6.next hd12
    replace o7 := o7.next hd12
    replace o8 := o8.next hd12
    replace o9 := o9.next hd12
    replace o10 := o10.next hd12
    replace o11 := o11.next hd12
    replace o12 := o12.next hd12
    replace o13 := o13.next hd12
    replace HB_P0 := Lib.hid (HB_P0.out.next hd12)
    replace HB_P1 := Lib.hid (HB_P1.out.next hd12)
    replace HB_w0 := Lib.hid (HB_w0.out.next hd12)
    replace HB_x0 := Lib.hid (HB_x0.out.next hd12)
    replace HB_x1 := Lib.hid (HB_x1.out.next hd12)
    replace HB_g0 := Lib.hid (HB_g0.out.next hd12)
    replace hB := below_next hB hd12
    clear px00 px01 px02
    clear pP00 pP01 pP02
    -- if !eqConfig(x1, toConfig(aC)) 
    obtain ⟨px10, px11, px12⟩ := HB_x1.out
    obtain ⟨pP10, pP11, pP12⟩ := HB_P1.out
    go_wp2_with fail
    go_region_held3 (fun w' => (w'.cell? ⟨w8.heap.size, 0, none⟩ = some (.int .i64 st1) ∧ w'.cell? ⟨w8.heap.size, 1, none⟩ = some (.slice A_9 l1.length C_9) ∧ w'.cell? ⟨w8.heap.size, 2, none⟩ = some (.slice A_10 r1.length C_10)) ∧ (w'.cell? ⟨w.heap.size + 1, 0, none⟩ = some (.int .i64 st1) ∧ w'.cell? ⟨w.heap.size + 1, 1, none⟩ = some (.slice A1 l1.length c1) ∧ w'.cell? ⟨w.heap.size + 1, 2, none⟩ = some (.slice B1 r1.length d1)))
      (first | go_keep | (exact ⟨C3.next (C3.drew (HB_x1.out)) hb13, C3.next (C3.drew (HB_P1.out)) hb13⟩) | (exact ⟨C3.next (C3.next (C3.drew (HB_x1.out)) hb13) hb14, C3.next (C3.next (C3.drew (HB_P1.out)) hb13) hb14⟩))
      (first | (go_at_call 10; (with_reducible refine (toConfig_any st1 _ _ l1 r1 _ (((hS1.out.next hB)).drew) (((hT1.out.next hB)).drew) (by omega) (by omega)).mono ?_); rintro e w13 ⟨v_14, v_15, rfl, o14, o15, ap14, hb13⟩; obtain ⟨A_14, C_14, rfl, _, _, hq_14⟩ := o14.sl; clear hq_14; obtain ⟨A_15, C_15, rfl, _, _, hq_15⟩ := o15.sl; clear hq_15) | (go_at_call 12; (with_reducible refine (eqConfig_any _ _ _ _ _ _ _ _ _ _ _ (((o9.sl).drew).next hb13) (((o10.sl).drew).next hb13) (o14.sl) (o15.sl)).mono ?_); rintro e w14 ⟨rfl, hb14⟩))
    replace o14 := o14.lower (base' := w12.heap.size + 0) (by first | exact Nat.le_refl _ | (simp; done) | (simp; omega))
    replace o15 := o15.lower (base' := w12.heap.size + 0) (by first | exact Nat.le_refl _ | (simp; done) | (simp; omega))
    have hb13q : Below w12.heap.size w12 w13 := ⟨hb13.os, hb13.tape, hb13.output, hb13.size, hb13.block⟩
    have hd13 := hb13q
    have hz13 : w12.heap.size + 0 ≤ w13.heap.size := by have := hb13q.size; first | omega | (simp at this; omega)
    replace o6 := o6.next hd13
    replace o7 := o7.next hd13
    replace o8 := o8.next hd13
    replace o9 := o9.next hd13
    replace o10 := o10.next hd13
    replace o11 := o11.next hd13
    replace o12 := o12.next hd13
    replace o13 := o13.next hd13
    replace HB_P0 := Lib.hid (HB_P0.out.next hd13)
    replace HB_P1 := Lib.hid (HB_P1.out.next hd13)
    replace HB_w0 := Lib.hid (HB_w0.out.next hd13)
    replace HB_x0 := Lib.hid (HB_x0.out.next hd13)
    replace HB_x1 := Lib.hid (HB_x1.out.next hd13)
    replace HB_g0 := Lib.hid (HB_g0.out.next hd13)
    replace hB := below_next hB hd13
    have lt_o14 := fun k hk => (o14.lt k hk).2
    have lt_o15 := fun k hk => (o15.lt k hk).2
    have hd14 := hb14
    have hz14 : w13.heap.size + 0 ≤ w14.heap.size := by have := hb14.size; first | omega | (simp at this; omega)
    replace o6 := o6.next hd14
    replace o7 := o7.next hd14
    replace o8 := o8.next hd14
    replace o9 := o9.next hd14
    replace o10 := o10.next hd14
    replace o11 := o11.next hd14
    replace o12 := o12.next hd14
    replace o13 := o13.next hd14
    replace o14 := o14.next hd14
    replace o15 := o15.next hd14
    replace HB_P0 := Lib.hid (HB_P0.out.next hd14)
    replace HB_P1 := Lib.hid (HB_P1.out.next hd14)
    replace HB_w0 := Lib.hid (HB_w0.out.next hd14)
    replace HB_x0 := Lib.hid (HB_x0.out.next hd14)
    replace HB_x1 := Lib.hid (HB_x1.out.next hd14)
    replace HB_g0 := Lib.hid (HB_g0.out.next hd14)
    replace hB := below_next hB hd14
    clear px10 px11 px12
    clear pP10 pP11 pP12
    -- k = markMachine(x0, k)
    obtain ⟨px00, px01, px02⟩ := HB_x0.out
    go_wp2_with fail
    refine (markMachine_any _ _ _ _ _ _ _ o8 (by omega) (by omega) (by omega)).mono ?_
    rintro e w15 ⟨rfl, om15, hg15⟩
    have hz15 := hg15.size
    clear px00 px01 px02
    replace o6 := o6.kept hg15 (fun k hk e => by have h1 := o6.lt k hk; have h2 := o8.lt k e; have h3 := lt_o6 k hk; have h4 := lt_o8 k e; omega)
    replace o7 := o7.kept hg15 (fun k hk e => by have h1 := o7.lt k hk; have h2 := o8.lt k e; have h3 := lt_o7 k hk; have h4 := lt_o8 k e; omega)
    replace o9 := o9.kept hg15 (fun k hk e => by have h1 := o9.lt k hk; have h2 := o8.lt k e; have h3 := lt_o9 k hk; have h4 := lt_o8 k e; omega)
    replace o10 := o10.kept hg15 (fun k hk e => by have h1 := o10.lt k hk; have h2 := o8.lt k e; have h3 := lt_o10 k hk; have h4 := lt_o8 k e; omega)
    replace o11 := o11.kept hg15 (fun k hk e => by have h1 := o11.lt k hk; have h2 := o8.lt k e; have h3 := lt_o11 k hk; have h4 := lt_o8 k e; omega)
    replace o12 := o12.kept hg15 (fun k hk e => by have h1 := o12.lt k hk; have h2 := o8.lt k e; have h3 := lt_o12 k hk; have h4 := lt_o8 k e; omega)
    replace o13 := o13.kept hg15 (fun k hk e => by have h1 := o13.lt k hk; have h2 := o8.lt k e; have h3 := lt_o13 k hk; have h4 := lt_o8 k e; omega)
    replace o14 := o14.kept hg15 (fun k hk e => by have h1 := o14.lt k hk; have h2 := o8.lt k e; have h3 := lt_o14 k hk; have h4 := lt_o8 k e; omega)
    replace o15 := o15.kept hg15 (fun k hk e => by have h1 := o15.lt k hk; have h2 := o8.lt k e; have h3 := lt_o15 k hk; have h4 := lt_o8 k e; omega)
    replace HB_P0 := Lib.hid (C3.kept HB_P0.out hg15 (fun k e => by have h2 := o8.lt k e; have h4 := lt_o8 k e; omega))
    replace HB_P1 := Lib.hid (C3.kept HB_P1.out hg15 (fun k e => by have h2 := o8.lt k e; have h4 := lt_o8 k e; omega))
    replace HB_w0 := Lib.hid (C3.kept HB_w0.out hg15 (fun k e => by have h2 := o8.lt k e; have h4 := lt_o8 k e; omega))
    replace HB_x0 := Lib.hid (C3.kept HB_x0.out hg15 (fun k e => by have h2 := o8.lt k e; have h4 := lt_o8 k e; omega))
    replace HB_x1 := Lib.hid (C3.kept HB_x1.out hg15 (fun k e => by have h2 := o8.lt k e; have h4 := lt_o8 k e; omega))
    replace HB_g0 := Lib.hid (C3.kept HB_g0.out hg15 (fun k e => by have h2 := o8.lt k e; have h4 := lt_o8 k e; omega))
    replace hB := hB.grown hg15 hB.size (fun k hk => by have := (o8.lt k hk).1; omega)
    clear o8
    have o8 := om15
    clear om15
    -- k = markConfig(x1, k)
    obtain ⟨px10, px11, px12⟩ := HB_x1.out
    go_wp2_with fail
    refine (markConfig_any _ _ _ _ _ _ _ _ o9 o10 ap9 (by omega) (by omega) (by omega) (by omega)).mono ?_
    rintro e w16 ⟨rfl, wm16, om16a, om16b, hg16a, hg16b⟩
    have hzm16 := hg16a.size
    have hz16 := hg16b.size
    clear px10 px11 px12
    replace o6 := o6.kept hg16a (fun k hk e => by have h1 := o6.lt k hk; have h2 := o9.lt k e; have h3 := lt_o6 k hk; have h4 := lt_o9 k e; omega)
    replace o7 := o7.kept hg16a (fun k hk e => by have h1 := o7.lt k hk; have h2 := o9.lt k e; have h3 := lt_o7 k hk; have h4 := lt_o9 k e; omega)
    replace o8 := o8.kept hg16a (fun k hk e => by have h1 := o8.lt k hk; have h2 := o9.lt k e; have h3 := lt_o8 k hk; have h4 := lt_o9 k e; omega)
    replace o11 := o11.kept hg16a (fun k hk e => by have h1 := o11.lt k hk; have h2 := o9.lt k e; have h3 := lt_o11 k hk; have h4 := lt_o9 k e; omega)
    replace o12 := o12.kept hg16a (fun k hk e => by have h1 := o12.lt k hk; have h2 := o9.lt k e; have h3 := lt_o12 k hk; have h4 := lt_o9 k e; omega)
    replace o13 := o13.kept hg16a (fun k hk e => by have h1 := o13.lt k hk; have h2 := o9.lt k e; have h3 := lt_o13 k hk; have h4 := lt_o9 k e; omega)
    replace o14 := o14.kept hg16a (fun k hk e => by have h1 := o14.lt k hk; have h2 := o9.lt k e; have h3 := lt_o14 k hk; have h4 := lt_o9 k e; omega)
    replace o15 := o15.kept hg16a (fun k hk e => by have h1 := o15.lt k hk; have h2 := o9.lt k e; have h3 := lt_o15 k hk; have h4 := lt_o9 k e; omega)
    replace HB_P0 := Lib.hid (C3.kept HB_P0.out hg16a (fun k e => by have h2 := o9.lt k e; have h4 := lt_o9 k e; omega))
    replace HB_P1 := Lib.hid (C3.kept HB_P1.out hg16a (fun k e => by have h2 := o9.lt k e; have h4 := lt_o9 k e; omega))
    replace HB_w0 := Lib.hid (C3.kept HB_w0.out hg16a (fun k e => by have h2 := o9.lt k e; have h4 := lt_o9 k e; omega))
    replace HB_x0 := Lib.hid (C3.kept HB_x0.out hg16a (fun k e => by have h2 := o9.lt k e; have h4 := lt_o9 k e; omega))
    replace HB_x1 := Lib.hid (C3.kept HB_x1.out hg16a (fun k e => by have h2 := o9.lt k e; have h4 := lt_o9 k e; omega))
    replace HB_g0 := Lib.hid (C3.kept HB_g0.out hg16a (fun k e => by have h2 := o9.lt k e; have h4 := lt_o9 k e; omega))
    replace o10 := o10.kept hg16a (fun k hk e => ap9 k e hk)
    replace hB := hB.grown hg16a hB.size (fun k hk => by have := (o9.lt k hk).1; omega)
    replace o6 := o6.kept hg16b (fun k hk e => by have h1 := o6.lt k hk; have h2 := o10.lt k e; have h3 := lt_o6 k hk; have h4 := lt_o10 k e; omega)
    replace o7 := o7.kept hg16b (fun k hk e => by have h1 := o7.lt k hk; have h2 := o10.lt k e; have h3 := lt_o7 k hk; have h4 := lt_o10 k e; omega)
    replace o8 := o8.kept hg16b (fun k hk e => by have h1 := o8.lt k hk; have h2 := o10.lt k e; have h3 := lt_o8 k hk; have h4 := lt_o10 k e; omega)
    replace o11 := o11.kept hg16b (fun k hk e => by have h1 := o11.lt k hk; have h2 := o10.lt k e; have h3 := lt_o11 k hk; have h4 := lt_o10 k e; omega)
    replace o12 := o12.kept hg16b (fun k hk e => by have h1 := o12.lt k hk; have h2 := o10.lt k e; have h3 := lt_o12 k hk; have h4 := lt_o10 k e; omega)
    replace o13 := o13.kept hg16b (fun k hk e => by have h1 := o13.lt k hk; have h2 := o10.lt k e; have h3 := lt_o13 k hk; have h4 := lt_o10 k e; omega)
    replace o14 := o14.kept hg16b (fun k hk e => by have h1 := o14.lt k hk; have h2 := o10.lt k e; have h3 := lt_o14 k hk; have h4 := lt_o10 k e; omega)
    replace o15 := o15.kept hg16b (fun k hk e => by have h1 := o15.lt k hk; have h2 := o10.lt k e; have h3 := lt_o15 k hk; have h4 := lt_o10 k e; omega)
    replace HB_P0 := Lib.hid (C3.kept HB_P0.out hg16b (fun k e => by have h2 := o10.lt k e; have h4 := lt_o10 k e; omega))
    replace HB_P1 := Lib.hid (C3.kept HB_P1.out hg16b (fun k e => by have h2 := o10.lt k e; have h4 := lt_o10 k e; omega))
    replace HB_w0 := Lib.hid (C3.kept HB_w0.out hg16b (fun k e => by have h2 := o10.lt k e; have h4 := lt_o10 k e; omega))
    replace HB_x0 := Lib.hid (C3.kept HB_x0.out hg16b (fun k e => by have h2 := o10.lt k e; have h4 := lt_o10 k e; omega))
    replace HB_x1 := Lib.hid (C3.kept HB_x1.out hg16b (fun k e => by have h2 := o10.lt k e; have h4 := lt_o10 k e; omega))
    replace HB_g0 := Lib.hid (C3.kept HB_g0.out hg16b (fun k e => by have h2 := o10.lt k e; have h4 := lt_o10 k e; omega))
    replace hB := hB.grown hg16b hB.size (fun k hk => by have := (o10.lt k hk).1; omega)
    clear o9 o10
    have o9 := om16a
    have o10 := om16b
    clear om16a om16b
    -- if k < 0 || !eqConfig(g0, w0) || g1 != w1 
    obtain ⟨pg00, pg01, pg02⟩ := HB_g0.out
    obtain ⟨pw00, pw01, pw02⟩ := HB_w0.out
    go_wp2_with fail
    refine (eqConfig_any _ _ _ _ _ _ _ _ _ _ _ o11.sl o12.sl o6.sl o7.sl).mono ?_
    rintro e w17 ⟨rfl, hb17⟩
    have hd17 := hb17
    have hz17 : w16.heap.size + 0 ≤ w17.heap.size := by have := hb17.size; first | omega | (simp at this; omega)
    replace o6 := o6.next hd17
    replace o7 := o7.next hd17
    replace o8 := o8.next hd17
    replace o9 := o9.next hd17
    replace o10 := o10.next hd17
    replace o11 := o11.next hd17
    replace o12 := o12.next hd17
    replace o13 := o13.next hd17
    replace o14 := o14.next hd17
    replace o15 := o15.next hd17
    replace HB_P0 := Lib.hid (HB_P0.out.next hd17)
    replace HB_P1 := Lib.hid (HB_P1.out.next hd17)
    replace HB_w0 := Lib.hid (HB_w0.out.next hd17)
    replace HB_x0 := Lib.hid (HB_x0.out.next hd17)
    replace HB_x1 := Lib.hid (HB_x1.out.next hd17)
    replace HB_g0 := Lib.hid (HB_g0.out.next hd17)
    replace hB := below_next hB hd17
    clear pg00 pg01 pg02
    clear pw00 pw01 pw02
    -- m = markConfig(g0, m)
    obtain ⟨pg00, pg01, pg02⟩ := HB_g0.out
    go_wp2_with fail
    refine (markConfig_any _ _ _ _ _ _ _ _ o11 o12 ap11 (by omega) (by omega) (by omega) (by omega)).mono ?_
    rintro e w18 ⟨rfl, wm18, om18a, om18b, hg18a, hg18b⟩
    have hzm18 := hg18a.size
    have hz18 := hg18b.size
    clear pg00 pg01 pg02
    replace o6 := o6.kept hg18a (fun k hk e => by have h1 := o6.lt k hk; have h2 := o11.lt k e; have h3 := lt_o6 k hk; have h4 := lt_o11 k e; omega)
    replace o7 := o7.kept hg18a (fun k hk e => by have h1 := o7.lt k hk; have h2 := o11.lt k e; have h3 := lt_o7 k hk; have h4 := lt_o11 k e; omega)
    replace o8 := o8.kept hg18a (fun k hk e => by have h1 := o8.lt k hk; have h2 := o11.lt k e; have h3 := lt_o8 k hk; have h4 := lt_o11 k e; omega)
    replace o9 := o9.kept hg18a (fun k hk e => by have h1 := o9.lt k hk; have h2 := o11.lt k e; have h3 := lt_o9 k hk; have h4 := lt_o11 k e; omega)
    replace o10 := o10.kept hg18a (fun k hk e => by have h1 := o10.lt k hk; have h2 := o11.lt k e; have h3 := lt_o10 k hk; have h4 := lt_o11 k e; omega)
    replace o13 := o13.kept hg18a (fun k hk e => by have h1 := o13.lt k hk; have h2 := o11.lt k e; have h3 := lt_o13 k hk; have h4 := lt_o11 k e; omega)
    replace o14 := o14.kept hg18a (fun k hk e => by have h1 := o14.lt k hk; have h2 := o11.lt k e; have h3 := lt_o14 k hk; have h4 := lt_o11 k e; omega)
    replace o15 := o15.kept hg18a (fun k hk e => by have h1 := o15.lt k hk; have h2 := o11.lt k e; have h3 := lt_o15 k hk; have h4 := lt_o11 k e; omega)
    replace HB_P0 := Lib.hid (C3.kept HB_P0.out hg18a (fun k e => by have h2 := o11.lt k e; have h4 := lt_o11 k e; omega))
    replace HB_P1 := Lib.hid (C3.kept HB_P1.out hg18a (fun k e => by have h2 := o11.lt k e; have h4 := lt_o11 k e; omega))
    replace HB_w0 := Lib.hid (C3.kept HB_w0.out hg18a (fun k e => by have h2 := o11.lt k e; have h4 := lt_o11 k e; omega))
    replace HB_x0 := Lib.hid (C3.kept HB_x0.out hg18a (fun k e => by have h2 := o11.lt k e; have h4 := lt_o11 k e; omega))
    replace HB_x1 := Lib.hid (C3.kept HB_x1.out hg18a (fun k e => by have h2 := o11.lt k e; have h4 := lt_o11 k e; omega))
    replace HB_g0 := Lib.hid (C3.kept HB_g0.out hg18a (fun k e => by have h2 := o11.lt k e; have h4 := lt_o11 k e; omega))
    replace o12 := o12.kept hg18a (fun k hk e => ap11 k e hk)
    replace hB := hB.grown hg18a hB.size (fun k hk => by have := (o11.lt k hk).1; omega)
    replace o6 := o6.kept hg18b (fun k hk e => by have h1 := o6.lt k hk; have h2 := o12.lt k e; have h3 := lt_o6 k hk; have h4 := lt_o12 k e; omega)
    replace o7 := o7.kept hg18b (fun k hk e => by have h1 := o7.lt k hk; have h2 := o12.lt k e; have h3 := lt_o7 k hk; have h4 := lt_o12 k e; omega)
    replace o8 := o8.kept hg18b (fun k hk e => by have h1 := o8.lt k hk; have h2 := o12.lt k e; have h3 := lt_o8 k hk; have h4 := lt_o12 k e; omega)
    replace o9 := o9.kept hg18b (fun k hk e => by have h1 := o9.lt k hk; have h2 := o12.lt k e; have h3 := lt_o9 k hk; have h4 := lt_o12 k e; omega)
    replace o10 := o10.kept hg18b (fun k hk e => by have h1 := o10.lt k hk; have h2 := o12.lt k e; have h3 := lt_o10 k hk; have h4 := lt_o12 k e; omega)
    replace o13 := o13.kept hg18b (fun k hk e => by have h1 := o13.lt k hk; have h2 := o12.lt k e; have h3 := lt_o13 k hk; have h4 := lt_o12 k e; omega)
    replace o14 := o14.kept hg18b (fun k hk e => by have h1 := o14.lt k hk; have h2 := o12.lt k e; have h3 := lt_o14 k hk; have h4 := lt_o12 k e; omega)
    replace o15 := o15.kept hg18b (fun k hk e => by have h1 := o15.lt k hk; have h2 := o12.lt k e; have h3 := lt_o15 k hk; have h4 := lt_o12 k e; omega)
    replace HB_P0 := Lib.hid (C3.kept HB_P0.out hg18b (fun k e => by have h2 := o12.lt k e; have h4 := lt_o12 k e; omega))
    replace HB_P1 := Lib.hid (C3.kept HB_P1.out hg18b (fun k e => by have h2 := o12.lt k e; have h4 := lt_o12 k e; omega))
    replace HB_w0 := Lib.hid (C3.kept HB_w0.out hg18b (fun k e => by have h2 := o12.lt k e; have h4 := lt_o12 k e; omega))
    replace HB_x0 := Lib.hid (C3.kept HB_x0.out hg18b (fun k e => by have h2 := o12.lt k e; have h4 := lt_o12 k e; omega))
    replace HB_x1 := Lib.hid (C3.kept HB_x1.out hg18b (fun k e => by have h2 := o12.lt k e; have h4 := lt_o12 k e; omega))
    replace HB_g0 := Lib.hid (C3.kept HB_g0.out hg18b (fun k e => by have h2 := o12.lt k e; have h4 := lt_o12 k e; omega))
    replace hB := hB.grown hg18b hB.size (fun k hk => by have := (o12.lt k hk).1; omega)
    clear o11 o12
    have o11 := om18a
    have o12 := om18b
    clear om18a om18b
    -- q = heldConfig(g0, q)
    obtain ⟨pg00, pg01, pg02⟩ := HB_g0.out
    go_wp2_with fail
    refine (heldConfig_any _ _ _ _ _ _ _ o11.sl o12.sl (by omega) (by omega) (by omega) (by omega)).mono ?_
    rintro e w19 ⟨rfl, hb19⟩
    have hd19 := hb19
    have hz19 : w18.heap.size + 0 ≤ w19.heap.size := by have := hb19.size; first | omega | (simp at this; omega)
    replace o6 := o6.next hd19
    replace o7 := o7.next hd19
    replace o8 := o8.next hd19
    replace o9 := o9.next hd19
    replace o10 := o10.next hd19
    replace o11 := o11.next hd19
    replace o12 := o12.next hd19
    replace o13 := o13.next hd19
    replace o14 := o14.next hd19
    replace o15 := o15.next hd19
    replace HB_P0 := Lib.hid (HB_P0.out.next hd19)
    replace HB_P1 := Lib.hid (HB_P1.out.next hd19)
    replace HB_w0 := Lib.hid (HB_w0.out.next hd19)
    replace HB_x0 := Lib.hid (HB_x0.out.next hd19)
    replace HB_x1 := Lib.hid (HB_x1.out.next hd19)
    replace HB_g0 := Lib.hid (HB_g0.out.next hd19)
    replace hB := below_next hB hd19
    clear pg00 pg01 pg02
    -- h0, h1 := impl.MirrorConfig(toMachine(aM), toConfig(aC))
    go_upto_region 31 with fail
    obtain ⟨pP00, pP01, pP02⟩ := HB_P0.out
    obtain ⟨pP10, pP11, pP12⟩ := HB_P1.out
    go_cut [15, 16] (fun p c wx => ∃ (vb : Nat) (Aq Dq : Option Addr) (Cq Eq : Nat), p = .pointer (some ⟨vb, 0, none⟩) ∧ c = .int .i64 R1 ∧ Hid (StC w19 wx vb RS0 (.slice Aq R0.length Cq) (.slice Dq RR0.length Eq) R0 RR0))
    case first =>
      go_region_held3 (fun w' => (w'.cell? ⟨w.heap.size, 0, none⟩ = some (.int .i64 sy0) ∧ w'.cell? ⟨w.heap.size, 1, none⟩ = some (.int .i64 st0) ∧ w'.cell? ⟨w.heap.size, 2, none⟩ = some (.slice A0 n0 c0)) ∧ (w'.cell? ⟨w.heap.size + 1, 0, none⟩ = some (.int .i64 st1) ∧ w'.cell? ⟨w.heap.size + 1, 1, none⟩ = some (.slice A1 l1.length c1) ∧ w'.cell? ⟨w.heap.size + 1, 2, none⟩ = some (.slice B1 r1.length d1)))
        (first | (with_reducible assumption) | (with_reducible refine ⟨ka1 (And.left (by assumption)), ka1 (And.right (by assumption))⟩) | (with_reducible refine ⟨kda1 (And.left (by assumption)), kda1 (And.right (by assumption))⟩) | (with_reducible refine ⟨ks1 (And.left (by assumption)) (by omega), ks1 (And.right (by assumption)) (by omega)⟩) | go_keep)
        (first | (go_at_call 9; (with_reducible refine (toMachine_any sy0 st0 _ l0 _ ((hS0.out.next hB).drew) (by omega)).mono ?_); rintro e w20 ⟨v_16, rfl, o16, hb20⟩; obtain ⟨A_16, N_16, C_16, rfl, _, _, hq_16⟩ := o16.sl; clear hq_16; have hq20 : Below w19.heap.size w19 w20 := ⟨hb20.os, hb20.tape, hb20.output, hb20.size, hb20.block⟩; have hz20 := hq20.size; have kk20 : (w20.cell? ⟨w.heap.size, 0, none⟩ = some (.int .i64 sy0) ∧ w20.cell? ⟨w.heap.size, 1, none⟩ = some (.int .i64 st0) ∧ w20.cell? ⟨w.heap.size, 2, none⟩ = some (.slice A0 n0 c0)) ∧ (w20.cell? ⟨w.heap.size + 1, 0, none⟩ = some (.int .i64 st1) ∧ w20.cell? ⟨w.heap.size + 1, 1, none⟩ = some (.slice A1 l1.length c1) ∧ w20.cell? ⟨w.heap.size + 1, 2, none⟩ = some (.slice B1 r1.length d1)) := ⟨C3.next (HB_P0.out) hq20, C3.next (HB_P1.out) hq20⟩) | (go_at_call 9; (with_reducible refine (toMachine_any sy0 st0 _ l0 _ (((hS0.out.next hB).next (below_one w19 (.cells #[.int .i64 0, .slice none 0 0, .slice none 0 0] 30))).drew) (by omega)).mono ?_); rintro e w20 ⟨v_16, rfl, o16, hb20⟩; obtain ⟨A_16, N_16, C_16, rfl, _, _, hq_16⟩ := o16.sl; clear hq_16; have hc20 : Below (w19.alloc (.cells #[.int .i64 0, .slice none 0 0, .slice none 0 0] 30)).heap.size (w19.alloc (.cells #[.int .i64 0, .slice none 0 0, .slice none 0 0] 30)) w20 := ⟨hb20.os, hb20.tape, hb20.output, hb20.size, hb20.block⟩; have hq20 : Below w19.heap.size w19 w20 := (below_one w19 (.cells #[.int .i64 0, .slice none 0 0, .slice none 0 0] 30)).trans (hc20.mono (by simp)); have bx20 := Box.of (heap_one hc20); have lo20 : w19.heap.size ≤ w19.heap.size := (by omega); have up20 : w19.heap.size < w20.heap.size := (by have h := hc20.size; rw [World.size_alloc] at h; omega); have hz20 := hq20.size; have kk20 : (w20.cell? ⟨w.heap.size, 0, none⟩ = some (.int .i64 sy0) ∧ w20.cell? ⟨w.heap.size, 1, none⟩ = some (.int .i64 st0) ∧ w20.cell? ⟨w.heap.size, 2, none⟩ = some (.slice A0 n0 c0)) ∧ (w20.cell? ⟨w.heap.size + 1, 0, none⟩ = some (.int .i64 st1) ∧ w20.cell? ⟨w.heap.size + 1, 1, none⟩ = some (.slice A1 l1.length c1) ∧ w20.cell? ⟨w.heap.size + 1, 2, none⟩ = some (.slice B1 r1.length d1)) := ⟨C3.next (HB_P0.out) hq20, C3.next (HB_P1.out) hq20⟩) | (go_at_call 10; (with_reducible refine (toConfig_any st1 _ _ l1 r1 _ ((hS1.out.next hB).next hq20) ((hT1.out.next hB).next hq20) (by omega) (by omega)).mono ?_); rintro e w21 ⟨v_17, v_18, rfl, o17, o18, ap17, hb21⟩; obtain ⟨A_17, C_17, rfl, _, _, hq_17⟩ := o17.sl; clear hq_17; obtain ⟨A_18, C_18, rfl, _, _, hq_18⟩ := o18.sl; clear hq_18; have hq21 : Below w20.heap.size w20 w21 := ⟨hb21.os, hb21.tape, hb21.output, hb21.size, hb21.block⟩; have bx21 := bx20.next hq21; have lo21 := lo20; have up21 := Nat.lt_of_lt_of_le up20 hq21.size; have hz21 := hq21.size; have kk21 : (w21.cell? ⟨w.heap.size, 0, none⟩ = some (.int .i64 sy0) ∧ w21.cell? ⟨w.heap.size, 1, none⟩ = some (.int .i64 st0) ∧ w21.cell? ⟨w.heap.size, 2, none⟩ = some (.slice A0 n0 c0)) ∧ (w21.cell? ⟨w.heap.size + 1, 0, none⟩ = some (.int .i64 st1) ∧ w21.cell? ⟨w.heap.size + 1, 1, none⟩ = some (.slice A1 l1.length c1) ∧ w21.cell? ⟨w.heap.size + 1, 2, none⟩ = some (.slice B1 r1.length d1)) := ⟨C3.next (C3.next (HB_P0.out) hq20) hq21, C3.next (C3.next (HB_P1.out) hq20) hq21⟩) | (go_at_call 10; (with_reducible refine (toConfig_any st1 _ _ l1 r1 _ ((hS1.out.next hB).next hq20) ((hT1.out.next hB).next hq20) (by omega) (by omega)).mono ?_); rintro e w21 ⟨v_17, v_18, rfl, o17, o18, ap17, hb21⟩; obtain ⟨A_17, C_17, rfl, _, _, hq_17⟩ := o17.sl; clear hq_17; obtain ⟨A_18, C_18, rfl, _, _, hq_18⟩ := o18.sl; clear hq_18; have hq21 : Below w20.heap.size w20 w21 := ⟨hb21.os, hb21.tape, hb21.output, hb21.size, hb21.block⟩; have hz21 := hq21.size; have kk21 : (w21.cell? ⟨w.heap.size, 0, none⟩ = some (.int .i64 sy0) ∧ w21.cell? ⟨w.heap.size, 1, none⟩ = some (.int .i64 st0) ∧ w21.cell? ⟨w.heap.size, 2, none⟩ = some (.slice A0 n0 c0)) ∧ (w21.cell? ⟨w.heap.size + 1, 0, none⟩ = some (.int .i64 st1) ∧ w21.cell? ⟨w.heap.size + 1, 1, none⟩ = some (.slice A1 l1.length c1) ∧ w21.cell? ⟨w.heap.size + 1, 2, none⟩ = some (.slice B1 r1.length d1)) := ⟨C3.next (C3.next (HB_P0.out) hq20) hq21, C3.next (C3.next (HB_P1.out) hq20) hq21⟩) | (go_at_call 10; (with_reducible refine (toConfig_any st1 _ _ l1 r1 _ (((hS1.out.next hB).next hq20).next (below_one w20 (.cells #[.int .i64 0, .slice none 0 0, .slice none 0 0] 30))) (((hT1.out.next hB).next hq20).next (below_one w20 (.cells #[.int .i64 0, .slice none 0 0, .slice none 0 0] 30))) (by omega) (by omega)).mono ?_); rintro e w21 ⟨v_17, v_18, rfl, o17, o18, ap17, hb21⟩; obtain ⟨A_17, C_17, rfl, _, _, hq_17⟩ := o17.sl; clear hq_17; obtain ⟨A_18, C_18, rfl, _, _, hq_18⟩ := o18.sl; clear hq_18; have hc21 : Below (w20.alloc (.cells #[.int .i64 0, .slice none 0 0, .slice none 0 0] 30)).heap.size (w20.alloc (.cells #[.int .i64 0, .slice none 0 0, .slice none 0 0] 30)) w21 := ⟨hb21.os, hb21.tape, hb21.output, hb21.size, hb21.block⟩; have hq21 : Below w20.heap.size w20 w21 := (below_one w20 (.cells #[.int .i64 0, .slice none 0 0, .slice none 0 0] 30)).trans (hc21.mono (by simp)); have bx21 := Box.of (heap_one hc21); have lo21 : w19.heap.size ≤ w20.heap.size := (by omega); have up21 : w20.heap.size < w21.heap.size := (by have h := hc21.size; rw [World.size_alloc] at h; omega); have hz21 := hq21.size; have kk21 : (w21.cell? ⟨w.heap.size, 0, none⟩ = some (.int .i64 sy0) ∧ w21.cell? ⟨w.heap.size, 1, none⟩ = some (.int .i64 st0) ∧ w21.cell? ⟨w.heap.size, 2, none⟩ = some (.slice A0 n0 c0)) ∧ (w21.cell? ⟨w.heap.size + 1, 0, none⟩ = some (.int .i64 st1) ∧ w21.cell? ⟨w.heap.size + 1, 1, none⟩ = some (.slice A1 l1.length c1) ∧ w21.cell? ⟨w.heap.size + 1, 2, none⟩ = some (.slice B1 r1.length d1)) := ⟨C3.next (C3.next (HB_P0.out) hq20) hq21, C3.next (C3.next (HB_P1.out) hq20) hq21⟩) | (go_at_call 11; (with_reducible refine (HI.out _ _ _ _ (o16.sl.next hq21) o17.sl o18.sl).mono ?_); rintro e w22 ⟨v_21, v_22, rfl, o21, o22, ap21, hb22⟩; obtain ⟨A_21, C_21, rfl, _, _, hq_21⟩ := o21.sl; clear hq_21; obtain ⟨A_22, C_22, rfl, _, _, hq_22⟩ := o22.sl; clear hq_22; have hq22 : Below w21.heap.size w21 w22 := ⟨hb22.os, hb22.tape, hb22.output, hb22.size, hb22.block⟩; have bx22 := bx21.next hq22; have lo22 := lo21; have up22 := Nat.lt_of_lt_of_le up21 hq22.size; have ou22 := up21; have HX22 := Lib.hid bx22; obtain ⟨xc0, xc1, xc2, xf0, xf1, xf2⟩ := bx22; have hz22 := hq22.size; have kk22 : (w22.cell? ⟨w.heap.size, 0, none⟩ = some (.int .i64 sy0) ∧ w22.cell? ⟨w.heap.size, 1, none⟩ = some (.int .i64 st0) ∧ w22.cell? ⟨w.heap.size, 2, none⟩ = some (.slice A0 n0 c0)) ∧ (w22.cell? ⟨w.heap.size + 1, 0, none⟩ = some (.int .i64 st1) ∧ w22.cell? ⟨w.heap.size + 1, 1, none⟩ = some (.slice A1 l1.length c1) ∧ w22.cell? ⟨w.heap.size + 1, 2, none⟩ = some (.slice B1 r1.length d1)) := ⟨C3.next (C3.next (C3.next (HB_P0.out) hq20) hq21) hq22, C3.next (C3.next (C3.next (HB_P1.out) hq20) hq21) hq22⟩) | (go_at_call 11; (with_reducible refine (HI.out _ _ _ _ (o16.sl.next hq21) o17.sl o18.sl).mono ?_); rintro e w22 ⟨v_21, v_22, rfl, o21, o22, ap21, hb22⟩; obtain ⟨A_21, C_21, rfl, _, _, hq_21⟩ := o21.sl; clear hq_21; obtain ⟨A_22, C_22, rfl, _, _, hq_22⟩ := o22.sl; clear hq_22; have hq22 : Below w21.heap.size w21 w22 := ⟨hb22.os, hb22.tape, hb22.output, hb22.size, hb22.block⟩; have hz22 := hq22.size; have kk22 : (w22.cell? ⟨w.heap.size, 0, none⟩ = some (.int .i64 sy0) ∧ w22.cell? ⟨w.heap.size, 1, none⟩ = some (.int .i64 st0) ∧ w22.cell? ⟨w.heap.size, 2, none⟩ = some (.slice A0 n0 c0)) ∧ (w22.cell? ⟨w.heap.size + 1, 0, none⟩ = some (.int .i64 st1) ∧ w22.cell? ⟨w.heap.size + 1, 1, none⟩ = some (.slice A1 l1.length c1) ∧ w22.cell? ⟨w.heap.size + 1, 2, none⟩ = some (.slice B1 r1.length d1)) := ⟨C3.next (C3.next (C3.next (HB_P0.out) hq20) hq21) hq22, C3.next (C3.next (C3.next (HB_P1.out) hq20) hq21) hq22⟩) | (go_at_call 11; (with_reducible refine (HI.out _ _ _ _ ((o16.sl.next hq21).next (below_one w21 (.cells #[.int .i64 0, .slice none 0 0, .slice none 0 0] 30))) (o17.sl.next (below_one w21 (.cells #[.int .i64 0, .slice none 0 0, .slice none 0 0] 30))) (o18.sl.next (below_one w21 (.cells #[.int .i64 0, .slice none 0 0, .slice none 0 0] 30)))).mono ?_); rintro e w22 ⟨v_21, v_22, rfl, o21, o22, ap21, hb22⟩; obtain ⟨A_21, C_21, rfl, _, _, hq_21⟩ := o21.sl; clear hq_21; obtain ⟨A_22, C_22, rfl, _, _, hq_22⟩ := o22.sl; clear hq_22; have hc22 : Below (w21.alloc (.cells #[.int .i64 0, .slice none 0 0, .slice none 0 0] 30)).heap.size (w21.alloc (.cells #[.int .i64 0, .slice none 0 0, .slice none 0 0] 30)) w22 := ⟨hb22.os, hb22.tape, hb22.output, hb22.size, hb22.block⟩; have hq22 : Below w21.heap.size w21 w22 := (below_one w21 (.cells #[.int .i64 0, .slice none 0 0, .slice none 0 0] 30)).trans (hc22.mono (by simp)); have bx22 := Box.of (heap_one hc22); have lo22 : w19.heap.size ≤ w21.heap.size := (by omega); have up22 : w21.heap.size < w22.heap.size := (by have h := hc22.size; rw [World.size_alloc] at h; omega); have ou22 : w21.heap.size < (w21.alloc (.cells #[.int .i64 0, .slice none 0 0, .slice none 0 0] 30)).heap.size := (by simp); have HX22 := Lib.hid bx22; obtain ⟨xc0, xc1, xc2, xf0, xf1, xf2⟩ := bx22; have hz22 := hq22.size; have kk22 : (w22.cell? ⟨w.heap.size, 0, none⟩ = some (.int .i64 sy0) ∧ w22.cell? ⟨w.heap.size, 1, none⟩ = some (.int .i64 st0) ∧ w22.cell? ⟨w.heap.size, 2, none⟩ = some (.slice A0 n0 c0)) ∧ (w22.cell? ⟨w.heap.size + 1, 0, none⟩ = some (.int .i64 st1) ∧ w22.cell? ⟨w.heap.size + 1, 1, none⟩ = some (.slice A1 l1.length c1) ∧ w22.cell? ⟨w.heap.size + 1, 2, none⟩ = some (.slice B1 r1.length d1)) := ⟨C3.next (C3.next (C3.next (HB_P0.out) hq20) hq21) hq22, C3.next (C3.next (C3.next (HB_P1.out) hq20) hq21) hq22⟩))
      all_goals (
        go_wp2_with fail
        go_meet
        case rel => first
          | exact ⟨_, _, _, _, _, rfl, rfl, Lib.hid (StC.late (below_next (below_next hq20 hq21) hq22) 30 o21 o22 ap21 (by have := hz22; simp <;> omega))⟩
          | exact ⟨_, _, _, _, _, rfl, rfl, Lib.hid (StC.early (below_next (below_next hq20 hq21) hq22) HX22.out lo22 o21 o22 ap21 ou22)⟩)
    case rest =>
      obtain ⟨vb21, A_21, A_22, C_21, C_22, rfl, rfl, HST21⟩ := hcut
      have hd23 := HST21.out.below
      have hz23 := hd23.size
      rename World => w23
      clear pP00 pP01 pP02
      clear pP10 pP11 pP12
      replace o6 := o6.next hd23
      replace o7 := o7.next hd23
      replace o8 := o8.next hd23
      replace o9 := o9.next hd23
      replace o10 := o10.next hd23
      replace o11 := o11.next hd23
      replace o12 := o12.next hd23
      replace o13 := o13.next hd23
      replace o14 := o14.next hd23
      replace o15 := o15.next hd23
      replace HB_P0 := Lib.hid (HB_P0.out.next hd23)
      replace HB_P1 := Lib.hid (HB_P1.out.next hd23)
      replace HB_w0 := Lib.hid (HB_w0.out.next hd23)
      replace HB_x0 := Lib.hid (HB_x0.out.next hd23)
      replace HB_x1 := Lib.hid (HB_x1.out.next hd23)
      replace HB_g0 := Lib.hid (HB_g0.out.next hd23)
      replace hB := below_next hB hd23
      have lo_h0 := HST21.out.lo
      have up_h0 := HST21.out.hi
      have o21 := HST21.out.rowa
      have o22 := HST21.out.rowb
      have ap21 := HST21.out.ap
      have ne_h0 := Lib.hid HST21.out.nea
      have nf_h0 := Lib.hid HST21.out.neb
      have lt_o21 := fun k hk => (o21.lt k hk).2
      have lt_o22 := fun k hk => (o22.lt k hk).2
      have HB_h0 : Hid (C3 w23 vb21 (.int .i64 RS0) (.slice A_21 R0.length C_21) (.slice A_22 RR0.length C_22)) := Lib.hid HST21.out.box
      clear HST21
      -- if !eqConfig(h0, w0) || h1 != w1 
      obtain ⟨ph00, ph01, ph02⟩ := HB_h0.out
      obtain ⟨pw00, pw01, pw02⟩ := HB_w0.out
      go_wp2_with fail
      refine (eqConfig_any _ _ _ _ _ _ _ _ _ _ _ o21.sl o22.sl o6.sl o7.sl).mono ?_
      rintro e w24 ⟨rfl, hb24⟩
      have hd24 := hb24
      have hz24 : w23.heap.size + 0 ≤ w24.heap.size := by have := hb24.size; first | omega | (simp at this; omega)
      replace o6 := o6.next hd24
      replace o7 := o7.next hd24
      replace o8 := o8.next hd24
      replace o9 := o9.next hd24
      replace o10 := o10.next hd24
      replace o11 := o11.next hd24
      replace o12 := o12.next hd24
      replace o13 := o13.next hd24
      replace o14 := o14.next hd24
      replace o15 := o15.next hd24
      replace o21 := o21.next hd24
      replace o22 := o22.next hd24
      replace HB_P0 := Lib.hid (HB_P0.out.next hd24)
      replace HB_P1 := Lib.hid (HB_P1.out.next hd24)
      replace HB_w0 := Lib.hid (HB_w0.out.next hd24)
      replace HB_x0 := Lib.hid (HB_x0.out.next hd24)
      replace HB_x1 := Lib.hid (HB_x1.out.next hd24)
      replace HB_g0 := Lib.hid (HB_g0.out.next hd24)
      replace HB_h0 := Lib.hid (HB_h0.out.next hd24)
      replace hB := below_next hB hd24
      clear ph00 ph01 ph02
      clear pw00 pw01 pw02
      -- q = heldConfig(g0, q)
      obtain ⟨pg00, pg01, pg02⟩ := HB_g0.out
      go_wp2_with fail
      refine (heldConfig_any _ _ _ _ _ _ _ o11.sl o12.sl (by omega) (by omega) (by omega) (by omega)).mono ?_
      rintro e w25 ⟨rfl, hb25⟩
      have hd25 := hb25
      have hz25 : w24.heap.size + 0 ≤ w25.heap.size := by have := hb25.size; first | omega | (simp at this; omega)
      replace o6 := o6.next hd25
      replace o7 := o7.next hd25
      replace o8 := o8.next hd25
      replace o9 := o9.next hd25
      replace o10 := o10.next hd25
      replace o11 := o11.next hd25
      replace o12 := o12.next hd25
      replace o13 := o13.next hd25
      replace o14 := o14.next hd25
      replace o15 := o15.next hd25
      replace o21 := o21.next hd25
      replace o22 := o22.next hd25
      replace HB_P0 := Lib.hid (HB_P0.out.next hd25)
      replace HB_P1 := Lib.hid (HB_P1.out.next hd25)
      replace HB_w0 := Lib.hid (HB_w0.out.next hd25)
      replace HB_x0 := Lib.hid (HB_x0.out.next hd25)
      replace HB_x1 := Lib.hid (HB_x1.out.next hd25)
      replace HB_g0 := Lib.hid (HB_g0.out.next hd25)
      replace HB_h0 := Lib.hid (HB_h0.out.next hd25)
      replace hB := below_next hB hd25
      clear pg00 pg01 pg02
      go_wp2_with fail
      go_ret
      exact ⟨rfl, hB⟩
end Go.Proofs.Ytbjkhnajnbmnlaa
