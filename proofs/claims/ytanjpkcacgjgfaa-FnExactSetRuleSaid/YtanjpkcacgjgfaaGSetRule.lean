/- The walk of FnExactSetRule: it returns true. No condition. -/
import Derived.Test.YtanjpkcacgjgfaaMSet
import Derived.Test.YtanjpkcacgjgfaaMDraw
import Derived.Test.YtanjpkcacgjgfaaOpen
namespace Go.Proofs.Ytanjpkcacgjgfaa
open Go.RowKit
set_option maxHeartbeats 4000000 in
set_option maxRecDepth 100000 in
theorem walkSetRule (v0 : Value) (z0 : Int × Int × List Int) (a1 : Int) (v2 : Value) (z2 : Int × Int × Int) (w : World) (h0 : IsM w v0 z0) (ha1 : -9223372036854775808 ≤ a1 ∧ a1 ≤ 9223372036854775807) (h2 : IsR v2 z2) :
    Calls Try.prog 3 #[v0, .int .i64 a1, v2] w fun e w' => e = .returned (.bool true) ∧ Below w.heap.size w w' := by
  obtain ⟨sy0, st0, l0⟩ := z0
  obtain ⟨rv0, rfl, hs0, f0, hy0, ht0⟩ := h0
  have hS0 : Hid (Sl3 w rv0 l0) := Lib.hid hs0
  obtain ⟨A0, n0, c0, rfl, hnc0, hcm0, hr0⟩ := hs0
  have hl0 := hr0.1
  clear hr0
  simp only at hl0 hy0 ht0 f0
  have HL0 := Lib.hid hl0
  clear hl0
  obtain ⟨a2, b2, c2⟩ := z2
  obtain ⟨rfl, hx2, hy2, hw2⟩ := h2
  simp only at hx2 hy2 hw2
  have hB : Below w.heap.size w w := Below.refl _ _
  go_enter Try.func3, Try.ntmps3
  go_wp2_with fail
  refine (szMachine_any sy0 st0 A0 n0 c0 1048576 _ (by omega) (by omega) hnc0 hcm0).mono ?_
  rintro e w1 ⟨rfl, hb1⟩
  have hd1 : Below w.heap.size w w1 := (below_two w (.cells #[.int .i64 sy0, .int .i64 st0, .slice A0 n0 c0] 24) (.cells #[.int .i64 a2, .int .i64 b2, .int .i64 c2] 26)).trans (hb1.mono (by simp; omega))
  have hz1 : w.heap.size + 2 ≤ w1.heap.size := by have := hb1.size; first | omega | (simp at this; omega)
  have HB_P0 : Hid (C3 w1 (w.heap.size) (.int .i64 sy0) (.int .i64 st0) (.slice A0 n0 c0)) := Lib.hid (C3.next (C3.next (C3.made w _ _ _ _) (below_one _ _)) hb1)
  have HB_P2 : Hid (C3 w1 (w.heap.size + 1) (.int .i64 a2) (.int .i64 b2) (.int .i64 c2)) := Lib.hid (by have h := C3.next (C3.made (w.alloc (.cells #[.int .i64 sy0, .int .i64 st0, .slice A0 n0 c0] 24)) (.int .i64 a2) (.int .i64 b2) (.int .i64 c2) _) hb1; simpa using h)
  replace hB := below_next hB hd1
  by_cases hg0 : 1048576 < ((n0 : Nat) : Int)
  · rw [szI_no hg0]
    go_wp2_with fail
    go_ret
    exact ⟨rfl, hB⟩
  rw [szI_yes hg0]
  have he0 : decide ((1048576 - ((n0 : Nat) : Int)) < 0) = false := decide_eq_false (by omega)
  have hn0 : l0.length ≤ 3145728 := by have := HL0.out; omega
  obtain ⟨RS0, RT0, R0, R1, hR0, hs, hi⟩ := bothSetRule sy0 st0 l0 a1 a2 b2 c2 ha1 ⟨f0, hn0, hy0, ht0⟩ ⟨hx2, hy2, hw2⟩
  have HS := Lib.hid hs
  have HI := Lib.hid hi
  clear hs hi
  -- w0, w1 := spec.SetRule(toMachine(aM), aAt, toRule(aR))
  go_upto_region 5 with fail
  obtain ⟨pP00, pP01, pP02⟩ := HB_P0.out
  obtain ⟨pP20, pP21, pP22⟩ := HB_P2.out
  go_cut [8, 9] (fun p c wx => ∃ (vb : Nat) (Aq : Option Addr) (Nq Cq : Nat), p = .pointer (some ⟨vb, 0, none⟩) ∧ c = .int .i64 R1 ∧ Hid (St3 w1 wx vb RS0 RT0 (.slice Aq Nq Cq) R0))
  case first =>
    go_region_held3 (fun w' => (w'.cell? ⟨w.heap.size, 0, none⟩ = some (.int .i64 sy0) ∧ w'.cell? ⟨w.heap.size, 1, none⟩ = some (.int .i64 st0) ∧ w'.cell? ⟨w.heap.size, 2, none⟩ = some (.slice A0 n0 c0)) ∧ (w'.cell? ⟨w.heap.size + 1, 0, none⟩ = some (.int .i64 a2) ∧ w'.cell? ⟨w.heap.size + 1, 1, none⟩ = some (.int .i64 b2) ∧ w'.cell? ⟨w.heap.size + 1, 2, none⟩ = some (.int .i64 c2)))
      (first | (with_reducible assumption) | (with_reducible refine ⟨ka1 (And.left (by assumption)), ka1 (And.right (by assumption))⟩) | (with_reducible refine ⟨kda1 (And.left (by assumption)), kda1 (And.right (by assumption))⟩) | (with_reducible refine ⟨ks1 (And.left (by assumption)) (by omega), ks1 (And.right (by assumption)) (by omega)⟩) | go_keep)
      (first | (go_at_call 17; (with_reducible refine (toMachine_any sy0 st0 _ l0 _ ((hS0.out.next hB).drew) (by omega)).mono ?_); rintro e w2 ⟨v_1, rfl, o1, hb2⟩; obtain ⟨A_1, N_1, C_1, rfl, _, _, hq_1⟩ := o1.sl; clear hq_1; have hq2 : Below w1.heap.size w1 w2 := ⟨hb2.os, hb2.tape, hb2.output, hb2.size, hb2.block⟩; have hz2 := hq2.size; have kk2 : (w2.cell? ⟨w.heap.size, 0, none⟩ = some (.int .i64 sy0) ∧ w2.cell? ⟨w.heap.size, 1, none⟩ = some (.int .i64 st0) ∧ w2.cell? ⟨w.heap.size, 2, none⟩ = some (.slice A0 n0 c0)) ∧ (w2.cell? ⟨w.heap.size + 1, 0, none⟩ = some (.int .i64 a2) ∧ w2.cell? ⟨w.heap.size + 1, 1, none⟩ = some (.int .i64 b2) ∧ w2.cell? ⟨w.heap.size + 1, 2, none⟩ = some (.int .i64 c2)) := ⟨C3.next (HB_P0.out) hq2, C3.next (HB_P2.out) hq2⟩) | (go_at_call 17; (with_reducible refine (toMachine_any sy0 st0 _ l0 _ (((hS0.out.next hB).next (below_one w1 (.cells #[.int .i64 0, .int .i64 0, .slice none 0 0] 30))).drew) (by omega)).mono ?_); rintro e w2 ⟨v_1, rfl, o1, hb2⟩; obtain ⟨A_1, N_1, C_1, rfl, _, _, hq_1⟩ := o1.sl; clear hq_1; have hc2 : Below (w1.alloc (.cells #[.int .i64 0, .int .i64 0, .slice none 0 0] 30)).heap.size (w1.alloc (.cells #[.int .i64 0, .int .i64 0, .slice none 0 0] 30)) w2 := ⟨hb2.os, hb2.tape, hb2.output, hb2.size, hb2.block⟩; have hq2 : Below w1.heap.size w1 w2 := (below_one w1 (.cells #[.int .i64 0, .int .i64 0, .slice none 0 0] 30)).trans (hc2.mono (by simp)); have bx2 := Box.of (heap_one hc2); have lo2 : w1.heap.size ≤ w1.heap.size := (by omega); have up2 : w1.heap.size < w2.heap.size := (by have h := hc2.size; rw [World.size_alloc] at h; omega); have hz2 := hq2.size; have kk2 : (w2.cell? ⟨w.heap.size, 0, none⟩ = some (.int .i64 sy0) ∧ w2.cell? ⟨w.heap.size, 1, none⟩ = some (.int .i64 st0) ∧ w2.cell? ⟨w.heap.size, 2, none⟩ = some (.slice A0 n0 c0)) ∧ (w2.cell? ⟨w.heap.size + 1, 0, none⟩ = some (.int .i64 a2) ∧ w2.cell? ⟨w.heap.size + 1, 1, none⟩ = some (.int .i64 b2) ∧ w2.cell? ⟨w.heap.size + 1, 2, none⟩ = some (.int .i64 c2)) := ⟨C3.next (HB_P0.out) hq2, C3.next (HB_P2.out) hq2⟩) | (go_at_call 18; (with_reducible refine (toRule_any a2 b2 c2 _).mono ?_); rintro e w3 ⟨rfl, hb3⟩; have hq3 : Below w2.heap.size w2 w3 := ⟨hb3.os, hb3.tape, hb3.output, hb3.size, hb3.block⟩; have bx3 := bx2.next hq3; have lo3 := lo2; have up3 := Nat.lt_of_lt_of_le up2 hq3.size; have hz3 := hq3.size; have kk3 : (w3.cell? ⟨w.heap.size, 0, none⟩ = some (.int .i64 sy0) ∧ w3.cell? ⟨w.heap.size, 1, none⟩ = some (.int .i64 st0) ∧ w3.cell? ⟨w.heap.size, 2, none⟩ = some (.slice A0 n0 c0)) ∧ (w3.cell? ⟨w.heap.size + 1, 0, none⟩ = some (.int .i64 a2) ∧ w3.cell? ⟨w.heap.size + 1, 1, none⟩ = some (.int .i64 b2) ∧ w3.cell? ⟨w.heap.size + 1, 2, none⟩ = some (.int .i64 c2)) := ⟨C3.next (C3.next (HB_P0.out) hq2) hq3, C3.next (C3.next (HB_P2.out) hq2) hq3⟩) | (go_at_call 18; (with_reducible refine (toRule_any a2 b2 c2 _).mono ?_); rintro e w3 ⟨rfl, hb3⟩; have hq3 : Below w2.heap.size w2 w3 := ⟨hb3.os, hb3.tape, hb3.output, hb3.size, hb3.block⟩; have hz3 := hq3.size; have kk3 : (w3.cell? ⟨w.heap.size, 0, none⟩ = some (.int .i64 sy0) ∧ w3.cell? ⟨w.heap.size, 1, none⟩ = some (.int .i64 st0) ∧ w3.cell? ⟨w.heap.size, 2, none⟩ = some (.slice A0 n0 c0)) ∧ (w3.cell? ⟨w.heap.size + 1, 0, none⟩ = some (.int .i64 a2) ∧ w3.cell? ⟨w.heap.size + 1, 1, none⟩ = some (.int .i64 b2) ∧ w3.cell? ⟨w.heap.size + 1, 2, none⟩ = some (.int .i64 c2)) := ⟨C3.next (C3.next (HB_P0.out) hq2) hq3, C3.next (C3.next (HB_P2.out) hq2) hq3⟩) | (go_at_call 18; (with_reducible refine (toRule_any a2 b2 c2 _).mono ?_); rintro e w3 ⟨rfl, hb3⟩; have hc3 : Below (w2.alloc (.cells #[.int .i64 0, .int .i64 0, .slice none 0 0] 30)).heap.size (w2.alloc (.cells #[.int .i64 0, .int .i64 0, .slice none 0 0] 30)) w3 := ⟨hb3.os, hb3.tape, hb3.output, hb3.size, hb3.block⟩; have hq3 : Below w2.heap.size w2 w3 := (below_one w2 (.cells #[.int .i64 0, .int .i64 0, .slice none 0 0] 30)).trans (hc3.mono (by simp)); have bx3 := Box.of (heap_one hc3); have lo3 : w1.heap.size ≤ w2.heap.size := (by omega); have up3 : w2.heap.size < w3.heap.size := (by have h := hc3.size; rw [World.size_alloc] at h; omega); have hz3 := hq3.size; have kk3 : (w3.cell? ⟨w.heap.size, 0, none⟩ = some (.int .i64 sy0) ∧ w3.cell? ⟨w.heap.size, 1, none⟩ = some (.int .i64 st0) ∧ w3.cell? ⟨w.heap.size, 2, none⟩ = some (.slice A0 n0 c0)) ∧ (w3.cell? ⟨w.heap.size + 1, 0, none⟩ = some (.int .i64 a2) ∧ w3.cell? ⟨w.heap.size + 1, 1, none⟩ = some (.int .i64 b2) ∧ w3.cell? ⟨w.heap.size + 1, 2, none⟩ = some (.int .i64 c2)) := ⟨C3.next (C3.next (HB_P0.out) hq2) hq3, C3.next (C3.next (HB_P2.out) hq2) hq3⟩) | (go_at_call 16; (with_reducible refine (HS.out _ _ (o1.sl.next hq3)).mono ?_); rintro e w4 ⟨v_3, rfl, o3, hb4⟩; obtain ⟨A_3, N_3, C_3, rfl, _, _, hq_3⟩ := o3.sl; clear hq_3; have hq4 : Below w3.heap.size w3 w4 := ⟨hb4.os, hb4.tape, hb4.output, hb4.size, hb4.block⟩; have bx4 := bx3.next hq4; have lo4 := lo3; have up4 := Nat.lt_of_lt_of_le up3 hq4.size; have ou4 := up3; have HX4 := Lib.hid bx4; obtain ⟨xc0, xc1, xc2, xf0, xf1, xf2⟩ := bx4; have hz4 := hq4.size; have kk4 : (w4.cell? ⟨w.heap.size, 0, none⟩ = some (.int .i64 sy0) ∧ w4.cell? ⟨w.heap.size, 1, none⟩ = some (.int .i64 st0) ∧ w4.cell? ⟨w.heap.size, 2, none⟩ = some (.slice A0 n0 c0)) ∧ (w4.cell? ⟨w.heap.size + 1, 0, none⟩ = some (.int .i64 a2) ∧ w4.cell? ⟨w.heap.size + 1, 1, none⟩ = some (.int .i64 b2) ∧ w4.cell? ⟨w.heap.size + 1, 2, none⟩ = some (.int .i64 c2)) := ⟨C3.next (C3.next (C3.next (HB_P0.out) hq2) hq3) hq4, C3.next (C3.next (C3.next (HB_P2.out) hq2) hq3) hq4⟩) | (go_at_call 16; (with_reducible refine (HS.out _ _ (o1.sl.next hq3)).mono ?_); rintro e w4 ⟨v_3, rfl, o3, hb4⟩; obtain ⟨A_3, N_3, C_3, rfl, _, _, hq_3⟩ := o3.sl; clear hq_3; have hq4 : Below w3.heap.size w3 w4 := ⟨hb4.os, hb4.tape, hb4.output, hb4.size, hb4.block⟩; have hz4 := hq4.size; have kk4 : (w4.cell? ⟨w.heap.size, 0, none⟩ = some (.int .i64 sy0) ∧ w4.cell? ⟨w.heap.size, 1, none⟩ = some (.int .i64 st0) ∧ w4.cell? ⟨w.heap.size, 2, none⟩ = some (.slice A0 n0 c0)) ∧ (w4.cell? ⟨w.heap.size + 1, 0, none⟩ = some (.int .i64 a2) ∧ w4.cell? ⟨w.heap.size + 1, 1, none⟩ = some (.int .i64 b2) ∧ w4.cell? ⟨w.heap.size + 1, 2, none⟩ = some (.int .i64 c2)) := ⟨C3.next (C3.next (C3.next (HB_P0.out) hq2) hq3) hq4, C3.next (C3.next (C3.next (HB_P2.out) hq2) hq3) hq4⟩) | (go_at_call 16; (with_reducible refine (HS.out _ _ ((o1.sl.next hq3).next (below_one w3 (.cells #[.int .i64 0, .int .i64 0, .slice none 0 0] 30)))).mono ?_); rintro e w4 ⟨v_3, rfl, o3, hb4⟩; obtain ⟨A_3, N_3, C_3, rfl, _, _, hq_3⟩ := o3.sl; clear hq_3; have hc4 : Below (w3.alloc (.cells #[.int .i64 0, .int .i64 0, .slice none 0 0] 30)).heap.size (w3.alloc (.cells #[.int .i64 0, .int .i64 0, .slice none 0 0] 30)) w4 := ⟨hb4.os, hb4.tape, hb4.output, hb4.size, hb4.block⟩; have hq4 : Below w3.heap.size w3 w4 := (below_one w3 (.cells #[.int .i64 0, .int .i64 0, .slice none 0 0] 30)).trans (hc4.mono (by simp)); have bx4 := Box.of (heap_one hc4); have lo4 : w1.heap.size ≤ w3.heap.size := (by omega); have up4 : w3.heap.size < w4.heap.size := (by have h := hc4.size; rw [World.size_alloc] at h; omega); have ou4 : w3.heap.size < (w3.alloc (.cells #[.int .i64 0, .int .i64 0, .slice none 0 0] 30)).heap.size := (by simp); have HX4 := Lib.hid bx4; obtain ⟨xc0, xc1, xc2, xf0, xf1, xf2⟩ := bx4; have hz4 := hq4.size; have kk4 : (w4.cell? ⟨w.heap.size, 0, none⟩ = some (.int .i64 sy0) ∧ w4.cell? ⟨w.heap.size, 1, none⟩ = some (.int .i64 st0) ∧ w4.cell? ⟨w.heap.size, 2, none⟩ = some (.slice A0 n0 c0)) ∧ (w4.cell? ⟨w.heap.size + 1, 0, none⟩ = some (.int .i64 a2) ∧ w4.cell? ⟨w.heap.size + 1, 1, none⟩ = some (.int .i64 b2) ∧ w4.cell? ⟨w.heap.size + 1, 2, none⟩ = some (.int .i64 c2)) := ⟨C3.next (C3.next (C3.next (HB_P0.out) hq2) hq3) hq4, C3.next (C3.next (C3.next (HB_P2.out) hq2) hq3) hq4⟩))
    all_goals (
      go_wp2_with fail
      go_meet
      case rel => first
        | exact ⟨_, _, _, _, rfl, rfl, Lib.hid (St3.late (below_next (below_next hq2 hq3) hq4) 30 o3 (by have := hz4; simp <;> omega))⟩
        | exact ⟨_, _, _, _, rfl, rfl, Lib.hid (St3.early (below_next (below_next hq2 hq3) hq4) HX4.out lo4 o3 ou4)⟩)
  case rest =>
    obtain ⟨vb3, A_3, N_3, C_3, rfl, rfl, HST3⟩ := hcut
    have hd5 := HST3.out.below
    have hz5 := hd5.size
    rename World => w5
    clear pP00 pP01 pP02
    clear pP20 pP21 pP22
    replace HB_P0 := Lib.hid (HB_P0.out.next hd5)
    replace HB_P2 := Lib.hid (HB_P2.out.next hd5)
    replace hB := below_next hB hd5
    have lo_w0 := HST3.out.lo
    have up_w0 := HST3.out.hi
    have o3 := HST3.out.row
    have ne_w0 := Lib.hid HST3.out.ne
    have lt_o3 := fun k hk => (o3.lt k hk).2
    have HB_w0 : Hid (C3 w5 vb3 (.int .i64 RS0) (.int .i64 RT0) (.slice A_3 N_3 C_3)) := Lib.hid HST3.out.box
    clear HST3
    -- x0 := toMachine(aM)
    obtain ⟨pP00, pP01, pP02⟩ := HB_P0.out
    go_wp2_with fail
    refine (toMachine_any sy0 st0 _ l0 _ (hS0.out.next hB) (by omega)).mono ?_
    rintro e w6 ⟨v_4, rfl, o4, hb6⟩
    obtain ⟨A_4, N_4, C_4, rfl, _, _, hq_4⟩ := o4.sl
    clear hq_4
    replace o4 := o4.lower (base' := w5.heap.size + 0) (by first | exact Nat.le_refl _ | (simp; done) | (simp; omega))
    have hd6 := hb6
    have hz6 : w5.heap.size + 0 ≤ w6.heap.size := by have := hb6.size; first | omega | (simp at this; omega)
    replace o3 := o3.next hd6
    replace HB_P0 := Lib.hid (HB_P0.out.next hd6)
    replace HB_P2 := Lib.hid (HB_P2.out.next hd6)
    replace HB_w0 := Lib.hid (HB_w0.out.next hd6)
    replace hB := below_next hB hd6
    have lt_o4 := fun k hk => (o4.lt k hk).2
    clear pP00 pP01 pP02
    -- g0, g1 := impl.SetRule(x0, aAt, toRule(aR))
    go_upto_region 7 with fail
    have hd7 : Below w6.heap.size w6 (w6.alloc (.cells #[.int .i64 sy0, .int .i64 st0, .slice A_4 N_4 C_4] 30)) := (below_one w6 (.cells #[.int .i64 sy0, .int .i64 st0, .slice A_4 N_4 C_4] 30))
    have hz7 : w6.heap.size + 1 ≤ (w6.alloc (.cells #[.int .i64 sy0, .int .i64 st0, .slice A_4 N_4 C_4] 30)).heap.size := by simp <;> omega
    replace o3 := o3.next hd7
    replace o4 := o4.next hd7
    replace HB_P0 := Lib.hid (HB_P0.out.next hd7)
    replace HB_P2 := Lib.hid (HB_P2.out.next hd7)
    replace HB_w0 := Lib.hid (HB_w0.out.next hd7)
    have HB_x0 : Hid (C3 (w6.alloc (.cells #[.int .i64 sy0, .int .i64 st0, .slice A_4 N_4 C_4] 30)) (w6.heap.size) (.int .i64 sy0) (.int .i64 st0) (.slice A_4 N_4 C_4)) := Lib.hid (C3.made w6 _ _ _ _)
    replace hB := below_next hB hd7
    generalize (w6.alloc (.cells #[.int .i64 sy0, .int .i64 st0, .slice A_4 N_4 C_4] 30)) = w7 at *
    obtain ⟨pP20, pP21, pP22⟩ := HB_P2.out
    obtain ⟨px00, px01, px02⟩ := HB_x0.out
    go_cut [11, 12] (fun p c wx => ∃ (vb : Nat) (Aq : Option Addr) (Nq Cq : Nat), p = .pointer (some ⟨vb, 0, none⟩) ∧ c = .int .i64 R1 ∧ Hid (St3 w7 wx vb RS0 RT0 (.slice Aq Nq Cq) R0))
    case first =>
      go_region_held3 (fun w' => (w'.cell? ⟨w.heap.size + 1, 0, none⟩ = some (.int .i64 a2) ∧ w'.cell? ⟨w.heap.size + 1, 1, none⟩ = some (.int .i64 b2) ∧ w'.cell? ⟨w.heap.size + 1, 2, none⟩ = some (.int .i64 c2)) ∧ (w'.cell? ⟨w6.heap.size, 0, none⟩ = some (.int .i64 sy0) ∧ w'.cell? ⟨w6.heap.size, 1, none⟩ = some (.int .i64 st0) ∧ w'.cell? ⟨w6.heap.size, 2, none⟩ = some (.slice A_4 N_4 C_4)))
        (first | (with_reducible assumption) | (with_reducible refine ⟨ka1 (And.left (by assumption)), ka1 (And.right (by assumption))⟩) | (with_reducible refine ⟨kda1 (And.left (by assumption)), kda1 (And.right (by assumption))⟩) | (with_reducible refine ⟨ks1 (And.left (by assumption)) (by omega), ks1 (And.right (by assumption)) (by omega)⟩) | go_keep)
        (first | (go_at_call 18; (with_reducible refine (toRule_any a2 b2 c2 _).mono ?_); rintro e w8 ⟨rfl, hb8⟩; have hq8 : Below w7.heap.size w7 w8 := ⟨hb8.os, hb8.tape, hb8.output, hb8.size, hb8.block⟩; have hz8 := hq8.size; have kk8 : (w8.cell? ⟨w.heap.size + 1, 0, none⟩ = some (.int .i64 a2) ∧ w8.cell? ⟨w.heap.size + 1, 1, none⟩ = some (.int .i64 b2) ∧ w8.cell? ⟨w.heap.size + 1, 2, none⟩ = some (.int .i64 c2)) ∧ (w8.cell? ⟨w6.heap.size, 0, none⟩ = some (.int .i64 sy0) ∧ w8.cell? ⟨w6.heap.size, 1, none⟩ = some (.int .i64 st0) ∧ w8.cell? ⟨w6.heap.size, 2, none⟩ = some (.slice A_4 N_4 C_4)) := ⟨C3.next (HB_P2.out) hq8, C3.next (HB_x0.out) hq8⟩) | (go_at_call 18; (with_reducible refine (toRule_any a2 b2 c2 _).mono ?_); rintro e w8 ⟨rfl, hb8⟩; have hc8 : Below (w7.alloc (.cells #[.int .i64 0, .int .i64 0, .slice none 0 0] 30)).heap.size (w7.alloc (.cells #[.int .i64 0, .int .i64 0, .slice none 0 0] 30)) w8 := ⟨hb8.os, hb8.tape, hb8.output, hb8.size, hb8.block⟩; have hq8 : Below w7.heap.size w7 w8 := (below_one w7 (.cells #[.int .i64 0, .int .i64 0, .slice none 0 0] 30)).trans (hc8.mono (by simp)); have bx8 := Box.of (heap_one hc8); have lo8 : w7.heap.size ≤ w7.heap.size := (by omega); have up8 : w7.heap.size < w8.heap.size := (by have h := hc8.size; rw [World.size_alloc] at h; omega); have hz8 := hq8.size; have kk8 : (w8.cell? ⟨w.heap.size + 1, 0, none⟩ = some (.int .i64 a2) ∧ w8.cell? ⟨w.heap.size + 1, 1, none⟩ = some (.int .i64 b2) ∧ w8.cell? ⟨w.heap.size + 1, 2, none⟩ = some (.int .i64 c2)) ∧ (w8.cell? ⟨w6.heap.size, 0, none⟩ = some (.int .i64 sy0) ∧ w8.cell? ⟨w6.heap.size, 1, none⟩ = some (.int .i64 st0) ∧ w8.cell? ⟨w6.heap.size, 2, none⟩ = some (.slice A_4 N_4 C_4)) := ⟨C3.next (HB_P2.out) hq8, C3.next (HB_x0.out) hq8⟩) | (go_at_call 19; (with_reducible refine (HI.out _ _ (o4.sl.next hq8)).mono ?_); rintro e w9 ⟨v_6, rfl, o6, hb9⟩; obtain ⟨A_6, N_6, C_6, rfl, _, _, hq_6⟩ := o6.sl; clear hq_6; have hq9 : Below w8.heap.size w8 w9 := ⟨hb9.os, hb9.tape, hb9.output, hb9.size, hb9.block⟩; have bx9 := bx8.next hq9; have lo9 := lo8; have up9 := Nat.lt_of_lt_of_le up8 hq9.size; have ou9 := up8; have HX9 := Lib.hid bx9; obtain ⟨xc0, xc1, xc2, xf0, xf1, xf2⟩ := bx9; have hz9 := hq9.size; have kk9 : (w9.cell? ⟨w.heap.size + 1, 0, none⟩ = some (.int .i64 a2) ∧ w9.cell? ⟨w.heap.size + 1, 1, none⟩ = some (.int .i64 b2) ∧ w9.cell? ⟨w.heap.size + 1, 2, none⟩ = some (.int .i64 c2)) ∧ (w9.cell? ⟨w6.heap.size, 0, none⟩ = some (.int .i64 sy0) ∧ w9.cell? ⟨w6.heap.size, 1, none⟩ = some (.int .i64 st0) ∧ w9.cell? ⟨w6.heap.size, 2, none⟩ = some (.slice A_4 N_4 C_4)) := ⟨C3.next (C3.next (HB_P2.out) hq8) hq9, C3.next (C3.next (HB_x0.out) hq8) hq9⟩) | (go_at_call 19; (with_reducible refine (HI.out _ _ (o4.sl.next hq8)).mono ?_); rintro e w9 ⟨v_6, rfl, o6, hb9⟩; obtain ⟨A_6, N_6, C_6, rfl, _, _, hq_6⟩ := o6.sl; clear hq_6; have hq9 : Below w8.heap.size w8 w9 := ⟨hb9.os, hb9.tape, hb9.output, hb9.size, hb9.block⟩; have hz9 := hq9.size; have kk9 : (w9.cell? ⟨w.heap.size + 1, 0, none⟩ = some (.int .i64 a2) ∧ w9.cell? ⟨w.heap.size + 1, 1, none⟩ = some (.int .i64 b2) ∧ w9.cell? ⟨w.heap.size + 1, 2, none⟩ = some (.int .i64 c2)) ∧ (w9.cell? ⟨w6.heap.size, 0, none⟩ = some (.int .i64 sy0) ∧ w9.cell? ⟨w6.heap.size, 1, none⟩ = some (.int .i64 st0) ∧ w9.cell? ⟨w6.heap.size, 2, none⟩ = some (.slice A_4 N_4 C_4)) := ⟨C3.next (C3.next (HB_P2.out) hq8) hq9, C3.next (C3.next (HB_x0.out) hq8) hq9⟩) | (go_at_call 19; (with_reducible refine (HI.out _ _ ((o4.sl.next hq8).next (below_one w8 (.cells #[.int .i64 0, .int .i64 0, .slice none 0 0] 30)))).mono ?_); rintro e w9 ⟨v_6, rfl, o6, hb9⟩; obtain ⟨A_6, N_6, C_6, rfl, _, _, hq_6⟩ := o6.sl; clear hq_6; have hc9 : Below (w8.alloc (.cells #[.int .i64 0, .int .i64 0, .slice none 0 0] 30)).heap.size (w8.alloc (.cells #[.int .i64 0, .int .i64 0, .slice none 0 0] 30)) w9 := ⟨hb9.os, hb9.tape, hb9.output, hb9.size, hb9.block⟩; have hq9 : Below w8.heap.size w8 w9 := (below_one w8 (.cells #[.int .i64 0, .int .i64 0, .slice none 0 0] 30)).trans (hc9.mono (by simp)); have bx9 := Box.of (heap_one hc9); have lo9 : w7.heap.size ≤ w8.heap.size := (by omega); have up9 : w8.heap.size < w9.heap.size := (by have h := hc9.size; rw [World.size_alloc] at h; omega); have ou9 : w8.heap.size < (w8.alloc (.cells #[.int .i64 0, .int .i64 0, .slice none 0 0] 30)).heap.size := (by simp); have HX9 := Lib.hid bx9; obtain ⟨xc0, xc1, xc2, xf0, xf1, xf2⟩ := bx9; have hz9 := hq9.size; have kk9 : (w9.cell? ⟨w.heap.size + 1, 0, none⟩ = some (.int .i64 a2) ∧ w9.cell? ⟨w.heap.size + 1, 1, none⟩ = some (.int .i64 b2) ∧ w9.cell? ⟨w.heap.size + 1, 2, none⟩ = some (.int .i64 c2)) ∧ (w9.cell? ⟨w6.heap.size, 0, none⟩ = some (.int .i64 sy0) ∧ w9.cell? ⟨w6.heap.size, 1, none⟩ = some (.int .i64 st0) ∧ w9.cell? ⟨w6.heap.size, 2, none⟩ = some (.slice A_4 N_4 C_4)) := ⟨C3.next (C3.next (HB_P2.out) hq8) hq9, C3.next (C3.next (HB_x0.out) hq8) hq9⟩))
      all_goals (
        go_wp2_with fail
        go_meet
        case rel => first
          | exact ⟨_, _, _, _, rfl, rfl, Lib.hid (St3.late (below_next hq8 hq9) 30 o6 (by have := hz9; simp <;> omega))⟩
          | exact ⟨_, _, _, _, rfl, rfl, Lib.hid (St3.early (below_next hq8 hq9) HX9.out lo9 o6 ou9)⟩)
    case rest =>
      obtain ⟨vb6, A_6, N_6, C_6, rfl, rfl, HST6⟩ := hcut
      have hd10 := HST6.out.below
      have hz10 := hd10.size
      rename World => w10
      clear pP20 pP21 pP22
      clear px00 px01 px02
      replace o3 := o3.next hd10
      replace o4 := o4.next hd10
      replace HB_P0 := Lib.hid (HB_P0.out.next hd10)
      replace HB_P2 := Lib.hid (HB_P2.out.next hd10)
      replace HB_w0 := Lib.hid (HB_w0.out.next hd10)
      replace HB_x0 := Lib.hid (HB_x0.out.next hd10)
      replace hB := below_next hB hd10
      have lo_g0 := HST6.out.lo
      have up_g0 := HST6.out.hi
      have o6 := HST6.out.row
      have ne_g0 := Lib.hid HST6.out.ne
      have lt_o6 := fun k hk => (o6.lt k hk).2
      have HB_g0 : Hid (C3 w10 vb6 (.int .i64 RS0) (.int .i64 RT0) (.slice A_6 N_6 C_6)) := Lib.hid HST6.out.box
      clear HST6
      -- if !eqMachine(g0, w0) || g1 != w1 
      obtain ⟨pg00, pg01, pg02⟩ := HB_g0.out
      obtain ⟨pw00, pw01, pw02⟩ := HB_w0.out
      go_wp2_with fail
      refine (eqMachine_any _ _ _ _ _ _ _ _ _ o6.sl o3.sl).mono ?_
      rintro e w11 ⟨rfl, hb11⟩
      have hd11 := hb11
      have hz11 : w10.heap.size + 0 ≤ w11.heap.size := by have := hb11.size; first | omega | (simp at this; omega)
      replace o3 := o3.next hd11
      replace o4 := o4.next hd11
      replace o6 := o6.next hd11
      replace HB_P0 := Lib.hid (HB_P0.out.next hd11)
      replace HB_P2 := Lib.hid (HB_P2.out.next hd11)
      replace HB_w0 := Lib.hid (HB_w0.out.next hd11)
      replace HB_x0 := Lib.hid (HB_x0.out.next hd11)
      replace HB_g0 := Lib.hid (HB_g0.out.next hd11)
      replace hB := below_next hB hd11
      clear pg00 pg01 pg02
      clear pw00 pw01 pw02
      -- if !eqMachine(x0, toMachine(aM)) 
      obtain ⟨px00, px01, px02⟩ := HB_x0.out
      obtain ⟨pP00, pP01, pP02⟩ := HB_P0.out
      go_wp2_with fail
      go_region_held3 (fun w' => (w'.cell? ⟨w6.heap.size, 0, none⟩ = some (.int .i64 sy0) ∧ w'.cell? ⟨w6.heap.size, 1, none⟩ = some (.int .i64 st0) ∧ w'.cell? ⟨w6.heap.size, 2, none⟩ = some (.slice A_4 N_4 C_4)) ∧ (w'.cell? ⟨w.heap.size, 0, none⟩ = some (.int .i64 sy0) ∧ w'.cell? ⟨w.heap.size, 1, none⟩ = some (.int .i64 st0) ∧ w'.cell? ⟨w.heap.size, 2, none⟩ = some (.slice A0 n0 c0)))
        (first | go_keep | (exact ⟨C3.next (C3.drew (HB_x0.out)) hb12, C3.next (C3.drew (HB_P0.out)) hb12⟩) | (exact ⟨C3.next (C3.next (C3.drew (HB_x0.out)) hb12) hb13, C3.next (C3.next (C3.drew (HB_P0.out)) hb12) hb13⟩))
        (first | (go_at_call 17; (with_reducible refine (toMachine_any sy0 st0 _ l0 _ (((hS0.out.next hB)).drew) (by omega)).mono ?_); rintro e w12 ⟨v_7, rfl, o7, hb12⟩; obtain ⟨A_7, N_7, C_7, rfl, _, _, hq_7⟩ := o7.sl; clear hq_7) | (go_at_call 20; (with_reducible refine (eqMachine_any _ _ _ _ _ _ _ _ _ (((o4.sl).drew).next hb12) (o7.sl)).mono ?_); rintro e w13 ⟨rfl, hb13⟩))
      replace o7 := o7.lower (base' := w11.heap.size + 0) (by first | exact Nat.le_refl _ | (simp; done) | (simp; omega))
      have hb12q : Below w11.heap.size w11 w12 := ⟨hb12.os, hb12.tape, hb12.output, hb12.size, hb12.block⟩
      have hd12 := hb12q
      have hz12 : w11.heap.size + 0 ≤ w12.heap.size := by have := hb12q.size; first | omega | (simp at this; omega)
      replace o3 := o3.next hd12
      replace o4 := o4.next hd12
      replace o6 := o6.next hd12
      replace HB_P0 := Lib.hid (HB_P0.out.next hd12)
      replace HB_P2 := Lib.hid (HB_P2.out.next hd12)
      replace HB_w0 := Lib.hid (HB_w0.out.next hd12)
      replace HB_x0 := Lib.hid (HB_x0.out.next hd12)
      replace HB_g0 := Lib.hid (HB_g0.out.next hd12)
      replace hB := below_next hB hd12
      have lt_o7 := fun k hk => (o7.lt k hk).2
      have hd13 := hb13
      have hz13 : w12.heap.size + 0 ≤ w13.heap.size := by have := hb13.size; first | omega | (simp at this; omega)
      replace o3 := o3.next hd13
      replace o4 := o4.next hd13
      replace o6 := o6.next hd13
      replace o7 := o7.next hd13
      replace HB_P0 := Lib.hid (HB_P0.out.next hd13)
      replace HB_P2 := Lib.hid (HB_P2.out.next hd13)
      replace HB_w0 := Lib.hid (HB_w0.out.next hd13)
      replace HB_x0 := Lib.hid (HB_x0.out.next hd13)
      replace HB_g0 := Lib.hid (HB_g0.out.next hd13)
      replace hB := below_next hB hd13
      clear px00 px01 px02
      clear pP00 pP01 pP02
      -- k = markMachine(x0, k)
      obtain ⟨px00, px01, px02⟩ := HB_x0.out
      go_wp2_with fail
      refine (markMachine_any _ _ _ _ _ _ _ o4 (by omega) (by omega) (by omega)).mono ?_
      rintro e w14 ⟨rfl, om14, hg14⟩
      have hz14 := hg14.size
      clear px00 px01 px02
      replace o3 := o3.kept hg14 (fun k hk e => by have h1 := o3.lt k hk; have h2 := o4.lt k e; have h3 := lt_o3 k hk; have h4 := lt_o4 k e; omega)
      replace o6 := o6.kept hg14 (fun k hk e => by have h1 := o6.lt k hk; have h2 := o4.lt k e; have h3 := lt_o6 k hk; have h4 := lt_o4 k e; omega)
      replace o7 := o7.kept hg14 (fun k hk e => by have h1 := o7.lt k hk; have h2 := o4.lt k e; have h3 := lt_o7 k hk; have h4 := lt_o4 k e; omega)
      replace HB_P0 := Lib.hid (C3.kept HB_P0.out hg14 (fun k e => by have h2 := o4.lt k e; have h4 := lt_o4 k e; omega))
      replace HB_P2 := Lib.hid (C3.kept HB_P2.out hg14 (fun k e => by have h2 := o4.lt k e; have h4 := lt_o4 k e; omega))
      replace HB_w0 := Lib.hid (C3.kept HB_w0.out hg14 (fun k e => by have h2 := o4.lt k e; have h4 := lt_o4 k e; omega))
      replace HB_x0 := Lib.hid (C3.kept HB_x0.out hg14 (fun k e => by have h2 := o4.lt k e; have h4 := lt_o4 k e; omega))
      replace HB_g0 := Lib.hid (C3.kept HB_g0.out hg14 (fun k e => by have h2 := o4.lt k e; have h4 := lt_o4 k e; omega))
      replace hB := hB.grown hg14 hB.size (fun k hk => by have := (o4.lt k hk).1; omega)
      clear o4
      have o4 := om14
      clear om14
      -- if k < 0 || !eqMachine(g0, w0) || g1 != w1 
      obtain ⟨pg00, pg01, pg02⟩ := HB_g0.out
      obtain ⟨pw00, pw01, pw02⟩ := HB_w0.out
      go_wp2_with fail
      refine (eqMachine_any _ _ _ _ _ _ _ _ _ o6.sl o3.sl).mono ?_
      rintro e w15 ⟨rfl, hb15⟩
      have hd15 := hb15
      have hz15 : w14.heap.size + 0 ≤ w15.heap.size := by have := hb15.size; first | omega | (simp at this; omega)
      replace o3 := o3.next hd15
      replace o4 := o4.next hd15
      replace o6 := o6.next hd15
      replace o7 := o7.next hd15
      replace HB_P0 := Lib.hid (HB_P0.out.next hd15)
      replace HB_P2 := Lib.hid (HB_P2.out.next hd15)
      replace HB_w0 := Lib.hid (HB_w0.out.next hd15)
      replace HB_x0 := Lib.hid (HB_x0.out.next hd15)
      replace HB_g0 := Lib.hid (HB_g0.out.next hd15)
      replace hB := below_next hB hd15
      clear pg00 pg01 pg02
      clear pw00 pw01 pw02
      -- m = markMachine(g0, m)
      obtain ⟨pg00, pg01, pg02⟩ := HB_g0.out
      go_wp2_with fail
      refine (markMachine_any _ _ _ _ _ _ _ o6 (by omega) (by omega) (by omega)).mono ?_
      rintro e w16 ⟨rfl, om16, hg16⟩
      have hz16 := hg16.size
      clear pg00 pg01 pg02
      replace o3 := o3.kept hg16 (fun k hk e => by have h1 := o3.lt k hk; have h2 := o6.lt k e; have h3 := lt_o3 k hk; have h4 := lt_o6 k e; omega)
      replace o4 := o4.kept hg16 (fun k hk e => by have h1 := o4.lt k hk; have h2 := o6.lt k e; have h3 := lt_o4 k hk; have h4 := lt_o6 k e; omega)
      replace o7 := o7.kept hg16 (fun k hk e => by have h1 := o7.lt k hk; have h2 := o6.lt k e; have h3 := lt_o7 k hk; have h4 := lt_o6 k e; omega)
      replace HB_P0 := Lib.hid (C3.kept HB_P0.out hg16 (fun k e => by have h2 := o6.lt k e; have h4 := lt_o6 k e; omega))
      replace HB_P2 := Lib.hid (C3.kept HB_P2.out hg16 (fun k e => by have h2 := o6.lt k e; have h4 := lt_o6 k e; omega))
      replace HB_w0 := Lib.hid (C3.kept HB_w0.out hg16 (fun k e => by have h2 := o6.lt k e; have h4 := lt_o6 k e; omega))
      replace HB_x0 := Lib.hid (C3.kept HB_x0.out hg16 (fun k e => by have h2 := o6.lt k e; have h4 := lt_o6 k e; omega))
      replace HB_g0 := Lib.hid (C3.kept HB_g0.out hg16 (fun k e => ne_g0.out k e))
      replace hB := hB.grown hg16 hB.size (fun k hk => by have := (o6.lt k hk).1; omega)
      clear o6
      have o6 := om16
      clear om16
      -- q = heldMachine(g0, q)
      obtain ⟨pg00, pg01, pg02⟩ := HB_g0.out
      go_wp2_with fail
      refine (heldMachine_any _ _ _ _ _ _ o6.sl (by omega) (by omega) (by omega)).mono ?_
      rintro e w17 ⟨rfl, hb17⟩
      have hd17 := hb17
      have hz17 : w16.heap.size + 0 ≤ w17.heap.size := by have := hb17.size; first | omega | (simp at this; omega)
      replace o3 := o3.next hd17
      replace o4 := o4.next hd17
      replace o6 := o6.next hd17
      replace o7 := o7.next hd17
      replace HB_P0 := Lib.hid (HB_P0.out.next hd17)
      replace HB_P2 := Lib.hid (HB_P2.out.next hd17)
      replace HB_w0 := Lib.hid (HB_w0.out.next hd17)
      replace HB_x0 := Lib.hid (HB_x0.out.next hd17)
      replace HB_g0 := Lib.hid (HB_g0.out.next hd17)
      replace hB := below_next hB hd17
      clear pg00 pg01 pg02
      -- h0, h1 := impl.SetRule(toMachine(aM), aAt, toRule(aR))
      go_upto_region 24 with fail
      obtain ⟨pP00, pP01, pP02⟩ := HB_P0.out
      obtain ⟨pP20, pP21, pP22⟩ := HB_P2.out
      go_cut [16, 17] (fun p c wx => ∃ (vb : Nat) (Aq : Option Addr) (Nq Cq : Nat), p = .pointer (some ⟨vb, 0, none⟩) ∧ c = .int .i64 R1 ∧ Hid (St3 w17 wx vb RS0 RT0 (.slice Aq Nq Cq) R0))
      case first =>
        go_region_held3 (fun w' => (w'.cell? ⟨w.heap.size, 0, none⟩ = some (.int .i64 sy0) ∧ w'.cell? ⟨w.heap.size, 1, none⟩ = some (.int .i64 st0) ∧ w'.cell? ⟨w.heap.size, 2, none⟩ = some (.slice A0 n0 c0)) ∧ (w'.cell? ⟨w.heap.size + 1, 0, none⟩ = some (.int .i64 a2) ∧ w'.cell? ⟨w.heap.size + 1, 1, none⟩ = some (.int .i64 b2) ∧ w'.cell? ⟨w.heap.size + 1, 2, none⟩ = some (.int .i64 c2)))
          (first | (with_reducible assumption) | (with_reducible refine ⟨ka1 (And.left (by assumption)), ka1 (And.right (by assumption))⟩) | (with_reducible refine ⟨kda1 (And.left (by assumption)), kda1 (And.right (by assumption))⟩) | (with_reducible refine ⟨ks1 (And.left (by assumption)) (by omega), ks1 (And.right (by assumption)) (by omega)⟩) | go_keep)
          (first | (go_at_call 17; (with_reducible refine (toMachine_any sy0 st0 _ l0 _ ((hS0.out.next hB).drew) (by omega)).mono ?_); rintro e w18 ⟨v_8, rfl, o8, hb18⟩; obtain ⟨A_8, N_8, C_8, rfl, _, _, hq_8⟩ := o8.sl; clear hq_8; have hq18 : Below w17.heap.size w17 w18 := ⟨hb18.os, hb18.tape, hb18.output, hb18.size, hb18.block⟩; have hz18 := hq18.size; have kk18 : (w18.cell? ⟨w.heap.size, 0, none⟩ = some (.int .i64 sy0) ∧ w18.cell? ⟨w.heap.size, 1, none⟩ = some (.int .i64 st0) ∧ w18.cell? ⟨w.heap.size, 2, none⟩ = some (.slice A0 n0 c0)) ∧ (w18.cell? ⟨w.heap.size + 1, 0, none⟩ = some (.int .i64 a2) ∧ w18.cell? ⟨w.heap.size + 1, 1, none⟩ = some (.int .i64 b2) ∧ w18.cell? ⟨w.heap.size + 1, 2, none⟩ = some (.int .i64 c2)) := ⟨C3.next (HB_P0.out) hq18, C3.next (HB_P2.out) hq18⟩) | (go_at_call 17; (with_reducible refine (toMachine_any sy0 st0 _ l0 _ (((hS0.out.next hB).next (below_one w17 (.cells #[.int .i64 0, .int .i64 0, .slice none 0 0] 30))).drew) (by omega)).mono ?_); rintro e w18 ⟨v_8, rfl, o8, hb18⟩; obtain ⟨A_8, N_8, C_8, rfl, _, _, hq_8⟩ := o8.sl; clear hq_8; have hc18 : Below (w17.alloc (.cells #[.int .i64 0, .int .i64 0, .slice none 0 0] 30)).heap.size (w17.alloc (.cells #[.int .i64 0, .int .i64 0, .slice none 0 0] 30)) w18 := ⟨hb18.os, hb18.tape, hb18.output, hb18.size, hb18.block⟩; have hq18 : Below w17.heap.size w17 w18 := (below_one w17 (.cells #[.int .i64 0, .int .i64 0, .slice none 0 0] 30)).trans (hc18.mono (by simp)); have bx18 := Box.of (heap_one hc18); have lo18 : w17.heap.size ≤ w17.heap.size := (by omega); have up18 : w17.heap.size < w18.heap.size := (by have h := hc18.size; rw [World.size_alloc] at h; omega); have hz18 := hq18.size; have kk18 : (w18.cell? ⟨w.heap.size, 0, none⟩ = some (.int .i64 sy0) ∧ w18.cell? ⟨w.heap.size, 1, none⟩ = some (.int .i64 st0) ∧ w18.cell? ⟨w.heap.size, 2, none⟩ = some (.slice A0 n0 c0)) ∧ (w18.cell? ⟨w.heap.size + 1, 0, none⟩ = some (.int .i64 a2) ∧ w18.cell? ⟨w.heap.size + 1, 1, none⟩ = some (.int .i64 b2) ∧ w18.cell? ⟨w.heap.size + 1, 2, none⟩ = some (.int .i64 c2)) := ⟨C3.next (HB_P0.out) hq18, C3.next (HB_P2.out) hq18⟩) | (go_at_call 18; (with_reducible refine (toRule_any a2 b2 c2 _).mono ?_); rintro e w19 ⟨rfl, hb19⟩; have hq19 : Below w18.heap.size w18 w19 := ⟨hb19.os, hb19.tape, hb19.output, hb19.size, hb19.block⟩; have bx19 := bx18.next hq19; have lo19 := lo18; have up19 := Nat.lt_of_lt_of_le up18 hq19.size; have hz19 := hq19.size; have kk19 : (w19.cell? ⟨w.heap.size, 0, none⟩ = some (.int .i64 sy0) ∧ w19.cell? ⟨w.heap.size, 1, none⟩ = some (.int .i64 st0) ∧ w19.cell? ⟨w.heap.size, 2, none⟩ = some (.slice A0 n0 c0)) ∧ (w19.cell? ⟨w.heap.size + 1, 0, none⟩ = some (.int .i64 a2) ∧ w19.cell? ⟨w.heap.size + 1, 1, none⟩ = some (.int .i64 b2) ∧ w19.cell? ⟨w.heap.size + 1, 2, none⟩ = some (.int .i64 c2)) := ⟨C3.next (C3.next (HB_P0.out) hq18) hq19, C3.next (C3.next (HB_P2.out) hq18) hq19⟩) | (go_at_call 18; (with_reducible refine (toRule_any a2 b2 c2 _).mono ?_); rintro e w19 ⟨rfl, hb19⟩; have hq19 : Below w18.heap.size w18 w19 := ⟨hb19.os, hb19.tape, hb19.output, hb19.size, hb19.block⟩; have hz19 := hq19.size; have kk19 : (w19.cell? ⟨w.heap.size, 0, none⟩ = some (.int .i64 sy0) ∧ w19.cell? ⟨w.heap.size, 1, none⟩ = some (.int .i64 st0) ∧ w19.cell? ⟨w.heap.size, 2, none⟩ = some (.slice A0 n0 c0)) ∧ (w19.cell? ⟨w.heap.size + 1, 0, none⟩ = some (.int .i64 a2) ∧ w19.cell? ⟨w.heap.size + 1, 1, none⟩ = some (.int .i64 b2) ∧ w19.cell? ⟨w.heap.size + 1, 2, none⟩ = some (.int .i64 c2)) := ⟨C3.next (C3.next (HB_P0.out) hq18) hq19, C3.next (C3.next (HB_P2.out) hq18) hq19⟩) | (go_at_call 18; (with_reducible refine (toRule_any a2 b2 c2 _).mono ?_); rintro e w19 ⟨rfl, hb19⟩; have hc19 : Below (w18.alloc (.cells #[.int .i64 0, .int .i64 0, .slice none 0 0] 30)).heap.size (w18.alloc (.cells #[.int .i64 0, .int .i64 0, .slice none 0 0] 30)) w19 := ⟨hb19.os, hb19.tape, hb19.output, hb19.size, hb19.block⟩; have hq19 : Below w18.heap.size w18 w19 := (below_one w18 (.cells #[.int .i64 0, .int .i64 0, .slice none 0 0] 30)).trans (hc19.mono (by simp)); have bx19 := Box.of (heap_one hc19); have lo19 : w17.heap.size ≤ w18.heap.size := (by omega); have up19 : w18.heap.size < w19.heap.size := (by have h := hc19.size; rw [World.size_alloc] at h; omega); have hz19 := hq19.size; have kk19 : (w19.cell? ⟨w.heap.size, 0, none⟩ = some (.int .i64 sy0) ∧ w19.cell? ⟨w.heap.size, 1, none⟩ = some (.int .i64 st0) ∧ w19.cell? ⟨w.heap.size, 2, none⟩ = some (.slice A0 n0 c0)) ∧ (w19.cell? ⟨w.heap.size + 1, 0, none⟩ = some (.int .i64 a2) ∧ w19.cell? ⟨w.heap.size + 1, 1, none⟩ = some (.int .i64 b2) ∧ w19.cell? ⟨w.heap.size + 1, 2, none⟩ = some (.int .i64 c2)) := ⟨C3.next (C3.next (HB_P0.out) hq18) hq19, C3.next (C3.next (HB_P2.out) hq18) hq19⟩) | (go_at_call 19; (with_reducible refine (HI.out _ _ (o8.sl.next hq19)).mono ?_); rintro e w20 ⟨v_10, rfl, o10, hb20⟩; obtain ⟨A_10, N_10, C_10, rfl, _, _, hq_10⟩ := o10.sl; clear hq_10; have hq20 : Below w19.heap.size w19 w20 := ⟨hb20.os, hb20.tape, hb20.output, hb20.size, hb20.block⟩; have bx20 := bx19.next hq20; have lo20 := lo19; have up20 := Nat.lt_of_lt_of_le up19 hq20.size; have ou20 := up19; have HX20 := Lib.hid bx20; obtain ⟨xc0, xc1, xc2, xf0, xf1, xf2⟩ := bx20; have hz20 := hq20.size; have kk20 : (w20.cell? ⟨w.heap.size, 0, none⟩ = some (.int .i64 sy0) ∧ w20.cell? ⟨w.heap.size, 1, none⟩ = some (.int .i64 st0) ∧ w20.cell? ⟨w.heap.size, 2, none⟩ = some (.slice A0 n0 c0)) ∧ (w20.cell? ⟨w.heap.size + 1, 0, none⟩ = some (.int .i64 a2) ∧ w20.cell? ⟨w.heap.size + 1, 1, none⟩ = some (.int .i64 b2) ∧ w20.cell? ⟨w.heap.size + 1, 2, none⟩ = some (.int .i64 c2)) := ⟨C3.next (C3.next (C3.next (HB_P0.out) hq18) hq19) hq20, C3.next (C3.next (C3.next (HB_P2.out) hq18) hq19) hq20⟩) | (go_at_call 19; (with_reducible refine (HI.out _ _ (o8.sl.next hq19)).mono ?_); rintro e w20 ⟨v_10, rfl, o10, hb20⟩; obtain ⟨A_10, N_10, C_10, rfl, _, _, hq_10⟩ := o10.sl; clear hq_10; have hq20 : Below w19.heap.size w19 w20 := ⟨hb20.os, hb20.tape, hb20.output, hb20.size, hb20.block⟩; have hz20 := hq20.size; have kk20 : (w20.cell? ⟨w.heap.size, 0, none⟩ = some (.int .i64 sy0) ∧ w20.cell? ⟨w.heap.size, 1, none⟩ = some (.int .i64 st0) ∧ w20.cell? ⟨w.heap.size, 2, none⟩ = some (.slice A0 n0 c0)) ∧ (w20.cell? ⟨w.heap.size + 1, 0, none⟩ = some (.int .i64 a2) ∧ w20.cell? ⟨w.heap.size + 1, 1, none⟩ = some (.int .i64 b2) ∧ w20.cell? ⟨w.heap.size + 1, 2, none⟩ = some (.int .i64 c2)) := ⟨C3.next (C3.next (C3.next (HB_P0.out) hq18) hq19) hq20, C3.next (C3.next (C3.next (HB_P2.out) hq18) hq19) hq20⟩) | (go_at_call 19; (with_reducible refine (HI.out _ _ ((o8.sl.next hq19).next (below_one w19 (.cells #[.int .i64 0, .int .i64 0, .slice none 0 0] 30)))).mono ?_); rintro e w20 ⟨v_10, rfl, o10, hb20⟩; obtain ⟨A_10, N_10, C_10, rfl, _, _, hq_10⟩ := o10.sl; clear hq_10; have hc20 : Below (w19.alloc (.cells #[.int .i64 0, .int .i64 0, .slice none 0 0] 30)).heap.size (w19.alloc (.cells #[.int .i64 0, .int .i64 0, .slice none 0 0] 30)) w20 := ⟨hb20.os, hb20.tape, hb20.output, hb20.size, hb20.block⟩; have hq20 : Below w19.heap.size w19 w20 := (below_one w19 (.cells #[.int .i64 0, .int .i64 0, .slice none 0 0] 30)).trans (hc20.mono (by simp)); have bx20 := Box.of (heap_one hc20); have lo20 : w17.heap.size ≤ w19.heap.size := (by omega); have up20 : w19.heap.size < w20.heap.size := (by have h := hc20.size; rw [World.size_alloc] at h; omega); have ou20 : w19.heap.size < (w19.alloc (.cells #[.int .i64 0, .int .i64 0, .slice none 0 0] 30)).heap.size := (by simp); have HX20 := Lib.hid bx20; obtain ⟨xc0, xc1, xc2, xf0, xf1, xf2⟩ := bx20; have hz20 := hq20.size; have kk20 : (w20.cell? ⟨w.heap.size, 0, none⟩ = some (.int .i64 sy0) ∧ w20.cell? ⟨w.heap.size, 1, none⟩ = some (.int .i64 st0) ∧ w20.cell? ⟨w.heap.size, 2, none⟩ = some (.slice A0 n0 c0)) ∧ (w20.cell? ⟨w.heap.size + 1, 0, none⟩ = some (.int .i64 a2) ∧ w20.cell? ⟨w.heap.size + 1, 1, none⟩ = some (.int .i64 b2) ∧ w20.cell? ⟨w.heap.size + 1, 2, none⟩ = some (.int .i64 c2)) := ⟨C3.next (C3.next (C3.next (HB_P0.out) hq18) hq19) hq20, C3.next (C3.next (C3.next (HB_P2.out) hq18) hq19) hq20⟩))
        all_goals (
          go_wp2_with fail
          go_meet
          case rel => first
            | exact ⟨_, _, _, _, rfl, rfl, Lib.hid (St3.late (below_next (below_next hq18 hq19) hq20) 30 o10 (by have := hz20; simp <;> omega))⟩
            | exact ⟨_, _, _, _, rfl, rfl, Lib.hid (St3.early (below_next (below_next hq18 hq19) hq20) HX20.out lo20 o10 ou20)⟩)
      case rest =>
        obtain ⟨vb10, A_10, N_10, C_10, rfl, rfl, HST10⟩ := hcut
        have hd21 := HST10.out.below
        have hz21 := hd21.size
        rename World => w21
        clear pP00 pP01 pP02
        clear pP20 pP21 pP22
        replace o3 := o3.next hd21
        replace o4 := o4.next hd21
        replace o6 := o6.next hd21
        replace o7 := o7.next hd21
        replace HB_P0 := Lib.hid (HB_P0.out.next hd21)
        replace HB_P2 := Lib.hid (HB_P2.out.next hd21)
        replace HB_w0 := Lib.hid (HB_w0.out.next hd21)
        replace HB_x0 := Lib.hid (HB_x0.out.next hd21)
        replace HB_g0 := Lib.hid (HB_g0.out.next hd21)
        replace hB := below_next hB hd21
        have lo_h0 := HST10.out.lo
        have up_h0 := HST10.out.hi
        have o10 := HST10.out.row
        have ne_h0 := Lib.hid HST10.out.ne
        have lt_o10 := fun k hk => (o10.lt k hk).2
        have HB_h0 : Hid (C3 w21 vb10 (.int .i64 RS0) (.int .i64 RT0) (.slice A_10 N_10 C_10)) := Lib.hid HST10.out.box
        clear HST10
        -- if !eqMachine(h0, w0) || h1 != w1 
        obtain ⟨ph00, ph01, ph02⟩ := HB_h0.out
        obtain ⟨pw00, pw01, pw02⟩ := HB_w0.out
        go_wp2_with fail
        refine (eqMachine_any _ _ _ _ _ _ _ _ _ o10.sl o3.sl).mono ?_
        rintro e w22 ⟨rfl, hb22⟩
        have hd22 := hb22
        have hz22 : w21.heap.size + 0 ≤ w22.heap.size := by have := hb22.size; first | omega | (simp at this; omega)
        replace o3 := o3.next hd22
        replace o4 := o4.next hd22
        replace o6 := o6.next hd22
        replace o7 := o7.next hd22
        replace o10 := o10.next hd22
        replace HB_P0 := Lib.hid (HB_P0.out.next hd22)
        replace HB_P2 := Lib.hid (HB_P2.out.next hd22)
        replace HB_w0 := Lib.hid (HB_w0.out.next hd22)
        replace HB_x0 := Lib.hid (HB_x0.out.next hd22)
        replace HB_g0 := Lib.hid (HB_g0.out.next hd22)
        replace HB_h0 := Lib.hid (HB_h0.out.next hd22)
        replace hB := below_next hB hd22
        clear ph00 ph01 ph02
        clear pw00 pw01 pw02
        -- q = heldMachine(g0, q)
        obtain ⟨pg00, pg01, pg02⟩ := HB_g0.out
        go_wp2_with fail
        refine (heldMachine_any _ _ _ _ _ _ o6.sl (by omega) (by omega) (by omega)).mono ?_
        rintro e w23 ⟨rfl, hb23⟩
        have hd23 := hb23
        have hz23 : w22.heap.size + 0 ≤ w23.heap.size := by have := hb23.size; first | omega | (simp at this; omega)
        replace o3 := o3.next hd23
        replace o4 := o4.next hd23
        replace o6 := o6.next hd23
        replace o7 := o7.next hd23
        replace o10 := o10.next hd23
        replace HB_P0 := Lib.hid (HB_P0.out.next hd23)
        replace HB_P2 := Lib.hid (HB_P2.out.next hd23)
        replace HB_w0 := Lib.hid (HB_w0.out.next hd23)
        replace HB_x0 := Lib.hid (HB_x0.out.next hd23)
        replace HB_g0 := Lib.hid (HB_g0.out.next hd23)
        replace HB_h0 := Lib.hid (HB_h0.out.next hd23)
        replace hB := below_next hB hd23
        clear pg00 pg01 pg02
        go_wp2_with fail
        go_ret
        exact ⟨rfl, hB⟩
end Go.Proofs.Ytanjpkcacgjgfaa
