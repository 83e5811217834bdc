/- The walk of FnExactMachineText: it returns true. Where the table of powers is laid. -/
import Derived.Test.YtcjcbgmgepohaaaDoorMTextA
import Derived.Test.YtcjcbgmgepohaaaDoorEnv3
namespace Go.Proofs.YtcjcbgmgepohaaaDoor
open Go.RowKit
set_option maxHeartbeats 4000000 in
set_option maxRecDepth 100000 in
theorem walkMachineText (v0 : Value) (z0 : Int × Int × List Int) (w : World) (hp : Pow w) (h0 : IsM w v0 z0) :
    Calls Tryd.prog 3 #[v0] w fun e w' => e = .returned (.bool true) ∧ Below w.heap.size w w' := by
  have HPE := Lib.hid hp
  clear hp
  obtain ⟨sy0, st0, l0⟩ := z0
  obtain ⟨rv0, rfl, hs0, f0, hy0, ht0⟩ := h0
  have hS0 : Hid (Sl3 w rv0 l0) := Lib.hid hs0
  obtain ⟨A0, n0, c0, rfl, hnc0, hcm0, hr0⟩ := hs0
  have hl0 := hr0.1
  clear hr0
  simp only at hl0 hy0 ht0 f0
  have HL0 := Lib.hid hl0
  clear hl0
  have hB : Below w.heap.size w w := Below.refl _ _
  go_enter Tryd.func3, Tryd.ntmps3
  go_wp2_with fail
  refine (szMachine_any sy0 st0 A0 n0 c0 1048576 _ (by omega) (by omega) hnc0 hcm0).mono ?_
  rintro e w1 ⟨rfl, hb1⟩
  have hd1 : Below w.heap.size w w1 := (below_one w (.cells #[.int .i64 sy0, .int .i64 st0, .slice A0 n0 c0] 24)).trans (hb1.mono (by simp))
  have hz1 : w.heap.size + 1 ≤ w1.heap.size := by have := hb1.size; first | omega | (simp at this; omega)
  have HB_P0 : Hid (C3 w1 (w.heap.size) (.int .i64 sy0) (.int .i64 st0) (.slice A0 n0 c0)) := Lib.hid (C3.next (C3.made w _ _ _ _) hb1)
  replace hB := below_next hB hd1
  by_cases hg0 : 1048576 < ((n0 : Nat) : Int)
  · rw [szI_no hg0]
    go_wp2_with fail
    go_ret
    exact ⟨rfl, hB⟩
  rw [szI_yes hg0]
  have he0 : decide ((1048576 - ((n0 : Nat) : Int)) < 0) = false := decide_eq_false (by omega)
  have hn0 : l0.length ≤ 3145728 := by have := HL0.out; omega
  obtain ⟨R0, hs, hi⟩ := bothMachineText sy0 st0 l0 ⟨f0, hn0, hy0, ht0⟩
  have HS := Lib.hid hs
  have HI := Lib.hid hi
  clear hs hi
  -- w0 := spec.MachineText(toMachine(aM))
  obtain ⟨pP00, pP01, pP02⟩ := HB_P0.out
  go_wp2_with fail
  refine (toMachine_any sy0 st0 _ l0 _ (hS0.out.next hB) (by omega)).mono ?_
  rintro e w2 ⟨v_1, rfl, o1, hb2⟩
  obtain ⟨A_1, N_1, C_1, rfl, _, _, hq_1⟩ := o1.sl
  clear hq_1
  have hd2 := hb2
  have hz2 : w1.heap.size + 0 ≤ w2.heap.size := by have := hb2.size; first | omega | (simp at this; omega)
  replace HB_P0 := Lib.hid (HB_P0.out.next hd2)
  replace hB := below_next hB hd2
  have lt_o1 := fun k hk => (o1.lt k hk).2
  clear pP00 pP01 pP02
  obtain ⟨pP00, pP01, pP02⟩ := HB_P0.out
  go_wp2_with fail
  refine (HS.out _ _ o1.sl).mono ?_
  rintro e w3 ⟨rfl, hb3⟩
  have hd3 := hb3
  have hz3 : w2.heap.size + 0 ≤ w3.heap.size := by have := hb3.size; first | omega | (simp at this; omega)
  replace o1 := o1.next hd3
  replace HB_P0 := Lib.hid (HB_P0.out.next hd3)
  replace hB := below_next hB hd3
  clear pP00 pP01 pP02
  -- x0 := toMachine(aM)
  obtain ⟨pP00, pP01, pP02⟩ := HB_P0.out
  go_wp2_with fail
  refine (toMachine_any sy0 st0 _ l0 _ (hS0.out.next hB) (by omega)).mono ?_
  rintro e w4 ⟨v_2, rfl, o2, hb4⟩
  obtain ⟨A_2, N_2, C_2, rfl, _, _, hq_2⟩ := o2.sl
  clear hq_2
  have hd4 := hb4
  have hz4 : w3.heap.size + 0 ≤ w4.heap.size := by have := hb4.size; first | omega | (simp at this; omega)
  replace o1 := o1.next hd4
  replace HB_P0 := Lib.hid (HB_P0.out.next hd4)
  replace hB := below_next hB hd4
  have lt_o2 := fun k hk => (o2.lt k hk).2
  clear pP00 pP01 pP02
  -- g0 := impl.MachineText(x0)
  go_wp2_with fail
  refine (HI.out _ _ ((HPE.out.next hB).next (below_one w4 (.cells #[.int .i64 sy0, .int .i64 st0, .slice A_2 N_2 C_2] 29))) (o2.sl.next (below_one w4 (.cells #[.int .i64 sy0, .int .i64 st0, .slice A_2 N_2 C_2] 29)))).mono ?_
  rintro e w5 ⟨rfl, hb5⟩
  have hd5 : Below w4.heap.size w4 w5 := (below_one w4 (.cells #[.int .i64 sy0, .int .i64 st0, .slice A_2 N_2 C_2] 29)).trans (hb5.mono (by simp))
  have hz5 : w4.heap.size + 1 ≤ w5.heap.size := by have := hb5.size; first | omega | (simp at this; omega)
  replace o1 := o1.next hd5
  replace o2 := o2.next hd5
  replace HB_P0 := Lib.hid (HB_P0.out.next hd5)
  have HB_x0 : Hid (C3 w5 (w4.heap.size) (.int .i64 sy0) (.int .i64 st0) (.slice A_2 N_2 C_2)) := Lib.hid (C3.next (C3.made w4 _ _ _ _) hb5)
  replace hB := below_next hB hd5
  -- if g0 != w0 
  -- if !eqMachine(x0, toMachine(aM)) 
  obtain ⟨px00, px01, px02⟩ := HB_x0.out
  obtain ⟨pP00, pP01, pP02⟩ := HB_P0.out
  go_wp2_with fail
  go_region_held3 (fun w' => (w'.cell? ⟨w4.heap.size, 0, none⟩ = some (.int .i64 sy0) ∧ w'.cell? ⟨w4.heap.size, 1, none⟩ = some (.int .i64 st0) ∧ w'.cell? ⟨w4.heap.size, 2, none⟩ = some (.slice A_2 N_2 C_2)) ∧ (w'.cell? ⟨w.heap.size, 0, none⟩ = some (.int .i64 sy0) ∧ w'.cell? ⟨w.heap.size, 1, none⟩ = some (.int .i64 st0) ∧ w'.cell? ⟨w.heap.size, 2, none⟩ = some (.slice A0 n0 c0)))
    (first | go_keep | (exact ⟨C3.next (C3.drew (HB_x0.out)) hb6, C3.next (C3.drew (HB_P0.out)) hb6⟩) | (exact ⟨C3.next (C3.next (C3.drew (HB_x0.out)) hb6) hb7, C3.next (C3.next (C3.drew (HB_P0.out)) hb6) hb7⟩))
    (first | (go_at_call 6; refine (toMachine_any sy0 st0 _ l0 _ (((hS0.out.next hB)).drew) (by omega)).mono ?_; rintro e w6 ⟨v_3, rfl, o3, hb6⟩; obtain ⟨A_3, N_3, C_3, rfl, _, _, hq_3⟩ := o3.sl; clear hq_3) | (go_at_call 8; refine (eqMachine_any _ _ _ _ _ _ _ _ _ (((o2.sl).drew).next hb6) (o3.sl)).mono ?_; rintro e w7 ⟨rfl, hb7⟩))
  have hb6q : Below w5.heap.size w5 w6 := ⟨hb6.os, hb6.tape, hb6.output, hb6.size, hb6.block⟩
  have hd6 := hb6q
  have hz6 : w5.heap.size + 0 ≤ w6.heap.size := by have := hb6q.size; first | omega | (simp at this; omega)
  replace o1 := o1.next hd6
  replace o2 := o2.next hd6
  replace HB_P0 := Lib.hid (HB_P0.out.next hd6)
  replace HB_x0 := Lib.hid (HB_x0.out.next hd6)
  replace hB := below_next hB hd6
  have lt_o3 := fun k hk => (o3.lt k hk).2
  have hd7 := hb7
  have hz7 : w6.heap.size + 0 ≤ w7.heap.size := by have := hb7.size; first | omega | (simp at this; omega)
  replace o1 := o1.next hd7
  replace o2 := o2.next hd7
  replace o3 := o3.next hd7
  replace HB_P0 := Lib.hid (HB_P0.out.next hd7)
  replace HB_x0 := Lib.hid (HB_x0.out.next hd7)
  replace hB := below_next hB hd7
  clear px00 px01 px02
  clear pP00 pP01 pP02
  go_wp2_with fail
  go_ret
  exact ⟨rfl, hB⟩
end Go.Proofs.YtcjcbgmgepohaaaDoor
