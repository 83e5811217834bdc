/- ValidConfig: contracts of l05Cells, l05Good, validSide, configOf, and what the law needs. No condition beyond the stated bounds. -/
import Derived.Test.YtbjkhnajnbmnlaaMConf
import Derived.Test.YtbjkhnajnbmnlaaValid
namespace Go.Proofs.Ytbjkhnajnbmnlaa
open Go.RowKit
/-- l may stand on a side of a tape. -/
def sideB (sy : Int) (l : List Int) : Bool := allIn l 0 (sy - 1) && (decide (l.length ≤ 200) && (decide (l.length = 0) || decide (geti l (l.length - 1) ≠ 0)))
theorem sideB_no {sy : Int} {l : List Int} (h : allIn l 0 (sy - 1) = false) : sideB sy l = false := by unfold sideB; rw [h]; rfl
theorem sideB_long {sy : Int} {l : List Int} (h : ¬ l.length ≤ 200) : sideB sy l = false := by unfold sideB; rw [decide_eq_false h]; simp
theorem sideB_nil {sy : Int} : sideB sy [] = true := rfl
theorem sideB_last {sy : Int} {l : List Int} (h : allIn l 0 (sy - 1) = true) (h2 : l.length ≤ 200) (h0 : 0 < l.length) : sideB sy l = (geti l (l.length - 1) != 0) := by
  unfold sideB; rw [h, decide_eq_true h2, decide_eq_false (by omega)]
  rw [Bool.eq_iff_iff]; simp
/-- A configuration is one of a machine. -/
def goodB (sy st s : Int) (l r : List Int) : Bool := inB s 0 (st - 1) && (sideB sy l && sideB sy r)
theorem drewN_more {w wr : World} (h : ∃ n, wr = w.drewN n) (m : Nat) : ∃ n, wr.drewN m = w.drewN n := by
  obtain ⟨n, rfl⟩ := h; exact ⟨_, World.drewN_drewN _ _ _⟩
set_option maxHeartbeats 1000000 in
theorem l05Cells_any (b : Nat) (sy : Int) (y z : Value) (v : Value) (l : List Int) (w : World) (hc : C3 w b (.int .i64 sy) y z) (h : Sl w v l) (s1 : -1000000 ≤ sy) (s2 : sy ≤ 1000000) :
    Calls Try.prog 52 #[.pointer (some ⟨b, 0, none⟩), v] w fun e w' => e = .returned (.bool (sideB sy l)) ∧ ∃ n, w' = w.drewN n := by
  obtain ⟨A, c, rfl, hlc, hcm, hr⟩ := h
  have HR := Lib.hid hr
  obtain ⟨c0, c1, c2⟩ := hc
  clear hr c1 c2
  unfold maxLen at hcm
  go_enter Try.func52, Try.ntmps52
  go_wp2
  go_loopw [5] (fun i wr => ∃ k : Nat, k ≤ l.length ∧ i = .int .i64 k ∧ Hid (∀ j, j < k → inB (geti l j) 0 (sy - 1) = true) ∧ (∃ n, wr = w.drewN n)) (fun i _ => l.length - (intOf i).toNat)
  case atStart => exact ⟨0, Nat.zero_le _, rfl, (fun j hj => by omega), ⟨0, (World.drewN_zero w).symm⟩⟩
  case round =>
    obtain ⟨k, hk, rfl, H, hnd⟩ := hrel
    have HND := Lib.hid hnd
    have hcr : wr.cell? ⟨b, 0, none⟩ = some (.int .i64 sy) := by obtain ⟨nd, rfl⟩ := hnd; exact c0
    have hrr : Ints wr wr.heap.size A l.length l := by obtain ⟨nd, rfl⟩ := hnd; exact HR.out
    have HRR := Lib.hid hrr
    clear hnd hrr
    by_cases hlt : k < l.length
    · obtain ⟨ad, rfl, hb1, hc1⟩ := HRR.out.at_ hlt
      have hi0 : (0 : Int) ≤ (k : Int) := by omega
      have hi1 : (k : Int) < (l.length : Int) := by omega
      have hs1 : IntKind.i64.wrap (sy - 1) = sy - 1 := IntWalk.i64_in _ (by omega)
      cases hin : inB (geti l k) 0 (sy - 1) with
      | true =>
        have HN : Hid (∀ j, j < k + 1 → inB (geti l j) 0 (sy - 1) = true) := Lib.hid (fun j hj => by
          rcases Nat.lt_or_ge j k with h | h
          · exact H.out j h
          · obtain rfl : j = k := by omega
            exact hin)
        have HI := Lib.hid hin
        clear hin
        go_wp2_with fail
        go_quiet ((go_at_call 50; exact Calls.quiet_of_same (l00In_any _ _ _ _ |>.mono fun _ _ ⟨he, hw⟩ => ⟨he, hw.symm⟩)))
        rw [HI.out]
        clear hs1
        go_wp2_with fail
        go_roundw
        case rel => exact ⟨k + 1, by omega, by go_num, HN, drewN_more HND.out _⟩
        case measure => simp [intOf] <;> omega
      | false =>
        have HF := Lib.hid (sideB_no (allIn_no hlt hin))
        have HI := Lib.hid hin
        clear hin
        go_wp2_with fail
        go_quiet ((go_at_call 50; exact Calls.quiet_of_same (l00In_any _ _ _ _ |>.mono fun _ _ ⟨he, hw⟩ => ⟨he, hw.symm⟩)))
        rw [HI.out]
        clear hs1
        go_wp2_with fail
        go_ret
        exact ⟨ret_bool HF.out.symm, drewN_more HND.out _⟩
    · have ha : Hid (allIn l 0 (sy - 1) = true) := Lib.hid (allIn_yes (fun j hj => H.out j (by omega)))
      by_cases h2 : l.length ≤ 200
      · have e2 : (l.length : Int) ≤ 200 := by omega
        by_cases h0 : l.length = 0
        · have hb1 : l = [] := List.eq_nil_of_length_eq_zero h0
          subst hb1
          clear h0
          go_wp2
          go_ret
          exact ⟨ret_bool sideB_nil.symm, HND.out⟩
        · have hpos : 0 < l.length := by omega
          obtain ⟨ad, rfl, hb1, hc1⟩ := HRR.out.at_ (k := l.length - 1) (by omega)
          have hb0 : ((l.length : Int) == 0) = false := by simpa using h0
          have HF := Lib.hid (sideB_last ha.out h2 hpos)
          clear h0
          go_wp2
          go_ret
          exact ⟨ret_bool HF.out.symm, HND.out⟩
      · have HF : Hid (sideB sy l = false) := Lib.hid (sideB_long h2)
        have hd : decide ((l.length : Int) ≤ 200) = false := decide_eq_false (by omega)
        have hd2 : decide (l.length ≤ 200) = false := decide_eq_false h2
        go_wp2
        go_ret
        exact ⟨ret_bool HF.out.symm, HND.out⟩
theorem size_any (v : Value) (l : List Int) (w : World) (h : Sl w v l) :
    Calls Try.prog 46 #[v] w fun e w' => e = .returned (.int .i64 (l.length : Int)) ∧ w = w' := by
  obtain ⟨A, c, rfl, hlc, hcm, _⟩ := h
  unfold maxLen at hcm
  go_enter Try.func46, Try.ntmps46
  go_wp2
  go_ret
  exact ⟨rfl, rfl⟩
theorem validSide_any (v : Value) (l : List Int) (sy : Int) (w : World) (h : Sl w v l) (s1 : -1000000 ≤ sy) (s2 : sy ≤ 1000000) :
    Calls Try.prog 70 #[v, .int .i64 sy, .int .i64 200] w fun e w' => e = .returned (.bool (sideB sy l)) ∧ w = w' := by
  have HS := Lib.hid h
  obtain ⟨A, c, rfl, hlc, hcm, hr⟩ := h
  have HR := Lib.hid hr
  clear hr
  unfold maxLen at hcm
  by_cases h2 : l.length ≤ 200
  rotate_left
  · have HF : Hid (sideB sy l = false) := Lib.hid (sideB_long h2)
    have hd : decide ((l.length : Int) ≤ 200) = false := decide_eq_false (by omega)
    go_enter Try.func70, Try.ntmps70
    go_wp2_with fail
    refine (size_any _ _ _ HS.out).mono ?_
    rintro e _ ⟨rfl, rfl⟩
    go_wp2_with fail
    go_ret
    exact ⟨ret_bool HF.out.symm, rfl⟩
  have e2 : (l.length : Int) ≤ 200 := by omega
  cases ha : allIn l 0 (sy - 1) with
  | false =>
    have HF : Hid (sideB sy l = false) := Lib.hid (sideB_no ha)
    have HA := Lib.hid ha
    clear ha
    go_enter Try.func70, Try.ntmps70
    go_wp2_with fail
    refine (size_any _ _ _ HS.out).mono ?_
    rintro e _ ⟨rfl, rfl⟩
    go_wp2_with fail
    refine (allWithin_any _ _ _ _ _ HS.out).mono ?_
    rintro e _ ⟨rfl, rfl⟩
    rw [HA.out]
    go_wp2_with fail
    go_ret
    exact ⟨ret_bool HF.out.symm, rfl⟩
  | true =>
    have HA := Lib.hid ha
    by_cases h0 : l.length = 0
    · have hb1 : l = [] := List.eq_nil_of_length_eq_zero h0
      subst hb1
      clear h0 ha
      go_enter Try.func70, Try.ntmps70
      go_wp2_with fail
      refine (size_any _ _ _ HS.out).mono ?_
      rintro e _ ⟨rfl, rfl⟩
      go_wp2_with fail
      refine (allWithin_any _ _ _ _ _ HS.out).mono ?_
      rintro e _ ⟨rfl, rfl⟩
      rw [HA.out]
      go_wp2_with fail
      go_ret
      exact ⟨ret_bool sideB_nil.symm, rfl⟩
    · have hpos : 0 < l.length := by omega
      obtain ⟨ad, rfl, hb1, hc1⟩ := HR.out.at_ (k := l.length - 1) (by omega)
      have hb0 : ((l.length : Int) == 0) = false := by simpa using h0
      have HF := Lib.hid (sideB_last ha h2 hpos)
      clear h0 ha
      go_enter Try.func70, Try.ntmps70
      go_wp2_with fail
      refine (size_any _ _ _ HS.out).mono ?_
      rintro e _ ⟨rfl, rfl⟩
      go_wp2_with fail
      refine (allWithin_any _ _ _ _ _ HS.out).mono ?_
      rintro e _ ⟨rfl, rfl⟩
      rw [HA.out]
      go_wp2_with fail
      go_ret
      exact ⟨ret_bool HF.out.symm, rfl⟩
theorem cells_is {P : Program} {f : FuncId} {args : Array Value} {w : World} {x y : Bool} (e : x = y) (h : Calls P f args w fun e w' => e = .returned (.bool x) ∧ ∃ n, w' = w.drewN n) : Calls P f args w fun e w' => e = .returned (.bool y) ∧ ∃ n, w' = w.drewN n := e ▸ h
set_option maxHeartbeats 1000000 in
theorem l05Good_any (b1 b2 : Nat) (sy st s : Int) (mv va vb : Value) (l r : List Int) (w : World) (h1 : C3 w b1 (.int .i64 sy) (.int .i64 st) mv) (h2 : C3 w b2 (.int .i64 s) va vb) (ha : Sl w va l) (hb : Sl w vb r) (s1 : -1000000 ≤ sy) (s2 : sy ≤ 1000000) (s3 : -1000000 ≤ st) (s4 : st ≤ 1000000) :
    Calls Try.prog 29 #[.pointer (some ⟨b1, 0, none⟩), .pointer (some ⟨b2, 0, none⟩)] w fun e w' => e = .returned (.bool (goodB sy st s l r)) ∧ Below w.heap.size w w' := by
  have HC := Lib.hid h1
  have HS1 := Lib.hid ha
  have HS2 := Lib.hid hb
  obtain ⟨m0, m1, m2⟩ := h1
  obtain ⟨n0, n1, n2⟩ := h2
  have hs1 : IntKind.i64.wrap (st - 1) = st - 1 := IntWalk.i64_in _ (by omega)
  clear ha hb m2
  cases hi : inB s 0 (st - 1) with
  | false =>
    have HF : Hid (goodB sy st s l r = false) := Lib.hid (by unfold goodB; rw [hi]; rfl)
    have HL1 : Hid (sideB sy l = sideB sy l) := Lib.hid rfl
    have HL2 : Hid (sideB sy r = sideB sy r) := Lib.hid rfl
    go_enter Try.func29, Try.ntmps29
    go_wp2_with fail
    go_quiet (first | (go_at_call 50; exact Calls.quiet_of_same (l00In_any _ _ _ _ |>.mono fun _ _ ⟨he, hw⟩ => ⟨he, hw.symm⟩)) | (go_at_call 52; with_reducible exact Calls.quiet_of (cells_is HL1.out (l05Cells_any b1 sy _ _ _ l _ (HC.out.drewN _) (HS1.out.drewN _) s1 s2))) | (go_at_call 52; exact Calls.quiet_of (l05Cells_any b1 sy _ _ _ r _ (HC.out.drewN _) (HS2.out.drewN _) s1 s2)))
    go_wp2_with fail
    go_ret
    exact ⟨ret_bool HF.out.symm, below_drewN (Below.refl _ _) _⟩
  | true =>
    cases hl : sideB sy l with
    | false =>
      have HF : Hid (goodB sy st s l r = false) := Lib.hid (by unfold goodB; rw [hi, hl]; rfl)
      have HL1 := Lib.hid hl
      have HL2 : Hid (sideB sy r = sideB sy r) := Lib.hid rfl
      clear hl
      go_enter Try.func29, Try.ntmps29
      go_wp2_with fail
      go_quiet (first | (go_at_call 50; exact Calls.quiet_of_same (l00In_any _ _ _ _ |>.mono fun _ _ ⟨he, hw⟩ => ⟨he, hw.symm⟩)) | (go_at_call 52; with_reducible exact Calls.quiet_of (cells_is HL1.out (l05Cells_any b1 sy _ _ _ l _ (HC.out.drewN _) (HS1.out.drewN _) s1 s2))) | (go_at_call 52; exact Calls.quiet_of (l05Cells_any b1 sy _ _ _ r _ (HC.out.drewN _) (HS2.out.drewN _) s1 s2)))
      go_wp2_with fail
      go_ret
      exact ⟨ret_bool HF.out.symm, below_drewN (Below.refl _ _) _⟩
    | true =>
      have HF : Hid (goodB sy st s l r = sideB sy r) := Lib.hid (by unfold goodB; rw [hi, hl]; rfl)
      have HL1 := Lib.hid hl
      have HL2 : Hid (sideB sy r = sideB sy r) := Lib.hid rfl
      clear hl
      go_enter Try.func29, Try.ntmps29
      go_wp2_with fail
      go_quiet (first | (go_at_call 50; exact Calls.quiet_of_same (l00In_any _ _ _ _ |>.mono fun _ _ ⟨he, hw⟩ => ⟨he, hw.symm⟩)) | (go_at_call 52; with_reducible exact Calls.quiet_of (cells_is HL1.out (l05Cells_any b1 sy _ _ _ l _ (HC.out.drewN _) (HS1.out.drewN _) s1 s2))) | (go_at_call 52; exact Calls.quiet_of (l05Cells_any b1 sy _ _ _ r _ (HC.out.drewN _) (HS2.out.drewN _) s1 s2)))
      go_wp2_with fail
      go_ret
      exact ⟨ret_bool HF.out.symm, below_drewN (Below.refl _ _) _⟩
set_option maxHeartbeats 1000000 in
theorem configOf_any (sy st s : Int) (mv va vb : Value) (l r : List Int) (w : World) (ha : Sl w va l) (hb : Sl w vb r) (s1 : -1000000 ≤ sy) (s2 : sy ≤ 1000000) (s3 : -1000000 ≤ st) (s4 : st ≤ 1000000) :
    Calls Try.prog 56 #[.agg #[.int .i64 sy, .int .i64 st, mv], .agg #[.int .i64 s, va, vb]] w fun e w' => e = .returned (.bool (goodB sy st s l r)) ∧ Below w.heap.size w w' := by
  have HS1 := Lib.hid ha
  have HS2 := Lib.hid hb
  obtain ⟨A1, c1, rfl, _, _, hr1⟩ := ha
  obtain ⟨A2, c2, rfl, _, _, hr2⟩ := hb
  clear hr1 hr2
  cases hi : inB s 0 (st - 1) with
  | false =>
    have HF : Hid (goodB sy st s l r = false) := Lib.hid (by unfold goodB; rw [hi]; rfl)
    have HI := Lib.hid hi
    clear hi
    go_enter Try.func56, Try.ntmps56
    go_wp2_with fail
    refine (within_any _ _ _ _).mono ?_
    rintro e _ ⟨rfl, rfl⟩
    rw [HI.out]
    go_wp2_with fail
    go_ret
    exact ⟨ret_bool HF.out.symm, below_two _ _ _⟩
  | true =>
    have HI := Lib.hid hi
    cases hl : sideB sy l with
    | false =>
      have HF : Hid (goodB sy st s l r = false) := Lib.hid (by unfold goodB; rw [hi, hl]; rfl)
      have HL := Lib.hid hl
      clear hl hi
      go_enter Try.func56, Try.ntmps56
      go_wp2_with fail
      refine (within_any _ _ _ _).mono ?_
      rintro e _ ⟨rfl, rfl⟩
      rw [HI.out]
      go_wp2_with fail
      refine (validSide_any _ l sy _ (HS1.out.next (below_two _ _ _)) s1 s2).mono ?_
      rintro e _ ⟨rfl, rfl⟩
      rw [HL.out]
      go_wp2_with fail
      go_ret
      exact ⟨ret_bool HF.out.symm, below_two _ _ _⟩
    | true =>
      have HF : Hid (goodB sy st s l r = sideB sy r) := Lib.hid (by unfold goodB; rw [hi, hl]; rfl)
      have HL := Lib.hid hl
      clear hl hi
      go_enter Try.func56, Try.ntmps56
      go_wp2_with fail
      refine (within_any _ _ _ _).mono ?_
      rintro e _ ⟨rfl, rfl⟩
      rw [HI.out]
      go_wp2_with fail
      refine (validSide_any _ l sy _ (HS1.out.next (below_two _ _ _)) s1 s2).mono ?_
      rintro e _ ⟨rfl, rfl⟩
      rw [HL.out]
      go_wp2_with fail
      refine (validSide_any _ r sy _ (HS2.out.next (below_two _ _ _)) s1 s2).mono ?_
      rintro e _ ⟨rfl, rfl⟩
      go_wp2_with fail
      go_ret
      exact ⟨ret_bool HF.out.symm, below_two _ _ _⟩
/-- What ValidConfig answers. -/
def vconfB (sy st : Int) (ml : List Int) (s : Int) (l r : List Int) : Bool := validB sy st ml && goodB sy st s l r
set_option maxHeartbeats 1000000 in
theorem implValidConfig_any (sy st s : Int) (mv va vb : Value) (ml l r : List Int) (w : World) (hm : Sl3 w mv ml) (ha : Sl w va l) (hb : Sl w vb r) :
    Calls Try.prog 34 #[.agg #[.int .i64 sy, .int .i64 st, mv], .agg #[.int .i64 s, va, vb]] w fun e w' => e = .returned (.bool (vconfB sy st ml s l r)) ∧ Below w.heap.size w w' := by
  have HM := Lib.hid hm
  have HA := Lib.hid ha
  have HB := Lib.hid hb
  obtain ⟨A0, n0, c0, rfl, _, _, hr0⟩ := hm
  obtain ⟨A1, c1, rfl, _, _, hr1⟩ := ha
  obtain ⟨A2, c2, rfl, _, _, hr2⟩ := hb
  clear hr0 hr1 hr2
  cases hv : validB sy st ml with
  | false =>
    have HF : Hid (vconfB sy st ml s l r = false) := Lib.hid (by unfold vconfB; rw [hv]; rfl)
    have HV := Lib.hid hv
    clear hv
    go_enter Try.func34, Try.ntmps34
    go_wp2_with fail
    refine (implValidMachine_any sy st _ ml _ (HM.out.next (below_two _ _ _))).mono ?_
    rintro e w1 ⟨rfl, hb⟩
    rw [HV.out]
    go_wp2_with fail
    go_ret
    exact ⟨ret_bool HF.out.symm, (below_two w _ _).trans (hb.mono (by simp; omega))⟩
  | true =>
    obtain ⟨⟨s1, s2⟩, ⟨s3, s4⟩, _, _⟩ := validB_true hv
    have HF : Hid (vconfB sy st ml s l r = goodB sy st s l r) := Lib.hid (by unfold vconfB; rw [hv]; rfl)
    have HV := Lib.hid hv
    clear hv
    go_enter Try.func34, Try.ntmps34
    go_wp2_with fail
    refine (implValidMachine_any sy st _ ml _ (HM.out.next (below_two _ _ _))).mono ?_
    rintro e w1 ⟨rfl, hb⟩
    rw [HV.out]
    have hB1 := (below_two w _ _).trans (hb.mono (by simp; omega))
    have hh := heap_two hb
    obtain ⟨m0, m1, m2, _, _, _⟩ := Box.of hh.1
    obtain ⟨n0, n1, n2, _, _, _⟩ := Box.of hh.2
    clear hh
    go_wp2_with fail
    refine (configOf_any sy st s _ _ _ l r _ (HA.out.next hB1) (HB.out.next hB1) (by omega) (by omega) (by omega) (by omega)).mono ?_
    rintro e w2 ⟨rfl, hb2⟩
    clear m0 m1 m2 n0 n1 n2
    go_wp2_with fail
    go_ret
    exact ⟨ret_bool HF.out.symm, below_next hB1 hb2⟩
end Go.Proofs.Ytbjkhnajnbmnlaa
