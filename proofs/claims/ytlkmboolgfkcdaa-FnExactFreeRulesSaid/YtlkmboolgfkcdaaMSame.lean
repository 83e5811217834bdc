/- SameMachine: contracts of l05Same and slices.Equal at rules, and what the law needs. No condition. -/
import Derived.Test.YtlkmboolgfkcdaaMValid
namespace Go.Proofs.Ytlkmboolgfkcdaa
open Go.RowKit
/-- The rules at k are the same. -/
def same3 (l1 l2 : List Int) (k : Nat) : Bool := decide (geti l1 (k * 3) = geti l2 (k * 3) ∧ geti l1 (k * 3 + 1) = geti l2 (k * 3 + 1) ∧ geti l1 (k * 3 + 2) = geti l2 (k * 3 + 2))
theorem same3_step {l1 l2 : List Int} {k : Nat} (h1 : k * 3 + 2 < l1.length) (h2 : k * 3 + 2 < l2.length) (h : l1.take (k * 3) = l2.take (k * 3)) (hs : same3 l1 l2 k = true) : l1.take ((k + 1) * 3) = l2.take ((k + 1) * 3) := by
  have he := of_decide_eq_true hs
  rw [take_three h1, take_three h2, h, he.1, he.2.1, he.2.2]
theorem same3_no {l1 l2 : List Int} {k : Nat} (hs : same3 l1 l2 k = false) : ¬ l1 = l2 := by
  intro e
  have he := of_decide_eq_false hs
  exact he (by rw [e]; exact ⟨rfl, rfl, rfl⟩)
set_option maxHeartbeats 1000000 in
theorem equalR_q (v1 v2 : Value) (l1 l2 : List Int) (w : World) (h1 : Sl3 w v1 l1) (h2 : Sl3 w v2 l2) :
    Calls Try.prog 51 #[v1, v2] w fun e w' => e = .returned (.bool (decide (l1 = l2))) ∧ Below w.heap.size w w' := by
  obtain ⟨A1, n1, c1, rfl, hlc1, hcm1, hr1⟩ := h1
  obtain ⟨A2, n2, c2, rfl, hlc2, hcm2, hr2⟩ := h2
  have HL1 := Lib.hid hr1.1
  have HL2 := Lib.hid hr2.1
  have HR1 := Lib.hid hr1
  have HR2 := Lib.hid hr2
  clear hr1 hr2
  unfold maxLen at hcm1 hcm2
  by_cases hl : n1 = n2
  · subst hl
    have hlb : ((n1 : Int) != (n1 : Int)) = false := by simp
    have hlb2 : (n1 != n1) = false := by simp
    go_enter Try.func51, Try.ntmps51
    go_wp2
    go_loopw [13] (fun i wr => ∃ k : Nat, k ≤ n1 ∧ i = .int .i64 k ∧ Hid (l1.take (k * 3) = l2.take (k * 3)) ∧ Below w.heap.size w wr) (fun i _ => n1 - (intOf i).toNat)
    case atStart => exact ⟨0, Nat.zero_le _, rfl, rfl, Below.refl _ _⟩
    case round =>
      obtain ⟨k, hk, rfl, HK, hb⟩ := hrel
      by_cases hlt : k < n1
      · obtain ⟨a1, rfl, hb1, p0, p1, p2⟩ := HR1.out.three (w' := wr) (fun p hp => hb.cell hp) hlt
        obtain ⟨a2, rfl, hb2, q0, q1, q2⟩ := HR2.out.three (w' := wr) (fun p hp => hb.cell hp) hlt
        have hi0 : (0 : Int) ≤ (k : Int) := by omega
        have hi1 : (k : Int) < (n1 : Int) := by omega
        cases hs : same3 l1 l2 k with
        | true =>
          have HN := Lib.hid (same3_step (by have := HL1.out; omega) (by have := HL2.out; omega) HK.out hs)
          have hq : ∀ w : World, (Op.equalIn 10000 45 (.agg #[.int .i64 (geti l1 (k * 3)), .int .i64 (geti l1 (k * 3 + 1)), .int .i64 (geti l1 (k * 3 + 2))]) (.agg #[.int .i64 (geti l2 (k * 3)), .int .i64 (geti l2 (k * 3 + 1)), .int .i64 (geti l2 (k * 3 + 2))])).run Try.prog w = .ok true w := fun w => by rw [← hs]; exact equal_rule w _ _ _ _ _ _
          clear hs
          go_wp2
          go_quiet (fail)
          go_wp2
          go_roundw
          case rel => exact ⟨k + 1, by omega, by go_num, HN, by first | exact hb | exact hb.drew | exact below_drewN hb _⟩
          case measure => simp [intOf] <;> omega
        | false =>
          have HN := Lib.hid (same3_no hs)
          have hq : ∀ w : World, (Op.equalIn 10000 45 (.agg #[.int .i64 (geti l1 (k * 3)), .int .i64 (geti l1 (k * 3 + 1)), .int .i64 (geti l1 (k * 3 + 2))]) (.agg #[.int .i64 (geti l2 (k * 3)), .int .i64 (geti l2 (k * 3 + 1)), .int .i64 (geti l2 (k * 3 + 2))])).run Try.prog w = .ok false w := fun w => by rw [← hs]; exact equal_rule w _ _ _ _ _ _
          clear hs
          go_wp2
          go_quiet (fail)
          go_wp2
          go_ret
          exact ⟨ret_bool (decide_eq_false HN.out).symm, by first | exact hb | exact hb.drew | exact below_drewN hb _⟩
      · have HN : Hid (l1 = l2) := Lib.hid (by
          have := HK.out
          have e1 := HL1.out
          have e2 := HL2.out
          rw [List.take_of_length_le (by omega), List.take_of_length_le (by omega)] at this
          exact this)
        go_wp2
        go_ret
        exact ⟨ret_bool (decide_eq_true HN.out).symm, hb⟩
  · have hlb : ((n1 : Int) != (n2 : Int)) = true := by simp; omega
    have hlb2 : (n1 != n2) = true := by simpa using hl
    have HN : Hid (¬ l1 = l2) := Lib.hid (fun e => by have e1 := HL1.out; have e2 := HL2.out; rw [e] at e1; omega)
    clear hl
    go_enter Try.func51, Try.ntmps51
    go_wp2
    go_ret
    exact ⟨ret_bool (decide_eq_false HN.out).symm, Below.refl _ _⟩
theorem implSameMachine_any (sy st sy' st' : Int) (v1 v2 : Value) (l1 l2 : List Int) (w : World) (h1 : Sl3 w v1 l1) (h2 : Sl3 w v2 l2) :
    Calls Try.prog 16 #[.agg #[.int .i64 sy, .int .i64 st, v1], .agg #[.int .i64 sy', .int .i64 st', v2]] w fun e w' => e = .returned (.bool (decide (sy = sy' ∧ st = st' ∧ l1 = l2))) ∧ Below w.heap.size w w' := by
  have HS1 := Lib.hid h1
  have HS2 := Lib.hid h2
  obtain ⟨A1, n1, c1, rfl, _, _, hr1⟩ := h1
  obtain ⟨A2, n2, c2, rfl, _, _, hr2⟩ := h2
  clear hr1 hr2
  by_cases h1 : sy = sy'
  · have e1 : (sy == sy') = true := by simpa using h1
    by_cases h2 : st = st'
    · have e2 : (st == st') = true := by simpa using h2
      have HF : Hid (decide (sy = sy' ∧ st = st' ∧ l1 = l2) = decide (l1 = l2)) := Lib.hid (by simp [h1, h2])
      clear h1 h2
      go_enter Try.func16, Try.ntmps16
      go_wp2_with fail
      refine (equalR_q _ _ l1 l2 _ (HS1.out.next (below_two _ _ _)) (HS2.out.next (below_two _ _ _))).mono ?_
      rintro e w1 ⟨rfl, hb⟩
      go_wp2_with fail
      go_ret
      exact ⟨ret_bool HF.out.symm, (below_two w _ _).trans (hb.mono (by simp; omega))⟩
    · have e2 : (st == st') = false := by simpa using h2
      have HF : Hid (decide (sy = sy' ∧ st = st' ∧ l1 = l2) = false) := Lib.hid (decide_eq_false (fun h => h2 h.2.1))
      clear h1 h2
      go_enter Try.func16, Try.ntmps16
      go_wp2
      go_ret
      exact ⟨ret_bool HF.out.symm, below_two _ _ _⟩
  · have e1 : (sy == sy') = false := by simpa using h1
    have HF : Hid (decide (sy = sy' ∧ st = st' ∧ l1 = l2) = false) := Lib.hid (decide_eq_false (fun h => h1 h.1))
    clear h1
    go_enter Try.func16, Try.ntmps16
    go_wp2
    go_ret
    exact ⟨ret_bool HF.out.symm, below_two _ _ _⟩
set_option maxHeartbeats 1000000 in
theorem l05Same_any (b1 b2 : Nat) (sy st sy' st' : Int) (v1 v2 : Value) (l1 l2 : List Int) (w : World) (g1 : C3 w b1 (.int .i64 sy) (.int .i64 st) v1) (g2 : C3 w b2 (.int .i64 sy') (.int .i64 st') v2) (h1 : Sl3 w v1 l1) (h2 : Sl3 w v2 l2) :
    Calls Try.prog 49 #[.pointer (some ⟨b1, 0, none⟩), .pointer (some ⟨b2, 0, none⟩)] w fun e w' => e = .returned (.bool (decide (sy = sy' ∧ st = st' ∧ l1 = l2))) ∧ Below w.heap.size w w' := by
  obtain ⟨A1, n1, c1, rfl, hlc1, hcm1, hr1⟩ := h1
  obtain ⟨A2, n2, c2, rfl, hlc2, hcm2, hr2⟩ := h2
  have HL1 := Lib.hid hr1.1
  have HL2 := Lib.hid hr2.1
  have HR1 := Lib.hid hr1
  have HR2 := Lib.hid hr2
  have HC1 := Lib.hid g1
  have HC2 := Lib.hid g2
  obtain ⟨a0, a1, a2⟩ := g1
  obtain ⟨d0, d1, d2⟩ := g2
  clear hr1 hr2
  unfold maxLen at hcm1 hcm2
  by_cases q1 : sy = sy'
  rotate_left
  · have e1 : (sy != sy') = true := by simp [q1]
    have HF : Hid (decide (sy = sy' ∧ st = st' ∧ l1 = l2) = false) := Lib.hid (decide_eq_false (fun h => q1 h.1))
    clear q1
    go_enter Try.func49, Try.ntmps49
    go_wp2
    go_quiet (fail)
    go_wp2
    go_ret
    exact ⟨ret_bool HF.out.symm, below_drewN (Below.refl _ _) _⟩
  have e1 : (sy != sy') = false := by simp [q1]
  by_cases q2 : st = st'
  rotate_left
  · have e2 : (st != st') = true := by simp [q2]
    have HF : Hid (decide (sy = sy' ∧ st = st' ∧ l1 = l2) = false) := Lib.hid (decide_eq_false (fun h => q2 h.2.1))
    clear q1 q2
    go_enter Try.func49, Try.ntmps49
    go_wp2
    go_quiet (fail)
    go_wp2
    go_ret
    exact ⟨ret_bool HF.out.symm, below_drewN (Below.refl _ _) _⟩
  have e2 : (st != st') = false := by simp [q2]
  have HD : Hid (decide (sy = sy' ∧ st = st' ∧ l1 = l2) = decide (l1 = l2)) := Lib.hid (by simp [q1, q2])
  clear q1 q2
  by_cases hl : n1 = n2
  rotate_left
  · have hlb : ((n1 : Int) != (n2 : Int)) = true := by simp; omega
    have hlb2 : (n1 != n2) = true := by simpa using hl
    have HN : Hid (¬ l1 = l2) := Lib.hid (fun e => by have e1 := HL1.out; have e2 := HL2.out; rw [e] at e1; omega)
    clear hl
    go_enter Try.func49, Try.ntmps49
    go_wp2
    go_quiet (fail)
    go_wp2
    go_ret
    exact ⟨ret_bool (by rw [HD.out]; exact (decide_eq_false HN.out).symm), below_drewN (Below.refl _ _) _⟩
  subst hl
  have hlb : ((n1 : Int) != (n1 : Int)) = false := by simp
  have hlb2 : (n1 != n1) = false := by simp
  go_enter Try.func49, Try.ntmps49
  go_wp2
  go_quiet (fail)
  go_wp2
  clear a0 a1 a2 d0 d1 d2 e1 e2
  go_loopw [5] (fun i wr => ∃ k : Nat, k ≤ n1 ∧ i = .int .i64 k ∧ Hid (l1.take (k * 3) = l2.take (k * 3)) ∧ Below w.heap.size w wr) (fun i _ => n1 - (intOf i).toNat)
  case atStart => exact ⟨0, Nat.zero_le _, rfl, rfl, below_drewN (Below.refl _ _) _⟩
  case round =>
    obtain ⟨k, hk, rfl, HK, hb⟩ := hrel
    obtain ⟨a0, a1, a2⟩ := HC1.out.next hb
    obtain ⟨d0, d1, d2⟩ := HC2.out.next hb
    by_cases hlt : k < n1
    · obtain ⟨a1, rfl, hb1, p0, p1, p2⟩ := HR1.out.three (w' := wr) (fun p hp => hb.cell hp) hlt
      obtain ⟨a2, rfl, hb2, q0, q1, q2⟩ := HR2.out.three (w' := wr) (fun p hp => hb.cell hp) hlt
      have hi0 : (0 : Int) ≤ (k : Int) := by omega
      have hi1 : (k : Int) < (n1 : Int) := by omega
      cases hs : same3 l1 l2 k with
      | true =>
        have HN := Lib.hid (same3_step (by have := HL1.out; omega) (by have := HL2.out; omega) HK.out hs)
        have hq : ∀ w : World, (Op.equalIn 10000 45 (.agg #[.int .i64 (geti l1 (k * 3)), .int .i64 (geti l1 (k * 3 + 1)), .int .i64 (geti l1 (k * 3 + 2))]) (.agg #[.int .i64 (geti l2 (k * 3)), .int .i64 (geti l2 (k * 3 + 1)), .int .i64 (geti l2 (k * 3 + 2))])).run Try.prog w = .ok true w := fun w => by rw [← hs]; exact equal_rule w _ _ _ _ _ _
        clear hs
        go_wp2
        go_quiet (fail)
        go_wp2
        go_roundw
        case rel => exact ⟨k + 1, by omega, by go_num, HN, by first | exact hb | exact hb.drew | exact below_drewN hb _⟩
        case measure => simp [intOf] <;> omega
      | false =>
        have HN := Lib.hid (same3_no hs)
        have hq : ∀ w : World, (Op.equalIn 10000 45 (.agg #[.int .i64 (geti l1 (k * 3)), .int .i64 (geti l1 (k * 3 + 1)), .int .i64 (geti l1 (k * 3 + 2))]) (.agg #[.int .i64 (geti l2 (k * 3)), .int .i64 (geti l2 (k * 3 + 1)), .int .i64 (geti l2 (k * 3 + 2))])).run Try.prog w = .ok false w := fun w => by rw [← hs]; exact equal_rule w _ _ _ _ _ _
        clear hs
        go_wp2
        go_quiet (fail)
        go_wp2
        go_ret
        exact ⟨ret_bool (by rw [HD.out]; exact (decide_eq_false HN.out).symm), by first | exact hb | exact hb.drew | exact below_drewN hb _⟩
    · have HN : Hid (l1 = l2) := Lib.hid (by
        have := HK.out
        have e1 := HL1.out
        have e2 := HL2.out
        rw [List.take_of_length_le (by omega), List.take_of_length_le (by omega)] at this
        exact this)
      go_wp2
      go_ret
      exact ⟨ret_bool (by rw [HD.out]; exact (decide_eq_true HN.out).symm), hb⟩
theorem specSameMachine_any (sy st sy' st' : Int) (v1 v2 : Value) (l1 l2 : List Int) (w : World) (h1 : Sl3 w v1 l1) (h2 : Sl3 w v2 l2) :
    Calls Try.prog 14 #[.agg #[.int .i64 sy, .int .i64 st, v1], .agg #[.int .i64 sy', .int .i64 st', v2]] w fun e w' => e = .returned (.bool (decide (sy = sy' ∧ st = st' ∧ l1 = l2))) ∧ Below w.heap.size w w' := by
  have HS1 := Lib.hid h1
  have HS2 := Lib.hid h2
  clear h1 h2
  have HC1 := Lib.hid (C3.next (C3.made w (.int .i64 sy) (.int .i64 st) v1 29) (below_one _ (.cells #[.int .i64 sy', .int .i64 st', v2] 29)))
  have HC2 := Lib.hid (C3.made (w.alloc (.cells #[.int .i64 sy, .int .i64 st, v1] 29)) (.int .i64 sy') (.int .i64 st') v2 29)
  simp only [World.size_alloc] at HC2
  go_enter Try.func14, Try.ntmps14
  go_wp2_with fail
  refine (l05Same_any _ _ _ _ _ _ _ _ l1 l2 _ HC1.out HC2.out (HS1.out.next (below_two _ _ _)) (HS2.out.next (below_two _ _ _))).mono ?_
  rintro e w1 ⟨rfl, hb⟩
  go_wp2_with fail
  go_ret
  exact ⟨ret_bool (by simp), (below_two w _ _).trans (hb.mono (by simp; omega))⟩
theorem bothSameMachine (sy st : Int) (l : List Int) (sy' st' : Int) (l' : List Int) (_h : Fit l ∧ l.length ≤ 3145728 ∧ (-9223372036854775808 ≤ sy ∧ sy ≤ 9223372036854775807) ∧ (-9223372036854775808 ≤ st ∧ st ≤ 9223372036854775807))
    (_h' : Fit l' ∧ l'.length ≤ 3145728 ∧ (-9223372036854775808 ≤ sy' ∧ sy' ≤ 9223372036854775807) ∧ (-9223372036854775808 ≤ st' ∧ st' ≤ 9223372036854775807)) : ∃ R : Bool,
    (∀ (w : World) (rv rv' : Value), Sl3 w rv l → Sl3 w rv' l' → Calls Try.prog 14 #[.agg #[.int .i64 sy, .int .i64 st, rv], .agg #[.int .i64 sy', .int .i64 st', rv']] w fun e w' => e = .returned (.bool R) ∧ Below w.heap.size w w') ∧
    (∀ (w : World) (rv rv' : Value), Sl3 w rv l → Sl3 w rv' l' → Calls Try.prog 16 #[.agg #[.int .i64 sy, .int .i64 st, rv], .agg #[.int .i64 sy', .int .i64 st', rv']] w fun e w' => e = .returned (.bool R) ∧ Below w.heap.size w w') :=
  ⟨_, fun w rv rv' h h' => specSameMachine_any _ _ _ _ rv rv' _ _ w h h', fun w rv rv' h h' => implSameMachine_any _ _ _ _ rv rv' _ _ w h h'⟩
end Go.Proofs.Ytlkmboolgfkcdaa
