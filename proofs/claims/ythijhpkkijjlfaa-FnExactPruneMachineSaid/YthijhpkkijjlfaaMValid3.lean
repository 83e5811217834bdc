/- ValidMachine of the program, and what the law needs. No condition beyond the stated bounds. -/
import Derived.Test.YthijhpkkijjlfaaMValid2
namespace Go.Proofs.Ythijhpkkijjlfaa
open Go.RowKit
theorem C3.drewN {w : World} {b : Nat} {x y z : Value} (h : C3 w b x y z) (n : Nat) : C3 (w.drewN n) b x y z := h
theorem sizeR_any (A : Option Addr) (n c : Nat) (w : World) (_hnc : n ≤ c) (hcm : c ≤ maxLen) :
    Calls Try.prog 33 #[.slice A n c] w fun e w' => e = .returned (.int .i64 (n : Int)) ∧ w = w' := by
  unfold maxLen at hcm
  go_enter Try.func33, Try.ntmps33
  go_wp2
  go_ret
  exact ⟨rfl, rfl⟩
theorem validClo_any (b : Nat) (sy st x y z : Int) (rv : Value) (w : World) (h : C3 w b (.int .i64 sy) (.int .i64 st) rv) (h1 : -1000000 ≤ sy ∧ sy ≤ 1000000) (h2 : -1000000 ≤ st ∧ st ≤ 1000000) :
    Calls Try.prog 35 #[.agg #[.int .i64 x, .int .i64 y, .int .i64 z], .pointer (some ⟨b, 0, none⟩)] w fun e w' => e = .returned (.bool (!ruleB sy st x y z)) ∧ Below w.heap.size w w' := by
  have hlt : b < w.heap.size := cell_lt h.1
  have hne : ¬ b = w.heap.size := by omega
  obtain ⟨c0, c1, c2⟩ := C3.next h (below_one w (.cells #[.int .i64 x, .int .i64 y, .int .i64 z] 42))
  go_enter Try.func35, Try.ntmps35
  go_wp2_with fail
  refine (validRule_any _ _ _ _ _ _ _ h1 h2).mono ?_
  rintro e w1 ⟨rfl, hb⟩
  go_wp2_with fail
  go_ret
  exact ⟨rfl, below_next (below_one _ _) hb⟩
/-- What IndexFunc answers at rules. -/
def IdxM (b : Bool) (w : World) (e : Ending) (w' : World) : Prop := ∃ n : Int, e = .returned (.int .i64 n) ∧ (0 ≤ n ↔ b = false) ∧ -1 ≤ n ∧ Below w.heap.size w w'
set_option maxHeartbeats 1000000 in
theorem validIndex_any (b : Nat) (sy st : Int) (rv : Value) (A : Option Addr) (n c : Nat) (l : List Int) (w : World) (h : C3 w b (.int .i64 sy) (.int .i64 st) rv) (hr : Ints w w.heap.size A (n * 3) l) (hcm : c ≤ maxLen) (hnc : n ≤ c) (h1 : -1000000 ≤ sy ∧ sy ≤ 1000000) (h2 : -1000000 ≤ st ∧ st ≤ 1000000) :
    Calls Try.prog 43 #[.slice A n c, .func (.func 35) #[] #[.pointer (some ⟨b, 0, none⟩)]] w (IdxM (rulesB sy st l n) w) := by
  have HC := Lib.hid h
  have HR := Lib.hid hr
  unfold maxLen at hcm
  clear h hr
  go_enter Try.func43, Try.ntmps43
  go_wp2_with fail
  go_loopw [8] (fun i wr => ∃ k : Nat, k ≤ n ∧ i = .int .i64 k ∧ Hid (∀ j, j < k → ruleAt sy st l j = true) ∧ Below w.heap.size w wr) (fun i _ => n - (intOf i).toNat)
  case atStart => exact ⟨0, Nat.zero_le _, rfl, (fun j hj => by omega), Below.refl _ _⟩
  case round =>
    obtain ⟨k, hk, rfl, H, hB⟩ := hrel
    by_cases hlt : k < n
    · obtain ⟨ad, rfl, hbk, p0, p1, p2⟩ := HR.out.three (w' := wr) (fun p hp => hB.cell hp) hlt
      cases hru : ruleAt sy st l k with
      | true =>
        have HN : Hid (∀ j, j < k + 1 → ruleAt sy st l j = true) := Lib.hid (fun j hj => by
          rcases Nat.lt_or_ge j k with h | h
          · exact H.out j h
          · obtain rfl : j = k := by omega
            exact hru)
        have HR2 : Hid (ruleB sy st (geti l (k * 3)) (geti l (k * 3 + 1)) (geti l (k * 3 + 2)) = true) := Lib.hid hru
        clear hru
        go_wp2_with fail
        refine (validClo_any b sy st _ _ _ rv _ (HC.out.next hB) h1 h2).mono ?_
        rintro e w1 ⟨rfl, hb1⟩
        have hB1 := below_next hB hb1
        rw [HR2.out]
        clear p0 p1 p2
        go_wp2_with fail
        go_roundw
        case rel => exact ⟨k + 1, by omega, by go_num, HN, hB1⟩
        case measure => simp [intOf] <;> omega
      | false =>
        have HF := Lib.hid (rulesB_no hlt hru)
        have HR2 : Hid (ruleB sy st (geti l (k * 3)) (geti l (k * 3 + 1)) (geti l (k * 3 + 2)) = false) := Lib.hid hru
        clear hru
        go_wp2_with fail
        refine (validClo_any b sy st _ _ _ rv _ (HC.out.next hB) h1 h2).mono ?_
        rintro e w1 ⟨rfl, hb1⟩
        have hB1 := below_next hB hb1
        rw [HR2.out]
        clear p0 p1 p2
        go_wp2_with fail
        go_ret
        exact ⟨_, rfl, ⟨fun _ => HF.out, fun _ => by omega⟩, by omega, hB1⟩
    · have HF : Hid (rulesB sy st l n = true) := Lib.hid (rulesB_yes (fun j hj => H.out j (by omega)))
      go_wp2_with fail
      go_ret
      exact ⟨_, rfl, ⟨fun h => by omega, fun h => by rw [HF.out] at h; cases h⟩, by omega, hB⟩
set_option maxHeartbeats 1000000 in
theorem implValidMachine_bad (sy st : Int) (A : Option Addr) (n c : Nat) (w : World) (hc : c ≤ maxLen) (hnc : n ≤ c)
    (hf : inB sy 2 6 = false ∨ (inB sy 2 6 = true ∧ inB st 1 1000 = false) ∨ (inB sy 2 6 = true ∧ inB st 1 1000 = true ∧ ¬ (n : Int) = sy * st)) :
    Calls Try.prog 19 #[.agg #[.int .i64 sy, .int .i64 st, .slice A n c]] w fun e w' => e = .returned (.bool false) ∧ Below w.heap.size w w' := by
  have hc2 := hc
  rcases hf with h1 | ⟨h1, h2⟩ | ⟨h1, h2, h3⟩
  · go_enter Try.func19, Try.ntmps19
    go_wp2_with fail
    go_quiet (first | (go_at_call 32; exact Calls.quiet_of_same (within_any _ _ _ _ |>.mono fun _ _ ⟨he, hw⟩ => ⟨he, hw.symm⟩)) | (go_at_call 33; exact Calls.quiet_of_same (sizeR_any _ _ _ _ hnc hc2 |>.mono fun _ _ ⟨he, hw⟩ => ⟨he, hw.symm⟩)))
    go_wp2
    go_ret
    exact ⟨rfl, below_drewN (below_one _ _) _⟩
  · go_enter Try.func19, Try.ntmps19
    go_wp2_with fail
    go_quiet (first | (go_at_call 32; exact Calls.quiet_of_same (within_any _ _ _ _ |>.mono fun _ _ ⟨he, hw⟩ => ⟨he, hw.symm⟩)) | (go_at_call 33; exact Calls.quiet_of_same (sizeR_any _ _ _ _ hnc hc2 |>.mono fun _ _ ⟨he, hw⟩ => ⟨he, hw.symm⟩)))
    go_wp2
    go_ret
    exact ⟨rfl, below_drewN (below_one _ _) _⟩
  · have hp := prod_ms (inB_true.1 h1) (inB_true.1 h2)
    rw [Int.mul_comm] at hp h3
    have p0 := hp.1
    have p1 := hp.2
    have e1 : ((n : Int) != st * sy) = true := by simpa using h3
    unfold maxLen at hc
    clear hp h3
    go_enter Try.func19, Try.ntmps19
    go_wp2_with fail
    go_quiet (first | (go_at_call 32; exact Calls.quiet_of_same (within_any _ _ _ _ |>.mono fun _ _ ⟨he, hw⟩ => ⟨he, hw.symm⟩)) | (go_at_call 33; exact Calls.quiet_of_same (sizeR_any _ _ _ _ hnc hc2 |>.mono fun _ _ ⟨he, hw⟩ => ⟨he, hw.symm⟩)))
    go_wp2
    go_ret
    exact ⟨rfl, below_drewN (below_one _ _) _⟩
set_option maxHeartbeats 1000000 in
theorem implValidMachine_good (sy st : Int) (A : Option Addr) (n c : Nat) (l : List Int) (w : World) (hr : Ints w w.heap.size A (n * 3) l) (hc : c ≤ maxLen) (hnc : n ≤ c)
    (h1 : inB sy 2 6 = true) (h2 : inB st 1 1000 = true) (h3 : (n : Int) = sy * st) :
    Calls Try.prog 19 #[.agg #[.int .i64 sy, .int .i64 st, .slice A n c]] w fun e w' => e = .returned (.bool (rulesB sy st l n)) ∧ Below w.heap.size w w' := by
  have hc2 := hc
  have HR := Lib.hid hr
  have hp := prod_ms (inB_true.1 h1) (inB_true.1 h2)
  rw [Int.mul_comm] at hp h3
  have p0 := hp.1
  have p1 := hp.2
  have e1 : ((n : Int) != st * sy) = false := by simpa using h3
  obtain ⟨s1, s2⟩ := inB_true.1 h1
  obtain ⟨s3, s4⟩ := inB_true.1 h2
  unfold maxLen at hc
  clear hp h3 hr
  go_enter Try.func19, Try.ntmps19
  go_wp2_with fail
  go_quiet (first | (go_at_call 32; exact Calls.quiet_of_same (within_any _ _ _ _ |>.mono fun _ _ ⟨he, hw⟩ => ⟨he, hw.symm⟩)) | (go_at_call 33; exact Calls.quiet_of_same (sizeR_any _ _ _ _ hnc hc2 |>.mono fun _ _ ⟨he, hw⟩ => ⟨he, hw.symm⟩)))
  clear e1 p0 p1
  go_wp2_with (first
    | (go_at_call 43; refine (validIndex_any w.heap.size sy st (.slice A n c) A n c l _ (C3.drewN (C3.made w _ _ _ _) _) (HR.out.next (below_drewN (below_one w _) _) (by simp)) hc2 hnc (by omega) (by omega)).mono ?_; rintro e w1 ⟨n2, rfl, hn1, hn2, hb⟩; have HN := Lib.hid hn1; clear hn1)
    | (go_at_call 34; go_in))
  go_ret
  refine ⟨ret_bool ?_, below_next (below_drewN (below_one w _) _) hb⟩
  have hn := HN.out
  cases hbb : rulesB sy st l n with
  | true =>
    have : ¬ 0 ≤ n2 := fun h => by have := hn.1 h; rw [hbb] at this; cases this
    simp [this]
  | false =>
    have : 0 ≤ n2 := hn.2 hbb
    simp [this]
theorem implValidMachine_any (sy st : Int) (rv : Value) (l : List Int) (w : World) (hr : Sl3 w rv l) :
    Calls Try.prog 19 #[.agg #[.int .i64 sy, .int .i64 st, rv]] w fun e w' => e = .returned (.bool (validB sy st l)) ∧ Below w.heap.size w w' := by
  obtain ⟨A, n, c, rfl, hnc, hcm, hr⟩ := hr
  have hl := hr.1
  have hdiv : l.length / 3 = n := by omega
  cases h1 : inB sy 2 6 with
  | false =>
    have e : validB sy st l = false := by unfold validB; rw [h1]; rfl
    rw [e]
    exact implValidMachine_bad sy st A n c w hcm hnc (.inl h1)
  | true =>
    cases h2 : inB st 1 1000 with
    | false =>
      have e : validB sy st l = false := by unfold validB; rw [h1, h2]; rfl
      rw [e]
      exact implValidMachine_bad sy st A n c w hcm hnc (.inr (.inl ⟨h1, h2⟩))
    | true =>
      by_cases h3 : (n : Int) = sy * st
      · have e : validB sy st l = rulesB sy st l n := by
          unfold validB; rw [h1, h2, hdiv, decide_eq_true (by rw [hl]; omega)]; rfl
        rw [e]
        exact implValidMachine_good sy st A n c l w hr hcm hnc h1 h2 h3
      · have e : validB sy st l = false := by
          unfold validB; rw [h1, h2, decide_eq_false (by rw [hl]; omega)]; rfl
        rw [e]
        exact implValidMachine_bad sy st A n c w hcm hnc (.inr (.inr ⟨h1, h2, h3⟩))
end Go.Proofs.Ythijhpkkijjlfaa
