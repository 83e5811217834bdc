/- Words and naturals: the contracts of IsWord, IsNatural and of what they call. No condition. -/
import Derived.Test.YtipmkkojpdjgoaaDoorSl
namespace Go.Proofs.YtipmkkojpdjgoaaDoor
open Go.RowKit
/-- l is a word. -/
def wordB (l : List Int) : Bool := allIn l 0 9 && decide (l.length ≤ 400)
theorem wordB_true {l : List Int} : wordB l = true ↔ allIn l 0 9 = true ∧ l.length ≤ 400 := by unfold wordB; simp
/-- l is a natural. -/
def natB (l : List Int) : Bool := decide (l.length ≤ 40) && (allIn l 0 999999 && (decide (l.length = 0) || decide (geti l (l.length - 1) ≠ 0)))
theorem natB_true {l : List Int} : natB l = true ↔ l.length ≤ 40 ∧ allIn l 0 999999 = true ∧ (l.length = 0 ∨ geti l (l.length - 1) ≠ 0) := by
  unfold natB; simp only [Bool.and_eq_true, Bool.or_eq_true, decide_eq_true_eq]
theorem implIsNatural_any (v : Value) (l : List Int) (w : World) (h : Sl w v l) :
    Calls Tryd.prog 53 #[v] w fun e w' => e = .returned (.bool (natB l)) ∧ w = w' := by
  have HS := Lib.hid h
  obtain ⟨A, c, rfl, hlc, hcm, hr⟩ := h
  have HR := Lib.hid hr
  clear hr
  unfold maxLen at hcm
  by_cases hl : l.length ≤ 40
  · have hd : (l.length : Int) ≤ 40 := by omega
    cases ha : allIn l 0 999999 with
    | false =>
      have HB : Hid (natB l = false) := Lib.hid (by unfold natB; rw [ha]; simp)
      go_enter Tryd.func53, Tryd.ntmps53
      go_wp2_with (go_at_call 46; refine (allWithin_any _ _ _ _ _ HS.out).mono ?_; rintro e w' ⟨rfl, rfl⟩)
      go_ret
      exact ⟨by rw [HB.out]; rfl, rfl⟩
    | true =>
      by_cases h0 : l.length = 0
      · have HB : Hid (natB l = true) := Lib.hid (natB_true.2 ⟨hl, ha, .inl h0⟩)
        have hb0 : ((l.length : Int) == 0) = true := by simp [h0]
        have hb1 : l = [] := List.eq_nil_of_length_eq_zero h0
        subst hb1
        clear h0
        go_enter Tryd.func53, Tryd.ntmps53
        go_wp2_with (go_at_call 46; refine (allWithin_any _ _ _ _ _ HS.out).mono ?_; rintro e w' ⟨rfl, rfl⟩)
        go_ret
        exact ⟨by rw [HB.out]; rfl, rfl⟩
      · have hpos : 0 < l.length := by omega
        obtain ⟨ad, rfl, hb1, hc1⟩ := HR.out.at_ (k := l.length - 1) (by omega)
        have hb0 : ((l.length : Int) == 0) = false := by simpa using h0
        have HB : Hid (natB l = (geti l (l.length - 1) != 0)) := Lib.hid (by
          unfold natB; rw [ha, decide_eq_true hl, decide_eq_false h0]
          rw [Bool.eq_iff_iff]; simp)
        clear h0
        go_enter Tryd.func53, Tryd.ntmps53
        go_wp2_with (go_at_call 46; refine (allWithin_any _ _ _ _ _ HS.out).mono ?_; rintro e w' ⟨rfl, rfl⟩)
        go_ret
        exact ⟨by rw [HB.out]; rfl, rfl⟩
  · have HB : Hid (natB l = false) := Lib.hid (by unfold natB; rw [decide_eq_false hl]; rfl)
    have hd : decide ((l.length : Int) ≤ 40) = false := decide_eq_false (by omega)
    have hd2 : decide (l.length ≤ 40) = false := decide_eq_false hl
    go_enter Tryd.func53, Tryd.ntmps53
    go_wp2
    go_ret
    exact ⟨by rw [HB.out]; rfl, rfl⟩
theorem l02Is_any (v : Value) (l : List Int) (w : World) (h : Sl w v l) :
    Calls Tryd.prog 51 #[v] w fun e w' => e = .returned (.bool (natB l)) ∧ w = w' := by
  obtain ⟨A, c, rfl, hlc, hcm, hr⟩ := h
  have HR := Lib.hid hr
  clear hr
  unfold maxLen at hcm
  by_cases hl : l.length ≤ 40
  rotate_left
  · have HB : Hid (natB l = false) := Lib.hid (by unfold natB; rw [decide_eq_false hl]; rfl)
    have hd : (40 : Int) < (l.length : Int) := by omega
    go_enter Tryd.func51, Tryd.ntmps51
    go_wp2
    go_ret
    exact ⟨by rw [HB.out]; rfl, rfl⟩
  have hd : decide ((40 : Int) < (l.length : Int)) = false := decide_eq_false (by omega)
  have hd2 : decide (40 < l.length) = false := decide_eq_false (by omega)
  go_enter Tryd.func51, Tryd.ntmps51
  go_wp2
  go_loop [3] (fun i => ∃ k : Nat, k ≤ l.length ∧ i = .int .i64 k ∧ Hid (∀ j, j < k → inB (geti l j) 0 999999 = true)) (fun i => l.length - (intOf i).toNat)
  case atStart => exact ⟨0, Nat.zero_le _, rfl, fun j hj => by omega⟩
  case round =>
    obtain ⟨k, hk, rfl, H⟩ := hrel
    by_cases hlt : k < l.length
    · obtain ⟨ad, rfl, hb1, hc1⟩ := HR.out.at_ hlt
      cases hin : inB (geti l k) 0 999999 with
      | true =>
        have HN : Hid (∀ j, j < k + 1 → inB (geti l j) 0 999999 = true) := Lib.hid (fun j hj => by
          rcases Nat.lt_or_ge j k with h | h
          · exact H.out j h
          · obtain rfl : j = k := by omega
            exact hin)
        go_wp2_with (go_at_call 49; refine (l00In_any _ _ _ _).mono ?_; rintro e w' ⟨rfl, rfl⟩)
        go_round
        case rel => exact ⟨k + 1, by omega, by go_num, HN⟩
        case measure => simp [intOf] <;> omega
      | false =>
        have HN : Hid (natB l = false) := Lib.hid (by unfold natB; rw [allIn_no hlt hin]; simp)
        go_wp2_with (go_at_call 49; refine (l00In_any _ _ _ _).mono ?_; rintro e w' ⟨rfl, rfl⟩)
        go_ret
        exact ⟨ret_bool HN.out.symm, rfl⟩
    · have ha : Hid (allIn l 0 999999 = true) := Lib.hid (allIn_yes (fun j hj => H.out j (by omega)))
      by_cases h0 : l.length = 0
      · have HB : Hid (natB l = true) := Lib.hid (natB_true.2 ⟨hl, ha.out, .inl h0⟩)
        have hb1 : l = [] := List.eq_nil_of_length_eq_zero h0
        subst hb1
        clear h0
        go_wp2
        go_ret
        exact ⟨by rw [HB.out]; rfl, rfl⟩
      · have hpos : 0 < l.length := by omega
        obtain ⟨ad, rfl, hb1, hc1⟩ := HR.out.at_ (k := l.length - 1) (by omega)
        have hb0 : ((l.length : Int) == 0) = false := by simpa using h0
        have HB : Hid (natB l = (geti l (l.length - 1) != 0)) := Lib.hid (by
          unfold natB; rw [ha.out, decide_eq_true hl, decide_eq_false h0]
          rw [Bool.eq_iff_iff]; simp)
        clear h0
        go_wp2
        go_ret
        exact ⟨by rw [HB.out]; rfl, rfl⟩
end Go.Proofs.YtipmkkojpdjgoaaDoor
