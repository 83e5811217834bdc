/- Words and naturals: the contracts of IsWord, IsNatural and of what they call. No condition. -/
import Derived.Test.YtlkmboolgfkcdaaSl
namespace Go.Proofs.Ytlkmboolgfkcdaa
open Go.RowKit
/-- l is a word. -/
def wordB (l : List Int) : Bool := allIn l 0 9 && decide (l.length ≤ 400)
theorem wordB_true {l : List Int} : wordB l = true ↔ allIn l 0 9 = true ∧ l.length ≤ 400 := by unfold wordB; simp
theorem isLetters_any (v : Value) (l : List Int) (w : World) (h : Sl w v l) :
    Calls Try.prog 100 #[v] w fun e w' => e = .returned (.bool (allIn l 0 9)) ∧ w = w' := by
  go_enter Try.func100, Try.ntmps100
  go_wp2_with (go_at_call 76; refine (allWithin_any _ _ _ _ _ h).mono ?_; rintro e w' ⟨rfl, rfl⟩)
  go_ret
  exact ⟨rfl, rfl⟩
theorem implIsWord_any (v : Value) (l : List Int) (w : World) (h : Sl w v l) :
    Calls Try.prog 75 #[v] w fun e w' => e = .returned (.bool (wordB l)) ∧ w = w' := by
  have HS := Lib.hid h
  obtain ⟨A, c, rfl, hlc, hcm, hr⟩ := h
  clear hr
  by_cases hl : l.length ≤ 400
  · have HB : Hid (wordB l = allIn l 0 9) := Lib.hid (by unfold wordB; simp [hl])
    have hd : (l.length : Int) ≤ 400 := by omega
    go_enter Try.func75, Try.ntmps75
    go_wp2_with (go_at_call 100; refine (isLetters_any _ _ _ HS.out).mono ?_; rintro e w' ⟨rfl, rfl⟩)
    go_ret
    exact ⟨by rw [HB.out]; rfl, rfl⟩
  · have HB : Hid (wordB l = false) := Lib.hid (by unfold wordB; simp [hl])
    have hd : decide ((l.length : Int) ≤ 400) = false := decide_eq_false (by omega)
    have hd2 : decide (l.length ≤ 400) = false := decide_eq_false hl
    go_enter Try.func75, Try.ntmps75
    go_wp2
    go_ret
    exact ⟨by rw [HB.out]; rfl, rfl⟩
theorem l03Is_any (v : Value) (l : List Int) (w : World) (h : Sl w v l) :
    Calls Try.prog 72 #[v] w fun e w' => e = .returned (.bool (wordB l)) ∧ w = w' := by
  obtain ⟨A, c, rfl, hlc, hcm, hr⟩ := h
  have HR := Lib.hid hr
  clear hr
  unfold maxLen at hcm
  go_enter Try.func72, Try.ntmps72
  go_wp2
  go_loop [3] (fun i => ∃ k : Nat, k ≤ l.length ∧ i = .int .i64 k ∧ Hid (∀ j, j < k → inB (geti l j) 0 9 = true)) (fun i => l.length - (intOf i).toNat)
  case atStart => exact ⟨0, Nat.zero_le _, rfl, fun j hj => by omega⟩
  case round =>
    obtain ⟨k, hk, rfl, H⟩ := hrel
    by_cases hlt : k < l.length
    · obtain ⟨ad, rfl, hb1, hc1⟩ := HR.out.at_ hlt
      cases hin : inB (geti l k) 0 9 with
      | true =>
        have HN : Hid (∀ j, j < k + 1 → inB (geti l j) 0 9 = true) := Lib.hid (fun j hj => by
          rcases Nat.lt_or_ge j k with h | h
          · exact H.out j h
          · obtain rfl : j = k := by omega
            exact hin)
        go_wp2_with (go_at_call 65; refine (l00In_any _ _ _ _).mono ?_; rintro e w' ⟨rfl, rfl⟩)
        go_round
        case rel => exact ⟨k + 1, by omega, by go_num, HN⟩
        case measure => simp [intOf] <;> omega
      | false =>
        have HN : Hid (wordB l = false) := Lib.hid (by unfold wordB; rw [allIn_no hlt hin]; rfl)
        go_wp2_with (go_at_call 65; refine (l00In_any _ _ _ _).mono ?_; rintro e w' ⟨rfl, rfl⟩)
        go_ret
        exact ⟨ret_bool HN.out.symm, rfl⟩
    · have HN : Hid (wordB l = decide ((l.length : Int) ≤ 400)) := Lib.hid (by
        unfold wordB; rw [allIn_yes (fun j hj => H.out j (by omega)), Bool.true_and]
        exact decide_eq_decide.2 (by omega))
      go_wp2
      go_ret
      exact ⟨by rw [HN.out]; first | rfl | simp, rfl⟩
/-- l is a natural. -/
def natB (l : List Int) : Bool := decide (l.length ≤ 40) && (allIn l 0 999999 && (decide (l.length = 0) || decide (geti l (l.length - 1) ≠ 0)))
theorem natB_true {l : List Int} : natB l = true ↔ l.length ≤ 40 ∧ allIn l 0 999999 = true ∧ (l.length = 0 ∨ geti l (l.length - 1) ≠ 0) := by
  unfold natB; simp only [Bool.and_eq_true, Bool.or_eq_true, decide_eq_true_eq]
end Go.Proofs.Ytlkmboolgfkcdaa
