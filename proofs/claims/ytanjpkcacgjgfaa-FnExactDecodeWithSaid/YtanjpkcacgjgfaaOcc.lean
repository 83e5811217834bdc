/- OccurrencesOf: contracts of begins, occurrences, l03At, l03Find, slices.Equal. No condition beyond the stated bounds. -/
import Derived.Test.YtanjpkcacgjgfaaSame
import Derived.Test.YtanjpkcacgjgfaaMany
import Derived.Test.YtanjpkcacgjgfaaPlainOcc
namespace Go.Proofs.Ytanjpkcacgjgfaa
open Go.RowKit
/-- A part of a slice from k on, and up to k. -/
theorem Sl.part {w : World} {A : Option Addr} {c k : Nat} {l : List Int} (hr : Ints w w.heap.size A l.length l) (hlc : l.length ≤ c) (hcm : c ≤ maxLen) (hk : k ≤ l.length) (hne : c ≠ k) :
    Sl w (.slice (Option.map (fun x => x.add k) A) (l.length - k) (c - k)) (l.drop k) := by
  have h := hr.cut hk hlc
  rw [if_neg hne] at h
  exact Sl.of h (by omega) (by omega)
theorem Sl.upto' {w : World} {A : Option Addr} {c k : Nat} {l : List Int} (hr : Ints w w.heap.size A l.length l) (hlc : l.length ≤ c) (hcm : c ≤ maxLen) (hk : k ≤ l.length) :
    Sl w (.slice A k c) (l.take k) := Sl.of (hr.take hk) (by omega) hcm
theorem Sl.none' (w : World) (A : Option Addr) (c : Nat) (hc : c ≤ maxLen) : Sl w (.slice A 0 c) [] := ⟨A, c, rfl, Nat.zero_le _, hc, Ints.none_⟩
theorem Sl.piece {w : World} {A : Option Addr} {c k n : Nat} {l : List Int} (hr : Ints w w.heap.size A l.length l) (hlc : l.length ≤ c) (hcm : c ≤ maxLen) (hk : k + n ≤ l.length) (hne : c ≠ k) :
    Sl w (.slice (Option.map (fun x => x.add k) A) n (c - k)) ((l.drop k).take n) := by
  have h := hr.cut (show k ≤ l.length by omega) hlc
  rw [if_neg hne] at h
  exact Sl.of (h.take (k := n) (by omega)) (by omega) (by omega)
theorem equal_q (v1 v2 : Value) (l1 l2 : List Int) (w : World) (h1 : Sl w v1 l1) (h2 : Sl w v2 l2) :
    Calls Try.prog 150 #[v1, v2] w fun e w' => e = .returned (.bool (decide (l1 = l2))) ∧ ∃ n, w' = w.drewN n := by
  obtain ⟨A1, c1, rfl, hlc1, hcm1, hr1⟩ := h1
  obtain ⟨A2, c2, rfl, hlc2, hcm2, hr2⟩ := h2
  have HR1 := Lib.hid hr1
  have HR2 := Lib.hid hr2
  clear hr1 hr2
  unfold maxLen at hcm1 hcm2
  by_cases hl : l1.length = l2.length
  · have hlb : ((l1.length : Int) != (l2.length : Int)) = false := by simp [hl]
    have hlb2 : (l1.length != l2.length) = false := by simp [hl]
    have HL := Lib.hid hl
    have hle : l1.length ≤ l2.length := by omega
    clear hl
    go_enter Try.func150, Try.ntmps150
    go_wp2
    go_loopw [13] (fun i wr => ∃ k : Nat, k ≤ l1.length ∧ i = .int .i64 k ∧ Hid (l1.take k = l2.take k) ∧ (∃ n, wr = w.drewN n)) (fun i _ => l1.length - (intOf i).toNat)
    case atStart => exact ⟨0, Nat.zero_le _, rfl, rfl, ⟨0, (World.drewN_zero w).symm⟩⟩
    case round =>
      obtain ⟨k, hk, rfl, HK, ⟨nd, rfl⟩⟩ := hrel
      by_cases hlt : k < l1.length
      · have hlt2 : k < l2.length := by omega
        obtain ⟨a1, rfl, hb1, hc1⟩ := HR1.out.at_ hlt
        obtain ⟨a2, rfl, hb2, hc2⟩ := HR2.out.at_ hlt2
        have hcell1 := hc1
        have hcell2 := hc2
        have hi1 : (k : Int) < (l1.length : Int) := by omega
        have hi2 : (k : Int) < (l2.length : Int) := by omega
        by_cases he : geti l1 k = geti l2 k
        · have heb : (geti l1 k != geti l2 k) = false := by simp [he]
          have HN : Hid (l1.take (k + 1) = l2.take (k + 1)) := Lib.hid (by
            rw [take_snoc hlt, take_snoc hlt2, HK.out, he])
          clear he
          go_wp2
          go_quiet (fail)
          go_wp2
          go_roundw
          case rel => exact ⟨k + 1, by omega, by go_num, HN, by first | exact ⟨_, rfl⟩ | exact ⟨_, World.drewN_drewN _ _ _⟩⟩
          case measure => simp [intOf] <;> omega
        · have heb : (geti l1 k != geti l2 k) = true := by simpa using he
          have HN : Hid (¬ l1 = l2) := Lib.hid (fun e => he (by rw [e]))
          clear he
          go_wp2
          go_quiet (fail)
          go_wp2
          go_ret
          exact ⟨ret_bool (decide_eq_false HN.out).symm, by first | exact ⟨_, rfl⟩ | exact ⟨_, World.drewN_drewN _ _ _⟩⟩
      · have HN : Hid (l1 = l2) := Lib.hid (by
          have := HK.out
          have e1 := HL.out
          rw [List.take_of_length_le (by omega), List.take_of_length_le (by omega)] at this
          exact this)
        go_wp2
        go_ret
        exact ⟨ret_bool (decide_eq_true HN.out).symm, ⟨_, rfl⟩⟩
  · have hlb : ((l1.length : Int) != (l2.length : Int)) = true := by simp; omega
    have hlb2 : (l1.length != l2.length) = true := by simpa using hl
    have HN : Hid (¬ l1 = l2) := Lib.hid (fun e => hl (by rw [e]))
    clear hl
    go_enter Try.func150, Try.ntmps150
    go_wp2
    go_ret
    exact ⟨ret_bool (decide_eq_false HN.out).symm, ⟨0, (World.drewN_zero w).symm⟩⟩
theorem begins_q (v1 v2 : Value) (l p : List Int) (w : World) (h1 : Sl w v1 l) (h2 : Sl w v2 p) :
    Calls Try.prog 116 #[v1, v2] w fun e w' => e = .returned (.bool (occB l p 0)) ∧ ∃ n, w' = w.drewN n := by
  obtain ⟨A1, c1, rfl, hlc1, hcm1, hr1⟩ := h1
  have HS2 := Lib.hid h2
  obtain ⟨A2, c2, rfl, hlc2, hcm2, hr2⟩ := h2
  clear hr2
  by_cases hle : p.length ≤ l.length
  · have HF : Hid (occB l p 0 = decide (l.take p.length = p)) := Lib.hid (by rw [occB_yes (by omega)]; rfl)
    have HS1 := Lib.hid (Sl.upto' hr1 hlc1 hcm1 hle)
    clear hr1
    unfold maxLen at hcm1 hcm2
    have e1 : (p.length : Int) ≤ (l.length : Int) := by omega
    have e2 : (p.length : Int) ≤ (c1 : Int) := by omega
    go_enter Try.func116, Try.ntmps116
    go_wp2_with (go_at_call 150; refine (equal_q _ _ _ _ _ HS1.out HS2.out).mono ?_; rintro e w' ⟨rfl, n, rfl⟩)
    go_ret
    exact ⟨ret_bool HF.out.symm, n, rfl⟩
  · have HF : Hid (occB l p 0 = false) := Lib.hid (occB_no (by omega))
    have hd : decide (p.length ≤ l.length) = false := decide_eq_false hle
    have hd2 : decide ((p.length : Int) ≤ (l.length : Int)) = false := decide_eq_false (by omega)
    clear hr1
    go_enter Try.func116, Try.ntmps116
    go_wp2
    go_ret
    exact ⟨ret_bool HF.out.symm, 0, (World.drewN_zero w).symm⟩
theorem l03At_q (v1 v2 : Value) (l p : List Int) (k : Nat) (w : World) (h1 : Sl w v1 l) (h2 : Sl w v2 p) (hk : k ≤ 1000000000) (hp : p.length ≤ 1000000000) :
    Calls Try.prog 113 #[v1, .int .i64 (k : Int), v2] w fun e w' => e = .returned (.bool (occB l p k)) ∧ ∃ n, w' = w.drewN n := by
  obtain ⟨A1, c1, rfl, hlc1, hcm1, hr1⟩ := h1
  have HS2 := Lib.hid h2
  obtain ⟨A2, c2, rfl, hlc2, hcm2, hr2⟩ := h2
  clear hr2
  by_cases hle : k + p.length ≤ l.length
  · have e1 : (k : Int) + (p.length : Int) ≤ (l.length : Int) := by omega
    have e2 : (k : Int) + (p.length : Int) ≤ (c1 : Int) := by omega
    by_cases hc : c1 = k
    · have hp0 : p.length = 0 := by omega
      have hp1 : p = [] := List.eq_nil_of_length_eq_zero hp0
      subst hp1
      have HF : Hid (occB l [] k = true) := Lib.hid (by rw [occB_yes hle]; simp)
      obtain rfl : c1 = k := hc
      have HS1 := Lib.hid (Sl.none' w A1 0 (Nat.zero_le _))
      have HS3 := Lib.hid (Sl.none' w A1 c1 hcm1)
      clear hr1
      have hcl : c1 ≤ l.length := by simpa using hle
      unfold maxLen at hcm1 hcm2
      go_enter Try.func113, Try.ntmps113
      go_wp2_with (go_at_call 149; refine (l00Same_q _ _ [] [] _ (by first | exact HS1.out | exact HS3.out) HS2.out).mono ?_; rintro e w' ⟨rfl, n, rfl⟩)
      go_ret
      exact ⟨ret_bool HF.out.symm, n, rfl⟩
    · have HF := Lib.hid (occB_yes hle)
      have HS1 := Lib.hid (Sl.piece hr1 hlc1 hcm1 hle hc)
      clear hr1
      unfold maxLen at hcm1 hcm2
      go_enter Try.func113, Try.ntmps113
      go_wp2_with (go_at_call 149; refine (l00Same_q _ _ _ _ _ HS1.out HS2.out).mono ?_; rintro e w' ⟨rfl, n, rfl⟩)
      go_ret
      exact ⟨ret_bool HF.out.symm, n, rfl⟩
  · have HF : Hid (occB l p k = false) := Lib.hid (occB_no hle)
    have hd2 : decide ((k : Int) + (p.length : Int) ≤ (l.length : Int)) = false := decide_eq_false (by omega)
    have hd3 : decide (k + p.length ≤ l.length) = false := decide_eq_false hle
    clear hr1
    unfold maxLen at hcm1 hcm2
    go_enter Try.func113, Try.ntmps113
    go_wp2
    go_ret
    exact ⟨ret_bool HF.out.symm, 0, (World.drewN_zero w).symm⟩
end Go.Proofs.Ytanjpkcacgjgfaa
