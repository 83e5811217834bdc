/- The walks of FnExactIsName and of what it calls. No condition. -/
import Derived.Test.YtedeblnodeabiaaNums
namespace Go.Proofs.Ytedeblnodeabiaa
open Go.RowKit
/-- The byte at k, as a number. -/
def byteAt (s : ByteArray) (k : Nat) : Int := ((s.data.toList.getD k 0).toNat : Int)
theorem byteAt_eq {s : ByteArray} {k : Nat} (h : k < s.size) : (s[k].toNat : Int) = byteAt s k := by
  unfold byteAt
  rw [List.getD_eq_getElem?_getD, List.getElem?_eq_getElem (by simpa using h)]
  rfl
theorem byteAt_bd (s : ByteArray) (k : Nat) : 0 ≤ byteAt s k ∧ byteAt s k ≤ 255 := by
  unfold byteAt
  have := UInt8.toNat_lt (s.data.toList.getD k 0)
  omega
theorem empty_of_size {s : ByteArray} (h : s.size = 0) : s = ByteArray.empty := by
  obtain ⟨⟨l⟩⟩ := s
  have : l = [] := List.eq_nil_of_length_eq_zero h
  subst this; rfl
theorem l01Small_any (c : Int) (w : World) :
    Calls Try.prog 60 #[.int .u8 c] w fun e w' => e = .returned (.bool (inB c 97 122)) ∧ w = w' := by
  rw [inB_def]
  by_cases h : 97 ≤ c
  · go_enter Try.func60, Try.ntmps60
    go_wp2
    go_ret
    exact ⟨by simp [h], rfl⟩
  · have hd : decide (97 ≤ c) = false := by simpa using h
    go_enter Try.func60, Try.ntmps60
    go_wp2
    go_ret
    exact ⟨by simp, rfl⟩
theorem l01Digit_any (c : Int) (w : World) :
    Calls Try.prog 61 #[.int .u8 c] w fun e w' => e = .returned (.bool (inB c 48 57)) ∧ w = w' := by
  rw [inB_def]
  by_cases h : 48 ≤ c
  · go_enter Try.func61, Try.ntmps61
    go_wp2
    go_ret
    exact ⟨by simp [h], rfl⟩
  · have hd : decide (48 ≤ c) = false := by simpa using h
    go_enter Try.func61, Try.ntmps61
    go_wp2
    go_ret
    exact ⟨by simp, rfl⟩
/-- The byte at j may stand in a name. -/
def nameCh (s : ByteArray) (j : Nat) : Bool := inB (byteAt s j) 97 122 || inB (byteAt s j) 48 57
/-- s is a name. -/
def nameB (s : ByteArray) : Bool := decide (1 ≤ s.size ∧ s.size ≤ 10) && (inB (byteAt s 0) 97 122 && (List.range s.size).all (nameCh s))
theorem nameB_len {s : ByteArray} (h : ¬ (1 ≤ s.size ∧ s.size ≤ 10)) : nameB s = false := by unfold nameB; rw [decide_eq_false h]; rfl
theorem nameB_first {s : ByteArray} (h : inB (byteAt s 0) 97 122 = false) : nameB s = false := by unfold nameB; rw [h]; simp
theorem nameB_at {s : ByteArray} {j : Nat} (hj : j < s.size) (h : nameCh s j = false) : nameB s = false := by
  unfold nameB
  have : (List.range s.size).all (nameCh s) = false := by rw [List.all_eq_false]; exact ⟨j, by simpa using hj, by simp [h]⟩
  rw [this]; simp
theorem nameB_yes {s : ByteArray} (h1 : 1 ≤ s.size) (h2 : s.size ≤ 10) (h : inB (byteAt s 0) 97 122 = true) (ha : ∀ j, j < s.size → nameCh s j = true) : nameB s = true := by
  unfold nameB
  rw [decide_eq_true ⟨h1, h2⟩, h]
  simpa using ha
theorem l01Name_any (s : ByteArray) (w : World) (hs : s.size ≤ maxLen) :
    Calls Try.prog 45 #[.string s] w fun e w' => e = .returned (.bool (nameB s)) ∧ w = w' := by
  unfold maxLen at hs
  by_cases h0 : s.size = 0
  · have HN : Hid (nameB s = false) := Lib.hid (nameB_len (by omega))
    have := empty_of_size h0
    subst this
    clear h0
    go_enter Try.func45, Try.ntmps45
    go_wp2
    go_ret
    exact ⟨ret_bool HN.out.symm, rfl⟩
  have hne2 : s.toList ≠ [] := by intro e; apply h0; rw [ByteArray.toList_eq] at e; exact congrArg List.length e
  have hne : s.toList.isEmpty = false := by rw [List.isEmpty_eq_false_iff]; exact hne2
  by_cases h10 : s.size ≤ 10
  rotate_left
  · have HN : Hid (nameB s = false) := Lib.hid (nameB_len (by omega))
    have hd : decide (10 < (s.size : Int)) = true := by simp; omega
    clear h0
    go_enter Try.func45, Try.ntmps45
    go_wp2
    go_ret
    exact ⟨ret_bool HN.out.symm, rfl⟩
  have hd : decide (10 < (s.size : Int)) = false := by simp; omega
  have hp : 0 < s.size := by omega
  have he := byteAt_eq hp
  cases hf : inB (s[0].toNat : Int) 97 122 with
  | false =>
    have HN : Hid (nameB s = false) := Lib.hid (nameB_first (by rw [← he]; exact hf))
    clear h0 he
    go_enter Try.func45, Try.ntmps45
    go_wp2_with (go_at_call 60; refine (l01Small_any _ _).mono ?_; rintro e w' ⟨rfl, rfl⟩)
    go_ret
    exact ⟨ret_bool HN.out.symm, rfl⟩
  | true =>
    have HF : Hid (inB (byteAt s 0) 97 122 = true) := Lib.hid (by rw [← he]; exact hf)
    clear h0 he
    go_enter Try.func45, Try.ntmps45
    go_wp2_with (go_at_call 60; refine (l01Small_any _ _).mono ?_; rintro e w' ⟨rfl, rfl⟩)
    go_loop [3] (fun i => ∃ k : Nat, k ≤ s.size ∧ i = .int .i64 k ∧ Hid (∀ j, j < k → nameCh s j = true)) (fun i => s.size - (intOf i).toNat)
    case atStart => exact ⟨0, Nat.zero_le _, rfl, fun j hj => by omega⟩
    case round =>
      obtain ⟨k, hk, rfl, H⟩ := hrel
      by_cases hlt : k < s.size
      · have hek := byteAt_eq hlt
        cases h1 : inB (s[k].toNat : Int) 97 122 with
        | true =>
          have HC : Hid (nameCh s k = true) := Lib.hid (by unfold nameCh; rw [← hek, h1]; rfl)
          clear hek
          go_wp2_with (go_at_call 60; refine (l01Small_any _ _).mono ?_; rintro e w' ⟨rfl, rfl⟩)
          go_round
          case rel =>
            refine ⟨k + 1, by omega, by go_num, fun j hj => ?_⟩
            rcases Nat.lt_or_ge j k with h | h
            · exact H.out j h
            · obtain rfl : j = k := by omega
              exact HC.out
          case measure => simp [intOf] <;> omega
        | false =>
          cases h2 : inB (s[k].toNat : Int) 48 57 with
          | true =>
            have HC : Hid (nameCh s k = true) := Lib.hid (by unfold nameCh; rw [← hek, h2]; simp)
            clear hek
            go_wp2_with (first
              | (go_at_call 60; refine (l01Small_any _ _).mono ?_; rintro e w' ⟨rfl, rfl⟩)
              | (go_at_call 61; refine (l01Digit_any _ _).mono ?_; rintro e w' ⟨rfl, rfl⟩))
            go_round
            case rel =>
              refine ⟨k + 1, by omega, by go_num, fun j hj => ?_⟩
              rcases Nat.lt_or_ge j k with h | h
              · exact H.out j h
              · obtain rfl : j = k := by omega
                exact HC.out
            case measure => simp [intOf] <;> omega
          | false =>
            have HN : Hid (nameB s = false) := Lib.hid (nameB_at hlt (by unfold nameCh; rw [← hek, h1, h2]; rfl))
            clear hek
            go_wp2_with (first
              | (go_at_call 60; refine (l01Small_any _ _).mono ?_; rintro e w' ⟨rfl, rfl⟩)
              | (go_at_call 61; refine (l01Digit_any _ _).mono ?_; rintro e w' ⟨rfl, rfl⟩))
            go_ret
            exact ⟨ret_bool HN.out.symm, rfl⟩
      · have HN : Hid (nameB s = true) := Lib.hid (nameB_yes (by omega) (by omega) HF.out (fun j hj => H.out j (by omega)))
        go_wp2
        go_ret
        exact ⟨ret_bool HN.out.symm, rfl⟩
theorem implIsName_any (s : ByteArray) (w : World) (hs : s.size ≤ maxLen) :
    Calls Try.prog 20 #[.string s] w fun e w' => e = .returned (.bool (nameB s)) ∧ Below w.heap.size w w' := by
  unfold maxLen at hs
  go_enter Try.func20, Try.ntmps20
  go_wp2
  go_loopw [3] (fun i wr => ∃ k : Nat, k ≤ s.size ∧ i = .int .i64 k ∧ Hid ((∀ j, j < k → nameCh s j = true) ∧ (0 < k → inB (byteAt s 0) 97 122 = true)) ∧ Below w.heap.size w wr) (fun i _ => s.size - (intOf i).toNat)
  case atStart => exact ⟨0, Nat.zero_le _, rfl, ⟨fun j hj => by omega, fun h => by omega⟩, Below.refl _ _⟩
  case round =>
    obtain ⟨k, hk, rfl, H, hb⟩ := hrel
    by_cases hlt : k < s.size
    · have hek := Lib.hid (byteAt_eq hlt)
      by_cases h1 : 97 ≤ (s[k].toNat : Int) ∧ (s[k].toNat : Int) ≤ 122
      · obtain ⟨a1, a2⟩ := h1
        have HC : Hid (inB (byteAt s k) 97 122 = true) := Lib.hid (by rw [← hek.out]; exact inB_true.2 ⟨a1, a2⟩)
        have hgoal : Hid ((∀ j, j < k + 1 → nameCh s j = true) ∧ (0 < k + 1 → inB (byteAt s 0) 97 122 = true)) := Lib.hid (by
          refine ⟨fun j hj => ?_, fun _ => ?_⟩
          · rcases Nat.lt_or_ge j k with h | h
            · exact H.out.1 j h
            · obtain rfl : j = k := by omega
              unfold nameCh; rw [HC.out]; rfl
          · by_cases h0 : k = 0
            · subst h0; exact HC.out
            · exact H.out.2 (by omega))
        have b1 : (48 : Int) ≤ (s[k].toNat : Int) := by omega
        have b2 : decide ((s[k].toNat : Int) ≤ 57) = false := by simp; omega
        go_wp2
        go_quiet (fail)
        go_wp2
        go_roundw
        case rel => exact ⟨k + 1, by omega, by go_num, hgoal, by first | exact hb | exact hb.drew | exact below_drewN hb _⟩
        case measure => simp [intOf] <;> omega
      · by_cases h2 : 48 ≤ (s[k].toNat : Int) ∧ (s[k].toNat : Int) ≤ 57
        · obtain ⟨b1, b2⟩ := h2
          have a1 : decide (97 ≤ (s[k].toNat : Int)) = false := by simp; omega
          have HC : Hid (nameCh s k = true) := Lib.hid (by unfold nameCh; rw [← hek.out, inB_true.2 ⟨b1, b2⟩]; simp)
          by_cases h0 : k = 0
          · subst h0
            have HN : Hid (nameB s = false) := Lib.hid (nameB_first (by rw [← hek.out]; exact inB_false.2 (by omega)))
            clear h1
            go_wp2
            go_quiet (fail)
            go_wp2
            go_ret
            exact ⟨ret_bool HN.out.symm, by first | exact hb | exact hb.drew | exact below_drewN hb _⟩
          · have hgoal : Hid ((∀ j, j < k + 1 → nameCh s j = true) ∧ (0 < k + 1 → inB (byteAt s 0) 97 122 = true)) := Lib.hid (by
              refine ⟨fun j hj => ?_, fun _ => H.out.2 (by omega)⟩
              rcases Nat.lt_or_ge j k with h | h
              · exact H.out.1 j h
              · obtain rfl : j = k := by omega
                exact HC.out)
            have hk0 : ((k : Int) == 0) = false := by simpa using h0
            clear h1 h0
            go_wp2
            go_quiet (fail)
            go_wp2
            go_roundw
            case rel => exact ⟨k + 1, by omega, by go_num, hgoal, by first | exact hb | exact hb.drew | exact below_drewN hb _⟩
            case measure => simp [intOf] <;> omega
        · have HN : Hid (nameB s = false) := Lib.hid (nameB_at hlt (by unfold nameCh; rw [← hek.out, inB_false.2 h1, inB_false.2 h2]; rfl))
          have hcs : (s[k].toNat : Int) < 48 ∨ (57 < (s[k].toNat : Int) ∧ (s[k].toNat : Int) < 97) ∨ 122 < (s[k].toNat : Int) := by omega
          clear h1 h2
          rcases hcs with hc | ⟨hc, hc'⟩ | hc
          · have a1 : decide (97 ≤ (s[k].toNat : Int)) = false := by simp; omega
            have b1 : decide (48 ≤ (s[k].toNat : Int)) = false := by simp; omega
            go_wp2
            go_quiet (fail)
            go_wp2
            go_ret
            exact ⟨ret_bool HN.out.symm, by first | exact hb | exact hb.drew | exact below_drewN hb _⟩
          · have a1 : decide (97 ≤ (s[k].toNat : Int)) = false := by simp; omega
            have b1 : (48 : Int) ≤ (s[k].toNat : Int) := by omega
            have b2 : decide ((s[k].toNat : Int) ≤ 57) = false := by simp; omega
            go_wp2
            go_quiet (fail)
            go_wp2
            go_ret
            exact ⟨ret_bool HN.out.symm, by first | exact hb | exact hb.drew | exact below_drewN hb _⟩
          · have a1 : (97 : Int) ≤ (s[k].toNat : Int) := by omega
            have a2 : decide ((s[k].toNat : Int) ≤ 122) = false := by simp; omega
            have b1 : (48 : Int) ≤ (s[k].toNat : Int) := by omega
            have b2 : decide ((s[k].toNat : Int) ≤ 57) = false := by simp; omega
            go_wp2
            go_quiet (fail)
            go_wp2
            go_ret
            exact ⟨ret_bool HN.out.symm, by first | exact hb | exact hb.drew | exact below_drewN hb _⟩
    · by_cases h1 : 1 ≤ s.size
      · have HN : Hid (nameB s = decide ((s.size : Int) ≤ 10)) := Lib.hid (by
          by_cases h10 : s.size ≤ 10
          · rw [nameB_yes h1 h10 (H.out.2 (by omega)) (fun j hj => H.out.1 j (by omega))]
            exact (decide_eq_true (by omega)).symm
          · rw [nameB_len (by omega)]
            exact (decide_eq_false (by omega)).symm)
        go_wp2
        go_ret
        exact ⟨by rw [HN.out]; rfl, hb⟩
      · have HN : Hid (nameB s = false) := Lib.hid (nameB_len (by omega))
        have hd : decide (1 ≤ (s.size : Int)) = false := decide_eq_false (by omega)
        have hd2 : decide (0 < s.size) = false := decide_eq_false (by omega)
        go_wp2
        go_ret
        exact ⟨ret_bool HN.out.symm, hb⟩
theorem specIsName_any (s : ByteArray) (w : World) (hs : s.size ≤ maxLen) :
    Calls Try.prog 19 #[.string s] w fun e w' => e = .returned (.bool (nameB s)) ∧ w = w' := by
  go_enter Try.func19, Try.ntmps19
  go_wp2_with (go_at_call 45; refine (l01Name_any _ _ hs).mono ?_; rintro e w' ⟨rfl, rfl⟩)
  go_ret
  exact ⟨rfl, rfl⟩
theorem walkIsName (s : ByteArray) (w : World) (hs : s.size ≤ maxLen) :
    Calls Try.prog 6 #[.string s] w fun e w' => e = .returned (.bool true) ∧ Below w.heap.size w w' := by
  by_cases hl : (1048576 : Int) < (s.size : Int)
  · go_enter Try.func6, Try.ntmps6
    go_wp2
    go_ret
    exact ⟨rfl, Below.refl _ _⟩
  · go_enter Try.func6, Try.ntmps6
    go_wp2_with (first
      | (go_at_call 19; refine (specIsName_any _ _ hs).mono ?_; rintro e w' ⟨rfl, rfl⟩)
      | (go_at_call 20; refine (implIsName_any _ _ hs).mono ?_; rintro e w' ⟨rfl, hb⟩))
    go_ret
    exact ⟨rfl, hb⟩
end Go.Proofs.Ytedeblnodeabiaa
