/- The contracts of l03Read, readDigits, ReadWord. No condition. -/
import Derived.Test.YtedeblnodeabiaaSl
import Derived.Test.YtedeblnodeabiaaWStr
namespace Go.Proofs.Ytedeblnodeabiaa
open Go.RowKit
/-- The first k bytes as digits. -/
def digL (s : ByteArray) (k : Nat) : List Int := (s.data.toList.take k).map (fun b => (b.toNat : Int) - 48)
theorem digL_len {s : ByteArray} {k : Nat} (h : k ≤ s.size) : (digL s k).length = k := by
  unfold digL; rw [List.length_map, List.length_take]; exact Nat.min_eq_left h
theorem digL_snoc {s : ByteArray} {k : Nat} (h : k < s.size) : digL s (k + 1) = digL s k ++ [(s[k].toNat : Int) - 48] := by
  unfold digL
  rw [List.take_succ_eq_append_getElem (by simpa using h), List.map_append]
  rfl
/-- All bytes are digits. -/
def dgtB (s : ByteArray) : Bool := (List.range s.size).all (fun j => inB (byteAt s j) 48 57)
theorem dgtB_no {s : ByteArray} {k : Nat} (hk : k < s.size) (h : inB (byteAt s k) 48 57 = false) : dgtB s = false := by
  unfold dgtB; rw [List.all_eq_false]; exact ⟨k, by simpa using hk, by simp [h]⟩
theorem dgtB_yes {s : ByteArray} (h : ∀ k, k < s.size → inB (byteAt s k) 48 57 = true) : dgtB s = true := by
  unfold dgtB; rw [List.all_eq_true]; exact fun k hk => h k (by simpa using hk)
/-- The digits, if all bytes are digits. -/
def digR (s : ByteArray) : List Int := if dgtB s = true then digL s s.size else []
theorem digR_yes {s : ByteArray} (h : dgtB s = true) : digR s = digL s s.size := by unfold digR; rw [if_pos h]
theorem digR_no {s : ByteArray} (h : dgtB s = false) : digR s = [] := by unfold digR; rw [if_neg (by simp [h])]
theorem l03Read_dash (s : ByteArray) (w : World) (h : (s.toList == [45]) = true) :
    Calls Try.prog 58 #[.string s] w (RetRowB w [] true) := by
  go_enter Try.func58, Try.ntmps58
  go_wp2
  go_ret2
  exact ⟨_, rfl, Owns.empty _ _ (Nat.le_refl _), (Below.refl _ _).alloc (Nat.le_refl _) _⟩
theorem l03Read_any (s : ByteArray) (w : World) (hs : s.size ≤ 100000000) (hd : (s.toList == [45]) = false) :
    Calls Try.prog 58 #[.string s] w (RetRowB w (digR s) (dgtB s && decide (0 < s.size ∧ s.size ≤ 400))) := by
  have HO := Lib.hid (Owns.empty w w.heap.size (Nat.le_refl _))
  have hB0 : Below w.heap.size w (w.alloc (.cells #[] 2)) := (Below.refl _ _).alloc (Nat.le_refl _) _
  go_enter Try.func58, Try.ntmps58
  go_wp2
  go_loopw [4, 5] (fun u i wr => ∃ k : Nat, k ≤ s.size ∧ i = .int .i64 k ∧ Hid (∀ j, j < k → inB (byteAt s j) 48 57 = true) ∧ Hid (Owns wr w.heap.size u (digL s k)) ∧ Below w.heap.size w wr) (fun _ i _ => s.size - (intOf i).toNat)
  case atStart => exact ⟨0, Nat.zero_le _, rfl, fun j hj => by omega, HO, hB0⟩
  case round =>
    clear HO hB0
    obtain ⟨k, hk, rfl, H, HO, hB⟩ := hrel
    by_cases hlt : k < s.size
    · have hek := Lib.hid (byteAt_eq hlt)
      cases hin : inB (s[k].toNat : Int) 48 57 with
      | true =>
        obtain ⟨b1, b2⟩ := inB_true.1 hin
        have HN : Hid (∀ j, j < k + 1 → inB (byteAt s j) 48 57 = true) := Lib.hid (fun j hj => by
          rcases Nat.lt_or_ge j k with h | h
          · exact H.out j h
          · obtain rfl : j = k := by omega
            rw [← hek.out]; exact hin)
        have hl2 : (digL s k).length ≤ 1000000000 := by rw [digL_len hk]; omega
        have HD := Lib.hid (digL_snoc hlt)
        go_wp2_with (first
          | (go_at_call 61; refine (l01Digit_any _ _).mono ?_; rintro e w' ⟨rfl, rfl⟩)
          | (at_builtin; refine wpList_push rfl _ _ rfl w.heap.size _ (digL s k) rfl HO.out _ rfl hl2 hB.size ?_; intro v1 w1 o1 hg1 _))
        have hB1 := hB.grown hg1 hB.size (fun k hk => (HO.out.lt k hk).1)
        rw [← HD.out] at o1
        have HO1 := Lib.hid o1
        clear o1 hg1
        go_wp2
        go_roundw
        case rel => exact ⟨k + 1, by omega, by go_num, HN, HO1, hB1⟩
        case measure => simp [intOf] <;> omega
      | false =>
        have HN : Hid (dgtB s = false) := Lib.hid (dgtB_no hlt (by rw [← hek.out]; exact hin))
        go_wp2_with (go_at_call 61; refine (l01Digit_any _ _).mono ?_; rintro e w' ⟨rfl, rfl⟩)
        go_ret2
        refine ⟨_, by rw [HN.out]; rfl, ?_, hB⟩
        rw [digR_no HN.out]
        exact Owns.nil_ _ _
    · have HN : Hid (dgtB s = true) := Lib.hid (dgtB_yes (fun j hj => H.out j (by omega)))
      obtain rfl : k = s.size := by omega
      obtain ⟨A, c, e, _, _, _⟩ := HO.out.shape
      rw [digL_len (Nat.le_refl _)] at e
      subst e
      by_cases h0 : 0 < s.size
      · have HF : Hid ((dgtB s && decide (0 < s.size ∧ s.size ≤ 400)) = decide ((s.size : Int) ≤ 400)) := Lib.hid (by
          rw [HN.out, Bool.true_and]; exact decide_eq_decide.2 (by omega))
        go_wp2
        go_ret2
        refine ⟨_, by rw [HF.out]; first | rfl | simp, ?_, hB⟩
        rw [digR_yes HN.out]
        exact HO.out
      · have HF : Hid ((dgtB s && decide (0 < s.size ∧ s.size ≤ 400)) = false) := Lib.hid (by
          rw [HN.out, Bool.true_and]; exact decide_eq_false (by omega))
        have hd1 : decide ((0 : Int) < (s.size : Int)) = false := decide_eq_false (by omega)
        have hd2 : decide (0 < s.size) = false := decide_eq_false h0
        go_wp2
        go_ret2
        refine ⟨_, by rw [HF.out]; first | rfl | simp, ?_, hB⟩
        rw [digR_yes HN.out]
        exact HO.out
theorem readDigits_any (s : ByteArray) (w : World) (hs : s.size ≤ 100000000) :
    Calls Try.prog 59 #[.string s] w (RetRowB w (digR s) (dgtB s)) := by
  have HO := Lib.hid (Owns.empty w w.heap.size (Nat.le_refl _))
  have hB0 : Below w.heap.size w (w.alloc (.cells #[] 2)) := (Below.refl _ _).alloc (Nat.le_refl _) _
  go_enter Try.func59, Try.ntmps59
  go_wp2
  go_loopw [4, 5] (fun u i wr => ∃ k : Nat, k ≤ s.size ∧ i = .int .i64 k ∧ Hid (∀ j, j < k → inB (byteAt s j) 48 57 = true) ∧ Hid (Owns wr w.heap.size u (digL s k)) ∧ Below w.heap.size w wr) (fun _ i _ => s.size - (intOf i).toNat)
  case atStart => exact ⟨0, Nat.zero_le _, rfl, fun j hj => by omega, HO, hB0⟩
  case round =>
    clear HO hB0
    obtain ⟨k, hk, rfl, H, HO, hB⟩ := hrel
    by_cases hlt : k < s.size
    · have hek := Lib.hid (byteAt_eq hlt)
      cases hin : inB (s[k].toNat : Int) 48 57 with
      | true =>
        obtain ⟨b1, b2⟩ := inB_true.1 hin
        have HN : Hid (∀ j, j < k + 1 → inB (byteAt s j) 48 57 = true) := Lib.hid (fun j hj => by
          rcases Nat.lt_or_ge j k with h | h
          · exact H.out j h
          · obtain rfl : j = k := by omega
            rw [← hek.out]; exact hin)
        have hl2 : (digL s k).length ≤ 1000000000 := by rw [digL_len hk]; omega
        have HD := Lib.hid (digL_snoc hlt)
        have hd1 : decide ((s[k].toNat : Int) < 48) = false := decide_eq_false (by omega)
        have hd2 : decide ((57 : Int) < (s[k].toNat : Int)) = false := decide_eq_false (by omega)
        go_wp2_with (at_builtin; refine wpList_push rfl _ _ rfl w.heap.size _ (digL s k) rfl HO.out _ rfl hl2 hB.size ?_; intro v1 w1 o1 hg1 _)
        have hB1 := hB.grown hg1 hB.size (fun k hk => (HO.out.lt k hk).1)
        rw [← HD.out] at o1
        have HO1 := Lib.hid o1
        clear o1 hg1
        go_wp2
        go_roundw
        case rel => exact ⟨k + 1, by omega, by go_num, HN, HO1, hB1⟩
        case measure => simp [intOf] <;> omega
      | false =>
        have HN : Hid (dgtB s = false) := Lib.hid (dgtB_no hlt (by rw [← hek.out]; exact hin))
        have hno := inB_false.1 hin
        by_cases hd : (s[k].toNat : Int) < 48
        · go_wp2
          go_ret2
          refine ⟨_, by rw [HN.out]; rfl, ?_, hB⟩
          rw [digR_no HN.out]
          exact Owns.nil_ _ _
        · have hd1 : decide ((s[k].toNat : Int) < 48) = false := decide_eq_false hd
          have hd2 : (57 : Int) < (s[k].toNat : Int) := by omega
          clear hno
          go_wp2
          go_ret2
          refine ⟨_, by rw [HN.out]; rfl, ?_, hB⟩
          rw [digR_no HN.out]
          exact Owns.nil_ _ _
    · have HN : Hid (dgtB s = true) := Lib.hid (dgtB_yes (fun j hj => H.out j (by omega)))
      obtain rfl : k = s.size := by omega
      go_wp2
      go_ret2
      refine ⟨_, by rw [HN.out]; rfl, ?_, hB⟩
      rw [digR_yes HN.out]
      exact HO.out
/-- What ReadWord answers. -/
def readW (s : ByteArray) : List Int × Bool := if (s.toList == [45]) = true then ([], true) else if (dgtB s && decide (0 < s.size ∧ s.size ≤ 400)) = true then (digL s s.size, true) else ([], false)
theorem readW_len (s : ByteArray) : (readW s).1.length ≤ 400 := by
  unfold readW
  split
  · simp
  · split
    · rename_i h
      simp only [Bool.and_eq_true, decide_eq_true_eq] at h
      show (digL s s.size).length ≤ 400
      rw [digL_len (Nat.le_refl _)]; omega
    · simp
theorem specReadWord_any (s : ByteArray) (w : World) (hs : s.size ≤ 100000000) :
    Calls Try.prog 39 #[.string s] w (RetRowB w (readW s).1 (readW s).2) := by
  cases hd : (s.toList == [45]) with
  | true =>
    have HF : Hid (readW s = ([], true)) := Lib.hid (by unfold readW; rw [if_pos hd])
    go_enter Try.func39, Try.ntmps39
    go_wp2_with (go_at_call 58; refine (l03Read_dash _ _ hd).mono ?_; rintro e w' ⟨r, rfl, hr, hb⟩)
    go_ret2
    exact ⟨_, by rw [HF.out]; rfl, by rw [HF.out]; exact hr, hb⟩
  | false =>
    cases hok : (dgtB s && decide (0 < s.size ∧ s.size ≤ 400)) with
    | true =>
      have HF : Hid (readW s = (digL s s.size, true)) := Lib.hid (by unfold readW; rw [if_neg (by simp [hd]), if_pos hok])
      have HD : Hid (dgtB s = true) := Lib.hid (by simp only [Bool.and_eq_true] at hok; exact hok.1)
      have HK := Lib.hid hok
      clear hok
      go_enter Try.func39, Try.ntmps39
      go_wp2_with fail
      refine (l03Read_any _ _ hs hd).mono ?_
      rintro e w' ⟨r, rfl, hr, hb⟩
      rw [HK.out]
      go_wp2_with fail
      go_ret2
      rw [digR_yes HD.out] at hr
      exact ⟨_, by rw [HF.out]; rfl, by rw [HF.out]; exact hr, hb⟩
    | false =>
      have HF : Hid (readW s = ([], false)) := Lib.hid (by unfold readW; rw [if_neg (by simp [hd]), hok]; rfl)
      have HK := Lib.hid hok
      clear hok
      go_enter Try.func39, Try.ntmps39
      go_wp2_with fail
      refine (l03Read_any _ _ hs hd).mono ?_
      rintro e w' ⟨r, rfl, hr, hb⟩
      rw [HK.out]
      go_wp2_with fail
      go_ret2
      exact ⟨_, by rw [HF.out]; rfl, by rw [HF.out]; exact Owns.nil_ _ _, hb⟩
theorem implReadWord_any (s : ByteArray) (w : World) (hs : s.size ≤ 100000000) :
    Calls Try.prog 40 #[.string s] w (RetRowB w (readW s).1 (readW s).2) := by
  cases hd : (s.toList == [45]) with
  | true =>
    have HF : Hid (readW s = ([], true)) := Lib.hid (by unfold readW; rw [if_pos hd])
    go_enter Try.func40, Try.ntmps40
    go_wp2_with fail
    go_ret2
    exact ⟨_, by rw [HF.out]; rfl, by rw [HF.out]; exact Owns.empty _ _ (Nat.le_refl _), (Below.refl _ _).alloc (Nat.le_refl _) _⟩
  | false =>
    cases hdg : dgtB s with
    | false =>
      have HF : Hid (readW s = ([], false)) := Lib.hid (by unfold readW; rw [if_neg (by simp [hd]), if_neg (by simp [hdg])])
      have HK := Lib.hid hdg
      clear hdg
      go_enter Try.func40, Try.ntmps40
      go_wp2_with fail
      refine (readDigits_any _ _ hs).mono ?_
      rintro e w' ⟨r, rfl, hr, hb⟩
      rw [HK.out]
      go_wp2_with fail
      go_ret2
      exact ⟨_, by rw [HF.out]; rfl, by rw [HF.out]; exact Owns.nil_ _ _, hb⟩
    | true =>
      have HK := Lib.hid hdg
      by_cases h1 : 0 < s.size ∧ s.size ≤ 400
      · have HF : Hid (readW s = (digL s s.size, true)) := Lib.hid (by unfold readW; rw [if_neg (by simp [hd]), if_pos (by simp [hdg, h1])])
        obtain ⟨h0, h4⟩ := h1
        have hz : ((s.size : Int) == 0) = false := by rw [beq_eq_false_iff_ne]; omega
        have hz4 : decide ((400 : Int) < (s.size : Int)) = false := decide_eq_false (by omega)
        clear hdg
        go_enter Try.func40, Try.ntmps40
        go_wp2_with fail
        refine (readDigits_any _ _ hs).mono ?_
        rintro e w' ⟨r, rfl, hr, hb⟩
        rw [digR_yes HK.out] at hr
        rw [HK.out]
        obtain ⟨A, c, rfl, _, _, _⟩ := hr.shape
        rw [digL_len (Nat.le_refl _)] at hr ⊢
        have HR := Lib.hid hr
        clear hr
        go_wp2_with fail
        go_ret2
        exact ⟨_, by rw [HF.out]; rfl, by rw [HF.out]; exact HR.out, hb⟩
      · have HF : Hid (readW s = ([], false)) := Lib.hid (by unfold readW; rw [if_neg (by simp [hd]), if_neg (by simp [hdg]; omega)])
        clear hdg
        by_cases h0 : s.size = 0
        · have hz : ((s.size : Int) == 0) = true := by rw [beq_iff_eq]; omega
          clear h1
          have HZ := Lib.hid h0
          clear h0
          go_enter Try.func40, Try.ntmps40
          go_wp2_with fail
          refine (readDigits_any _ _ hs).mono ?_
          rintro e w' ⟨r, rfl, hr, hb⟩
          rw [digR_yes HK.out] at hr
          rw [HK.out]
          obtain ⟨A, c, rfl, _, _, _⟩ := hr.shape
          rw [digL_len (Nat.le_refl _)] at hr ⊢
          have HR := Lib.hid hr
          clear hr
          go_wp2_with fail
          go_ret2
          exact ⟨_, by rw [HF.out]; rfl, by rw [HF.out]; exact Owns.nil_ _ _, hb⟩
        · have hz : ((s.size : Int) == 0) = false := by rw [beq_eq_false_iff_ne]; omega
          have hz4 : (400 : Int) < (s.size : Int) := by omega
          clear h1 h0
          go_enter Try.func40, Try.ntmps40
          go_wp2_with fail
          refine (readDigits_any _ _ hs).mono ?_
          rintro e w' ⟨r, rfl, hr, hb⟩
          rw [digR_yes HK.out] at hr
          rw [HK.out]
          obtain ⟨A, c, rfl, _, _, _⟩ := hr.shape
          rw [digL_len (Nat.le_refl _)] at hr ⊢
          have HR := Lib.hid hr
          clear hr
          go_wp2_with fail
          go_ret2
          exact ⟨_, by rw [HF.out]; rfl, by rw [HF.out]; exact Owns.nil_ _ _, hb⟩
theorem bothReadWord (s : ByteArray) (hs : s.size ≤ 1048576) : ∃ (R : List Int) (C : Bool), R.length ≤ 4000000 ∧
    (∀ (w : World), Calls Try.prog 39 #[.string s] w (RetRowB w R C)) ∧
    (∀ (w : World), Calls Try.prog 40 #[.string s] w (RetRowB w R C)) :=
  ⟨_, _, by have := readW_len s; omega, fun w => specReadWord_any s w (by omega), fun w => implReadWord_any s w (by omega)⟩
end Go.Proofs.Ytedeblnodeabiaa
