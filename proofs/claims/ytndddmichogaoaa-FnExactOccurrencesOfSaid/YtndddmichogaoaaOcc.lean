/- OccurrencesOf: contracts of begins, occurrences, l03At, l03Find, slices.Equal. No condition beyond the stated bounds. -/
import Derived.Test.YtndddmichogaoaaSame
import Derived.Test.YtndddmichogaoaaMany
import Derived.Test.YtndddmichogaoaaPlainOcc
namespace Go.Proofs.Ytndddmichogaoaa
open Go.RowKit
/-- A part of a slice from k on, and up to k. -/
theorem Sl.part {w : World} {A : Option Addr} {c k : Nat} {l : List Int} (hr : Ints w w.heap.size A l.length l) (hlc : l.length ≤ c) (hcm : c ≤ maxLen) (hk : k ≤ l.length) (hne : c ≠ k) :
    Sl w (.slice (Option.map (fun x => x.add k) A) (l.length - k) (c - k)) (l.drop k) := by
  have h := hr.cut hk hlc
  rw [if_neg hne] at h
  exact Sl.of h (by omega) (by omega)
theorem Sl.upto' {w : World} {A : Option Addr} {c k : Nat} {l : List Int} (hr : Ints w w.heap.size A l.length l) (hlc : l.length ≤ c) (hcm : c ≤ maxLen) (hk : k ≤ l.length) :
    Sl w (.slice A k c) (l.take k) := Sl.of (hr.take hk) (by omega) hcm
theorem Sl.none' (w : World) (A : Option Addr) (c : Nat) (hc : c ≤ maxLen) : Sl w (.slice A 0 c) [] := ⟨A, c, rfl, Nat.zero_le _, hc, Ints.none_⟩
theorem Sl.piece {w : World} {A : Option Addr} {c k n : Nat} {l : List Int} (hr : Ints w w.heap.size A l.length l) (hlc : l.length ≤ c) (hcm : c ≤ maxLen) (hk : k + n ≤ l.length) (hne : c ≠ k) :
    Sl w (.slice (Option.map (fun x => x.add k) A) n (c - k)) ((l.drop k).take n) := by
  have h := hr.cut (show k ≤ l.length by omega) hlc
  rw [if_neg hne] at h
  exact Sl.of (h.take (k := n) (by omega)) (by omega) (by omega)
theorem equal_q (v1 v2 : Value) (l1 l2 : List Int) (w : World) (h1 : Sl w v1 l1) (h2 : Sl w v2 l2) :
    Calls Try.prog 87 #[v1, v2] w fun e w' => e = .returned (.bool (decide (l1 = l2))) ∧ ∃ n, w' = w.drewN n := by
  obtain ⟨A1, c1, rfl, hlc1, hcm1, hr1⟩ := h1
  obtain ⟨A2, c2, rfl, hlc2, hcm2, hr2⟩ := h2
  have HR1 := Lib.hid hr1
  have HR2 := Lib.hid hr2
  clear hr1 hr2
  unfold maxLen at hcm1 hcm2
  by_cases hl : l1.length = l2.length
  · have hlb : ((l1.length : Int) != (l2.length : Int)) = false := by simp [hl]
    have hlb2 : (l1.length != l2.length) = false := by simp [hl]
    have HL := Lib.hid hl
    have hle : l1.length ≤ l2.length := by omega
    clear hl
    go_enter Try.func87, Try.ntmps87
    go_wp2
    go_loopw [13] (fun i wr => ∃ k : Nat, k ≤ l1.length ∧ i = .int .i64 k ∧ Hid (l1.take k = l2.take k) ∧ (∃ n, wr = w.drewN n)) (fun i _ => l1.length - (intOf i).toNat)
    case atStart => exact ⟨0, Nat.zero_le _, rfl, rfl, ⟨0, (World.drewN_zero w).symm⟩⟩
    case round =>
      obtain ⟨k, hk, rfl, HK, ⟨nd, rfl⟩⟩ := hrel
      by_cases hlt : k < l1.length
      · have hlt2 : k < l2.length := by omega
        obtain ⟨a1, rfl, hb1, hc1⟩ := HR1.out.at_ hlt
        obtain ⟨a2, rfl, hb2, hc2⟩ := HR2.out.at_ hlt2
        have hcell1 := hc1
        have hcell2 := hc2
        have hi1 : (k : Int) < (l1.length : Int) := by omega
        have hi2 : (k : Int) < (l2.length : Int) := by omega
        by_cases he : geti l1 k = geti l2 k
        · have heb : (geti l1 k != geti l2 k) = false := by simp [he]
          have HN : Hid (l1.take (k + 1) = l2.take (k + 1)) := Lib.hid (by
            rw [take_snoc hlt, take_snoc hlt2, HK.out, he])
          clear he
          go_wp2
          go_quiet (fail)
          go_wp2
          go_roundw
          case rel => exact ⟨k + 1, by omega, by go_num, HN, by first | exact ⟨_, rfl⟩ | exact ⟨_, World.drewN_drewN _ _ _⟩⟩
          case measure => simp [intOf] <;> omega
        · have heb : (geti l1 k != geti l2 k) = true := by simpa using he
          have HN : Hid (¬ l1 = l2) := Lib.hid (fun e => he (by rw [e]))
          clear he
          go_wp2
          go_quiet (fail)
          go_wp2
          go_ret
          exact ⟨ret_bool (decide_eq_false HN.out).symm, by first | exact ⟨_, rfl⟩ | exact ⟨_, World.drewN_drewN _ _ _⟩⟩
      · have HN : Hid (l1 = l2) := Lib.hid (by
          have := HK.out
          have e1 := HL.out
          rw [List.take_of_length_le (by omega), List.take_of_length_le (by omega)] at this
          exact this)
        go_wp2
        go_ret
        exact ⟨ret_bool (decide_eq_true HN.out).symm, ⟨_, rfl⟩⟩
  · have hlb : ((l1.length : Int) != (l2.length : Int)) = true := by simp; omega
    have hlb2 : (l1.length != l2.length) = true := by simpa using hl
    have HN : Hid (¬ l1 = l2) := Lib.hid (fun e => hl (by rw [e]))
    clear hl
    go_enter Try.func87, Try.ntmps87
    go_wp2
    go_ret
    exact ⟨ret_bool (decide_eq_false HN.out).symm, ⟨0, (World.drewN_zero w).symm⟩⟩
theorem begins_q (v1 v2 : Value) (l p : List Int) (w : World) (h1 : Sl w v1 l) (h2 : Sl w v2 p) :
    Calls Try.prog 81 #[v1, v2] w fun e w' => e = .returned (.bool (occB l p 0)) ∧ ∃ n, w' = w.drewN n := by
  obtain ⟨A1, c1, rfl, hlc1, hcm1, hr1⟩ := h1
  have HS2 := Lib.hid h2
  obtain ⟨A2, c2, rfl, hlc2, hcm2, hr2⟩ := h2
  clear hr2
  by_cases hle : p.length ≤ l.length
  · have HF : Hid (occB l p 0 = decide (l.take p.length = p)) := Lib.hid (by rw [occB_yes (by omega)]; rfl)
    have HS1 := Lib.hid (Sl.upto' hr1 hlc1 hcm1 hle)
    clear hr1
    unfold maxLen at hcm1 hcm2
    have e1 : (p.length : Int) ≤ (l.length : Int) := by omega
    have e2 : (p.length : Int) ≤ (c1 : Int) := by omega
    go_enter Try.func81, Try.ntmps81
    go_wp2_with (go_at_call 87; refine (equal_q _ _ _ _ _ HS1.out HS2.out).mono ?_; rintro e w' ⟨rfl, n, rfl⟩)
    go_ret
    exact ⟨ret_bool HF.out.symm, n, rfl⟩
  · have HF : Hid (occB l p 0 = false) := Lib.hid (occB_no (by omega))
    have hd : decide (p.length ≤ l.length) = false := decide_eq_false hle
    have hd2 : decide ((p.length : Int) ≤ (l.length : Int)) = false := decide_eq_false (by omega)
    clear hr1
    go_enter Try.func81, Try.ntmps81
    go_wp2
    go_ret
    exact ⟨ret_bool HF.out.symm, 0, (World.drewN_zero w).symm⟩
theorem l03At_q (v1 v2 : Value) (l p : List Int) (k : Nat) (w : World) (h1 : Sl w v1 l) (h2 : Sl w v2 p) (hk : k ≤ 1000000000) (hp : p.length ≤ 1000000000) :
    Calls Try.prog 78 #[v1, .int .i64 (k : Int), v2] w fun e w' => e = .returned (.bool (occB l p k)) ∧ ∃ n, w' = w.drewN n := by
  obtain ⟨A1, c1, rfl, hlc1, hcm1, hr1⟩ := h1
  have HS2 := Lib.hid h2
  obtain ⟨A2, c2, rfl, hlc2, hcm2, hr2⟩ := h2
  clear hr2
  by_cases hle : k + p.length ≤ l.length
  · have e1 : (k : Int) + (p.length : Int) ≤ (l.length : Int) := by omega
    have e2 : (k : Int) + (p.length : Int) ≤ (c1 : Int) := by omega
    by_cases hc : c1 = k
    · have hp0 : p.length = 0 := by omega
      have hp1 : p = [] := List.eq_nil_of_length_eq_zero hp0
      subst hp1
      have HF : Hid (occB l [] k = true) := Lib.hid (by rw [occB_yes hle]; simp)
      obtain rfl : c1 = k := hc
      have HS1 := Lib.hid (Sl.none' w A1 0 (Nat.zero_le _))
      have HS3 := Lib.hid (Sl.none' w A1 c1 hcm1)
      clear hr1
      have hcl : c1 ≤ l.length := by simpa using hle
      unfold maxLen at hcm1 hcm2
      go_enter Try.func78, Try.ntmps78
      go_wp2_with (go_at_call 60; refine (l00Same_q _ _ [] [] _ (by first | exact HS1.out | exact HS3.out) HS2.out).mono ?_; rintro e w' ⟨rfl, n, rfl⟩)
      go_ret
      exact ⟨ret_bool HF.out.symm, n, rfl⟩
    · have HF := Lib.hid (occB_yes hle)
      have HS1 := Lib.hid (Sl.piece hr1 hlc1 hcm1 hle hc)
      clear hr1
      unfold maxLen at hcm1 hcm2
      go_enter Try.func78, Try.ntmps78
      go_wp2_with (go_at_call 60; refine (l00Same_q _ _ _ _ _ HS1.out HS2.out).mono ?_; rintro e w' ⟨rfl, n, rfl⟩)
      go_ret
      exact ⟨ret_bool HF.out.symm, n, rfl⟩
  · have HF : Hid (occB l p k = false) := Lib.hid (occB_no hle)
    have hd2 : decide ((k : Int) + (p.length : Int) ≤ (l.length : Int)) = false := decide_eq_false (by omega)
    have hd3 : decide (k + p.length ≤ l.length) = false := decide_eq_false hle
    clear hr1
    unfold maxLen at hcm1 hcm2
    go_enter Try.func78, Try.ntmps78
    go_wp2
    go_ret
    exact ⟨ret_bool HF.out.symm, 0, (World.drewN_zero w).symm⟩
theorem l03Find_any (v1 v2 : Value) (l p : List Int) (f : Nat) (w : World) (h1 : Sl w v1 l) (h2 : Sl w v2 p) (hf : f ≤ 1000000) (hl : l.length ≤ 1000000) (hp : p.length ≤ 1000000) :
    Calls Try.prog 65 #[v1, v2, .int .i64 (f : Int)] w fun e w' => (∃ n : Int, e = .returned (.int .i64 n) ∧ FindP l p f n) ∧ Below w.heap.size w w' := by
  have HS1 := Lib.hid h1
  have HS2 := Lib.hid h2
  obtain ⟨A1, c1, rfl, hlc1, hcm1, hr1⟩ := h1
  obtain ⟨A2, c2, rfl, hlc2, hcm2, hr2⟩ := h2
  clear hr1 hr2
  unfold maxLen at hcm1 hcm2
  go_enter Try.func65, Try.ntmps65
  go_wp2_with fail
  go_loopw [7] (fun i wr => ∃ k : Nat, f ≤ k ∧ k ≤ 2000000 ∧ i = .int .i64 k ∧ Hid (∀ j, f ≤ j → j < k → occB l p j = false) ∧ Below w.heap.size w wr) (fun i _ => l.length + 1 - (intOf i).toNat)
  case atStart => exact ⟨f, Nat.le_refl _, by omega, rfl, (fun j h1 h2 => by omega), Below.refl _ _⟩
  case round =>
    obtain ⟨k, hfk, hk2, rfl, H, hB⟩ := hrel
    by_cases hle : k + p.length ≤ l.length
    · have e1 : (k : Int) + (p.length : Int) ≤ (l.length : Int) := by omega
      cases ho : occB l p k with
      | true =>
        have HO := Lib.hid ho
        clear ho
        go_wp2_with fail
        refine (l03At_q _ _ _ _ _ _ (HS1.out.next hB) (HS2.out.next hB) (by omega) (by omega)).mono ?_
        rintro e w' ⟨rfl, n, rfl⟩
        rw [HO.out]
        go_wp2_with fail
        go_ret
        exact ⟨⟨_, rfl, .inr ⟨k, rfl, hfk, HO.out, H.out⟩⟩, below_drewN hB _⟩
      | false =>
        have HO := Lib.hid ho
        have HN : Hid (∀ j, f ≤ j → j < k + 1 → occB l p j = false) := Lib.hid (fun j h1 h2 => by
          rcases Nat.lt_or_ge j k with h | h
          · exact H.out j h1 h
          · obtain rfl : j = k := by omega
            exact ho)
        clear ho
        go_wp2_with fail
        refine (l03At_q _ _ _ _ _ _ (HS1.out.next hB) (HS2.out.next hB) (by omega) (by omega)).mono ?_
        rintro e w' ⟨rfl, n, rfl⟩
        rw [HO.out]
        go_wp2_with fail
        go_roundw
        case rel => exact ⟨k + 1, by omega, by omega, by go_num, HN, below_drewN hB _⟩
        case measure => simp [intOf] <;> omega
    · have hd2 : decide ((k : Int) + (p.length : Int) ≤ (l.length : Int)) = false := decide_eq_false (by omega)
      have hd3 : decide (k + p.length ≤ l.length) = false := decide_eq_false hle
      have HN := Lib.hid (FindP.none_ H.out hle)
      go_wp2_with fail
      go_ret
      exact ⟨⟨_, rfl, HN.out⟩, hB⟩
theorem occurrences_any (v1 v2 : Value) (l p : List Int) (w : World) (h1 : Sl w v1 l) (h2 : Sl w v2 p) (hl : l.length ≤ 1000000) :
    Calls Try.prog 67 #[v1, v2] w (RetRow w (occI l p (l.length + 1))) := by
  obtain ⟨A1, c1, rfl, hlc1, hcm1, hr1⟩ := h1
  have HR := Lib.hid hr1
  have HCM := Lib.hid hcm1
  have HS2 := Lib.hid h2
  obtain ⟨A2, c2, rfl, hlc2, hcm2, hr2⟩ := h2
  clear hr1 hr2
  unfold maxLen at hcm1 hcm2
  have HO := Lib.hid (Owns.empty w w.heap.size (Nat.le_refl _))
  have hB0 : Below w.heap.size w (w.alloc (.cells #[] 2)) := (Below.refl _ _).alloc (Nat.le_refl _) _
  go_enter Try.func67, Try.ntmps67
  go_wp2_with fail
  go_loopw [5, 6] (fun u i wr => ∃ k : Nat, k ≤ l.length + 1 ∧ i = .int .i64 k ∧ Hid (Owns wr w.heap.size u (occI l p k)) ∧ Below w.heap.size w wr) (fun _ i _ => l.length + 1 - (intOf i).toNat)
  case atStart => exact ⟨0, Nat.zero_le _, rfl, HO, hB0⟩
  case round =>
    clear HO hB0
    obtain ⟨k, hk, rfl, HO, hB⟩ := hrel
    by_cases hlt : k ≤ l.length
    · have e1 : (0 : Int) ≤ (k : Int) := by omega
      have e2 : (k : Int) ≤ (l.length : Int) := by omega
      have hbl := occI_len l p k
      have HRr := HR.out.next hB hB.size
      have hsl : Hid (∀ v, Sl wr v (l.drop k) → Calls Try.prog 81 #[v, .slice A2 p.length c2] wr fun e w' => e = .returned (.bool (occB l p k)) ∧ ∃ n, w' = wr.drewN n) := Lib.hid (fun v hv => by
        have := begins_q v _ (l.drop k) p wr hv (HS2.out.next hB)
        have e : occB (l.drop k) p 0 = occB l p k := by
          unfold occB; rw [List.length_drop, List.drop_zero]
          congr 1
          exact decide_eq_decide.2 (by omega)
        rwa [e] at this)
      by_cases hc0 : c1 = k
      · obtain rfl : c1 = k := hc0
        have hcl : c1 = l.length := by omega
        have S3 : Hid (Sl wr (.slice A1 0 0) (l.drop c1)) := Lib.hid (by rw [List.drop_eq_nil_of_le (by omega)]; exact Sl.none' wr A1 0 (Nat.zero_le _))
        have S4 : Hid (Sl wr (.slice A1 (l.length - c1) 0) (l.drop c1)) := Lib.hid (by rw [show l.length - c1 = 0 by omega]; exact S3.out)
        clear hcl HRr
        cases ho : occB l p c1 with
        | true =>
          have HN := Lib.hid (occI_yes ho)
          have HQ := Lib.hid ho
          clear ho
          go_wp2_with fail
          refine (hsl.out _ (by first | exact S4.out | exact S3.out)).mono ?_
          rintro e w' ⟨rfl, n, rfl⟩
          rw [HQ.out]
          go_wp2_with (at_builtin; refine wpList_push rfl _ _ rfl w.heap.size _ (occI l p c1) rfl (HO.out.drewN _) _ rfl (by omega) hB.size ?_; intro v1 w1 o1 hg1 _)
          have hB1 := (below_drewN hB _).grown hg1 hB.size (fun k hk => (HO.out.lt k hk).1)
          rw [← HN.out] at o1
          have HO1 := Lib.hid o1
          clear o1 hg1
          go_wp2_with fail
          go_roundw
          case rel => exact ⟨c1 + 1, by omega, by go_num, HO1, hB1⟩
          case measure => simp [intOf] <;> omega
        | false =>
          have HN := Lib.hid (occI_no ho)
          have HQ := Lib.hid ho
          clear ho
          go_wp2_with fail
          refine (hsl.out _ (by first | exact S4.out | exact S3.out)).mono ?_
          rintro e w' ⟨rfl, n, rfl⟩
          rw [HQ.out]
          go_wp2_with fail
          go_roundw
          case rel => exact ⟨c1 + 1, by omega, by go_num, Lib.hid (by rw [HN.out]; exact HO.out.drewN _), below_drewN hB _⟩
          case measure => simp [intOf] <;> omega
      · have S2 := Lib.hid (Sl.part HRr hlc1 HCM.out hlt hc0)
        clear HRr
        cases ho : occB l p k with
        | true =>
          have HN := Lib.hid (occI_yes ho)
          have HQ := Lib.hid ho
          clear ho
          go_wp2_with fail
          refine (hsl.out _ S2.out).mono ?_
          rintro e w' ⟨rfl, n, rfl⟩
          rw [HQ.out]
          go_wp2_with (at_builtin; refine wpList_push rfl _ _ rfl w.heap.size _ (occI l p k) rfl (HO.out.drewN _) _ rfl (by omega) hB.size ?_; intro v1 w1 o1 hg1 _)
          have hB1 := (below_drewN hB _).grown hg1 hB.size (fun k hk => (HO.out.lt k hk).1)
          rw [← HN.out] at o1
          have HO1 := Lib.hid o1
          clear o1 hg1
          go_wp2_with fail
          go_roundw
          case rel => exact ⟨k + 1, by omega, by go_num, HO1, hB1⟩
          case measure => simp [intOf] <;> omega
        | false =>
          have HN := Lib.hid (occI_no ho)
          have HQ := Lib.hid ho
          clear ho
          go_wp2_with fail
          refine (hsl.out _ S2.out).mono ?_
          rintro e w' ⟨rfl, n, rfl⟩
          rw [HQ.out]
          go_wp2_with fail
          go_roundw
          case rel => exact ⟨k + 1, by omega, by go_num, Lib.hid (by rw [HN.out]; exact HO.out.drewN _), below_drewN hB _⟩
          case measure => simp [intOf] <;> omega
    · obtain rfl : k = l.length + 1 := by omega
      have hd : decide (((l.length + 1 : Nat) : Int) ≤ (l.length : Int)) = false := decide_eq_false (by omega)
      have hd2 : decide ((l.length : Int) + 1 ≤ (l.length : Int)) = false := decide_eq_false (by omega)
      have hd3 : decide (l.length + 1 ≤ l.length) = false := decide_eq_false (by omega)
      go_wp2_with fail
      go_ret
      exact ⟨_, rfl, .inl HO.out, hB⟩
theorem specOccurrencesOf_yes (v1 v2 : Value) (l p : List Int) (w : World) (h1 : Sl w v1 l) (h2 : Sl w v2 p) (hw1 : wordB l = true) (hw2 : wordB p = true) :
    Calls Try.prog 35 #[v1, v2] w (RetRowC w (occI l p (l.length + 1)) 0) := by
  have hl := (wordB_true.1 hw1).2
  have hp := (wordB_true.1 hw2).2
  have HS1 := Lib.hid h1
  have HS2 := Lib.hid h2
  clear h1 h2
  have HO := Lib.hid (Owns.empty w w.heap.size (Nat.le_refl _))
  have hB0 : Below w.heap.size w (w.alloc (.cells #[] 2)) := (Below.refl _ _).alloc (Nat.le_refl _) _
  go_enter Try.func35, Try.ntmps35
  go_wp2_with fail
  refine (l03Is_any _ _ _ HS1.out).mono ?_
  rintro e _ ⟨rfl, rfl⟩
  go_wp2_with fail
  refine (l03Is_any _ _ _ HS2.out).mono ?_
  rintro e _ ⟨rfl, rfl⟩
  go_wp2_with fail
  refine (l03Find_any _ _ l p 0 _ (HS1.out.next hB0) (HS2.out.next hB0) (by omega) (by omega) (by omega)).mono ?_
  rintro e w1 ⟨⟨n0, rfl, hn0⟩, hb1⟩
  have HO1 := Lib.hid (HO.out.next hb1)
  have HN0 := Lib.hid hn0
  have hB1 := below_next hB0 hb1
  clear hn0 hb1 HO hB0
  go_wp2_with fail
  go_loopw [6, 7] (fun u i wr => ∃ (k : Nat) (n : Int), k ≤ l.length + 1 ∧ i = .int .i64 n ∧ Hid (FindP l p k n) ∧ Hid (Owns wr w.heap.size u (occI l p k)) ∧ Below w.heap.size w wr) (fun _ i _ => downTo (intOf i))
  case atStart => exact ⟨0, n0, Nat.zero_le _, rfl, HN0, HO1, hB1⟩
  case round =>
    clear HO1 hB1 HN0
    obtain ⟨k, n, hk, rfl, HN, HO, hB⟩ := hrel
    have hbl := occI_len l p k
    rcases HN.out with ⟨rfl, hno⟩ | ⟨m, rfl, hkm, hom, hgap⟩
    · have HF : Hid (occI l p (l.length + 1) = occI l p k) := Lib.hid (occI_gap hk (fun j h1 _ => hno j h1))
      clear hno
      go_wp2_with fail
      go_ret2
      exact ⟨_, rfl, by rw [HF.out]; exact .inl HO.out, hB⟩
    · have hml : m ≤ l.length := by
        rcases Nat.lt_or_ge l.length m with h | h
        · rw [occB_no (by omega)] at hom; cases hom
        · exact h
      have HG : Hid (occI l p (m + 1) = occI l p k ++ [(m : Int)]) := Lib.hid (by rw [occI_yes hom, occI_gap hkm hgap])
      clear hom hgap
      go_wp2_with (at_builtin; refine wpList_push rfl _ _ rfl w.heap.size _ (occI l p k) rfl HO.out _ rfl (by omega) hB.size ?_; intro v1 w1 o1 hg1 _)
      have hB1 := hB.grown hg1 hB.size (fun k hk => (HO.out.lt k hk).1)
      rw [← HG.out] at o1
      have HO1 := Lib.hid o1
      clear o1 hg1
      go_wp2_with fail
      refine (l03Find_any _ _ l p (m + 1) _ (HS1.out.next hB1) (HS2.out.next hB1) (by omega) (by omega) (by omega)).mono ?_
      rintro e w2 ⟨⟨n2, rfl, hn2⟩, hb2⟩
      have HO2 := Lib.hid (HO1.out.next hb2)
      have HN2 := Lib.hid hn2
      have hB2 := below_next hB1 hb2
      have hms : Hid (n2 < 0 ∨ (m : Int) < n2 ∧ n2 ≤ 400) := Lib.hid (by
        rcases hn2 with ⟨rfl, _⟩ | ⟨m2, rfl, h, ho, _⟩
        · left; omega
        · right
          refine ⟨by omega, ?_⟩
          rcases Nat.lt_or_ge l.length m2 with h' | h'
          · rw [occB_no (by omega)] at ho; cases ho
          · omega)
      clear hn2 hb2
      go_wp2_with fail
      go_roundw
      case rel => exact ⟨m + 1, n2, by omega, rfl, HN2, HO2, hB2⟩
      case measure =>
        exact downTo_lt (m := (m : Int)) (n := n2) (by omega) (by omega) hms.out
theorem bothOccurrencesOf (l p : List Int) (_f : Fit l) (_hn : l.length ≤ 1048576) (_f2 : Fit p) (_hn2 : p.length ≤ 1048576) : ∃ (R : List Int) (C : Int), R.length ≤ 4000000 ∧
    (∀ (w : World) (v1 v2 : Value), Sl w v1 l → Sl w v2 p → Calls Try.prog 35 #[v1, v2] w (RetRowC w R C)) ∧
    (∀ (w : World) (v1 v2 : Value), Sl w v1 l → Sl w v2 p → Calls Try.prog 36 #[v1, v2] w (RetRowC w R C)) := by
  have himpl : ∀ (w : World) (v1 v2 : Value), Sl w v1 l → Sl w v2 p → (wordB l && wordB p) = false → Calls Try.prog 36 #[v1, v2] w (RetRowC w [] 1) := by
    intro w v1 v2 h1 h2 hw
    have HF : Hid (areWords_all [l, p] = false) := Lib.hid (by unfold areWords_all; simpa using hw)
    have HS := Lib.hid (SlL.two h1 h2)
    obtain ⟨A1, c1, rfl, _, _, hr1⟩ := h1
    obtain ⟨A2, c2, rfl, _, _, hr2⟩ := h2
    clear hr1 hr2 hw
    go_enter Try.func36, Try.ntmps36
    go_wp2_with fail
    refine (areWords_any _ [l, p] _ HS.out).mono ?_
    rintro e _ ⟨rfl, rfl⟩
    rw [HF.out]
    go_wp2_with fail
    go_ret2
    exact ⟨_, rfl, Fresh.nil_ _ _, (Below.refl _ _).alloc (Nat.le_refl _) _⟩
  cases hw1 : wordB l with
  | false =>
    refine ⟨[], 1, by simp, fun w v1 v2 h1 h2 => ?_, fun w v1 v2 h1 h2 => himpl w v1 v2 h1 h2 (by rw [hw1]; rfl)⟩
    go_enter Try.func35, Try.ntmps35
    go_wp2_with (go_at_call 48; refine (l03Is_any _ _ _ h1).mono ?_; rintro e w' ⟨rfl, rfl⟩)
    go_ret2
    exact ⟨_, rfl, Fresh.nil_ _ _, Below.refl _ _⟩
  | true =>
    cases hw2 : wordB p with
    | false =>
      refine ⟨[], 1, by simp, fun w v1 v2 h1 h2 => ?_, fun w v1 v2 h1 h2 => himpl w v1 v2 h1 h2 (by rw [hw2, hw1]; rfl)⟩
      go_enter Try.func35, Try.ntmps35
      go_wp2_with fail
      refine (l03Is_any _ _ _ h1).mono ?_
      rintro e _ ⟨rfl, rfl⟩
      go_wp2_with fail
      refine (l03Is_any _ _ _ h2).mono ?_
      rintro e _ ⟨rfl, rfl⟩
      go_wp2_with fail
      go_ret2
      exact ⟨_, rfl, Fresh.nil_ _ _, Below.refl _ _⟩
    | true =>
      have hl := (wordB_true.1 hw1).2
      refine ⟨occI l p (l.length + 1), 0, by have := occI_len l p (l.length + 1); omega, fun w v1 v2 h1 h2 => specOccurrencesOf_yes v1 v2 l p w h1 h2 hw1 hw2, fun w v1 v2 h1 h2 => ?_⟩
      have HF : Hid (areWords_all [l, p] = true) := Lib.hid (by unfold areWords_all; simp [hw1, hw2])
      have HS := Lib.hid (SlL.two h1 h2)
      have HS1 := Lib.hid h1
      have HS2 := Lib.hid h2
      obtain ⟨A1, c1, rfl, _, _, hr1⟩ := h1
      obtain ⟨A2, c2, rfl, _, _, hr2⟩ := h2
      clear hr1 hr2 hw1 hw2
      have hB0 : Below w.heap.size w (w.alloc (.cells #[.slice A1 l.length c1, .slice A2 p.length c2] 22)) := (Below.refl _ _).alloc (Nat.le_refl _) _
      go_enter Try.func36, Try.ntmps36
      go_wp2_with fail
      refine (areWords_any _ [l, p] _ HS.out).mono ?_
      rintro e _ ⟨rfl, rfl⟩
      rw [HF.out]
      go_wp2_with fail
      refine (occurrences_any _ _ l p _ (HS1.out.next hB0) (HS2.out.next hB0) (by omega)).mono ?_
      rintro e w1 ⟨r, rfl, hr, hb⟩
      go_wp2_with fail
      go_ret2
      exact ⟨_, rfl, hr.lower hB0.size, below_next hB0 hb⟩
end Go.Proofs.Ytndddmichogaoaa
