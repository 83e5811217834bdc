/- PowerWord: what the law needs. No condition beyond the stated bounds. -/
import Derived.Test.YtndddmichogaoaaPower
namespace Go.Proofs.Ytndddmichogaoaa
open Go.RowKit
theorem size_any (v : Value) (l : List Int) (w : World) (h : Sl w v l) :
    Calls Try.prog 69 #[v] w fun e w' => e = .returned (.int .i64 (l.length : Int)) ∧ w = w' := by
  obtain ⟨A, c, rfl, hlc, hcm, _⟩ := h
  unfold maxLen at hcm
  go_enter Try.func69, Try.ntmps69
  go_wp2
  go_ret
  exact ⟨rfl, rfl⟩
theorem prod400 {n m : Nat} (h1 : n ≤ 400) (h2 : m ≤ 400) : (n : Int) * (m : Int) ≤ 160000 ∧ 0 ≤ (n : Int) * (m : Int) := by
  have := Nat.mul_le_mul h1 h2
  have e : ((n * m : Nat) : Int) = (n : Int) * (m : Int) := Int.natCast_mul n m
  omega
theorem bothPowerWord (l : List Int) (n : Int) (_f : Fit l) (_hn : l.length ≤ 1048576) (_hb : -9223372036854775808 ≤ n ∧ n ≤ 9223372036854775807) : ∃ (R : List Int) (C : Int), R.length ≤ 4000000 ∧
    (∀ (w : World) (v : Value), Sl w v l → Calls Try.prog 37 #[v, .int .i64 n] w (RetRowC w R C)) ∧
    (∀ (w : World) (v : Value), Sl w v l → Calls Try.prog 38 #[v, .int .i64 n] w (RetRowC w R C)) := by
  cases hw : wordB l with
  | false =>
    refine ⟨[], 1, by simp, fun w v h => ?_, fun w v h => ?_⟩
    · go_enter Try.func37, Try.ntmps37
      go_wp2_with (go_at_call 48; refine (l03Is_any _ _ _ h).mono ?_; rintro e w' ⟨rfl, rfl⟩)
      go_ret2
      exact ⟨_, rfl, Fresh.nil_ _ _, Below.refl _ _⟩
    · go_enter Try.func38, Try.ntmps38
      go_wp2_with (go_at_call 51; refine (implIsWord_any _ _ _ h).mono ?_; rintro e w' ⟨rfl, rfl⟩)
      go_ret2
      exact ⟨_, rfl, Fresh.nil_ _ _, Below.refl _ _⟩
  | true =>
    have hl := (wordB_true.1 hw).2
    cases hm : inB n 0 400 with
    | false =>
      refine ⟨[], 2, by simp, fun w v h => ?_, fun w v h => ?_⟩
      · go_enter Try.func37, Try.ntmps37
        go_wp2_with (first
          | (go_at_call 48; refine (l03Is_any _ _ _ h).mono ?_; rintro e w' ⟨rfl, rfl⟩)
          | (go_at_call 49; refine (l00In_any _ _ _ _).mono ?_; rintro e w' ⟨rfl, rfl⟩))
        go_ret2
        exact ⟨_, rfl, Fresh.nil_ _ _, Below.refl _ _⟩
      · go_enter Try.func38, Try.ntmps38
        go_wp2_with (first
          | (go_at_call 51; refine (implIsWord_any _ _ _ h).mono ?_; rintro e w' ⟨rfl, rfl⟩)
          | (go_at_call 52; refine (within_any _ _ _ _).mono ?_; rintro e w' ⟨rfl, rfl⟩))
        go_ret2
        exact ⟨_, rfl, Fresh.nil_ _ _, Below.refl _ _⟩
    | true =>
      obtain ⟨hn1, hn2⟩ := inB_true.1 hm
      obtain ⟨k, rfl⟩ := Int.eq_ofNat_of_zero_le hn1
      have hk : k ≤ 400 := by omega
      have hp := prod400 hk hl
      have hp0 := hp.1
      have hp1 := hp.2
      have hq := prod400 hl hk
      have hq0 := hq.1
      have hq1 := hq.2
      have HM : Hid ((l.length : Int) * (k : Int) = (k : Int) * (l.length : Int)) := Lib.hid (Int.mul_comm _ _)
      have HN : Hid (((k * l.length : Nat) : Int) = (k : Int) * (l.length : Int)) := Lib.hid (Int.natCast_mul k l.length)
      have HI := Lib.hid hm
      clear hp hq hm
      by_cases hbig : 400 < (k : Int) * (l.length : Int)
      · have hbig2 : 400 < (l.length : Int) * (k : Int) := by rw [HM.out]; exact hbig
        refine ⟨[], 5, by simp, fun w v h => ?_, fun w v h => ?_⟩
        · have HS := Lib.hid h
          obtain ⟨A, c, rfl, _, _, _⟩ := h
          go_enter Try.func37, Try.ntmps37
          go_wp2_with fail
          refine (l03Is_any _ _ _ HS.out).mono ?_
          rintro e _ ⟨rfl, rfl⟩
          go_wp2_with fail
          refine (l00In_any _ _ _ _).mono ?_
          rintro e _ ⟨rfl, rfl⟩
          have hm := HI.out
          go_wp2_with fail
          go_ret2
          exact ⟨_, rfl, Fresh.nil_ _ _, Below.refl _ _⟩
        · have HS := Lib.hid h
          obtain ⟨A, c, rfl, _, _, _⟩ := h
          go_enter Try.func38, Try.ntmps38
          go_wp2_with fail
          refine (implIsWord_any _ _ _ HS.out).mono ?_
          rintro e _ ⟨rfl, rfl⟩
          go_wp2_with fail
          refine (within_any _ _ _ _).mono ?_
          rintro e _ ⟨rfl, rfl⟩
          have hm := HI.out
          go_wp2_with fail
          refine (size_any _ _ _ HS.out).mono ?_
          rintro e _ ⟨rfl, rfl⟩
          go_wp2_with fail
          go_ret2
          exact ⟨_, rfl, Fresh.nil_ _ _, Below.refl _ _⟩
      · have hbig2 : ¬ 400 < (l.length : Int) * (k : Int) := by rw [HM.out]; exact hbig
        have b1 : decide (400 < (l.length : Int) * (k : Int)) = false := decide_eq_false hbig2
        have b2 : decide (400 < (k : Int) * (l.length : Int)) = false := decide_eq_false hbig
        have hkl : k * l.length ≤ 400 := by have := HN.out; omega
        refine ⟨powL l k, 0, by rw [powL_len]; omega, fun w v h => ?_, fun w v h => ?_⟩
        · have HS := Lib.hid h
          obtain ⟨A, c, rfl, _, _, _⟩ := h
          go_enter Try.func37, Try.ntmps37
          go_wp2_with fail
          refine (l03Is_any _ _ _ HS.out).mono ?_
          rintro e _ ⟨rfl, rfl⟩
          go_wp2_with fail
          refine (l00In_any _ _ _ _).mono ?_
          rintro e _ ⟨rfl, rfl⟩
          have hm := HI.out
          go_wp2_with fail
          refine (l03Power_any _ _ _ _ HS.out (by omega) (by omega)).mono ?_
          rintro e w1 ⟨r, rfl, ho, hb⟩
          go_wp2_with fail
          go_ret2
          exact ⟨_, rfl, .inl ho, hb⟩
        · have HS := Lib.hid h
          obtain ⟨A, c, rfl, _, _, _⟩ := h
          go_enter Try.func38, Try.ntmps38
          go_wp2_with fail
          refine (implIsWord_any _ _ _ HS.out).mono ?_
          rintro e _ ⟨rfl, rfl⟩
          go_wp2_with fail
          refine (within_any _ _ _ _).mono ?_
          rintro e _ ⟨rfl, rfl⟩
          have hm := HI.out
          go_wp2_with fail
          refine (size_any _ _ _ HS.out).mono ?_
          rintro e _ ⟨rfl, rfl⟩
          go_wp2_with fail
          refine (repeat_any _ _ _ _ HS.out (by omega) (by omega) (by omega)).mono ?_
          rintro e w1 ⟨r, rfl, ho, hb⟩
          go_wp2_with fail
          go_ret2
          exact ⟨_, rfl, .inl ho, hb⟩
end Go.Proofs.Ytndddmichogaoaa
