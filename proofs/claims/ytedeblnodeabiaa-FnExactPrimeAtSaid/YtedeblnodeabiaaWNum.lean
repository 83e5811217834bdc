/- The walks of FnExactIsPrime, FnExactExponentOf, FnExactPowerOf, FnExactPrimeAt. No condition. -/
import Derived.Test.YtedeblnodeabiaaNums
namespace Go.Proofs.Ytedeblnodeabiaa
open Go.RowKit
theorem specIsPrime_any (n : Int) (w : World) (hn : -9223372036854775808 ≤ n ∧ n ≤ 9223372036854775807) :
    Calls Try.prog 17 #[.int .i64 n] w fun e w' => e = .returned (.bool (decide (n ≤ 1000000000000) && primeB n)) ∧ w = w' := by
  obtain ⟨hlo, hhi⟩ := hn
  by_cases h : n ≤ 1000000000000
  · go_enter Try.func17, Try.ntmps17
    go_wp2_with (go_at_call 43; refine (l01Prime_any _ _ (by omega) (by omega)).mono ?_; rintro e w' ⟨rfl, rfl⟩)
    go_ret
    exact ⟨by simp [h], rfl⟩
  · have hd : decide (n ≤ 1000000000000) = false := decide_eq_false h
    go_enter Try.func17, Try.ntmps17
    go_wp2
    go_ret
    exact ⟨by simp, rfl⟩
theorem implIsPrime_any (n : Int) (w : World) (hn : -9223372036854775808 ≤ n ∧ n ≤ 9223372036854775807) :
    Calls Try.prog 18 #[.int .i64 n] w fun e w' => e = .returned (.bool (decide (n ≤ 1000000000000) && primeB n)) ∧ w = w' := by
  obtain ⟨hlo, hhi⟩ := hn
  by_cases h : n ≤ 1000000000000
  · go_enter Try.func18, Try.ntmps18
    go_wp2_with (go_at_call 44; refine (isPrime_any _ _ (by omega) (by omega)).mono ?_; rintro e w' ⟨rfl, rfl⟩)
    go_ret
    exact ⟨by simp [h], rfl⟩
  · have hd : decide (n ≤ 1000000000000) = false := decide_eq_false h
    go_enter Try.func18, Try.ntmps18
    go_wp2
    go_ret
    exact ⟨by simp, rfl⟩
theorem walkIsPrime (n : Int) (w : World) (hn : -9223372036854775808 ≤ n ∧ n ≤ 9223372036854775807) :
    Calls Try.prog 5 #[.int .i64 n] w fun e w' => e = .returned (.bool true) ∧ Below w.heap.size w w' := by
  go_enter Try.func5, Try.ntmps5
  generalize hg : (decide (n ≤ 1000000000000) && primeB n) = b
  go_wp2_with (first
    | (go_at_call 17; refine (specIsPrime_any _ _ hn).mono ?_; rintro e w' ⟨rfl, rfl⟩)
    | (go_at_call 18; refine (implIsPrime_any _ _ hn).mono ?_; rintro e w' ⟨rfl, rfl⟩))
  go_ret
  exact ⟨rfl, Below.refl _ _⟩
theorem specPrimeAt_any (n : Int) (w : World) :
    Calls Try.prog 33 #[.int .i64 n] w fun e w' => e = .returned (.tuple #[.int .i64 (if inB n 0 23 = true then (primeK n.toNat : Int) else 0), .int .i64 (if inB n 0 23 = true then 0 else 2)]) ∧ w = w' := by
  cases h : inB n 0 23 with
  | true =>
    obtain ⟨h0, h1⟩ := inB_true.1 h
    obtain ⟨k, rfl⟩ := Int.eq_ofNat_of_zero_le h0
    go_enter Try.func33, Try.ntmps33
    go_wp2_with (first
      | (go_at_call 41; refine (l00In_any _ _ _ _).mono ?_; rintro e w' ⟨rfl, rfl⟩)
      | (go_at_call 54; refine (l01PrimeAt_any _ _ (by omega)).mono ?_; rintro e w' ⟨rfl, rfl⟩))
    go_ret2
    exact ⟨rfl, rfl⟩
  | false =>
    go_enter Try.func33, Try.ntmps33
    go_wp2_with (go_at_call 41; refine (l00In_any _ _ _ _).mono ?_; rintro e w' ⟨rfl, rfl⟩)
    go_ret2
    exact ⟨rfl, rfl⟩
theorem implPrimeAt_any (n : Int) (w : World) :
    Calls Try.prog 34 #[.int .i64 n] w fun e w' => e = .returned (.tuple #[.int .i64 (if inB n 0 23 = true then (primeK n.toNat : Int) else 0), .int .i64 (if inB n 0 23 = true then 0 else 2)]) ∧ w = w' := by
  cases h : inB n 0 23 with
  | true =>
    obtain ⟨h0, h1⟩ := inB_true.1 h
    obtain ⟨k, rfl⟩ := Int.eq_ofNat_of_zero_le h0
    go_enter Try.func34, Try.ntmps34
    go_wp2_with (first
      | (go_at_call 42; refine (within_any _ _ _ _).mono ?_; rintro e w' ⟨rfl, rfl⟩)
      | (go_at_call 55; refine (primeAt_any _ _ (by omega)).mono ?_; rintro e w' ⟨rfl, rfl⟩))
    go_ret2
    exact ⟨rfl, rfl⟩
  | false =>
    go_enter Try.func34, Try.ntmps34
    go_wp2_with (go_at_call 42; refine (within_any _ _ _ _).mono ?_; rintro e w' ⟨rfl, rfl⟩)
    go_ret2
    exact ⟨rfl, rfl⟩
theorem walkPrimeAt (n : Int) (w : World) (_h : -9223372036854775808 ≤ n ∧ n ≤ 9223372036854775807) :
    Calls Try.prog 12 #[.int .i64 n] w fun e w' => e = .returned (.bool true) ∧ Below w.heap.size w w' := by
  have hs := specPrimeAt_any n
  have hi := implPrimeAt_any n
  generalize (if inB n 0 23 = true then (primeK n.toNat : Int) else 0) = x at hs hi
  generalize (if inB n 0 23 = true then (0 : Int) else 2) = y at hs hi
  have HS := Lib.hid hs
  have HI := Lib.hid hi
  clear hs hi
  go_enter Try.func12, Try.ntmps12
  go_wp2_with (first
    | (go_at_call 33; refine (HS.out _).mono ?_; rintro e w' ⟨rfl, rfl⟩)
    | (go_at_call 34; refine (HI.out _).mono ?_; rintro e w' ⟨rfl, rfl⟩))
  go_ret
  exact ⟨rfl, Below.refl _ _⟩
/-- What ExponentOf answers. -/
def exOf (n d : Int) : Int × Int := if inB n 1 1000000000000 && inB d 2 1000000000000 then ((expo n.toNat n d : Int), 0) else (0, 2)
theorem specExponentOf_any (n d : Int) (w : World) :
    Calls Try.prog 21 #[.int .i64 n, .int .i64 d] w fun e w' => e = .returned (.tuple #[.int .i64 (exOf n d).1, .int .i64 (exOf n d).2]) ∧ w = w' := by
  cases h : inB n 1 1000000000000 with
  | false =>
    have H : Hid (exOf n d = (0, 2)) := by refine Lib.hid ?_; simp [exOf, h]
    go_enter Try.func21, Try.ntmps21
    go_wp2_with (go_at_call 41; refine (l00In_any _ _ _ _).mono ?_; rintro e w' ⟨rfl, rfl⟩)
    go_ret2
    exact ⟨by rw [H.out]; rfl, rfl⟩
  | true =>
    cases h2 : inB d 2 1000000000000 with
    | false =>
      have H : Hid (exOf n d = (0, 2)) := by refine Lib.hid ?_; simp [exOf, h2]
      go_enter Try.func21, Try.ntmps21
      go_wp2_with (go_at_call 41; refine (l00In_any _ _ _ _).mono ?_; rintro e w' ⟨rfl, rfl⟩)
      go_ret2
      exact ⟨by rw [H.out]; rfl, rfl⟩
    | true =>
      have H : Hid (exOf n d = ((expo n.toNat n d : Int), 0)) := by refine Lib.hid ?_; simp [exOf, h, h2]
      obtain ⟨a1, a2⟩ := inB_true.1 h
      obtain ⟨b1, b2⟩ := inB_true.1 h2
      go_enter Try.func21, Try.ntmps21
      go_wp2_with (first
        | (go_at_call 41; refine (l00In_any _ _ _ _).mono ?_; rintro e w' ⟨rfl, rfl⟩)
        | (go_at_call 46; refine (l01Exponent_any _ _ _ a1 a2 b1 b2).mono ?_; rintro e w' ⟨rfl, rfl⟩))
      go_ret2
      exact ⟨by rw [H.out]; rfl, rfl⟩
theorem implExponentOf_any (n d : Int) (w : World) :
    Calls Try.prog 22 #[.int .i64 n, .int .i64 d] w fun e w' => e = .returned (.tuple #[.int .i64 (exOf n d).1, .int .i64 (exOf n d).2]) ∧ w = w' := by
  cases h : inB n 1 1000000000000 with
  | false =>
    have H : Hid (exOf n d = (0, 2)) := by refine Lib.hid ?_; simp [exOf, h]
    go_enter Try.func22, Try.ntmps22
    go_wp2_with (go_at_call 42; refine (within_any _ _ _ _).mono ?_; rintro e w' ⟨rfl, rfl⟩)
    go_ret2
    exact ⟨by rw [H.out]; rfl, rfl⟩
  | true =>
    cases h2 : inB d 2 1000000000000 with
    | false =>
      have H : Hid (exOf n d = (0, 2)) := by refine Lib.hid ?_; simp [exOf, h2]
      go_enter Try.func22, Try.ntmps22
      go_wp2_with (go_at_call 42; refine (within_any _ _ _ _).mono ?_; rintro e w' ⟨rfl, rfl⟩)
      go_ret2
      exact ⟨by rw [H.out]; rfl, rfl⟩
    | true =>
      have H : Hid (exOf n d = ((expo n.toNat n d : Int), 0)) := by refine Lib.hid ?_; simp [exOf, h, h2]
      obtain ⟨a1, a2⟩ := inB_true.1 h
      obtain ⟨b1, b2⟩ := inB_true.1 h2
      go_enter Try.func22, Try.ntmps22
      go_wp2_with (first
        | (go_at_call 42; refine (within_any _ _ _ _).mono ?_; rintro e w' ⟨rfl, rfl⟩)
        | (go_at_call 47; refine (exponentOf_any _ _ _ a1 a2 b1 b2).mono ?_; rintro e w' ⟨rfl, rfl⟩))
      go_ret2
      exact ⟨by rw [H.out]; rfl, rfl⟩
theorem walkExponentOf (n d : Int) (w : World) (_h : -9223372036854775808 ≤ n ∧ n ≤ 9223372036854775807) (_h2 : -9223372036854775808 ≤ d ∧ d ≤ 9223372036854775807) :
    Calls Try.prog 7 #[.int .i64 n, .int .i64 d] w fun e w' => e = .returned (.bool true) ∧ Below w.heap.size w w' := by
  have hs := specExponentOf_any n d
  have hi := implExponentOf_any n d
  generalize (exOf n d).1 = x at hs hi
  generalize (exOf n d).2 = y at hs hi
  have HS := Lib.hid hs
  have HI := Lib.hid hi
  clear hs hi
  go_enter Try.func7, Try.ntmps7
  go_wp2_with (first
    | (go_at_call 21; refine (HS.out _).mono ?_; rintro e w' ⟨rfl, rfl⟩)
    | (go_at_call 22; refine (HI.out _).mono ?_; rintro e w' ⟨rfl, rfl⟩))
  go_ret
  exact ⟨rfl, Below.refl _ _⟩
/-- What PowerOf answers. -/
def pwOf (b e : Int) : Int × Int := if inB b 0 1000000000000 && inB e 0 64 then powR b e.toNat else (0, 2)
theorem powR_cases (b : Int) (e : Nat) : (∃ x, powR b e = (x, 0)) ∨ powR b e = (0, 5) := by
  unfold powR
  cases pwI e 1 b with
  | none => exact .inr rfl
  | some x => exact .inl ⟨x, rfl⟩
theorem specPowerOf_any (n d : Int) (w : World) :
    Calls Try.prog 25 #[.int .i64 n, .int .i64 d] w fun e w' => e = .returned (.tuple #[.int .i64 (pwOf n d).1, .int .i64 (pwOf n d).2]) ∧ w = w' := by
  cases h : inB n 0 1000000000000 with
  | false =>
    have H : Hid (pwOf n d = (0, 2)) := by refine Lib.hid ?_; simp [pwOf, h]
    go_enter Try.func25, Try.ntmps25
    go_wp2_with (go_at_call 41; refine (l00In_any _ _ _ _).mono ?_; rintro e w' ⟨rfl, rfl⟩)
    go_ret2
    exact ⟨by rw [H.out]; rfl, rfl⟩
  | true =>
    cases h2 : inB d 0 64 with
    | false =>
      have H : Hid (pwOf n d = (0, 2)) := by refine Lib.hid ?_; simp [pwOf, h2]
      go_enter Try.func25, Try.ntmps25
      go_wp2_with (go_at_call 41; refine (l00In_any _ _ _ _).mono ?_; rintro e w' ⟨rfl, rfl⟩)
      go_ret2
      exact ⟨by rw [H.out]; rfl, rfl⟩
    | true =>
      have H : Hid (pwOf n d = powR n d.toNat) := by refine Lib.hid ?_; simp [pwOf, h, h2]
      obtain ⟨a1, a2⟩ := inB_true.1 h
      obtain ⟨b1, b2⟩ := inB_true.1 h2
      obtain ⟨e0, rfl⟩ := Int.eq_ofNat_of_zero_le b1
      have hc := l01Power_any n e0
      have hcs := powR_cases n e0
      rw [Int.toNat_natCast] at H
      generalize powR n e0 = r at hc hcs H
      have HC := Lib.hid hc
      clear hc
      rcases hcs with ⟨x, rfl⟩ | rfl
      · go_enter Try.func25, Try.ntmps25
        go_wp2_with (first
          | (go_at_call 41; refine (l00In_any _ _ _ _).mono ?_; rintro e w' ⟨rfl, rfl⟩)
          | (go_at_call 49; refine (HC.out _ a1 a2 (by omega)).mono ?_; rintro e w' ⟨rfl, rfl⟩))
        go_ret2
        exact ⟨by rw [H.out]; rfl, rfl⟩
      · go_enter Try.func25, Try.ntmps25
        go_wp2_with (first
          | (go_at_call 41; refine (l00In_any _ _ _ _).mono ?_; rintro e w' ⟨rfl, rfl⟩)
          | (go_at_call 49; refine (HC.out _ a1 a2 (by omega)).mono ?_; rintro e w' ⟨rfl, rfl⟩))
        go_ret2
        exact ⟨by rw [H.out]; rfl, rfl⟩
theorem implPowerOf_any (n d : Int) (w : World) :
    Calls Try.prog 26 #[.int .i64 n, .int .i64 d] w fun e w' => e = .returned (.tuple #[.int .i64 (pwOf n d).1, .int .i64 (pwOf n d).2]) ∧ w = w' := by
  cases h : inB n 0 1000000000000 with
  | false =>
    have H : Hid (pwOf n d = (0, 2)) := by refine Lib.hid ?_; simp [pwOf, h]
    go_enter Try.func26, Try.ntmps26
    go_wp2_with (go_at_call 42; refine (within_any _ _ _ _).mono ?_; rintro e w' ⟨rfl, rfl⟩)
    go_ret2
    exact ⟨by rw [H.out]; rfl, rfl⟩
  | true =>
    cases h2 : inB d 0 64 with
    | false =>
      have H : Hid (pwOf n d = (0, 2)) := by refine Lib.hid ?_; simp [pwOf, h2]
      go_enter Try.func26, Try.ntmps26
      go_wp2_with (go_at_call 42; refine (within_any _ _ _ _).mono ?_; rintro e w' ⟨rfl, rfl⟩)
      go_ret2
      exact ⟨by rw [H.out]; rfl, rfl⟩
    | true =>
      have HP : Hid (pwOf n d = powR n d.toNat) := by refine Lib.hid ?_; simp [pwOf, h, h2]
      obtain ⟨a1, a2⟩ := inB_true.1 h
      obtain ⟨b1, b2⟩ := inB_true.1 h2
      obtain ⟨e0, rfl⟩ := Int.eq_ofNat_of_zero_le b1
      rw [Int.toNat_natCast] at HP
      go_enter Try.func26, Try.ntmps26
      go_wp2_with (go_at_call 42; refine (within_any _ _ _ _).mono ?_; rintro e w' ⟨rfl, rfl⟩)
      go_loop [1, 6] (fun t u => ∃ (e : Nat) (x : Int), e ≤ 64 ∧ 0 ≤ x ∧ x ≤ 1000000000000 ∧ Hid (pwI e x n = pwI e0 1 n) ∧ t = .int .i64 e ∧ u = .int .i64 x) (fun t _ => (intOf t).toNat)
      case atStart => exact ⟨e0, 1, by omega, by omega, by omega, rfl, rfl, rfl⟩
      case round =>
        obtain ⟨e, x, he64, hx0, hx1, H, rfl, rfl⟩ := hrel
        by_cases hz : e = 0
        · subst hz
          have HR : Hid (pwOf n e0 = (x, 0)) := by refine Lib.hid ?_; rw [HP.out]; unfold powR; rw [← H.out]; rfl
          go_wp2
          go_ret2
          exact ⟨by rw [HR.out]; rfl, rfl⟩
        · obtain ⟨f, rfl⟩ : ∃ f, e = f + 1 := ⟨e - 1, by omega⟩
          by_cases hn0 : 0 < n
          · by_cases hq : 1000000000000 / n < x
            · have HR : Hid (pwOf n e0 = (0, 5)) := by refine Lib.hid ?_; rw [HP.out]; unfold powR; rw [← H.out, pwI, if_pos ⟨by omega, hq⟩]
              go_wp2
              go_ret2
              exact ⟨by rw [HR.out]; rfl, rfl⟩
            · have HR : Hid (pwI f (x * n) n = pwI e0 1 n) := by refine Lib.hid ?_; rw [← H.out, pwI, if_neg (by omega)]
              have hm := mul_le_of_div (by omega) hq
              have hm0 : 0 ≤ x * n := Int.mul_nonneg hx0 a1
              go_wp2
              go_round
              case rel => exact ⟨f, x * n, by omega, hm0, hm, HR, by go_num, rfl⟩
              case measure => simp [intOf] <;> omega
          · have hn : n = 0 := by omega
            have HR : Hid (pwI f (x * n) n = pwI e0 1 n) := by refine Lib.hid ?_; rw [← H.out, pwI, if_neg (by omega)]
            have hm : x * n = 0 := by rw [hn]; simp
            have hm0 : 0 ≤ x * n := by omega
            have hm1 : x * n ≤ 1000000000000 := by omega
            have hd : decide (0 < n) = false := by simpa using hn0
            clear hm hn
            go_wp2
            go_round
            case rel => exact ⟨f, x * n, by omega, hm0, hm1, HR, by go_num, rfl⟩
            case measure => simp [intOf] <;> omega
theorem walkPowerOf (n d : Int) (w : World) (_h : -9223372036854775808 ≤ n ∧ n ≤ 9223372036854775807) (_h2 : -9223372036854775808 ≤ d ∧ d ≤ 9223372036854775807) :
    Calls Try.prog 9 #[.int .i64 n, .int .i64 d] w fun e w' => e = .returned (.bool true) ∧ Below w.heap.size w w' := by
  have hs := specPowerOf_any n d
  have hi := implPowerOf_any n d
  generalize (pwOf n d).1 = x at hs hi
  generalize (pwOf n d).2 = y at hs hi
  have HS := Lib.hid hs
  have HI := Lib.hid hi
  clear hs hi
  go_enter Try.func9, Try.ntmps9
  go_wp2_with (first
    | (go_at_call 25; refine (HS.out _).mono ?_; rintro e w' ⟨rfl, rfl⟩)
    | (go_at_call 26; refine (HI.out _).mono ?_; rintro e w' ⟨rfl, rfl⟩))
  go_ret
  exact ⟨rfl, Below.refl _ _⟩
end Go.Proofs.Ytedeblnodeabiaa
