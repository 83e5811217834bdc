/- The walks of FnExactIsPrime, FnExactExponentOf, FnExactPowerOf, FnExactPrimeAt. No condition. -/
import Derived.Test.YtfdcpfhiknfpiaaGreatDoorNums
namespace Go.Proofs.YtfdcpfhiknfpiaaGreatDoor
open Go.RowKit
theorem implIsPrime_any (n : Int) (w : World) (hn : -9223372036854775808 ≤ n ∧ n ≤ 9223372036854775807) :
    Calls Tryz.prog 17 #[.int .i64 n] w fun e w' => e = .returned (.bool (decide (n ≤ 1000000000000) && primeB n)) ∧ w = w' := by
  obtain ⟨hlo, hhi⟩ := hn
  by_cases h : n ≤ 1000000000000
  · go_enter Tryz.func17, Tryz.ntmps17
    go_wp2_with (go_at_call 30; refine (isPrime_any _ _ (by omega) (by omega)).mono ?_; rintro e w' ⟨rfl, rfl⟩)
    go_ret
    exact ⟨by simp [h], rfl⟩
  · have hd : decide (n ≤ 1000000000000) = false := decide_eq_false h
    go_enter Tryz.func17, Tryz.ntmps17
    go_wp2
    go_ret
    exact ⟨by simp, rfl⟩
theorem implPrimeAt_any (n : Int) (w : World) :
    Calls Tryz.prog 14 #[.int .i64 n] w fun e w' => e = .returned (.tuple #[.int .i64 (if inB n 0 23 = true then (primeK n.toNat : Int) else 0), .int .i64 (if inB n 0 23 = true then 0 else 2)]) ∧ w = w' := by
  cases h : inB n 0 23 with
  | true =>
    obtain ⟨h0, h1⟩ := inB_true.1 h
    obtain ⟨k, rfl⟩ := Int.eq_ofNat_of_zero_le h0
    go_enter Tryz.func14, Tryz.ntmps14
    go_wp2_with (first
      | (go_at_call 25; refine (within_any _ _ _ _).mono ?_; rintro e w' ⟨rfl, rfl⟩)
      | (go_at_call 28; refine (primeAt_any _ _ (by omega)).mono ?_; rintro e w' ⟨rfl, rfl⟩))
    go_ret2
    exact ⟨rfl, rfl⟩
  | false =>
    go_enter Tryz.func14, Tryz.ntmps14
    go_wp2_with (go_at_call 25; refine (within_any _ _ _ _).mono ?_; rintro e w' ⟨rfl, rfl⟩)
    go_ret2
    exact ⟨rfl, rfl⟩
/-- What ExponentOf answers. -/
def exOf (n d : Int) : Int × Int := if inB n 1 1000000000000 && inB d 2 1000000000000 then ((expo n.toNat n d : Int), 0) else (0, 2)
theorem implExponentOf_any (n d : Int) (w : World) :
    Calls Tryz.prog 16 #[.int .i64 n, .int .i64 d] w fun e w' => e = .returned (.tuple #[.int .i64 (exOf n d).1, .int .i64 (exOf n d).2]) ∧ w = w' := by
  cases h : inB n 1 1000000000000 with
  | false =>
    have H : Hid (exOf n d = (0, 2)) := by refine Lib.hid ?_; simp [exOf, h]
    go_enter Tryz.func16, Tryz.ntmps16
    go_wp2_with (go_at_call 25; refine (within_any _ _ _ _).mono ?_; rintro e w' ⟨rfl, rfl⟩)
    go_ret2
    exact ⟨by rw [H.out]; rfl, rfl⟩
  | true =>
    cases h2 : inB d 2 1000000000000 with
    | false =>
      have H : Hid (exOf n d = (0, 2)) := by refine Lib.hid ?_; simp [exOf, h2]
      go_enter Tryz.func16, Tryz.ntmps16
      go_wp2_with (go_at_call 25; refine (within_any _ _ _ _).mono ?_; rintro e w' ⟨rfl, rfl⟩)
      go_ret2
      exact ⟨by rw [H.out]; rfl, rfl⟩
    | true =>
      have H : Hid (exOf n d = ((expo n.toNat n d : Int), 0)) := by refine Lib.hid ?_; simp [exOf, h, h2]
      obtain ⟨a1, a2⟩ := inB_true.1 h
      obtain ⟨b1, b2⟩ := inB_true.1 h2
      go_enter Tryz.func16, Tryz.ntmps16
      go_wp2_with (first
        | (go_at_call 25; refine (within_any _ _ _ _).mono ?_; rintro e w' ⟨rfl, rfl⟩)
        | (go_at_call 29; refine (exponentOf_any _ _ _ a1 a2 b1 b2).mono ?_; rintro e w' ⟨rfl, rfl⟩))
      go_ret2
      exact ⟨by rw [H.out]; rfl, rfl⟩
/-- What PowerOf answers. -/
def pwOf (b e : Int) : Int × Int := if inB b 0 1000000000000 && inB e 0 64 then powR b e.toNat else (0, 2)
theorem implPowerOf_any (n d : Int) (w : World) :
    Calls Tryz.prog 15 #[.int .i64 n, .int .i64 d] w fun e w' => e = .returned (.tuple #[.int .i64 (pwOf n d).1, .int .i64 (pwOf n d).2]) ∧ w = w' := by
  cases h : inB n 0 1000000000000 with
  | false =>
    have H : Hid (pwOf n d = (0, 2)) := by refine Lib.hid ?_; simp [pwOf, h]
    go_enter Tryz.func15, Tryz.ntmps15
    go_wp2_with (go_at_call 25; refine (within_any _ _ _ _).mono ?_; rintro e w' ⟨rfl, rfl⟩)
    go_ret2
    exact ⟨by rw [H.out]; rfl, rfl⟩
  | true =>
    cases h2 : inB d 0 64 with
    | false =>
      have H : Hid (pwOf n d = (0, 2)) := by refine Lib.hid ?_; simp [pwOf, h2]
      go_enter Tryz.func15, Tryz.ntmps15
      go_wp2_with (go_at_call 25; refine (within_any _ _ _ _).mono ?_; rintro e w' ⟨rfl, rfl⟩)
      go_ret2
      exact ⟨by rw [H.out]; rfl, rfl⟩
    | true =>
      have HP : Hid (pwOf n d = powR n d.toNat) := by refine Lib.hid ?_; simp [pwOf, h, h2]
      obtain ⟨a1, a2⟩ := inB_true.1 h
      obtain ⟨b1, b2⟩ := inB_true.1 h2
      obtain ⟨e0, rfl⟩ := Int.eq_ofNat_of_zero_le b1
      rw [Int.toNat_natCast] at HP
      go_enter Tryz.func15, Tryz.ntmps15
      go_wp2_with (go_at_call 25; refine (within_any _ _ _ _).mono ?_; rintro e w' ⟨rfl, rfl⟩)
      go_loop [1, 6] (fun t u => ∃ (e : Nat) (x : Int), e ≤ 64 ∧ 0 ≤ x ∧ x ≤ 1000000000000 ∧ Hid (pwI e x n = pwI e0 1 n) ∧ t = .int .i64 e ∧ u = .int .i64 x) (fun t _ => (intOf t).toNat)
      case atStart => exact ⟨e0, 1, by omega, by omega, by omega, rfl, rfl, rfl⟩
      case round =>
        obtain ⟨e, x, he64, hx0, hx1, H, rfl, rfl⟩ := hrel
        by_cases hz : e = 0
        · subst hz
          have HR : Hid (pwOf n e0 = (x, 0)) := by refine Lib.hid ?_; rw [HP.out]; unfold powR; rw [← H.out]; rfl
          go_wp2
          go_ret2
          exact ⟨by rw [HR.out]; rfl, rfl⟩
        · obtain ⟨f, rfl⟩ : ∃ f, e = f + 1 := ⟨e - 1, by omega⟩
          by_cases hn0 : 0 < n
          · by_cases hq : 1000000000000 / n < x
            · have HR : Hid (pwOf n e0 = (0, 5)) := by refine Lib.hid ?_; rw [HP.out]; unfold powR; rw [← H.out, pwI, if_pos ⟨by omega, hq⟩]
              go_wp2
              go_ret2
              exact ⟨by rw [HR.out]; rfl, rfl⟩
            · have HR : Hid (pwI f (x * n) n = pwI e0 1 n) := by refine Lib.hid ?_; rw [← H.out, pwI, if_neg (by omega)]
              have hm := mul_le_of_div (by omega) hq
              have hm0 : 0 ≤ x * n := Int.mul_nonneg hx0 a1
              go_wp2
              go_round
              case rel => exact ⟨f, x * n, by omega, hm0, hm, HR, by go_num, rfl⟩
              case measure => simp [intOf] <;> omega
          · have hn : n = 0 := by omega
            have HR : Hid (pwI f (x * n) n = pwI e0 1 n) := by refine Lib.hid ?_; rw [← H.out, pwI, if_neg (by omega)]
            have hm : x * n = 0 := by rw [hn]; simp
            have hm0 : 0 ≤ x * n := by omega
            have hm1 : x * n ≤ 1000000000000 := by omega
            have hd : decide (0 < n) = false := by simpa using hn0
            clear hm hn
            go_wp2
            go_round
            case rel => exact ⟨f, x * n, by omega, hm0, hm1, HR, by go_num, rfl⟩
            case measure => simp [intOf] <;> omega
end Go.Proofs.YtfdcpfhiknfpiaaGreatDoor
