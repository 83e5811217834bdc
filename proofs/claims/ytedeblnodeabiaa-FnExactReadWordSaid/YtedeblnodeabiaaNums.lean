/- Contracts of the small number functions: within, l00In, primes, powers, exponents. No condition beyond the stated bounds. -/
import Derived.Test.YtedeblnodeabiaaWords
import Derived.Test.YtedeblnodeabiaaPlain
namespace Go.Proofs.Ytedeblnodeabiaa
open Go.RowKit

theorem within_any (n lo hi : Int) (w : World) :
    Calls Try.prog 42 #[.int .i64 n, .int .i64 lo, .int .i64 hi] w fun e w' => e = .returned (.bool (inB n lo hi)) ∧ w = w' := by
  rw [inB_def]
  by_cases h : lo ≤ n
  · go_enter Try.func42, Try.ntmps42
    go_wp2
    go_ret
    exact ⟨by simp [h], rfl⟩
  · have hd : decide (lo ≤ n) = false := by simpa using h
    go_enter Try.func42, Try.ntmps42
    go_wp2
    go_ret
    exact ⟨by simp, rfl⟩
theorem l00In_any (n lo hi : Int) (w : World) :
    Calls Try.prog 41 #[.int .i64 n, .int .i64 lo, .int .i64 hi] w fun e w' => e = .returned (.bool (inB n lo hi)) ∧ w = w' := by
  rw [inB_def]
  by_cases h : lo ≤ n
  · go_enter Try.func41, Try.ntmps41
    go_wp2
    go_ret
    exact ⟨by simp [h], rfl⟩
  · have hd : decide (lo ≤ n) = false := by simpa using h
    go_enter Try.func41, Try.ntmps41
    go_wp2
    go_ret
    exact ⟨by simp, rfl⟩

theorem l01Prime_any (n : Int) (w : World) (h0 : -9223372036854775808 ≤ n) (hn : n ≤ 1000000000000) :
    Calls Try.prog 43 #[.int .i64 n] w fun e w' => e = .returned (.bool (primeB n)) ∧ w = w' := by
  by_cases h2 : n < 2
  · have H := Lib.hid (primeB_small h2)
    go_enter Try.func43, Try.ntmps43
    go_wp2
    go_ret
    exact ⟨ret_bool H.out.symm, rfl⟩
  · go_enter Try.func43, Try.ntmps43
    go_wp2
    go_loop [3] (fun t => ∃ d : Nat, 2 ≤ d ∧ d ≤ 1000001 ∧ Hid (∀ c : Nat, 2 ≤ c → c < d → n % (c : Int) ≠ 0) ∧ t = .int .i64 d) (fun t => 1000002 - (intOf t).toNat)
    case atStart => exact ⟨2, by omega, by omega, (fun c _ _ => by omega), rfl⟩
    case round =>
      obtain ⟨d, hd2, hd1, H, rfl⟩ := hrel
      have hdd := sq_up hd1
      have hd0 : 0 ≤ (d : Int) * (d : Int) := Int.mul_nonneg (by omega) (by omega)
      by_cases hle : (d : Int) * (d : Int) ≤ n
      · have hlt : d ≤ 1000000 := sq_down (by omega)
        by_cases hm : n % (d : Int) = 0
        · have HP := Lib.hid (primeB_div hd2 hle hm)
          have hmb : (n % (d : Int) == 0) = true := by simpa using hm
          clear hm
          go_wp2
          go_ret
          exact ⟨ret_bool HP.out.symm, rfl⟩
        · have hmb : (n % (d : Int) == 0) = false := by simpa using hm
          have HM := Lib.hid hm
          clear hm
          go_wp2
          go_round
          case rel =>
            refine ⟨d + 1, by omega, by omega, (fun c hc2 hc => ?_), by go_num⟩
            rcases Nat.lt_or_ge c d with h | h
            · exact H.out c hc2 h
            · obtain rfl : c = d := by omega
              exact HM.out
          case measure => simp [intOf] <;> omega
      · have HP : Hid (primeB n = true) := by
          refine primeB_yes (by omega) fun c hc2 hcc => H.out c hc2 ?_
          rcases Nat.lt_or_ge c d with h | h
          · exact h
          · exfalso
            have := sq_mono h
            omega
        go_wp2
        go_ret
        exact ⟨ret_bool HP.out.symm, rfl⟩
theorem isPrime_any (n : Int) (w : World) (h0 : -9223372036854775808 ≤ n) (hn : n ≤ 1000000000000) :
    Calls Try.prog 44 #[.int .i64 n] w fun e w' => e = .returned (.bool (primeB n)) ∧ w = w' := by
  go_enter Try.func44, Try.ntmps44
  go_wp2
  go_loop [3] (fun t => ∃ d : Nat, 2 ≤ d ∧ d ≤ 1000001 ∧ Hid (∀ c : Nat, 2 ≤ c → c < d → n % (c : Int) ≠ 0) ∧ t = .int .i64 d) (fun t => 1000002 - (intOf t).toNat)
  case atStart => exact ⟨2, by omega, by omega, (fun c _ _ => by omega), rfl⟩
  case round =>
    obtain ⟨d, hd2, hd1, H, rfl⟩ := hrel
    have hdd := sq_up hd1
    have hd0 : 0 ≤ (d : Int) * (d : Int) := Int.mul_nonneg (by omega) (by omega)
    by_cases hle : (d : Int) * (d : Int) ≤ n
    · have hlt : d ≤ 1000000 := sq_down (by omega)
      by_cases hm : n % (d : Int) = 0
      · have HP := Lib.hid (primeB_div hd2 hle hm)
        have hmb : (n % (d : Int) == 0) = true := by simpa using hm
        clear hm
        go_wp2
        go_ret
        exact ⟨ret_bool HP.out.symm, rfl⟩
      · have hmb : (n % (d : Int) == 0) = false := by simpa using hm
        have HM := Lib.hid hm
        clear hm
        go_wp2
        go_round
        case rel =>
          refine ⟨d + 1, by omega, by omega, (fun c hc2 hc => ?_), by go_num⟩
          rcases Nat.lt_or_ge c d with h | h
          · exact H.out c hc2 h
          · obtain rfl : c = d := by omega
            exact HM.out
        case measure => simp [intOf] <;> omega
    · have HP : Hid (primeB n = decide (2 ≤ n)) := by
        by_cases h2 : n < 2
        · rw [primeB_small h2]; exact (decide_eq_false (by omega)).symm
        · rw [primeB_yes (by omega) fun c hc2 hcc => H.out c hc2 ?_]
          · exact (decide_eq_true (by omega)).symm
          rcases Nat.lt_or_ge c d with h | h
          · exact h
          · exfalso
            have := sq_mono h
            omega
      go_wp2
      go_ret
      exact ⟨ret_bool HP.out.symm, rfl⟩
theorem l01PrimeAt_any (k : Nat) (w : World) (hk : k < 24) :
    Calls Try.prog 54 #[.int .i64 (k : Int)] w fun e w' => e = .returned (.int .i64 (primeK k : Int)) ∧ w = w' := by
  have HF := Lib.hid (primeK_found k hk).1
  go_enter Try.func54, Try.ntmps54
  go_wp2_with fail
  go_loop [0, 3] (fun t u => ∃ j n f : Nat, j < 24 ∧ 2 ≤ n ∧ n + f = 102 ∧ Hid (primeFrom f j n = some (primeK k)) ∧ t = .int .i64 j ∧ u = .int .i64 n) (fun _ u => 102 - (intOf u).toNat)
  case atStart => exact ⟨k, 2, 100, hk, by omega, rfl, HF, rfl, rfl⟩
  case round =>
    obtain ⟨j, n, f, hj, hn2, hnf, H, rfl, rfl⟩ := hrel
    obtain ⟨g, rfl⟩ : ∃ g, f = g + 1 := by
      rcases f with _ | g
      · exact absurd H.out (by simp [primeFrom])
      · exact ⟨g, rfl⟩
    cases hp : primeB (n : Int) with
    | true =>
      by_cases hj0 : j = 0
      · subst hj0
        have HR : Hid (n = primeK k) := by
          refine Lib.hid ?_
          have := H.out
          unfold primeFrom at this
          rw [hp] at this
          simpa using this
        go_wp2_with (go_at_call 43; refine (l01Prime_any _ _ (by omega) (by omega)).mono ?_; rintro e w' ⟨rfl, rfl⟩)
        go_ret
        exact ⟨ret_int (by rw [HR.out]), rfl⟩
      · have HR : Hid (primeFrom g (j - 1) (n + 1) = some (primeK k)) := by
          refine Lib.hid ?_
          have := H.out
          unfold primeFrom at this
          rw [hp] at this
          simpa [hj0] using this
        have hjb : ((j : Int) == 0) = false := by simpa using hj0
        go_wp2_with (go_at_call 43; refine (l01Prime_any _ _ (by omega) (by omega)).mono ?_; rintro e w' ⟨rfl, rfl⟩)
        go_round
        case rel => exact ⟨j - 1, n + 1, g, by omega, by omega, by omega, HR, by rw [Int.ofNat_sub (by omega)]; rfl, by go_num⟩
        case measure => simp [intOf] <;> omega
    | false =>
      have HR : Hid (primeFrom g j (n + 1) = some (primeK k)) := by
        refine Lib.hid ?_
        have := H.out
        unfold primeFrom at this
        rw [hp] at this
        simpa using this
      go_wp2_with (go_at_call 43; refine (l01Prime_any _ _ (by omega) (by omega)).mono ?_; rintro e w' ⟨rfl, rfl⟩)
      go_round
      case rel => exact ⟨j, n + 1, g, by omega, by omega, by omega, HR, rfl, by go_num⟩
      case measure => simp [intOf] <;> omega
theorem primeAt_any (k : Nat) (w : World) (hk : k < 24) :
    Calls Try.prog 55 #[.int .i64 (k : Int)] w fun e w' => e = .returned (.int .i64 (primeK k : Int)) ∧ w = w' := by
  have HF := Lib.hid (primeK_found k hk).1
  go_enter Try.func55, Try.ntmps55
  go_wp2_with fail
  go_loop [0, 3] (fun t u => ∃ j n f : Nat, j < 24 ∧ 2 ≤ n ∧ n + f = 102 ∧ Hid (primeFrom f j n = some (primeK k)) ∧ t = .int .i64 j ∧ u = .int .i64 n) (fun _ u => 102 - (intOf u).toNat)
  case atStart => exact ⟨k, 2, 100, hk, by omega, rfl, HF, rfl, rfl⟩
  case round =>
    obtain ⟨j, n, f, hj, hn2, hnf, H, rfl, rfl⟩ := hrel
    obtain ⟨g, rfl⟩ : ∃ g, f = g + 1 := by
      rcases f with _ | g
      · exact absurd H.out (by simp [primeFrom])
      · exact ⟨g, rfl⟩
    cases hp : primeB (n : Int) with
    | true =>
      by_cases hj0 : j = 0
      · subst hj0
        have HR : Hid (n = primeK k) := by
          refine Lib.hid ?_
          have := H.out
          unfold primeFrom at this
          rw [hp] at this
          simpa using this
        go_wp2_with (go_at_call 44; refine (isPrime_any _ _ (by omega) (by omega)).mono ?_; rintro e w' ⟨rfl, rfl⟩)
        go_ret
        exact ⟨ret_int (by rw [HR.out]), rfl⟩
      · have HR : Hid (primeFrom g (j - 1) (n + 1) = some (primeK k)) := by
          refine Lib.hid ?_
          have := H.out
          unfold primeFrom at this
          rw [hp] at this
          simpa [hj0] using this
        have hjb : ((j : Int) == 0) = false := by simpa using hj0
        go_wp2_with (go_at_call 44; refine (isPrime_any _ _ (by omega) (by omega)).mono ?_; rintro e w' ⟨rfl, rfl⟩)
        go_round
        case rel => exact ⟨j - 1, n + 1, g, by omega, by omega, by omega, HR, by rw [Int.ofNat_sub (by omega)]; rfl, by go_num⟩
        case measure => simp [intOf] <;> omega
    | false =>
      have HR : Hid (primeFrom g j (n + 1) = some (primeK k)) := by
        refine Lib.hid ?_
        have := H.out
        unfold primeFrom at this
        rw [hp] at this
        simpa using this
      go_wp2_with (go_at_call 44; refine (isPrime_any _ _ (by omega) (by omega)).mono ?_; rintro e w' ⟨rfl, rfl⟩)
      go_round
      case rel => exact ⟨j, n + 1, g, by omega, by omega, by omega, HR, rfl, by go_num⟩
      case measure => simp [intOf] <;> omega
theorem l01Exponent_any (n d : Int) (w : World) (h1 : 1 ≤ n) (hn : n ≤ 1000000000000) (hd : 2 ≤ d) (hd2 : d ≤ 1000000000000) :
    Calls Try.prog 46 #[.int .i64 n, .int .i64 d] w fun e w' => e = .returned (.int .i64 (expo n.toNat n d : Int)) ∧ w = w' := by
  go_enter Try.func46, Try.ntmps46
  go_wp2
  go_loop [0, 5] (fun t u => ∃ (m : Int) (c : Nat), 1 ≤ m ∧ m ≤ n ∧ m + c ≤ n ∧ Hid (expo m.toNat m d + c = expo n.toNat n d) ∧ t = .int .i64 m ∧ u = .int .i64 c) (fun t _ => (intOf t).toNat)
  case atStart => exact ⟨n, 0, h1, by omega, by omega, rfl, rfl, rfl⟩
  case round =>
    obtain ⟨m, c, hm1, hmn, hmc, H, rfl, rfl⟩ := hrel
    by_cases hm : m % d = 0
    · have hmb : (m % d == 0) = true := by simpa using hm
      obtain ⟨hlt, hge⟩ := div_step hd hm1 hm
      have HR : Hid (expo (m / d).toNat (m / d) d + (c + 1) = expo n.toNat n d) := by
        rw [← H.out, expo_step hd hm1 hm]; show _ = _; omega
      clear hm
      go_wp2
      go_round
      case rel => exact ⟨m / d, c + 1, by omega, by omega, by omega, HR, rfl, by go_num⟩
      case measure => simp [intOf] <;> omega
    · have hmb : (m % d == 0) = false := by simpa using hm
      have HR : Hid (c = expo n.toNat n d) := by
        rw [← H.out, expo_stop hm1 hm]; show _ = _; omega
      clear hm
      go_wp2
      go_ret
      exact ⟨ret_int (by rw [HR.out]), rfl⟩
theorem exponentOf_any (n d : Int) (w : World) (h1 : 1 ≤ n) (hn : n ≤ 1000000000000) (hd : 2 ≤ d) (hd2 : d ≤ 1000000000000) :
    Calls Try.prog 47 #[.int .i64 n, .int .i64 d] w fun e w' => e = .returned (.int .i64 (expo n.toNat n d : Int)) ∧ w = w' := by
  go_enter Try.func47, Try.ntmps47
  go_wp2
  go_loop [0, 5] (fun t u => ∃ (m : Int) (c : Nat), 1 ≤ m ∧ m ≤ n ∧ m + c ≤ n ∧ Hid (expo m.toNat m d + c = expo n.toNat n d) ∧ t = .int .i64 m ∧ u = .int .i64 c) (fun t _ => (intOf t).toNat)
  case atStart => exact ⟨n, 0, h1, by omega, by omega, rfl, rfl, rfl⟩
  case round =>
    obtain ⟨m, c, hm1, hmn, hmc, H, rfl, rfl⟩ := hrel
    by_cases hm : m % d = 0
    · have hmb : (m % d == 0) = true := by simpa using hm
      obtain ⟨hlt, hge⟩ := div_step hd hm1 hm
      have HR : Hid (expo (m / d).toNat (m / d) d + (c + 1) = expo n.toNat n d) := by
        rw [← H.out, expo_step hd hm1 hm]; show _ = _; omega
      clear hm
      go_wp2
      go_round
      case rel => exact ⟨m / d, c + 1, by omega, by omega, by omega, HR, rfl, by go_num⟩
      case measure => simp [intOf] <;> omega
    · have hmb : (m % d == 0) = false := by simpa using hm
      have HR : Hid (c = expo n.toNat n d) := by
        rw [← H.out, expo_stop hm1 hm]; show _ = _; omega
      clear hm
      go_wp2
      go_ret
      exact ⟨ret_int (by rw [HR.out]), rfl⟩
theorem l01Power_any (b : Int) (e0 : Nat) (w : World) (h0 : 0 ≤ b) (hb : b ≤ 1000000000000) (he : e0 ≤ 64) :
    Calls Try.prog 49 #[.int .i64 b, .int .i64 (e0 : Int)] w fun e w' => e = .returned (.tuple #[.int .i64 (powR b e0).1, .bool ((powR b e0).2 == 0)]) ∧ w = w' := by
  by_cases hs : b < 2 ∧ 0 < e0
  · obtain ⟨hs1, hs2⟩ := hs
    have HR : Hid (powR b e0 = (b, 0)) := by unfold powR; rw [pwI_small h0 hs1 hs2]; rfl
    go_enter Try.func49, Try.ntmps49
    go_wp2
    go_ret2
    exact ⟨by rw [HR.out]; rfl, rfl⟩
  · have key : ∀ g : Bool, Hid (g = (decide (b < 2) && decide (0 < e0))) → g = false := fun g hg => by rw [hg.out]; simp; omega
    clear key
    by_cases hb2 : b < 2
    · have he0 : e0 = 0 := by omega
      subst he0
      have hd : decide ((0 : Int) < ((0 : Nat) : Int)) = false := by simp
      clear hs
      go_enter Try.func49, Try.ntmps49
      go_wp2
      refine wp_loop_rounds 1 ?_
      rw [rounds_succ]
      go_wp2
      go_ret2
      exact ⟨rfl, rfl⟩
    · have hd : decide (b < 2) = false := by simpa using hb2
      clear hs
      go_enter Try.func49, Try.ntmps49
      go_wp2
      go_loop [1, 6] (fun t u => ∃ (e : Nat) (x : Int), e ≤ 64 ∧ 0 ≤ x ∧ x ≤ 1000000000000 ∧ Hid (pwI e x b = pwI e0 1 b) ∧ t = .int .i64 e ∧ u = .int .i64 x) (fun t _ => (intOf t).toNat)
      case atStart => exact ⟨e0, 1, he, by omega, by omega, rfl, rfl, rfl⟩
      case round =>
        obtain ⟨e, x, he64, hx0, hx1, H, rfl, rfl⟩ := hrel
        by_cases hz : e = 0
        · subst hz
          have HR : Hid (powR b e0 = (x, 0)) := by unfold powR; rw [← H.out]; rfl
          go_wp2
          go_ret2
          exact ⟨by rw [HR.out]; rfl, rfl⟩
        · obtain ⟨f, rfl⟩ : ∃ f, e = f + 1 := ⟨e - 1, by omega⟩
          by_cases hq : 1000000000000 / b < x
          · have HR : Hid (powR b e0 = (0, 5)) := by unfold powR; rw [← H.out, pwI, if_pos ⟨by omega, hq⟩]; rfl
            go_wp2
            go_ret2
            exact ⟨by rw [HR.out]; rfl, rfl⟩
          · have HR : Hid (pwI f (x * b) b = pwI e0 1 b) := by rw [← H.out, pwI, if_neg (by omega)]; rfl
            have hm := mul_le_of_div (by omega) hq
            have hm0 : 0 ≤ x * b := Int.mul_nonneg hx0 h0
            go_wp2
            go_round
            case rel => exact ⟨f, x * b, by omega, hm0, hm, HR, by go_num, rfl⟩
            case measure => simp [intOf] <;> omega

end Go.Proofs.Ytedeblnodeabiaa
