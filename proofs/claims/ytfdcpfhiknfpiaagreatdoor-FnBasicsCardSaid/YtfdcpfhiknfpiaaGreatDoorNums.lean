/- Contracts of the small number functions: within, l00In, primes, powers, exponents. No condition beyond the stated bounds. -/
import Derived.Test.YtfdcpfhiknfpiaaGreatDoorWords
import Derived.Test.YtfdcpfhiknfpiaaGreatDoorPlain
namespace Go.Proofs.YtfdcpfhiknfpiaaGreatDoor
open Go.RowKit

theorem within_any (n lo hi : Int) (w : World) :
    Calls Tryz.prog 25 #[.int .i64 n, .int .i64 lo, .int .i64 hi] w fun e w' => e = .returned (.bool (inB n lo hi)) ∧ w = w' := by
  rw [inB_def]
  by_cases h : lo ≤ n
  · go_enter Tryz.func25, Tryz.ntmps25
    go_wp2
    go_ret
    exact ⟨by simp [h], rfl⟩
  · have hd : decide (lo ≤ n) = false := by simpa using h
    go_enter Tryz.func25, Tryz.ntmps25
    go_wp2
    go_ret
    exact ⟨by simp, rfl⟩

theorem isPrime_any (n : Int) (w : World) (h0 : -9223372036854775808 ≤ n) (hn : n ≤ 1000000000000) :
    Calls Tryz.prog 30 #[.int .i64 n] w fun e w' => e = .returned (.bool (primeB n)) ∧ w = w' := by
  go_enter Tryz.func30, Tryz.ntmps30
  go_wp2
  go_loop [3] (fun t => ∃ d : Nat, 2 ≤ d ∧ d ≤ 1000001 ∧ Hid (∀ c : Nat, 2 ≤ c → c < d → n % (c : Int) ≠ 0) ∧ t = .int .i64 d) (fun t => 1000002 - (intOf t).toNat)
  case atStart => exact ⟨2, by omega, by omega, (fun c _ _ => by omega), rfl⟩
  case round =>
    obtain ⟨d, hd2, hd1, H, rfl⟩ := hrel
    have hdd := sq_up hd1
    have hd0 : 0 ≤ (d : Int) * (d : Int) := Int.mul_nonneg (by omega) (by omega)
    by_cases hle : (d : Int) * (d : Int) ≤ n
    · have hlt : d ≤ 1000000 := sq_down (by omega)
      by_cases hm : n % (d : Int) = 0
      · have HP := Lib.hid (primeB_div hd2 hle hm)
        have hmb : (n % (d : Int) == 0) = true := by simpa using hm
        clear hm
        go_wp2
        go_ret
        exact ⟨ret_bool HP.out.symm, rfl⟩
      · have hmb : (n % (d : Int) == 0) = false := by simpa using hm
        have HM := Lib.hid hm
        clear hm
        go_wp2
        go_round
        case rel =>
          refine ⟨d + 1, by omega, by omega, (fun c hc2 hc => ?_), by go_num⟩
          rcases Nat.lt_or_ge c d with h | h
          · exact H.out c hc2 h
          · obtain rfl : c = d := by omega
            exact HM.out
        case measure => simp [intOf] <;> omega
    · have HP : Hid (primeB n = decide (2 ≤ n)) := by
        by_cases h2 : n < 2
        · rw [primeB_small h2]; exact (decide_eq_false (by omega)).symm
        · rw [primeB_yes (by omega) fun c hc2 hcc => H.out c hc2 ?_]
          · exact (decide_eq_true (by omega)).symm
          rcases Nat.lt_or_ge c d with h | h
          · exact h
          · exfalso
            have := sq_mono h
            omega
      go_wp2
      go_ret
      exact ⟨ret_bool HP.out.symm, rfl⟩
theorem primeAt_any (k : Nat) (w : World) (hk : k < 24) :
    Calls Tryz.prog 28 #[.int .i64 (k : Int)] w fun e w' => e = .returned (.int .i64 (primeK k : Int)) ∧ w = w' := by
  have HF := Lib.hid (primeK_found k hk).1
  go_enter Tryz.func28, Tryz.ntmps28
  go_wp2_with fail
  go_loop [0, 3] (fun t u => ∃ j n f : Nat, j < 24 ∧ 2 ≤ n ∧ n + f = 102 ∧ Hid (primeFrom f j n = some (primeK k)) ∧ t = .int .i64 j ∧ u = .int .i64 n) (fun _ u => 102 - (intOf u).toNat)
  case atStart => exact ⟨k, 2, 100, hk, by omega, rfl, HF, rfl, rfl⟩
  case round =>
    obtain ⟨j, n, f, hj, hn2, hnf, H, rfl, rfl⟩ := hrel
    obtain ⟨g, rfl⟩ : ∃ g, f = g + 1 := by
      rcases f with _ | g
      · exact absurd H.out (by simp [primeFrom])
      · exact ⟨g, rfl⟩
    cases hp : primeB (n : Int) with
    | true =>
      by_cases hj0 : j = 0
      · subst hj0
        have HR : Hid (n = primeK k) := by
          refine Lib.hid ?_
          have := H.out
          unfold primeFrom at this
          rw [hp] at this
          simpa using this
        go_wp2_with (go_at_call 30; refine (isPrime_any _ _ (by omega) (by omega)).mono ?_; rintro e w' ⟨rfl, rfl⟩)
        go_ret
        exact ⟨ret_int (by rw [HR.out]), rfl⟩
      · have HR : Hid (primeFrom g (j - 1) (n + 1) = some (primeK k)) := by
          refine Lib.hid ?_
          have := H.out
          unfold primeFrom at this
          rw [hp] at this
          simpa [hj0] using this
        have hjb : ((j : Int) == 0) = false := by simpa using hj0
        go_wp2_with (go_at_call 30; refine (isPrime_any _ _ (by omega) (by omega)).mono ?_; rintro e w' ⟨rfl, rfl⟩)
        go_round
        case rel => exact ⟨j - 1, n + 1, g, by omega, by omega, by omega, HR, by rw [Int.ofNat_sub (by omega)]; rfl, by go_num⟩
        case measure => simp [intOf] <;> omega
    | false =>
      have HR : Hid (primeFrom g j (n + 1) = some (primeK k)) := by
        refine Lib.hid ?_
        have := H.out
        unfold primeFrom at this
        rw [hp] at this
        simpa using this
      go_wp2_with (go_at_call 30; refine (isPrime_any _ _ (by omega) (by omega)).mono ?_; rintro e w' ⟨rfl, rfl⟩)
      go_round
      case rel => exact ⟨j, n + 1, g, by omega, by omega, by omega, HR, rfl, by go_num⟩
      case measure => simp [intOf] <;> omega
theorem exponentOf_any (n d : Int) (w : World) (h1 : 1 ≤ n) (hn : n ≤ 1000000000000) (hd : 2 ≤ d) (hd2 : d ≤ 1000000000000) :
    Calls Tryz.prog 29 #[.int .i64 n, .int .i64 d] w fun e w' => e = .returned (.int .i64 (expo n.toNat n d : Int)) ∧ w = w' := by
  go_enter Tryz.func29, Tryz.ntmps29
  go_wp2
  go_loop [0, 5] (fun t u => ∃ (m : Int) (c : Nat), 1 ≤ m ∧ m ≤ n ∧ m + c ≤ n ∧ Hid (expo m.toNat m d + c = expo n.toNat n d) ∧ t = .int .i64 m ∧ u = .int .i64 c) (fun t _ => (intOf t).toNat)
  case atStart => exact ⟨n, 0, h1, by omega, by omega, rfl, rfl, rfl⟩
  case round =>
    obtain ⟨m, c, hm1, hmn, hmc, H, rfl, rfl⟩ := hrel
    by_cases hm : m % d = 0
    · have hmb : (m % d == 0) = true := by simpa using hm
      obtain ⟨hlt, hge⟩ := div_step hd hm1 hm
      have HR : Hid (expo (m / d).toNat (m / d) d + (c + 1) = expo n.toNat n d) := by
        rw [← H.out, expo_step hd hm1 hm]; show _ = _; omega
      clear hm
      go_wp2
      go_round
      case rel => exact ⟨m / d, c + 1, by omega, by omega, by omega, HR, rfl, by go_num⟩
      case measure => simp [intOf] <;> omega
    · have hmb : (m % d == 0) = false := by simpa using hm
      have HR : Hid (c = expo n.toNat n d) := by
        rw [← H.out, expo_stop hm1 hm]; show _ = _; omega
      clear hm
      go_wp2
      go_ret
      exact ⟨ret_int (by rw [HR.out]), rfl⟩

end Go.Proofs.YtfdcpfhiknfpiaaGreatDoor
