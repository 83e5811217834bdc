/- Comparing, reversing and ranking lists: contracts and what the laws need. No condition beyond the stated bounds. -/
import Derived.Test.YtfdcpfhiknfpiaaGreatDoorCat
import Derived.Test.YtfdcpfhiknfpiaaGreatDoorValid
namespace Go.Proofs.YtfdcpfhiknfpiaaGreatDoor
open Go.RowKit
/-- Two numbers compared. -/
def cmpI (x y : Int) : Int := if x < y then -1 else if y < x then 1 else 0
theorem cmpCompare_any (x y : Int) (w : World) : Calls Tryz.prog 37 #[.int .i64 x, .int .i64 y] w fun e w' => e = .returned (.int .i64 (cmpI x y)) ∧ w = w' := by
  rcases Int.lt_trichotomy x y with h | h | h
  · have HF : Hid (cmpI x y = -1) := Lib.hid (by unfold cmpI; rw [if_pos h])
    go_enter Tryz.func37, Tryz.ntmps37
    go_wp2
    go_ret
    exact ⟨ret_int HF.out.symm, rfl⟩
  · have HF : Hid (cmpI x y = 0) := Lib.hid (by unfold cmpI; rw [if_neg (by omega), if_neg (by omega)])
    subst h
    go_enter Tryz.func37, Tryz.ntmps37
    go_wp2
    go_ret
    exact ⟨ret_int HF.out.symm, rfl⟩
  · have HF : Hid (cmpI x y = 1) := Lib.hid (by unfold cmpI; rw [if_neg (by omega), if_pos h])
    have h3 : ¬ x < y := by omega
    go_enter Tryz.func37, Tryz.ntmps37
    go_wp2
    go_ret
    exact ⟨ret_int HF.out.symm, rfl⟩
theorem slicesCompare_any (v1 v2 : Value) (a b : List Int) (w : World) (h1 : Sl w v1 a) (h2 : Sl w v2 b) :
    Calls Tryz.prog 24 #[v1, v2] w fun e w' => e = .returned (.int .i64 (cmpL a b)) ∧ w = w' := by
  obtain ⟨A1, c1, rfl, hlc1, hcm1, hr1⟩ := h1
  obtain ⟨A2, c2, rfl, hlc2, hcm2, hr2⟩ := h2
  have HR1 := Lib.hid hr1
  have HR2 := Lib.hid hr2
  clear hr1 hr2
  unfold maxLen at hcm1 hcm2
  go_enter Tryz.func24, Tryz.ntmps24
  go_wp2
  go_loop [11] (fun i => ∃ k : Nat, k ≤ a.length ∧ k ≤ b.length ∧ i = .int .i64 k ∧ Hid (cmpL (a.drop k) (b.drop k) = cmpL a b)) (fun i => a.length - (intOf i).toNat)
  case atStart => exact ⟨0, Nat.zero_le _, Nat.zero_le _, rfl, rfl⟩
  case round =>
    obtain ⟨k, hk1, hk2, rfl, HK⟩ := hrel
    by_cases hlt : k < a.length
    · by_cases hlt2 : k < b.length
      · obtain ⟨a1, rfl, hb1, hc1⟩ := HR1.out.at_ hlt
        obtain ⟨a2, rfl, hb2, hc2⟩ := HR2.out.at_ hlt2
        have HS := Lib.hid (cmpL_step hlt hlt2)
        by_cases h : cmpI (geti a k) (geti b k) = 0
        · have HN : Hid (cmpL (a.drop (k + 1)) (b.drop (k + 1)) = cmpL a b) := Lib.hid (by
            rw [← HK.out, HS.out]
            unfold cmpI at h
            split at h
            · omega
            · split at h
              · omega
              · rw [if_neg (by assumption), if_neg (by assumption)])
          have hz : (cmpI (geti a k) (geti b k) != 0) = false := by simp [h]
          clear h
          go_wp2_with (go_at_call 37; refine (cmpCompare_any _ _ _).mono ?_; rintro e w' ⟨rfl, rfl⟩)
          go_round
          case rel => exact ⟨k + 1, by omega, by omega, by go_num, HN⟩
          case measure => simp [intOf] <;> omega
        · have HF : Hid (cmpL a b = cmpI (geti a k) (geti b k)) := Lib.hid (by
            rw [← HK.out, HS.out]
            unfold cmpI at h ⊢
            split
            · rfl
            · split
              · rfl
              · rename_i h3 h4; rw [if_neg h3, if_neg h4] at h; exact absurd rfl h)
          have hz : (cmpI (geti a k) (geti b k) != 0) = true := by simpa using h
          clear h
          go_wp2_with (go_at_call 37; refine (cmpCompare_any _ _ _).mono ?_; rintro e w' ⟨rfl, rfl⟩)
          go_ret
          exact ⟨ret_int HF.out.symm, rfl⟩
      · obtain ⟨a1, rfl, hb1, hc1⟩ := HR1.out.at_ hlt
        have HF : Hid (cmpL a b = 1) := Lib.hid (by rw [← HK.out, cmpL_end (k := k) (.inr (by omega)) hk1 hk2, if_neg (by omega), if_pos (by omega)])
        go_wp2
        go_ret
        exact ⟨ret_int HF.out.symm, rfl⟩
    · by_cases h5 : a.length < b.length
      · have HF : Hid (cmpL a b = -1) := Lib.hid (by rw [← HK.out, cmpL_end (k := k) (.inl (by omega)) hk1 hk2, if_pos h5])
        go_wp2
        go_ret
        exact ⟨ret_int HF.out.symm, rfl⟩
      · have HF : Hid (cmpL a b = 0) := Lib.hid (by rw [← HK.out, cmpL_end (k := k) (.inl (by omega)) hk1 hk2, if_neg h5, if_neg (by omega)])
        have h6 : decide (a.length < b.length) = false := decide_eq_false h5
        have h7 : decide ((a.length : Int) < (b.length : Int)) = false := decide_eq_false (by omega)
        go_wp2
        go_ret
        exact ⟨ret_int HF.out.symm, rfl⟩
end Go.Proofs.YtfdcpfhiknfpiaaGreatDoor
