/- Comparing, reversing and ranking lists: contracts and what the laws need. No condition beyond the stated bounds. -/
import Derived.Test.YtndddmichogaoaaCat
import Derived.Test.YtndddmichogaoaaValid
namespace Go.Proofs.Ytndddmichogaoaa
open Go.RowKit
theorem l01Compare_any (v1 v2 : Value) (a b : List Int) (w : World) (h1 : Sl w v1 a) (h2 : Sl w v2 b) :
    Calls Try.prog 46 #[v1, v2] w fun e w' => e = .returned (.int .i64 (cmpL a b)) ∧ Below w.heap.size w w' := by
  obtain ⟨A1, c1, rfl, hlc1, hcm1, hr1⟩ := h1
  obtain ⟨A2, c2, rfl, hlc2, hcm2, hr2⟩ := h2
  have HR1 := Lib.hid hr1
  have HR2 := Lib.hid hr2
  clear hr1 hr2
  unfold maxLen at hcm1 hcm2
  go_enter Try.func46, Try.ntmps46
  go_wp2
  go_loopw [5] (fun i wr => ∃ k : Nat, k ≤ a.length ∧ k ≤ b.length ∧ i = .int .i64 k ∧ Hid (cmpL (a.drop k) (b.drop k) = cmpL a b) ∧ Below w.heap.size w wr) (fun i _ => a.length - (intOf i).toNat)
  case atStart => exact ⟨0, Nat.zero_le _, Nat.zero_le _, rfl, rfl, Below.refl _ _⟩
  case round =>
    obtain ⟨k, hk1, hk2, rfl, HK, hb⟩ := hrel
    by_cases hlt : k < a.length
    · have hd : (k : Int) < (a.length : Int) := by omega
      by_cases hlt2 : k < b.length
      · have hd2 : (k : Int) < (b.length : Int) := by omega
        obtain ⟨a1, rfl, hb1, hc1⟩ := HR1.out.at_ hlt
        obtain ⟨a2, rfl, hb2, hc2⟩ := HR2.out.at_ hlt2
        have hcell1 := (hb.cell (p := a1.add k) (by rw [block_of_add]; exact hb1)).trans hc1
        have hcell2 := (hb.cell (p := a2.add k) (by rw [block_of_add]; exact hb2)).trans hc2
        clear hc1 hc2
        have HS := Lib.hid (cmpL_step hlt hlt2)
        rcases Int.lt_trichotomy (geti a k) (geti b k) with h | h | h
        · have HF : Hid (cmpL a b = -1) := Lib.hid (by rw [← HK.out, HS.out, if_pos h])
          go_wp2
          go_quiet (fail)
          go_wp2
          go_ret
          exact ⟨ret_int HF.out.symm, by first | exact hb | exact hb.drew | exact below_drewN hb _⟩
        · have HN : Hid (cmpL (a.drop (k + 1)) (b.drop (k + 1)) = cmpL a b) := Lib.hid (by rw [← HK.out, HS.out, if_neg (by omega), if_neg (by omega)])
          have h3 : decide (geti a k < geti b k) = false := decide_eq_false (by omega)
          have h4 : decide (geti b k < geti a k) = false := decide_eq_false (by omega)
          clear h
          go_wp2
          go_quiet (fail)
          go_wp2
          go_quiet (fail)
          go_wp2
          go_roundw
          case rel => exact ⟨k + 1, by omega, by omega, by go_num, HN, by first | exact hb | exact hb.drew | exact below_drewN hb _ | exact below_drewN (below_drewN hb _) _⟩
          case measure => simp [intOf] <;> omega
        · have HF : Hid (cmpL a b = 1) := Lib.hid (by rw [← HK.out, HS.out, if_neg (by omega), if_pos h])
          have h3 : decide (geti a k < geti b k) = false := decide_eq_false (by omega)
          go_wp2
          go_quiet (fail)
          go_wp2
          go_quiet (fail)
          go_wp2
          go_ret
          exact ⟨ret_int HF.out.symm, by first | exact hb | exact hb.drew | exact below_drewN hb _ | exact below_drewN (below_drewN hb _) _⟩
      · have HE := Lib.hid (cmpL_end (k := k) (.inr (by omega)) hk1 hk2)
        have hd2 : decide ((k : Int) < (b.length : Int)) = false := decide_eq_false (by omega)
        have hd3 : decide (k < b.length) = false := decide_eq_false hlt2
        have HF : Hid (cmpL a b = 1) := Lib.hid (by rw [← HK.out, HE.out, if_neg (by omega), if_pos (by omega)])
        have h5 : b.length < a.length := by omega
        go_wp2
        go_ret
        exact ⟨ret_int HF.out.symm, hb⟩
    · have HE := Lib.hid (cmpL_end (k := k) (.inl (by omega)) hk1 hk2)
      have hd : decide ((k : Int) < (a.length : Int)) = false := decide_eq_false (by omega)
      have hd3 : decide (k < a.length) = false := decide_eq_false hlt
      by_cases h5 : a.length < b.length
      · have HF : Hid (cmpL a b = -1) := Lib.hid (by rw [← HK.out, HE.out, if_pos h5])
        go_wp2
        go_ret
        exact ⟨ret_int HF.out.symm, hb⟩
      · have HF : Hid (cmpL a b = 0) := Lib.hid (by rw [← HK.out, HE.out, if_neg h5, if_neg (by omega)])
        have h6 : ¬ b.length < a.length := by omega
        go_wp2
        go_ret
        exact ⟨ret_int HF.out.symm, hb⟩
/-- Two numbers compared. -/
def cmpI (x y : Int) : Int := if x < y then -1 else if y < x then 1 else 0
theorem cmpCompare_any (x y : Int) (w : World) : Calls Try.prog 76 #[.int .i64 x, .int .i64 y] w fun e w' => e = .returned (.int .i64 (cmpI x y)) ∧ w = w' := by
  rcases Int.lt_trichotomy x y with h | h | h
  · have HF : Hid (cmpI x y = -1) := Lib.hid (by unfold cmpI; rw [if_pos h])
    go_enter Try.func76, Try.ntmps76
    go_wp2
    go_ret
    exact ⟨ret_int HF.out.symm, rfl⟩
  · have HF : Hid (cmpI x y = 0) := Lib.hid (by unfold cmpI; rw [if_neg (by omega), if_neg (by omega)])
    subst h
    go_enter Try.func76, Try.ntmps76
    go_wp2
    go_ret
    exact ⟨ret_int HF.out.symm, rfl⟩
  · have HF : Hid (cmpI x y = 1) := Lib.hid (by unfold cmpI; rw [if_neg (by omega), if_pos h])
    have h3 : ¬ x < y := by omega
    go_enter Try.func76, Try.ntmps76
    go_wp2
    go_ret
    exact ⟨ret_int HF.out.symm, rfl⟩
theorem slicesCompare_any (v1 v2 : Value) (a b : List Int) (w : World) (h1 : Sl w v1 a) (h2 : Sl w v2 b) :
    Calls Try.prog 47 #[v1, v2] w fun e w' => e = .returned (.int .i64 (cmpL a b)) ∧ w = w' := by
  obtain ⟨A1, c1, rfl, hlc1, hcm1, hr1⟩ := h1
  obtain ⟨A2, c2, rfl, hlc2, hcm2, hr2⟩ := h2
  have HR1 := Lib.hid hr1
  have HR2 := Lib.hid hr2
  clear hr1 hr2
  unfold maxLen at hcm1 hcm2
  go_enter Try.func47, Try.ntmps47
  go_wp2
  go_loop [11] (fun i => ∃ k : Nat, k ≤ a.length ∧ k ≤ b.length ∧ i = .int .i64 k ∧ Hid (cmpL (a.drop k) (b.drop k) = cmpL a b)) (fun i => a.length - (intOf i).toNat)
  case atStart => exact ⟨0, Nat.zero_le _, Nat.zero_le _, rfl, rfl⟩
  case round =>
    obtain ⟨k, hk1, hk2, rfl, HK⟩ := hrel
    by_cases hlt : k < a.length
    · by_cases hlt2 : k < b.length
      · obtain ⟨a1, rfl, hb1, hc1⟩ := HR1.out.at_ hlt
        obtain ⟨a2, rfl, hb2, hc2⟩ := HR2.out.at_ hlt2
        have HS := Lib.hid (cmpL_step hlt hlt2)
        by_cases h : cmpI (geti a k) (geti b k) = 0
        · have HN : Hid (cmpL (a.drop (k + 1)) (b.drop (k + 1)) = cmpL a b) := Lib.hid (by
            rw [← HK.out, HS.out]
            unfold cmpI at h
            split at h
            · omega
            · split at h
              · omega
              · rw [if_neg (by assumption), if_neg (by assumption)])
          have hz : (cmpI (geti a k) (geti b k) != 0) = false := by simp [h]
          clear h
          go_wp2_with (go_at_call 76; refine (cmpCompare_any _ _ _).mono ?_; rintro e w' ⟨rfl, rfl⟩)
          go_round
          case rel => exact ⟨k + 1, by omega, by omega, by go_num, HN⟩
          case measure => simp [intOf] <;> omega
        · have HF : Hid (cmpL a b = cmpI (geti a k) (geti b k)) := Lib.hid (by
            rw [← HK.out, HS.out]
            unfold cmpI at h ⊢
            split
            · rfl
            · split
              · rfl
              · rename_i h3 h4; rw [if_neg h3, if_neg h4] at h; exact absurd rfl h)
          have hz : (cmpI (geti a k) (geti b k) != 0) = true := by simpa using h
          clear h
          go_wp2_with (go_at_call 76; refine (cmpCompare_any _ _ _).mono ?_; rintro e w' ⟨rfl, rfl⟩)
          go_ret
          exact ⟨ret_int HF.out.symm, rfl⟩
      · obtain ⟨a1, rfl, hb1, hc1⟩ := HR1.out.at_ hlt
        have HF : Hid (cmpL a b = 1) := Lib.hid (by rw [← HK.out, cmpL_end (k := k) (.inr (by omega)) hk1 hk2, if_neg (by omega), if_pos (by omega)])
        go_wp2
        go_ret
        exact ⟨ret_int HF.out.symm, rfl⟩
    · by_cases h5 : a.length < b.length
      · have HF : Hid (cmpL a b = -1) := Lib.hid (by rw [← HK.out, cmpL_end (k := k) (.inl (by omega)) hk1 hk2, if_pos h5])
        go_wp2
        go_ret
        exact ⟨ret_int HF.out.symm, rfl⟩
      · have HF : Hid (cmpL a b = 0) := Lib.hid (by rw [← HK.out, cmpL_end (k := k) (.inl (by omega)) hk1 hk2, if_neg h5, if_neg (by omega)])
        have h6 : decide (a.length < b.length) = false := decide_eq_false h5
        have h7 : decide ((a.length : Int) < (b.length : Int)) = false := decide_eq_false (by omega)
        go_wp2
        go_ret
        exact ⟨ret_int HF.out.symm, rfl⟩
theorem bothCompareLists (a b : List Int) (_f : Fit a) (_hn : a.length ≤ 1048576) (_g : Fit b) (_hm : b.length ≤ 1048576) : ∃ R : Int,
    (∀ (w : World) (v1 v2 : Value), Sl w v1 a → Sl w v2 b → Calls Try.prog 15 #[v1, v2] w fun e w' => e = .returned (.int .i64 R) ∧ Below w.heap.size w w') ∧
    (∀ (w : World) (v1 v2 : Value), Sl w v1 a → Sl w v2 b → Calls Try.prog 17 #[v1, v2] w fun e w' => e = .returned (.int .i64 R) ∧ Below w.heap.size w w') := by
  refine ⟨cmpL a b, fun w v1 v2 h1 h2 => ?_, fun w v1 v2 h1 h2 => ?_⟩
  · go_enter Try.func15, Try.ntmps15
    go_wp2_with (go_at_call 46; refine (l01Compare_any _ _ _ _ _ h1 h2).mono ?_; rintro e w' ⟨rfl, hb⟩)
    go_ret
    exact ⟨rfl, hb⟩
  · have hd := cmpL_bd a b
    have hlo : -1 ≤ cmpL a b := by omega
    have hhi : cmpL a b ≤ 1 := by omega
    clear hd
    go_enter Try.func17, Try.ntmps17
    go_wp2_with (go_at_call 47; refine (slicesCompare_any _ _ _ _ _ h1 h2).mono ?_; rintro e w' ⟨rfl, rfl⟩)
    go_ret
    exact ⟨rfl, Below.refl _ _⟩
end Go.Proofs.Ytndddmichogaoaa
