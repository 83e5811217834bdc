/- Comparing naturals; two naturals at a time. No condition. -/
import Derived.Test.YtanjpkcacgjgfaaMany
import Derived.Test.YtanjpkcacgjgfaaPlainDiv
namespace Go.Proofs.Ytanjpkcacgjgfaa
open Go.RowKit
theorem l02Compare_any (v1 v2 : Value) (a b : List Int) (w : World) (h1 : Sl w v1 a) (h2 : Sl w v2 b) :
    Calls Try.prog 136 #[v1, v2] w fun e w' => e = .returned (.int .i64 (cmpN a b)) ∧ Below w.heap.size w w' := by
  obtain ⟨A1, c1, rfl, hlc1, hcm1, hr1⟩ := h1
  obtain ⟨A2, c2, rfl, hlc2, hcm2, hr2⟩ := h2
  have HR1 := Lib.hid hr1
  have HR2 := Lib.hid hr2
  clear hr1 hr2
  unfold maxLen at hcm1 hcm2
  rcases Nat.lt_trichotomy a.length b.length with h | h | h
  · have HF : Hid (cmpN a b = -1) := Lib.hid (by unfold cmpN; rw [if_pos h])
    have d1 : ((a.length : Int) != (b.length : Int)) = true := by rw [bne_iff_ne]; omega
    have d3 : (a.length != b.length) = true := by rw [bne_iff_ne]; omega
    go_enter Try.func136, Try.ntmps136
    go_wp2
    go_ret
    exact ⟨ret_int HF.out.symm, Below.refl _ _⟩
  · have HF := Lib.hid (cmpN_len h)
    have d1 : ((a.length : Int) != (b.length : Int)) = false := by simp [h]
    have d3 : (a.length != b.length) = false := by simp [h]
    have HL := Lib.hid h
    have hle : a.length ≤ b.length := by omega
    clear h
    go_enter Try.func136, Try.ntmps136
    go_wp2
    go_loopw [5] (fun i wr => ∃ k : Nat, k ≤ a.length ∧ i = .int .i64 ((k : Int) - 1) ∧ Hid (cmpL (a.take k).reverse (b.take k).reverse = cmpN a b) ∧ Below w.heap.size w wr) (fun i _ => (intOf i + 1).toNat)
    case atStart => exact ⟨a.length, Nat.le_refl _, rfl, Lib.hid (by rw [HF.out, List.take_length, HL.out, List.take_length]), Below.refl _ _⟩
    case round =>
      obtain ⟨k, hk, rfl, HK, hb⟩ := hrel
      by_cases h0 : 0 < k
      · obtain ⟨j, rfl⟩ : ∃ j, k = j + 1 := ⟨k - 1, by omega⟩
        rw [show (((j + 1 : Nat) : Int) - 1) = (j : Int) by omega]
        have hlt : j < a.length := by omega
        have hlt2 : j < b.length := by omega
        have hd : (j : Int) < (a.length : Int) := by omega
        have hd2 : (j : Int) < (b.length : Int) := by omega
        obtain ⟨a1, rfl, hb1, hc1⟩ := HR1.out.at_ hlt
        obtain ⟨a2, rfl, hb2, hc2⟩ := HR2.out.at_ hlt2
        have hcell1 := (hb.cell (p := a1.add j) (by rw [block_of_add]; exact hb1)).trans hc1
        have hcell2 := (hb.cell (p := a2.add j) (by rw [block_of_add]; exact hb2)).trans hc2
        clear hc1 hc2
        have HS := Lib.hid (cmpR_step hlt hlt2)
        rcases Int.lt_trichotomy (geti a j) (geti b j) with h | h | h
        · have HX : Hid (cmpN a b = -1) := Lib.hid (by rw [← HK.out, HS.out, if_pos h])
          go_wp2
          go_quiet (fail)
          go_wp2
          go_ret
          exact ⟨ret_int HX.out.symm, by first | exact hb | exact hb.drew | exact below_drewN hb _ | exact below_drewN (below_drewN hb _) _⟩
        · have HN : Hid (cmpL (a.take j).reverse (b.take j).reverse = cmpN a b) := Lib.hid (by rw [← HK.out, HS.out, if_neg (by omega), if_neg (by omega)])
          have h3 : decide (geti a j < geti b j) = false := decide_eq_false (by omega)
          have h4 : decide (geti b j < geti a j) = false := decide_eq_false (by omega)
          clear h
          go_wp2
          go_quiet (fail)
          go_wp2
          go_quiet (fail)
          go_wp2
          go_roundw
          case rel => exact ⟨j, by omega, rfl, HN, by first | exact hb | exact hb.drew | exact below_drewN hb _ | exact below_drewN (below_drewN hb _) _⟩
          case measure => simp [intOf] <;> omega
        · have HX : Hid (cmpN a b = 1) := Lib.hid (by rw [← HK.out, HS.out, if_neg (by omega), if_pos h])
          have h3 : decide (geti a j < geti b j) = false := decide_eq_false (by omega)
          go_wp2
          go_quiet (fail)
          go_wp2
          go_quiet (fail)
          go_wp2
          go_ret
          exact ⟨ret_int HX.out.symm, by first | exact hb | exact hb.drew | exact below_drewN hb _ | exact below_drewN (below_drewN hb _) _⟩
      · obtain rfl : k = 0 := by omega
        rw [show (((0 : Nat) : Int) - 1) = (-1 : Int) by omega]
        have HX : Hid (cmpN a b = 0) := Lib.hid (by rw [← HK.out]; rfl)
        go_wp2
        go_ret
        exact ⟨ret_int HX.out.symm, hb⟩
  · have HF : Hid (cmpN a b = 1) := Lib.hid (by unfold cmpN; rw [if_neg (by omega), if_pos h])
    have d1 : ((a.length : Int) != (b.length : Int)) = true := by rw [bne_iff_ne]; omega
    have d3 : (a.length != b.length) = true := by rw [bne_iff_ne]; omega
    have d2 : decide (a.length < b.length) = false := decide_eq_false (by omega)
    go_enter Try.func136, Try.ntmps136
    go_wp2
    go_ret
    exact ⟨ret_int HF.out.symm, Below.refl _ _⟩
theorem compareNaturals_any (v1 v2 : Value) (a b : List Int) (w : World) (h1 : Sl w v1 a) (h2 : Sl w v2 b) :
    Calls Try.prog 98 #[v1, v2] w fun e w' => e = .returned (.int .i64 (cmpN a b)) ∧ Below w.heap.size w w' := by
  obtain ⟨A1, c1, rfl, hlc1, hcm1, hr1⟩ := h1
  obtain ⟨A2, c2, rfl, hlc2, hcm2, hr2⟩ := h2
  have HR1 := Lib.hid hr1
  have HR2 := Lib.hid hr2
  clear hr1 hr2
  unfold maxLen at hcm1 hcm2
  rcases Nat.lt_trichotomy a.length b.length with h | h | h
  · have HF : Hid (cmpN a b = -1) := Lib.hid (by unfold cmpN; rw [if_pos h])
    have d1 : ((a.length : Int) != (b.length : Int)) = true := by rw [bne_iff_ne]; omega
    have d3 : (a.length != b.length) = true := by rw [bne_iff_ne]; omega
    go_enter Try.func98, Try.ntmps98
    go_wp2
    go_ret
    exact ⟨ret_int HF.out.symm, Below.refl _ _⟩
  · have HF := Lib.hid (cmpN_len h)
    have d1 : ((a.length : Int) != (b.length : Int)) = false := by simp [h]
    have d3 : (a.length != b.length) = false := by simp [h]
    have HL := Lib.hid h
    have hle : a.length ≤ b.length := by omega
    clear h
    go_enter Try.func98, Try.ntmps98
    go_wp2
    go_loopw [5] (fun i wr => ∃ k : Nat, k ≤ a.length ∧ i = .int .i64 ((k : Int) - 1) ∧ Hid (cmpL (a.take k).reverse (b.take k).reverse = cmpN a b) ∧ Below w.heap.size w wr) (fun i _ => (intOf i + 1).toNat)
    case atStart => exact ⟨a.length, Nat.le_refl _, rfl, Lib.hid (by rw [HF.out, List.take_length, HL.out, List.take_length]), Below.refl _ _⟩
    case round =>
      obtain ⟨k, hk, rfl, HK, hb⟩ := hrel
      by_cases h0 : 0 < k
      · obtain ⟨j, rfl⟩ : ∃ j, k = j + 1 := ⟨k - 1, by omega⟩
        rw [show (((j + 1 : Nat) : Int) - 1) = (j : Int) by omega]
        have hlt : j < a.length := by omega
        have hlt2 : j < b.length := by omega
        have hd : (j : Int) < (a.length : Int) := by omega
        have hd2 : (j : Int) < (b.length : Int) := by omega
        obtain ⟨a1, rfl, hb1, hc1⟩ := HR1.out.at_ hlt
        obtain ⟨a2, rfl, hb2, hc2⟩ := HR2.out.at_ hlt2
        have hcell1 := (hb.cell (p := a1.add j) (by rw [block_of_add]; exact hb1)).trans hc1
        have hcell2 := (hb.cell (p := a2.add j) (by rw [block_of_add]; exact hb2)).trans hc2
        clear hc1 hc2
        have HS := Lib.hid (cmpR_step hlt hlt2)
        rcases Int.lt_trichotomy (geti a j) (geti b j) with h | h | h
        · have HX : Hid (cmpN a b = -1) := Lib.hid (by rw [← HK.out, HS.out, if_pos h])
          have h3 : (geti a j != geti b j) = true := by rw [bne_iff_ne]; omega
          go_wp2
          go_quiet (fail)
          go_wp2
          go_quiet (fail)
          go_wp2
          go_ret
          exact ⟨ret_int HX.out.symm, by first | exact hb | exact hb.drew | exact below_drewN hb _ | exact below_drewN (below_drewN hb _) _⟩
        · have HN : Hid (cmpL (a.take j).reverse (b.take j).reverse = cmpN a b) := Lib.hid (by rw [← HK.out, HS.out, if_neg (by omega), if_neg (by omega)])
          have h3 : (geti a j != geti b j) = false := by simp [h]
          clear h
          go_wp2
          go_quiet (fail)
          go_wp2
          go_roundw
          case rel => exact ⟨j, by omega, rfl, HN, by first | exact hb | exact hb.drew | exact below_drewN hb _ | exact below_drewN (below_drewN hb _) _⟩
          case measure => simp [intOf] <;> omega
        · have HX : Hid (cmpN a b = 1) := Lib.hid (by rw [← HK.out, HS.out, if_neg (by omega), if_pos h])
          have h3 : (geti a j != geti b j) = true := by rw [bne_iff_ne]; omega
          have h4 : decide (geti a j < geti b j) = false := decide_eq_false (by omega)
          go_wp2
          go_quiet (fail)
          go_wp2
          go_quiet (fail)
          go_wp2
          go_ret
          exact ⟨ret_int HX.out.symm, by first | exact hb | exact hb.drew | exact below_drewN hb _ | exact below_drewN (below_drewN hb _) _⟩
      · obtain rfl : k = 0 := by omega
        rw [show (((0 : Nat) : Int) - 1) = (-1 : Int) by omega]
        have HX : Hid (cmpN a b = 0) := Lib.hid (by rw [← HK.out]; rfl)
        go_wp2
        go_ret
        exact ⟨ret_int HX.out.symm, hb⟩
  · have HF : Hid (cmpN a b = 1) := Lib.hid (by unfold cmpN; rw [if_neg (by omega), if_pos h])
    have d1 : ((a.length : Int) != (b.length : Int)) = true := by rw [bne_iff_ne]; omega
    have d3 : (a.length != b.length) = true := by rw [bne_iff_ne]; omega
    have d2 : decide (a.length < b.length) = false := decide_eq_false (by omega)
    go_enter Try.func98, Try.ntmps98
    go_wp2
    go_ret
    exact ⟨ret_int HF.out.symm, Below.refl _ _⟩
/-- Both lists are naturals. -/
def nat2 (a b : List Int) : Bool := natB a && natB b
theorem nat2_all (a b : List Int) : naturals_all [a, b] = nat2 a b := by unfold naturals_all nat2; simp
end Go.Proofs.Ytanjpkcacgjgfaa
