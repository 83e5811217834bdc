/- Comparing naturals; two naturals at a time. No condition. -/
import Derived.Test.YtkaicdljgchifaaMany
import Derived.Test.YtkaicdljgchifaaPlainDiv
namespace Go.Proofs.Ytkaicdljgchifaa
open Go.RowKit
theorem l02Compare_any (v1 v2 : Value) (a b : List Int) (w : World) (h1 : Sl w v1 a) (h2 : Sl w v2 b) :
    Calls Try.prog 50 #[v1, v2] w fun e w' => e = .returned (.int .i64 (cmpN a b)) ∧ Below w.heap.size w w' := by
  obtain ⟨A1, c1, rfl, hlc1, hcm1, hr1⟩ := h1
  obtain ⟨A2, c2, rfl, hlc2, hcm2, hr2⟩ := h2
  have HR1 := Lib.hid hr1
  have HR2 := Lib.hid hr2
  clear hr1 hr2
  unfold maxLen at hcm1 hcm2
  rcases Nat.lt_trichotomy a.length b.length with h | h | h
  · have HF : Hid (cmpN a b = -1) := Lib.hid (by unfold cmpN; rw [if_pos h])
    have d1 : ((a.length : Int) != (b.length : Int)) = true := by rw [bne_iff_ne]; omega
    have d3 : (a.length != b.length) = true := by rw [bne_iff_ne]; omega
    go_enter Try.func50, Try.ntmps50
    go_wp2
    go_ret
    exact ⟨ret_int HF.out.symm, Below.refl _ _⟩
  · have HF := Lib.hid (cmpN_len h)
    have d1 : ((a.length : Int) != (b.length : Int)) = false := by simp [h]
    have d3 : (a.length != b.length) = false := by simp [h]
    have HL := Lib.hid h
    have hle : a.length ≤ b.length := by omega
    clear h
    go_enter Try.func50, Try.ntmps50
    go_wp2
    go_loopw [5] (fun i wr => ∃ k : Nat, k ≤ a.length ∧ i = .int .i64 ((k : Int) - 1) ∧ Hid (cmpL (a.take k).reverse (b.take k).reverse = cmpN a b) ∧ Below w.heap.size w wr) (fun i _ => (intOf i + 1).toNat)
    case atStart => exact ⟨a.length, Nat.le_refl _, rfl, Lib.hid (by rw [HF.out, List.take_length, HL.out, List.take_length]), Below.refl _ _⟩
    case round =>
      obtain ⟨k, hk, rfl, HK, hb⟩ := hrel
      by_cases h0 : 0 < k
      · obtain ⟨j, rfl⟩ : ∃ j, k = j + 1 := ⟨k - 1, by omega⟩
        rw [show (((j + 1 : Nat) : Int) - 1) = (j : Int) by omega]
        have hlt : j < a.length := by omega
        have hlt2 : j < b.length := by omega
        have hd : (j : Int) < (a.length : Int) := by omega
        have hd2 : (j : Int) < (b.length : Int) := by omega
        obtain ⟨a1, rfl, hb1, hc1⟩ := HR1.out.at_ hlt
        obtain ⟨a2, rfl, hb2, hc2⟩ := HR2.out.at_ hlt2
        have hcell1 := (hb.cell (p := a1.add j) (by rw [block_of_add]; exact hb1)).trans hc1
        have hcell2 := (hb.cell (p := a2.add j) (by rw [block_of_add]; exact hb2)).trans hc2
        clear hc1 hc2
        have HS := Lib.hid (cmpR_step hlt hlt2)
        rcases Int.lt_trichotomy (geti a j) (geti b j) with h | h | h
        · have HX : Hid (cmpN a b = -1) := Lib.hid (by rw [← HK.out, HS.out, if_pos h])
          go_wp2
          go_quiet (fail)
          go_wp2
          go_ret
          exact ⟨ret_int HX.out.symm, by first | exact hb | exact hb.drew | exact below_drewN hb _ | exact below_drewN (below_drewN hb _) _⟩
        · have HN : Hid (cmpL (a.take j).reverse (b.take j).reverse = cmpN a b) := Lib.hid (by rw [← HK.out, HS.out, if_neg (by omega), if_neg (by omega)])
          have h3 : decide (geti a j < geti b j) = false := decide_eq_false (by omega)
          have h4 : decide (geti b j < geti a j) = false := decide_eq_false (by omega)
          clear h
          go_wp2
          go_quiet (fail)
          go_wp2
          go_quiet (fail)
          go_wp2
          go_roundw
          case rel => exact ⟨j, by omega, rfl, HN, by first | exact hb | exact hb.drew | exact below_drewN hb _ | exact below_drewN (below_drewN hb _) _⟩
          case measure => simp [intOf] <;> omega
        · have HX : Hid (cmpN a b = 1) := Lib.hid (by rw [← HK.out, HS.out, if_neg (by omega), if_pos h])
          have h3 : decide (geti a j < geti b j) = false := decide_eq_false (by omega)
          go_wp2
          go_quiet (fail)
          go_wp2
          go_quiet (fail)
          go_wp2
          go_ret
          exact ⟨ret_int HX.out.symm, by first | exact hb | exact hb.drew | exact below_drewN hb _ | exact below_drewN (below_drewN hb _) _⟩
      · obtain rfl : k = 0 := by omega
        rw [show (((0 : Nat) : Int) - 1) = (-1 : Int) by omega]
        have HX : Hid (cmpN a b = 0) := Lib.hid (by rw [← HK.out]; rfl)
        go_wp2
        go_ret
        exact ⟨ret_int HX.out.symm, hb⟩
  · have HF : Hid (cmpN a b = 1) := Lib.hid (by unfold cmpN; rw [if_neg (by omega), if_pos h])
    have d1 : ((a.length : Int) != (b.length : Int)) = true := by rw [bne_iff_ne]; omega
    have d3 : (a.length != b.length) = true := by rw [bne_iff_ne]; omega
    have d2 : decide (a.length < b.length) = false := decide_eq_false (by omega)
    go_enter Try.func50, Try.ntmps50
    go_wp2
    go_ret
    exact ⟨ret_int HF.out.symm, Below.refl _ _⟩
theorem compareNaturals_any (v1 v2 : Value) (a b : List Int) (w : World) (h1 : Sl w v1 a) (h2 : Sl w v2 b) :
    Calls Try.prog 52 #[v1, v2] w fun e w' => e = .returned (.int .i64 (cmpN a b)) ∧ Below w.heap.size w w' := by
  obtain ⟨A1, c1, rfl, hlc1, hcm1, hr1⟩ := h1
  obtain ⟨A2, c2, rfl, hlc2, hcm2, hr2⟩ := h2
  have HR1 := Lib.hid hr1
  have HR2 := Lib.hid hr2
  clear hr1 hr2
  unfold maxLen at hcm1 hcm2
  rcases Nat.lt_trichotomy a.length b.length with h | h | h
  · have HF : Hid (cmpN a b = -1) := Lib.hid (by unfold cmpN; rw [if_pos h])
    have d1 : ((a.length : Int) != (b.length : Int)) = true := by rw [bne_iff_ne]; omega
    have d3 : (a.length != b.length) = true := by rw [bne_iff_ne]; omega
    go_enter Try.func52, Try.ntmps52
    go_wp2
    go_ret
    exact ⟨ret_int HF.out.symm, Below.refl _ _⟩
  · have HF := Lib.hid (cmpN_len h)
    have d1 : ((a.length : Int) != (b.length : Int)) = false := by simp [h]
    have d3 : (a.length != b.length) = false := by simp [h]
    have HL := Lib.hid h
    have hle : a.length ≤ b.length := by omega
    clear h
    go_enter Try.func52, Try.ntmps52
    go_wp2
    go_loopw [5] (fun i wr => ∃ k : Nat, k ≤ a.length ∧ i = .int .i64 ((k : Int) - 1) ∧ Hid (cmpL (a.take k).reverse (b.take k).reverse = cmpN a b) ∧ Below w.heap.size w wr) (fun i _ => (intOf i + 1).toNat)
    case atStart => exact ⟨a.length, Nat.le_refl _, rfl, Lib.hid (by rw [HF.out, List.take_length, HL.out, List.take_length]), Below.refl _ _⟩
    case round =>
      obtain ⟨k, hk, rfl, HK, hb⟩ := hrel
      by_cases h0 : 0 < k
      · obtain ⟨j, rfl⟩ : ∃ j, k = j + 1 := ⟨k - 1, by omega⟩
        rw [show (((j + 1 : Nat) : Int) - 1) = (j : Int) by omega]
        have hlt : j < a.length := by omega
        have hlt2 : j < b.length := by omega
        have hd : (j : Int) < (a.length : Int) := by omega
        have hd2 : (j : Int) < (b.length : Int) := by omega
        obtain ⟨a1, rfl, hb1, hc1⟩ := HR1.out.at_ hlt
        obtain ⟨a2, rfl, hb2, hc2⟩ := HR2.out.at_ hlt2
        have hcell1 := (hb.cell (p := a1.add j) (by rw [block_of_add]; exact hb1)).trans hc1
        have hcell2 := (hb.cell (p := a2.add j) (by rw [block_of_add]; exact hb2)).trans hc2
        clear hc1 hc2
        have HS := Lib.hid (cmpR_step hlt hlt2)
        rcases Int.lt_trichotomy (geti a j) (geti b j) with h | h | h
        · have HX : Hid (cmpN a b = -1) := Lib.hid (by rw [← HK.out, HS.out, if_pos h])
          have h3 : (geti a j != geti b j) = true := by rw [bne_iff_ne]; omega
          go_wp2
          go_quiet (fail)
          go_wp2
          go_quiet (fail)
          go_wp2
          go_ret
          exact ⟨ret_int HX.out.symm, by first | exact hb | exact hb.drew | exact below_drewN hb _ | exact below_drewN (below_drewN hb _) _⟩
        · have HN : Hid (cmpL (a.take j).reverse (b.take j).reverse = cmpN a b) := Lib.hid (by rw [← HK.out, HS.out, if_neg (by omega), if_neg (by omega)])
          have h3 : (geti a j != geti b j) = false := by simp [h]
          clear h
          go_wp2
          go_quiet (fail)
          go_wp2
          go_roundw
          case rel => exact ⟨j, by omega, rfl, HN, by first | exact hb | exact hb.drew | exact below_drewN hb _ | exact below_drewN (below_drewN hb _) _⟩
          case measure => simp [intOf] <;> omega
        · have HX : Hid (cmpN a b = 1) := Lib.hid (by rw [← HK.out, HS.out, if_neg (by omega), if_pos h])
          have h3 : (geti a j != geti b j) = true := by rw [bne_iff_ne]; omega
          have h4 : decide (geti a j < geti b j) = false := decide_eq_false (by omega)
          go_wp2
          go_quiet (fail)
          go_wp2
          go_quiet (fail)
          go_wp2
          go_ret
          exact ⟨ret_int HX.out.symm, by first | exact hb | exact hb.drew | exact below_drewN hb _ | exact below_drewN (below_drewN hb _) _⟩
      · obtain rfl : k = 0 := by omega
        rw [show (((0 : Nat) : Int) - 1) = (-1 : Int) by omega]
        have HX : Hid (cmpN a b = 0) := Lib.hid (by rw [← HK.out]; rfl)
        go_wp2
        go_ret
        exact ⟨ret_int HX.out.symm, hb⟩
  · have HF : Hid (cmpN a b = 1) := Lib.hid (by unfold cmpN; rw [if_neg (by omega), if_pos h])
    have d1 : ((a.length : Int) != (b.length : Int)) = true := by rw [bne_iff_ne]; omega
    have d3 : (a.length != b.length) = true := by rw [bne_iff_ne]; omega
    have d2 : decide (a.length < b.length) = false := decide_eq_false (by omega)
    go_enter Try.func52, Try.ntmps52
    go_wp2
    go_ret
    exact ⟨ret_int HF.out.symm, Below.refl _ _⟩
/-- Both lists are naturals. -/
def nat2 (a b : List Int) : Bool := natB a && natB b
theorem nat2_all (a b : List Int) : naturals_all [a, b] = nat2 a b := by unfold naturals_all nat2; simp
theorem bothCompareNaturals (a b : List Int) (_f : Fit a) (_hn : a.length ≤ 1048576) (_g : Fit b) (_hm : b.length ≤ 1048576) : ∃ R C : Int,
    (∀ (w : World) (v1 v2 : Value), Sl w v1 a → Sl w v2 b → Calls Try.prog 17 #[v1, v2] w fun e w' => e = .returned (.tuple #[.int .i64 R, .int .i64 C]) ∧ Below w.heap.size w w') ∧
    (∀ (w : World) (v1 v2 : Value), Sl w v1 a → Sl w v2 b → Calls Try.prog 19 #[v1, v2] w fun e w' => e = .returned (.tuple #[.int .i64 R, .int .i64 C]) ∧ Below w.heap.size w w') := by
  cases ha : natB a with
  | false =>
    refine ⟨0, 1, fun w v1 v2 h1 h2 => ?_, fun w v1 v2 h1 h2 => ?_⟩
    · go_enter Try.func17, Try.ntmps17
      go_wp2_with (go_at_call 49; refine (l02Is_any _ _ _ h1).mono ?_; rintro e w' ⟨rfl, rfl⟩)
      go_ret2
      exact ⟨rfl, Below.refl _ _⟩
    · have H1 := Lib.hid h1
      have H2 := Lib.hid h2
      obtain ⟨A1, c1, rfl, _, _, _⟩ := h1
      obtain ⟨A2, c2, rfl, _, _, _⟩ := h2
      have hN : naturals_all [a, b] = false := by rw [nat2_all]; unfold nat2; rw [ha]; rfl
      go_enter Try.func19, Try.ntmps19
      go_wp2_with (go_at_call 51; refine (naturals_any _ _ _ (SlL.two H1.out H2.out)).mono ?_; rintro e w' ⟨rfl, rfl⟩)
      go_ret2
      exact ⟨rfl, (Below.refl _ _).alloc (Nat.le_refl _) _⟩
  | true =>
    cases hb : natB b with
    | false =>
      refine ⟨0, 1, fun w v1 v2 h1 h2 => ?_, fun w v1 v2 h1 h2 => ?_⟩
      · go_enter Try.func17, Try.ntmps17
        go_wp2_with fail
        refine (l02Is_any _ _ _ h1).mono ?_
        rintro e w' ⟨rfl, rfl⟩
        go_wp2_with fail
        refine (l02Is_any _ _ _ h2).mono ?_
        rintro e w' ⟨rfl, rfl⟩
        go_wp2_with fail
        go_ret2
        exact ⟨rfl, Below.refl _ _⟩
      · have H1 := Lib.hid h1
        have H2 := Lib.hid h2
        obtain ⟨A1, c1, rfl, _, _, _⟩ := h1
        obtain ⟨A2, c2, rfl, _, _, _⟩ := h2
        have hN : naturals_all [a, b] = false := by rw [nat2_all]; unfold nat2; rw [ha, hb]; rfl
        go_enter Try.func19, Try.ntmps19
        go_wp2_with (go_at_call 51; refine (naturals_any _ _ _ (SlL.two H1.out H2.out)).mono ?_; rintro e w' ⟨rfl, rfl⟩)
        go_ret2
        exact ⟨rfl, (Below.refl _ _).alloc (Nat.le_refl _) _⟩
    | true =>
      refine ⟨cmpN a b, 0, fun w v1 v2 h1 h2 => ?_, fun w v1 v2 h1 h2 => ?_⟩
      · go_enter Try.func17, Try.ntmps17
        go_wp2_with fail
        refine (l02Is_any _ _ _ h1).mono ?_
        rintro e w' ⟨rfl, rfl⟩
        go_wp2_with fail
        refine (l02Is_any _ _ _ h2).mono ?_
        rintro e w' ⟨rfl, rfl⟩
        go_wp2_with fail
        refine (l02Compare_any _ _ _ _ _ h1 h2).mono ?_
        rintro e w' ⟨rfl, hb2⟩
        go_wp2_with fail
        go_ret2
        exact ⟨rfl, hb2⟩
      · have H1 := Lib.hid h1
        have H2 := Lib.hid h2
        obtain ⟨A1, c1, rfl, _, _, _⟩ := h1
        obtain ⟨A2, c2, rfl, _, _, _⟩ := h2
        have hN : naturals_all [a, b] = true := by rw [nat2_all]; unfold nat2; rw [ha, hb]; rfl
        have hB0 : Below w.heap.size w (w.alloc (.cells #[.slice A1 a.length c1, .slice A2 b.length c2] 22)) := (Below.refl _ _).alloc (Nat.le_refl _) _
        go_enter Try.func19, Try.ntmps19
        go_wp2_with fail
        refine (naturals_any _ _ _ (SlL.two H1.out H2.out)).mono ?_
        rintro e w' ⟨rfl, rfl⟩
        go_wp2_with fail
        refine (compareNaturals_any _ _ _ _ _ (H1.out.next hB0) (H2.out.next hB0)).mono ?_
        rintro e w' ⟨rfl, hb2⟩
        go_wp2_with fail
        go_ret2
        exact ⟨rfl, below_next hB0 hb2⟩
end Go.Proofs.Ytkaicdljgchifaa
