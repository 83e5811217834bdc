/- SmallOf: what the law needs. No condition beyond the stated bounds. -/
import Derived.Test.YtkaicdljgchifaaNatVal
namespace Go.Proofs.Ytkaicdljgchifaa
open Go.RowKit
/-- What lies above is no greater than the whole. -/
theorem val_drop_le {l : List Int} (h : Lim l) (k : Nat) (hk : k ≤ l.length) : val (l.drop k) ≤ val l := by
  have h1 := val_split l k hk
  have h2 := val_nonneg (h.take k)
  have h3 := val_nonneg (h.drop k)
  have h4 := pw_pos k
  have := Int.mul_le_mul_of_nonneg_right (show 1 ≤ pw k by omega) h3
  omega
theorem pw3 : pw 3 = 1000000000000000000 := by unfold pw; decide
theorem l02Small_long (v : Value) (l : List Int) (w : World) (h : Sl w v l) (hl : 3 < l.length) :
    Calls Try.prog 58 #[v] w fun e w' => e = .returned (.tuple #[.int .i64 0, .bool false]) ∧ Below w.heap.size w w' := by
  obtain ⟨A, c, rfl, _, _, _⟩ := h
  have hd : (3 : Int) < (l.length : Int) := by omega
  go_enter Try.func58, Try.ntmps58
  go_wp2_with fail
  go_ret2
  exact ⟨rfl, Below.refl _ _⟩
theorem l02Small_any (v : Value) (l : List Int) (w : World) (h : Sl w v l) (hl : l.length ≤ 3) (hL : Lim l) :
    Calls Try.prog 58 #[v] w fun e w' => e = .returned (.tuple #[.int .i64 (val l), .bool (decide (val l ≤ 1000000000000))]) ∧ Below w.heap.size w w' := by
  obtain ⟨A, c, rfl, hlc, hcm, hr⟩ := h
  have HR := Lib.hid hr
  have HL := Lib.hid hL
  have HV : Hid (∀ j, j ≤ l.length → val (l.drop j) ≤ 999999999999999999) := Lib.hid (fun j hj => by
    have h1 := val_drop_le hL j hj
    have h2 := val_lt_pw hL
    have h3 := pw_mono hl
    rw [pw3] at h3
    omega)
  unfold maxLen at hcm
  clear hr hL
  have hd : decide ((3 : Int) < (l.length : Int)) = false := decide_eq_false (by omega)
  have hd2 : decide (3 < l.length) = false := decide_eq_false (by omega)
  have hB0 : Below w.heap.size w w := Below.refl _ _
  go_enter Try.func58, Try.ntmps58
  go_wp2_with fail
  go_loopw [4, 5] (fun t i wr => ∃ k : Nat, k ≤ l.length ∧ i = .int .i64 ((k : Int) - 1) ∧ t = .int .i64 (val (l.drop k)) ∧ Below w.heap.size w wr) (fun _ i _ => (intOf i + 1).toNat)
  case atStart => exact ⟨l.length, Nat.le_refl _, rfl, by rw [List.drop_length]; rfl, hB0⟩
  case round =>
    clear hB0
    obtain ⟨k, hk, rfl, rfl, hB⟩ := hrel
    by_cases h0 : 0 < k
    · obtain ⟨j, rfl⟩ : ∃ j, k = j + 1 := ⟨k - 1, by omega⟩
      rw [show (((j + 1 : Nat) : Int) - 1) = (j : Int) by omega]
      have hlt : j < l.length := by omega
      obtain ⟨ad, rfl, hbk, hc⟩ := HR.out.at_ hlt
      have hcell := (hB.cell (p := ad.add j) (by rw [block_of_add]; exact hbk)).trans hc
      have hx := HL.out.geti j
      have x0 := hx.1
      have x1 := hx.2
      have HD : Hid (val (l.drop j) = val (l.drop (j + 1)) * 1000000 + geti l j) := Lib.hid (by rw [drop_cons hlt, val]; omega)
      have y0 := val_nonneg (HL.out.drop (j + 1))
      have hsm := HV.out j (by omega)
      rw [HD.out] at hsm
      generalize val (l.drop (j + 1)) = y at *
      clear hc hx
      go_wp2_with fail
      go_roundw
      case rel => exact ⟨j, by omega, rfl, by rw [HD.out], hB⟩
      case measure => simp [intOf] <;> omega
    · obtain rfl : k = 0 := by omega
      rw [show (((0 : Nat) : Int) - 1) = (-1 : Int) by omega, show l.drop 0 = l from rfl]
      go_wp2_with fail
      go_ret2
      exact ⟨rfl, hB⟩
/-- What SmallOf answers. -/
def smallN (l : List Int) : Int × Int := if natB l = true then (if val l ≤ 1000000000000 then (val l, 0) else (0, 5)) else (0, 1)
theorem specSmallOf_any (v : Value) (l : List Int) (w : World) (h : Sl w v l) :
    Calls Try.prog 23 #[v] w fun e w' => e = .returned (.tuple #[.int .i64 (smallN l).1, .int .i64 (smallN l).2]) ∧ Below w.heap.size w w' := by
  cases hn : natB l with
  | false =>
    have HF : Hid (smallN l = (0, 1)) := Lib.hid (by unfold smallN; rw [hn]; rfl)
    go_enter Try.func23, Try.ntmps23
    go_wp2_with (go_at_call 49; refine (l02Is_any _ _ _ h).mono ?_; rintro e w' ⟨rfl, rfl⟩)
    go_ret2
    exact ⟨by rw [HF.out]; rfl, Below.refl _ _⟩
  | true =>
    have hf := nat_facts hn
    by_cases hl : l.length ≤ 3
    · have HM := Lib.hid (l02Small_any v l w h hl hf.1)
      by_cases hv : val l ≤ 1000000000000
      · have HF : Hid (smallN l = (val l, 0)) := Lib.hid (by unfold smallN; rw [if_pos hn, if_pos hv])
        have hd : decide (val l ≤ 1000000000000) = true := decide_eq_true hv
        rw [hd] at HM
        clear hf hd
        go_enter Try.func23, Try.ntmps23
        go_wp2_with fail
        refine (l02Is_any _ _ _ h).mono ?_
        rintro e w' ⟨rfl, rfl⟩
        go_wp2_with fail
        refine HM.out.mono ?_
        rintro e w' ⟨rfl, hb⟩
        go_wp2_with fail
        go_ret2
        exact ⟨by rw [HF.out]; rfl, hb⟩
      · have HF : Hid (smallN l = (0, 5)) := Lib.hid (by unfold smallN; rw [if_pos hn, if_neg hv])
        have hd : decide (val l ≤ 1000000000000) = false := decide_eq_false hv
        rw [hd] at HM
        clear hf hd
        go_enter Try.func23, Try.ntmps23
        go_wp2_with fail
        refine (l02Is_any _ _ _ h).mono ?_
        rintro e w' ⟨rfl, rfl⟩
        go_wp2_with fail
        refine HM.out.mono ?_
        rintro e w' ⟨rfl, hb⟩
        go_wp2_with fail
        go_ret2
        exact ⟨by rw [HF.out]; rfl, hb⟩
    · have hv : ¬ val l ≤ 1000000000000 := fun hv => hl ((len_le hf.1 hf.2.1).2 (by have := pw3; unfold pw at this; omega))
      have HF : Hid (smallN l = (0, 5)) := Lib.hid (by unfold smallN; rw [if_pos hn, if_neg hv])
      have HM := Lib.hid (l02Small_long v l w h (by omega))
      clear hf hv
      go_enter Try.func23, Try.ntmps23
      go_wp2_with fail
      refine (l02Is_any _ _ _ h).mono ?_
      rintro e w' ⟨rfl, rfl⟩
      go_wp2_with fail
      refine HM.out.mono ?_
      rintro e w' ⟨rfl, hb⟩
      go_wp2_with fail
      go_ret2
      exact ⟨by rw [HF.out]; rfl, hb⟩
theorem implSmallOf_any (v : Value) (l : List Int) (w : World) (h : Sl w v l) :
    Calls Try.prog 24 #[v] w fun e w' => e = .returned (.tuple #[.int .i64 (smallN l).1, .int .i64 (smallN l).2]) ∧ Below w.heap.size w w' := by
  cases hn : natB l with
  | false =>
    have HF : Hid (smallN l = (0, 1)) := Lib.hid (by unfold smallN; rw [hn]; rfl)
    go_enter Try.func24, Try.ntmps24
    go_wp2_with (go_at_call 55; refine (implIsNatural_any _ _ _ h).mono ?_; rintro e w' ⟨rfl, rfl⟩)
    go_ret2
    exact ⟨by rw [HF.out]; rfl, Below.refl _ _⟩
  | true =>
    have hf := nat_facts hn
    have hM : natL 1000000000000 = nl 1000000000000 := natL_nl (by omega)
    have hcv := cmpN_val hf.1 (nl_lim 1000000000000) hf.2.1 (nl_trim 1000000000000)
    rw [val_nl (by omega), ← hM] at hcv
    by_cases hv : val l ≤ 1000000000000
    · have HF : Hid (smallN l = (val l, 0)) := Lib.hid (by unfold smallN; rw [if_pos hn, if_pos hv])
      have hcmp : ¬ 0 < cmpN l (natL 1000000000000) := by omega
      have HS := Lib.hid h
      obtain ⟨A, c, rfl, hlc, hcm, hr⟩ := h
      have HR := Lib.hid hr
      have HL := Lib.hid hf.1
      have HV : Hid (∀ j, j ≤ l.length → val (l.drop j) ≤ 1000000000000) := Lib.hid (fun j hj => by have := val_drop_le hf.1 j hj; omega)
      unfold maxLen at hcm
      clear hf hcv hM hr hv
      go_enter Try.func24, Try.ntmps24
      go_wp2_with fail
      refine (implIsNatural_any _ _ _ HS.out).mono ?_
      rintro e w' ⟨rfl, rfl⟩
      go_wp2_with fail
      refine (naturalOf_any _ _ (by omega) (by omega)).mono ?_
      rintro e w1 ⟨r, rfl, o1, hb1⟩
      go_wp2_with fail
      refine (compareNaturals_any _ _ _ _ _ (HS.out.next hb1) o1.sl).mono ?_
      rintro e w2 ⟨rfl, hb2⟩
      have hB0 := below_next hb1 hb2
      clear hb1 hb2 o1
      go_wp2_with fail
      go_loopw [4, 5] (fun t i wr => ∃ k : Nat, k ≤ l.length ∧ i = .int .i64 ((k : Int) - 1) ∧ t = .int .i64 (val (l.drop k)) ∧ Below w.heap.size w wr) (fun _ i _ => (intOf i + 1).toNat)
      case atStart => exact ⟨l.length, Nat.le_refl _, rfl, by rw [List.drop_length]; rfl, hB0⟩
      case round =>
        clear hB0
        obtain ⟨k, hk, rfl, rfl, hB⟩ := hrel
        by_cases h0 : 0 < k
        · obtain ⟨j, rfl⟩ : ∃ j, k = j + 1 := ⟨k - 1, by omega⟩
          rw [show (((j + 1 : Nat) : Int) - 1) = (j : Int) by omega]
          have hlt : j < l.length := by omega
          obtain ⟨ad, rfl, hbk, hc⟩ := HR.out.at_ hlt
          have hcell := (hB.cell (p := ad.add j) (by rw [block_of_add]; exact hbk)).trans hc
          have hx := HL.out.geti j
          have x0 := hx.1
          have x1 := hx.2
          have HD : Hid (val (l.drop j) = val (l.drop (j + 1)) * 1000000 + geti l j) := Lib.hid (by rw [drop_cons hlt, val]; omega)
          have y0 := val_nonneg (HL.out.drop (j + 1))
          have hsm := HV.out j (by omega)
          rw [HD.out] at hsm
          generalize val (l.drop (j + 1)) = y at *
          clear hc hx
          go_wp2_with fail
          go_roundw
          case rel => exact ⟨j, by omega, rfl, by rw [HD.out], hB⟩
          case measure => simp [intOf] <;> omega
        · obtain rfl : k = 0 := by omega
          rw [show (((0 : Nat) : Int) - 1) = (-1 : Int) by omega, show l.drop 0 = l from rfl]
          go_wp2_with fail
          go_ret2
          exact ⟨by rw [HF.out]; rfl, hB⟩
    · have HF : Hid (smallN l = (0, 5)) := Lib.hid (by unfold smallN; rw [if_pos hn, if_neg hv])
      have hcmp : 0 < cmpN l (natL 1000000000000) := by omega
      clear hf hcv hM hv
      go_enter Try.func24, Try.ntmps24
      go_wp2_with fail
      refine (implIsNatural_any _ _ _ h).mono ?_
      rintro e w' ⟨rfl, rfl⟩
      go_wp2_with fail
      refine (naturalOf_any _ _ (by omega) (by omega)).mono ?_
      rintro e w1 ⟨r, rfl, o1, hb1⟩
      go_wp2_with fail
      refine (compareNaturals_any _ _ _ _ _ (h.next hb1) o1.sl).mono ?_
      rintro e w2 ⟨rfl, hb2⟩
      go_wp2_with fail
      go_ret2
      exact ⟨by rw [HF.out]; rfl, below_next hb1 hb2⟩
theorem bothSmallOf (l : List Int) (_f : Fit l) (_hn : l.length ≤ 1048576) : ∃ R C : Int,
    (∀ (w : World) (v : Value), Sl w v l → Calls Try.prog 23 #[v] w fun e w' => e = .returned (.tuple #[.int .i64 R, .int .i64 C]) ∧ Below w.heap.size w w') ∧
    (∀ (w : World) (v : Value), Sl w v l → Calls Try.prog 24 #[v] w fun e w' => e = .returned (.tuple #[.int .i64 R, .int .i64 C]) ∧ Below w.heap.size w w') :=
  ⟨_, _, fun w v h => specSmallOf_any v l w h, fun w v h => implSmallOf_any v l w h⟩
end Go.Proofs.Ytkaicdljgchifaa
