/- PrimeNumber: the reference's half. No condition beyond the stated bounds. -/
import Derived.Test.YtkaicdljgchifaaNatPrime
import Derived.Deep.RegionHeld3
namespace Go.Proofs.Ytkaicdljgchifaa
open Go.RowKit
theorem nat_prime {p : Int} (h1 : 2 ≤ p) (h2 : p ≤ 999999) : natB (nl p) = true ∧ val (nl p) = p := by
  rw [nl_small (by omega) h2]
  refine ⟨natB_true.2 ⟨by simp, allIn_true.2 (fun x hx => by have : x = p := by simpa using hx
                                                             omega), .inr ?_⟩, by simp [val]⟩
  show geti [p] 0 ≠ 0
  rw [geti_eq (by simp)]; simp; omega
theorem pwN_pos {p : Int} (hp : 1 ≤ p) : ∀ (e : Nat) (x y : Int), 1 ≤ x → pwN e x p = some y → 1 ≤ y
  | 0, x, y, hx, h => by injection h with h; omega
  | e + 1, x, y, hx, h => by
    rw [pwN] at h
    split at h
    · cases h
    · have := Int.mul_le_mul hx hp (by omega) (by omega)
      exact pwN_pos hp e _ y (by omega) h
theorem mul_pos1 {x y : Int} (hx : 1 ≤ x) (hy : 1 ≤ y) : 1 ≤ x * y := by
  have := Int.mul_le_mul hx hy (by omega) (by omega)
  omega
theorem l02Power_some (v : Value) (p e y : Int) (w : World) (h : Sl w v (natL p)) (h1 : 2 ≤ p) (h2 : p ≤ 999999) (he : 0 ≤ e) (he2 : e ≤ 801) (hy : pwN e.toNat 1 p = some y) :
    Calls Try.prog 65 #[v, .int .i64 e] w fun en w' => ∃ r, en = .returned (.tuple #[r, .bool true]) ∧ Owns w' w.heap.size r (nl y) ∧ Below w.heap.size w w' := by
  obtain ⟨n, rfl⟩ := Int.eq_ofNat_of_zero_le he
  rw [natL_nl (by omega)] at h
  have hp := nat_prime h1 h2
  have := l02Power_any v (nl p) n w h hp.1 (by omega)
  rw [hp.2] at this
  rw [Int.toNat_natCast] at hy
  rw [hy] at this
  exact this
theorem l02Power_none (v : Value) (p e : Int) (w : World) (h : Sl w v (natL p)) (h1 : 2 ≤ p) (h2 : p ≤ 999999) (he : 0 ≤ e) (he2 : e ≤ 801) (hy : pwN e.toNat 1 p = none) :
    Calls Try.prog 65 #[v, .int .i64 e] w fun en w' => en = .returned (.tuple #[.slice none 0 0, .bool false]) ∧ Below w.heap.size w w' := by
  obtain ⟨n, rfl⟩ := Int.eq_ofNat_of_zero_le he
  rw [natL_nl (by omega)] at h
  have hp := nat_prime h1 h2
  have := l02Power_any v (nl p) n w h hp.1 (by omega)
  rw [hp.2] at this
  rw [Int.toNat_natCast] at hy
  rw [hy] at this
  exact this
set_option maxHeartbeats 2000000 in
theorem specPrimeNumber_yes (v : Value) (l : List Int) (w : World) (h : Sl w v l) (hl : l.length ≤ 24) (ha : allIn l 0 800 = true) :
    Calls Try.prog 37 #[v] w (RetRowC w (pwR (pnum l 0 1)).1 (pwR (pnum l 0 1)).2) := by
  have HX := Lib.hid (allIn_true.1 ha)
  have HS := Lib.hid h
  obtain ⟨A, c, rfl, hlc, hcm, hr⟩ := h
  have HR := Lib.hid hr
  unfold maxLen at hcm
  have hd : decide ((24 : Int) < (l.length : Int)) = false := decide_eq_false (by omega)
  have hd2 : decide (24 < l.length) = false := decide_eq_false (by omega)
  have HO := Lib.hid (own_one w)
  have hB0 : Below w.heap.size w (w.alloc (.cells #[.int .i64 1] 2)) := (Below.refl _ _).alloc (Nat.le_refl _) _
  clear hr
  go_enter Try.func37, Try.ntmps37
  go_wp2_with fail
  go_loop [4] (fun i => ∃ k : Nat, k ≤ l.length ∧ i = .int .i64 k) (fun i => l.length - (intOf i).toNat)
  case atStart => exact ⟨0, Nat.zero_le _, rfl⟩
  case round =>
    obtain ⟨k, hk, rfl⟩ := hrel
    by_cases hlt : k < l.length
    · obtain ⟨ad, rfl, hbk, hc⟩ := HR.out.at_ hlt
      have hy := HX.out _ (geti_mem hlt)
      have hin : inB (geti l k) 0 800 = true := inB_true.2 hy
      clear hy
      go_wp2_with (go_at_call 53; refine (l00In_any _ _ _ _).mono ?_; rintro e w' ⟨rfl, rfl⟩)
      go_round
      case rel => exact ⟨k + 1, by omega, by go_num⟩
      case measure => simp [intOf] <;> omega
    · go_wp2_with fail
      go_loopw [5, 6] (fun u i wr => ∃ (k : Nat) (x : Int), k ≤ l.length ∧ 1 ≤ x ∧ Hid (x < pw 40) ∧ i = .int .i64 k ∧ Hid (pnum (l.drop k) k x = pnum l 0 1) ∧ Hid (Owns wr w.heap.size u (nl x)) ∧ Below w.heap.size w wr) (fun _ i _ => l.length - (intOf i).toNat)
      case atStart => exact ⟨0, 1, Nat.zero_le _, by omega, Lib.hid (by have := pw_mono (show 1 ≤ 40 by omega); have h2 : pw 1 = 1000000 := rfl; omega), rfl, Lib.hid rfl, HO, hB0⟩
      case round =>
        clear HO hB0
        obtain ⟨k, x, hk, hx1, hx40, rfl, HE, HO, hB⟩ := hrel
        by_cases hlt : k < l.length
        · obtain ⟨ad, rfl, hbk, hc⟩ := HR.out.at_ hlt
          have hcell := (hB.cell (p := ad.add k) (by rw [block_of_add]; exact hbk)).trans hc
          have hbkr : (ad.add k).block < wr.heap.size := by rw [block_of_add]; have := hB.size; omega
          have hy := HX.out _ (geti_mem hlt)
          have y0 := hy.1
          have y1 := hy.2
          have hpk := primeK_found k (by omega)
          have p2 := hpk.2.2
          have p89 := hpk.2.1
          have hk0 : (0 : Int) ≤ (k : Int) := by omega
          have hk1 : (k : Int) < (l.length : Int) := by omega
          have hs1 : IntKind.i64.wrap (geti l k + 1) = geti l k + 1 := IntWalk.i64_in _ (by omega)
          clear hc hy hpk
          have HPS := Lib.hid (pnum_step hlt x)
          have HSP := Lib.hid (pwN_split (p := (primeK k : Int)) (by omega) hx1 hx40.out (geti l k + 1).toNat)
          cases hpw : pwN (geti l k + 1).toNat 1 (primeK k : Int) with
          | none =>
            have HPW := Lib.hid hpw
            have HF : Hid (pnum l 0 1 = none) := Lib.hid (by rw [← HE.out, HPS.out, HSP.out, HPW.out])
            clear hpw
            go_wp2_with fail
            go_region_held3 (fun w' => w'.cell? (ad.add k) = some (.int .i64 (geti l k)))
              (first
                | go_keep
                | (exact (hbA.cell (p := ad.add k) (by first | exact hbkr | (have := hbA.size; omega))).trans hcell)
                | (exact (hbC.cell (p := ad.add k) (by have := hbA.size; first | omega | (simp at *; omega))).trans ((hbA.cell (p := ad.add k) hbkr).trans hcell)))
              (first
                | (go_at_call 69; refine (l01PrimeAt_any _ _ (by omega)).mono ?_; rintro e w' ⟨rfl, rfl⟩)
                | (go_at_call 68; refine (l02Of_any _ _ (by omega) (by omega)).mono ?_; rintro e wA ⟨rA, rfl, oA, hbA⟩)
                | (go_at_call 65; refine (l02Power_none _ (primeK k : Int) _ _ oA.sl (by omega) (by omega) (by omega) (by omega) HPW.out).mono ?_; rintro e wC ⟨rfl, hbC⟩))
            have hBA : Below w.heap.size w wA := by first | exact below_next hB hbA | exact below_next hB.drew hbA
            have hBC := below_next hBA hbC
            go_wp2_with fail
            go_ret2
            rw [HF.out]
            exact ⟨_, rfl, Fresh.nil_ _ _, hBC⟩
          | some y =>
            have HPW := Lib.hid hpw
            have hy0 : Hid (0 ≤ y ∧ (nl y).length ≤ 40) := Lib.hid (by
              have h2 := pwN_val (p := (primeK k : Int)) (by omega) (geti l k + 1).toNat (x := 1) (by omega) (by have := pw_mono (show 1 ≤ 40 by omega); have h2 : pw 1 = 1000000 := rfl; omega)
              rw [hpw] at h2
              split at h2
              · rename_i h3
                injection h2 with h2
                have h4 : 0 ≤ y := by rw [h2]; exact Int.mul_nonneg (by omega) (Int.pow_nonneg (by omega))
                exact ⟨h4, nl_len40 h4 (by rw [h2]; exact h3)⟩
              · cases h2)
            clear hpw
            go_wp2_with fail
            go_region_held3 (fun w' => w'.cell? (ad.add k) = some (.int .i64 (geti l k)))
              (first
                | go_keep
                | (exact (hbA.cell (p := ad.add k) (by first | exact hbkr | (have := hbA.size; omega))).trans hcell)
                | (exact (hbC.cell (p := ad.add k) (by have := hbA.size; first | omega | (simp at *; omega))).trans ((hbA.cell (p := ad.add k) hbkr).trans hcell)))
              (first
                | (go_at_call 69; refine (l01PrimeAt_any _ _ (by omega)).mono ?_; rintro e w' ⟨rfl, rfl⟩)
                | (go_at_call 68; refine (l02Of_any _ _ (by omega) (by omega)).mono ?_; rintro e wA ⟨rA, rfl, oA, hbA⟩)
                | (go_at_call 65; refine (l02Power_some _ (primeK k : Int) _ y _ oA.sl (by omega) (by omega) (by omega) (by omega) HPW.out).mono ?_; rintro e wC ⟨rC, rfl, oC, hbC⟩))
            have hBA : Below w.heap.size w wA := by first | exact below_next hB hbA | exact below_next hB.drew hbA
            have hBC := below_next hBA hbC
            have hBr : Below wr.heap.size wr wC := by first | exact below_next hbA hbC | exact below_next (below_next (Below.refl _ _).drew hbA) hbC
            have HM := Lib.hid (l02Mul_any _ _ (nl x) (nl y) _ (HO.out.sl.next hBr) oC.sl (nl_lim x) (nl_lim y) (by have := nl_len40 (show 0 ≤ x by omega) hx40.out; omega) (by have := hy0.out.2; omega))
            rw [val_nl (show 0 ≤ x by omega), val_nl hy0.out.1] at HM
            have hxy : 0 ≤ x * y := Int.mul_nonneg (by omega) hy0.out.1
            clear oA oC hs1
            go_wp2_with fail
            refine HM.out.mono ?_
            rintro e w5 ⟨r5, rfl, o5, hb5⟩
            have hB5 := below_next hBC hb5
            have o6 := o5.lower (base' := w.heap.size) hBC.size
            obtain ⟨A6, c6, rfl, _, _, _⟩ := o6.sl
            have HO6 := Lib.hid o6
            clear o5 o6
            by_cases hbig : 40 < (nl (x * y)).length
            · have HF : Hid (pnum l 0 1 = none) := Lib.hid (by rw [← HE.out, HPS.out, HSP.out, HPW.out]; simp only; rw [if_pos hbig])
              have hd4 : (40 : Int) < ((nl (x * y)).length : Int) := by omega
              go_wp2_with fail
              go_ret2
              rw [HF.out]
              exact ⟨_, rfl, Fresh.nil_ _ _, hB5⟩
            · have HE2 : Hid (pnum (l.drop (k + 1)) (k + 1) (x * y) = pnum l 0 1) := Lib.hid (by rw [← HE.out, HPS.out, HSP.out, HPW.out]; simp only; rw [if_neg hbig])
              have h40 : Hid (x * y < pw 40) := Lib.hid (by
                rcases Int.lt_or_le (x * y) (pw 40) with h | h
                · exact h
                · exact absurd ((len40 hxy).2 (by omega)) hbig)
              have hxy1 : 1 ≤ x * y := mul_pos1 hx1 (pwN_pos (by omega) _ _ _ (by omega) HPW.out)
              have hd4 : decide ((40 : Int) < ((nl (x * y)).length : Int)) = false := decide_eq_false (by omega)
              have hd5 : decide (40 < (nl (x * y)).length) = false := decide_eq_false hbig
              go_wp2_with fail
              go_roundw
              case rel => exact ⟨k + 1, x * y, by omega, hxy1, h40, by go_num, HE2, HO6, hB5⟩
              case measure => simp [intOf] <;> omega
        · have HF : Hid (pnum l 0 1 = some x) := Lib.hid (by rw [← HE.out, List.drop_eq_nil_of_le (by omega)]; rfl)
          go_wp2_with fail
          go_ret2
          rw [HF.out]
          exact ⟨_, rfl, .inl HO.out, hB⟩
theorem pwR_len {o : Option Int} (h : ∀ x, o = some x → (nl x).length ≤ 40) : (pwR o).1.length ≤ 40 := by
  unfold pwR
  cases o with
  | none => simp
  | some x => exact h x rfl
theorem pnum_len : ∀ (l : List Int) (k : Nat) (x y : Int), (nl x).length ≤ 40 → pnum l k x = some y → (nl y).length ≤ 40
  | [], _, x, y, h, he => by injection he with he; subst he; exact h
  | a :: t, k, x, y, h, he => by
    rw [pnum] at he
    cases hz : pwN (a + 1).toNat x (primeK k : Int) with
    | none => rw [hz] at he; cases he
    | some z => rw [hz] at he; exact pnum_len t (k + 1) z y (pwN_len _ _ _ _ h hz) he
/-- The reference's first loop finds an exponent out of range. -/
theorem specPrimeNumber_bad (v : Value) (l : List Int) (w : World) (h : Sl w v l) (hl : l.length ≤ 24) (ha : allIn l 0 800 = false) :
    Calls Try.prog 37 #[v] w (RetRowC w [] 2) := by
  obtain ⟨A, c, rfl, hlc, hcm, hr⟩ := h
  have HR := Lib.hid hr
  have HA := Lib.hid ha
  unfold maxLen at hcm
  have hd : decide ((24 : Int) < (l.length : Int)) = false := decide_eq_false (by omega)
  have hd2 : decide (24 < l.length) = false := decide_eq_false (by omega)
  clear hr ha
  go_enter Try.func37, Try.ntmps37
  go_wp2_with fail
  go_loop [4] (fun i => ∃ k : Nat, k ≤ l.length ∧ i = .int .i64 k ∧ Hid (∀ j, j < k → inB (geti l j) 0 800 = true)) (fun i => l.length - (intOf i).toNat)
  case atStart => exact ⟨0, Nat.zero_le _, rfl, fun j hj => by omega⟩
  case round =>
    obtain ⟨k, hk, rfl, H⟩ := hrel
    by_cases hlt : k < l.length
    · obtain ⟨ad, rfl, hbk, hc⟩ := HR.out.at_ hlt
      cases hin : inB (geti l k) 0 800 with
      | true =>
        have HN : Hid (∀ j, j < k + 1 → inB (geti l j) 0 800 = true) := Lib.hid (fun j hj => by
          rcases Nat.lt_or_ge j k with h | h
          · exact H.out j h
          · obtain rfl : j = k := by omega
            exact hin)
        go_wp2_with (go_at_call 53; refine (l00In_any _ _ _ _).mono ?_; rintro e w' ⟨rfl, rfl⟩)
        go_round
        case rel => exact ⟨k + 1, by omega, by go_num, HN⟩
        case measure => simp [intOf] <;> omega
      | false =>
        go_wp2_with (go_at_call 53; refine (l00In_any _ _ _ _).mono ?_; rintro e w' ⟨rfl, rfl⟩)
        go_ret2
        exact ⟨_, rfl, Fresh.nil_ _ _, Below.refl _ _⟩
    · exfalso
      have := allIn_yes (l := l) (lo := 0) (hi := 800) (fun j hj => H.out j (by omega))
      rw [HA.out] at this
      cases this
theorem bothPrimeNumber (l : List Int) (_f : Fit l) (_hn : l.length ≤ 1048576) : ∃ (R : List Int) (C : Int), R.length ≤ 4000000 ∧
    (∀ (w : World) (v : Value), Sl w v l → Calls Try.prog 37 #[v] w (RetRowC w R C)) ∧
    (∀ (w : World) (v : Value), Sl w v l → Calls Try.prog 38 #[v] w (RetRowC w R C)) := by
  by_cases hl : l.length ≤ 24
  · cases ha : allIn l 0 800 with
    | true =>
      refine ⟨_, _, ?_, fun w v h => specPrimeNumber_yes v l w h hl ha, fun w v h => implPrimeNumber_yes v l w h hl ha⟩
      have := pwR_len (o := pnum l 0 1) (fun x hx => pnum_len l 0 1 x (by rw [nl_one]; simp) hx)
      omega
    | false =>
      refine ⟨[], 2, by simp, fun w v h => specPrimeNumber_bad v l w h hl ha, fun w v h => ?_⟩
      have HS := Lib.hid h
      obtain ⟨A, c, rfl, _, _, _⟩ := h
      have hd : decide ((24 : Int) < (l.length : Int)) = false := decide_eq_false (by omega)
      have hd2 : decide (24 < l.length) = false := decide_eq_false (by omega)
      go_enter Try.func38, Try.ntmps38
      go_wp2_with (go_at_call 70; refine (allWithin_any _ _ _ _ _ HS.out).mono ?_; rintro e w' ⟨rfl, rfl⟩)
      go_ret2
      exact ⟨_, rfl, Fresh.nil_ _ _, Below.refl _ _⟩
  · refine ⟨[], 2, by simp, fun w v h => ?_, fun w v h => ?_⟩
    · obtain ⟨A, c, rfl, _, _, _⟩ := h
      have hd : (24 : Int) < (l.length : Int) := by omega
      go_enter Try.func37, Try.ntmps37
      go_wp2_with fail
      go_ret2
      exact ⟨_, rfl, Fresh.nil_ _ _, Below.refl _ _⟩
    · obtain ⟨A, c, rfl, _, _, _⟩ := h
      have hd : (24 : Int) < (l.length : Int) := by omega
      have hd2 : decide ((24 : Int) < (l.length : Int)) = true := decide_eq_true hd
      go_enter Try.func38, Try.ntmps38
      go_wp2_with fail
      go_ret2
      exact ⟨_, rfl, Fresh.nil_ _ _, Below.refl _ _⟩
end Go.Proofs.Ytkaicdljgchifaa
