/- PrimeNumber (the program's half). No condition beyond the stated bounds. -/
import Derived.Test.YtkaicdljgchifaaPlainPrime
import Derived.Test.YtkaicdljgchifaaNatWord
namespace Go.Proofs.Ytkaicdljgchifaa
open Go.RowKit
/-- The product of powers of primes, from the k-th prime on. -/
def pnum : List Int → Nat → Int → Option Int
  | [], _, x => some x
  | y :: t, k, x => match pwN (y + 1).toNat x (primeK k : Int) with
    | none => none
    | some z => pnum t (k + 1) z
theorem pnum_step {l : List Int} {k : Nat} (h : k < l.length) (x : Int) : pnum (l.drop k) k x = match pwN (geti l k + 1).toNat x (primeK k : Int) with | none => none | some z => pnum (l.drop (k + 1)) (k + 1) z := by
  rw [drop_cons h, pnum]
theorem nl_small {p : Int} (h1 : 1 ≤ p) (h2 : p ≤ 999999) : nl p = [p] := by
  rw [← natL_nl (by omega)]
  unfold natL
  rw [limbs_pos (by omega), limbs_zero (by omega)]
  congr 1
  omega
theorem lim_one {p : Int} (h0 : 0 ≤ p) (h1 : p ≤ 999999) : Lim [p] := fun y hy => by
  have : y = p := by simpa using hy
  subst this
  exact ⟨h0, h1⟩
set_option maxHeartbeats 1000000 in
theorem implPrimeNumber_yes (v : Value) (l : List Int) (w : World) (h : Sl w v l) (hl : l.length ≤ 24) (ha : allIn l 0 800 = true) :
    Calls Try.prog 38 #[v] w (RetRowC w (pwR (pnum l 0 1)).1 (pwR (pnum l 0 1)).2) := by
  have HX := Lib.hid (allIn_true.1 ha)
  have HS := Lib.hid h
  obtain ⟨A, c, rfl, hlc, hcm, hr⟩ := h
  have HR := Lib.hid hr
  unfold maxLen at hcm
  have hd : decide ((24 : Int) < (l.length : Int)) = false := decide_eq_false (by omega)
  have hd2 : decide (24 < l.length) = false := decide_eq_false (by omega)
  clear hr
  go_enter Try.func38, Try.ntmps38
  go_wp2_with fail
  refine (allWithin_any _ _ _ _ _ HS.out).mono ?_
  rintro e w' ⟨rfl, rfl⟩
  go_wp2_with fail
  refine (one_any _).mono ?_
  rintro e w1 ⟨r1, rfl, o1, hb1⟩
  have HO := Lib.hid o1
  clear o1
  go_wp2_with fail
  go_loopw [4, 19] (fun u i wr => ∃ (k : Nat) (x : Int), k ≤ l.length ∧ 1 ≤ x ∧ Hid (x < pw 40) ∧ i = .int .i64 k ∧ Hid (pnum (l.drop k) k x = pnum l 0 1) ∧ Hid (Owns wr w.heap.size u (nl x)) ∧ Below w.heap.size w wr) (fun _ i _ => l.length - (intOf i).toNat)
  case atStart => exact ⟨0, 1, Nat.zero_le _, by omega, Lib.hid (by have := pw_mono (show 1 ≤ 40 by omega); have h2 : pw 1 = 1000000 := rfl; omega), rfl, Lib.hid rfl, HO, hb1⟩
  case round =>
    clear HO hb1
    obtain ⟨k, x, hk, hx1, hx40, rfl, HE, HO, hB⟩ := hrel
    by_cases hlt : k < l.length
    · obtain ⟨ad, rfl, hbk, hc⟩ := HR.out.at_ hlt
      have hcell := (hB.cell (p := ad.add k) (by rw [block_of_add]; exact hbk)).trans hc
      have hy := HX.out _ (geti_mem hlt)
      have y0 := hy.1
      have y1 := hy.2
      have hpk := primeK_found k (by omega)
      have p2 := hpk.2.2
      have p89 := hpk.2.1
      have HPS := Lib.hid (pnum_step hlt x)
      clear hc hy hpk
      obtain ⟨wo, rfl⟩ : ∃ wo : World, wo = wr := ⟨_, rfl⟩
      go_wp2_with fail
      go_loopw [4, 7] (fun u t wr => ∃ (e f : Nat) (z : Int), (e : Int) + (f : Int) = geti l k + 1 ∧ 1 ≤ z ∧ Hid (z < pw 40) ∧ t = .int .i64 e ∧ Hid (pwN f z (primeK k : Int) = pwN (geti l k + 1).toNat x (primeK k : Int)) ∧ Hid (Owns wr w.heap.size u (nl z)) ∧ Below w.heap.size w wr) (fun _ t _ => 802 - (intOf t).toNat)
      case atStart => exact ⟨0, (geti l k + 1).toNat, x, by omega, hx1, hx40, rfl, Lib.hid rfl, HO, hB⟩
      case round =>
        clear HO hB
        obtain ⟨e, f, z, hef, hz1, hz40, rfl, HZ, HO, hB⟩ := hrel
        by_cases hle : (e : Int) ≤ geti l k
        · obtain ⟨f, rfl⟩ : ∃ g, f = g + 1 := ⟨f - 1, by omega⟩
          have hzp : 0 ≤ z * (primeK k : Int) := Int.mul_nonneg (by omega) (by omega)
          go_wp2_with fail
          refine (primeAt_any _ _ (by omega)).mono ?_
          rintro ee w' ⟨rfl, rfl⟩
          have hBo : Below wr.heap.size wr (wr.alloc (.cells #[.int .i64 (primeK k : Int)] 2)) := (Below.refl _ _).alloc (Nat.le_refl _) _
          have HL := Lib.hid (own_lit wr (primeK k : Int))
          have HM := Lib.hid (multiply_any _ _ (nl z) [(primeK k : Int)] _ (HO.out.sl.next hBo) HL.out.sl (nl_lim z) (lim_one (by omega) (by omega)) (by have := nl_len40 (show 0 ≤ z by omega) hz40.out; omega) (by simp))
          have hv1 : val [(primeK k : Int)] = (primeK k : Int) := by unfold val; unfold val; omega
          rw [val_nl (show 0 ≤ z by omega), hv1] at HM
          clear hv1
          go_wp2_with fail
          refine HM.out.mono ?_
          rintro ee w2 ⟨r2, rfl, o2, hb2⟩
          have hB2 := below_next (below_next hB hBo) hb2
          have o3 := o2.lower (base' := w.heap.size) (by have := hB.size; simp; omega)
          obtain ⟨A3, c3, rfl, _, _, _⟩ := o3.sl
          have HO3 := Lib.hid o3
          clear o2 o3 hBo hb2 HM HL
          by_cases hbig : 40 < (nl (z * (primeK k : Int))).length
          · have HF : Hid (pnum l 0 1 = none) := Lib.hid (by rw [← HE.out, HPS.out, ← HZ.out, pwN_no hbig])
            have hd4 : (40 : Int) < ((nl (z * (primeK k : Int))).length : Int) := by omega
            go_wp2_with fail
            go_ret2
            rw [HF.out]
            exact ⟨_, rfl, Fresh.nil_ _ _, hB2⟩
          · have HZ2 : Hid (pwN f (z * (primeK k : Int)) (primeK k : Int) = pwN (geti l k + 1).toNat x (primeK k : Int)) := Lib.hid (by rw [← HZ.out, pwN_yes hbig])
            have h40 : Hid (z * (primeK k : Int) < pw 40) := Lib.hid (by
              rcases Int.lt_or_le (z * (primeK k : Int)) (pw 40) with h | h
              · exact h
              · exact absurd ((len40 hzp).2 (by omega)) hbig)
            have hzp1 : 1 ≤ z * (primeK k : Int) := by have := Int.mul_le_mul hz1 (show (1 : Int) ≤ (primeK k : Int) by omega) (by omega) (by omega); omega
            have hd4 : decide ((40 : Int) < ((nl (z * (primeK k : Int))).length : Int)) = false := decide_eq_false (by omega)
            have hd5 : decide (40 < (nl (z * (primeK k : Int))).length) = false := decide_eq_false hbig
            go_wp2_with fail
            go_roundw
            case rel => exact ⟨e + 1, f, z * (primeK k : Int), by omega, hzp1, h40, by go_num, HZ2, HO3, hB2⟩
            case measure => simp [intOf] <;> omega
        · have hf0 : f = 0 := by omega
          subst hf0
          have HE2 : Hid (pnum (l.drop (k + 1)) (k + 1) z = pnum l 0 1) := Lib.hid (by rw [← HE.out, HPS.out, ← HZ.out]; rfl)
          have hd4 : decide ((e : Int) ≤ geti l k) = false := decide_eq_false hle
          go_wp2_with fail
          go_roundw
          case rel => exact ⟨k + 1, z, by omega, hz1, hz40, by go_num, HE2, HO, hB⟩
          case measure => simp [intOf] <;> omega
    · have HF : Hid (pnum l 0 1 = some x) := Lib.hid (by rw [← HE.out, List.drop_eq_nil_of_le (by omega)]; rfl)
      go_wp2_with fail
      go_ret2
      rw [HF.out]
      exact ⟨_, rfl, .inl HO.out, hB⟩
end Go.Proofs.Ytkaicdljgchifaa
