/- Naturals: valuations, digits, sets. No condition beyond the stated bounds. -/
import Derived.Test.YtanjpkcacgjgfaaNatDiv
namespace Go.Proofs.Ytanjpkcacgjgfaa
open Go.RowKit
/-- What it is to be a natural. -/
theorem nat_facts {l : List Int} (h : natB l = true) : Lim l ∧ trim l = l ∧ l.length ≤ 40 := by
  obtain ⟨h1, h2, h3⟩ := natB_true.1 h
  exact ⟨allIn_true.1 h2, trim_last l h3, h1⟩
theorem nat_val {l : List Int} (h : natB l = true) : nl (val l) = l ∧ 0 ≤ val l ∧ val l < pw 40 := by
  obtain ⟨h1, h2, h3⟩ := nat_facts h
  exact ⟨nl_val h1 h2, val_nonneg h1, (len_le h1 h2).1 h3⟩
theorem nat_pos {l : List Int} (h : natB l = true) (h0 : 0 < l.length) : 1 ≤ val l := by
  obtain ⟨h1, h2, h3⟩ := nat_facts h
  rcases Int.lt_or_le 0 (val l) with h4 | h4
  · omega
  · have := val_nonneg h1
    have h5 := val_zero h1 (by omega)
    rw [h2] at h5
    rw [h5] at h0; simp at h0
theorem nl_len40 {m : Int} (h0 : 0 ≤ m) (h : m < pw 40) : (nl m).length ≤ 40 := (nl_len h0).2 h
theorem und_40 {m : Int} (h : m < pw 40) : Und2 800 m := by
  unfold Und2
  have h3 : pw 40 < 2 ^ 800 := by unfold pw; decide +kernel
  omega
theorem div_le {m d : Int} (h0 : 0 ≤ m) (_hd : 1 ≤ d) : m / d ≤ m := Int.ediv_le_self d h0
theorem divideSmall_val (v : Value) (m d : Int) (w : World) (h : Sl w v (nl m)) (hm : 0 ≤ m) (hm2 : m < pw 40) (hd : 1 ≤ d) (hd2 : d ≤ 1000000) :
    Calls Try.prog 102 #[v, .int .i64 d] w (RetOwnC w (nl (m / d)) (m % d)) := by
  have := divideSmall_any v (nl m) d w h (by have := nl_len40 hm hm2; omega) (nl_lim m) hd hd2
  rw [val_nl hm] at this
  exact this
theorem l02By_val (v : Value) (m d : Int) (w : World) (h : Sl w v (nl m)) (hm : 0 ≤ m) (hm2 : m < pw 40) (hd : 1 ≤ d) (hd2 : d ≤ 1000000) :
    Calls Try.prog 96 #[v, .int .i64 d] w (RetOwnC w (nl (m / d)) (m % d)) := by
  have := l02By_any v (nl m) d w h (by have := nl_len40 hm hm2; omega) (nl_lim m) hd hd2
  rw [val_nl hm] at this
  exact this
theorem l02Valuation_any (v : Value) (l : List Int) (p : Int) (w : World) (h : Sl w v l) (hn : natB l = true) (h0 : 0 < l.length) (hp1 : 2 ≤ p) (hp2 : p ≤ 1000000) :
    Calls Try.prog 95 #[v, .int .i64 p] w fun e w' => e = .returned (.int .i64 (expo 800 (val l) p : Int)) ∧ Below w.heap.size w w' := by
      have HS := Lib.hid h
      have hv1 := nat_pos hn h0
      have hV := Lib.hid (nat_val hn).2.2
      have hnl := Lib.hid (nat_val hn).1
      clear h hn h0
      go_enter Try.func95, Try.ntmps95
      go_wp2_with fail
      go_loopw [0, 5] (fun u t wr => ∃ (m : Int) (e fu : Nat), 1 ≤ m ∧ Hid (m < pw 40) ∧ e + fu = 800 ∧ t = .int .i64 e ∧ Hid (Und2 fu m) ∧ Hid (expo fu m p + e = expo 800 (val l) p) ∧ Hid (Sl wr u (nl m)) ∧ Below w.heap.size w wr) (fun _ t _ => 801 - (intOf t).toNat)
      case atStart => exact ⟨val l, 0, 800, hv1, hV, rfl, rfl, Lib.hid (und_40 hV.out), Lib.hid rfl, Lib.hid (by rw [hnl.out]; exact HS.out), Below.refl _ _⟩
      case round =>
        obtain ⟨m, e, fu, hm1, hm40, hef, rfl, HU, HE, HSm, hB⟩ := hrel
        rcases fu with _ | fu
        · have := HU.out.zero; omega
        by_cases hz : m % p = 0
        · have HE2 : Hid (expo fu (m / p) p + (e + 1) = expo 800 (val l) p) := Lib.hid (by rw [← HE.out, expo_yes hz]; omega)
          have hq1 := quot_pos hm1 hp1 hz
          have HU2 := Lib.hid (HU.out.step hp1 (show 0 ≤ m by omega))
          have hm402 : Hid (m / p < pw 40) := Lib.hid (by have h1 := hm40.out; have := div_le (show 0 ≤ m by omega) (show 1 ≤ p by omega); omega)
          have hzb : (m % p != 0) = false := by simp [hz]
          have HZ := Lib.hid hz
          clear hz
          go_wp2_with fail
          refine (l02By_val _ _ _ _ HSm.out (by omega) hm40.out (by omega) (by omega)).mono ?_
          rintro e w1 ⟨r1, rfl, o1, hb1⟩
          have hB1 := below_next hB hb1
          have HS1 := Lib.hid o1.sl
          clear o1
          go_wp2_with fail
          go_roundw
          case rel => exact ⟨m / p, _, fu, hq1, hm402, by omega, by go_num, HU2, HE2, HS1, hB1⟩
          case measure => simp [intOf] <;> omega
        · have HE2 : Hid (e = expo 800 (val l) p) := Lib.hid (by rw [← HE.out, expo_no hz]; omega)
          have hzb : (m % p != 0) = true := by simpa using hz
          clear hz
          go_wp2_with fail
          refine (l02By_val _ _ _ _ HSm.out (by omega) hm40.out (by omega) (by omega)).mono ?_
          rintro e w1 ⟨r1, rfl, o1, hb1⟩
          have hB1 := below_next hB hb1
          clear o1
          go_wp2_with fail
          go_ret
          exact ⟨ret_int (by rw [HE2.out]), hB1⟩
/-- What ValuationOf answers. -/
def valu (l : List Int) (p : Int) : Int × Int := if natB l = true then (if l.length = 0 ∨ inB p 2 999999 = false then (0, 2) else ((expo 800 (val l) p : Int), 0)) else (0, 1)
theorem implValuationOf_any (v : Value) (l : List Int) (p : Int) (w : World) (h : Sl w v l) :
    Calls Try.prog 101 #[v, .int .i64 p] w fun e w' => e = .returned (.tuple #[.int .i64 (valu l p).1, .int .i64 (valu l p).2]) ∧ Below w.heap.size w w' := by
  cases hn : natB l with
  | false =>
    have HF : Hid (valu l p = (0, 1)) := Lib.hid (by unfold valu; rw [hn]; rfl)
    go_enter Try.func101, Try.ntmps101
    go_wp2_with (go_at_call 97; refine (implIsNatural_any _ _ _ h).mono ?_; rintro e w' ⟨rfl, rfl⟩)
    go_ret2
    exact ⟨by rw [HF.out]; rfl, Below.refl _ _⟩
  | true =>
    have HS := Lib.hid h
    obtain ⟨A, c, rfl, _, _, _⟩ := h
    by_cases h0 : l.length = 0
    · have HF : Hid (valu l p = (0, 2)) := Lib.hid (by unfold valu; rw [if_pos hn, if_pos (.inl h0)])
      have hz : ((l.length : Int) == 0) = true := by rw [beq_iff_eq]; omega
      have hl : l = [] := List.eq_nil_of_length_eq_zero h0
      subst hl
      clear h0
      go_enter Try.func101, Try.ntmps101
      go_wp2_with (go_at_call 97; refine (implIsNatural_any _ _ _ HS.out).mono ?_; rintro e w' ⟨rfl, rfl⟩)
      go_ret2
      exact ⟨by rw [HF.out]; rfl, Below.refl _ _⟩
    · have hz : ((l.length : Int) == 0) = false := by rw [beq_eq_false_iff_ne]; omega
      have hz2 : (l.length == 0) = false := by rw [beq_eq_false_iff_ne]; omega
      have hl0 : 0 < l.length := by omega
      cases hp : inB p 2 999999 with
      | false =>
        have HF : Hid (valu l p = (0, 2)) := Lib.hid (by unfold valu; rw [if_pos hn, if_pos (.inr hp)])
        clear h0
        go_enter Try.func101, Try.ntmps101
        go_wp2_with (first
          | (go_at_call 97; refine (implIsNatural_any _ _ _ HS.out).mono ?_; rintro e w' ⟨rfl, rfl⟩)
          | (go_at_call 65; refine (within_any _ _ _ _).mono ?_; rintro e w' ⟨rfl, rfl⟩))
        go_ret2
        exact ⟨by rw [HF.out]; rfl, Below.refl _ _⟩
      | true =>
        have HF : Hid (valu l p = ((expo 800 (val l) p : Int), 0)) := Lib.hid (by unfold valu; rw [if_pos hn, if_neg (by rw [hp]; simp [h0])])
        obtain ⟨hp1, hp2⟩ := inB_true.1 hp
        have hv1 := nat_pos hn hl0
        have hV := Lib.hid (nat_val hn).2.2
        have hnl := Lib.hid (nat_val hn).1
        clear h0
        go_enter Try.func101, Try.ntmps101
        go_wp2_with (first
          | (go_at_call 97; refine (implIsNatural_any _ _ _ HS.out).mono ?_; rintro e w' ⟨rfl, rfl⟩)
          | (go_at_call 65; refine (within_any _ _ _ _).mono ?_; rintro e w' ⟨rfl, rfl⟩))
        go_loopw [0, 6] (fun u t wr => ∃ (m : Int) (e fu : Nat), 1 ≤ m ∧ Hid (m < pw 40) ∧ e + fu = 800 ∧ t = .int .i64 e ∧ Hid (Und2 fu m) ∧ Hid (expo fu m p + e = expo 800 (val l) p) ∧ Hid (Sl wr u (nl m)) ∧ Below w.heap.size w wr) (fun _ t _ => 801 - (intOf t).toNat)
        case atStart => exact ⟨val l, 0, 800, hv1, hV, rfl, rfl, Lib.hid (und_40 hV.out), Lib.hid rfl, Lib.hid (by rw [hnl.out]; exact HS.out), Below.refl _ _⟩
        case round =>
          obtain ⟨m, e, fu, hm1, hm40, hef, rfl, HU, HE, HSm, hB⟩ := hrel
          rcases fu with _ | fu
          · have := HU.out.zero; omega
          by_cases hz : m % p = 0
          · have HE2 : Hid (expo fu (m / p) p + (e + 1) = expo 800 (val l) p) := Lib.hid (by rw [← HE.out, expo_yes hz]; omega)
            have hq1 := quot_pos hm1 hp1 hz
            have HU2 := Lib.hid (HU.out.step hp1 (show 0 ≤ m by omega))
            have hm402 : Hid (m / p < pw 40) := Lib.hid (by have h1 := hm40.out; have := div_le (show 0 ≤ m by omega) (show 1 ≤ p by omega); omega)
            have hzb : (m % p != 0) = false := by simp [hz]
            have HZ := Lib.hid hz
            clear hz
            go_wp2_with fail
            refine (divideSmall_val _ _ _ _ HSm.out (by omega) hm40.out (by omega) (by omega)).mono ?_
            rintro e w1 ⟨r1, rfl, o1, hb1⟩
            have hB1 := below_next hB hb1
            have HS1 := Lib.hid o1.sl
            clear o1
            go_wp2_with fail
            go_roundw
            case rel => exact ⟨m / p, _, fu, hq1, hm402, by omega, by go_num, HU2, HE2, HS1, hB1⟩
            case measure => simp [intOf] <;> omega
          · have HE2 : Hid (e = expo 800 (val l) p) := Lib.hid (by rw [← HE.out, expo_no hz]; omega)
            have hzb : (m % p != 0) = true := by simpa using hz
            clear hz
            go_wp2_with fail
            refine (divideSmall_val _ _ _ _ HSm.out (by omega) hm40.out (by omega) (by omega)).mono ?_
            rintro e w1 ⟨r1, rfl, o1, hb1⟩
            have hB1 := below_next hB hb1
            clear o1
            go_wp2_with fail
            go_ret2
            exact ⟨by rw [HF.out, ← HE2.out]; rfl, hB1⟩
end Go.Proofs.Ytanjpkcacgjgfaa
