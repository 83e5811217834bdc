/- Naturals: long division of the reference. No condition beyond the stated bounds. -/
import Derived.Test.YtanjpkcacgjgfaaNatSub
import Derived.Test.YtanjpkcacgjgfaaNatMul
import Derived.Test.YtanjpkcacgjgfaaNatPrime
import Derived.Test.YtanjpkcacgjgfaaPlainDiv2
namespace Go.Proofs.Ytanjpkcacgjgfaa
open Go.RowKit
theorem own_lit0 (w : World) (x : Int) : Owns (w.alloc (.cells #[.int .i64 x] 2)) w.heap.size (.slice (some ⟨w.heap.size, 0, none⟩) 1 1) [x] :=
  World.ownsRow_lit w #[.int .i64 x] 1 (Nat.le_refl _) (by simp [maxLen]) rfl
theorem lim_one0 {p : Int} (h0 : 0 ≤ p) (h1 : p ≤ 999999) : Lim [p] := fun y hy => by
  have : y = p := by simpa using hy
  omega
/-- Two new rows, apart. -/
def RetTwo (w : World) (l m : List Int) (e : Ending) (w' : World) : Prop :=
  ∃ r s, e = .returned (.tuple #[r, s]) ∧ Owns w' w.heap.size r l ∧ Owns w' w.heap.size s m ∧ (∀ k, r.ownBlock = some k → s.ownBlock ≠ some k) ∧ Below w.heap.size w w'
theorem l02Of_nl (n : Int) (w : World) (_h0 : 0 ≤ n) (h1 : n ≤ 1000000) : Calls Try.prog 138 #[.int .i64 n] w (RetRow w (nl n)) := by
  rw [← natL_nl (by omega)]
  exact l02Of_any n w (by omega) (by omega)
theorem l02Mul_nl (v1 v2 : Value) (b : List Int) (x : Int) (w : World) (h1 : Sl w v1 b) (h2 : Sl w v2 (nl x)) (hb : Lim b) (lb : b.length ≤ 40) (h0 : 0 ≤ x) (hx : x ≤ 999999) :
    Calls Try.prog 137 #[v1, v2] w (RetOwn w (nl (val b * x))) := by
  have := l02Mul_any v1 v2 b (nl x) w h1 h2 hb (nl_lim _) (by omega) (by have := nl_len_one h0 hx; omega)
  rwa [val_nl h0] at this
theorem l02Sub_nl (v1 v2 : Value) (m n : Int) (w : World) (h1 : Sl w v1 (nl m)) (h2 : Sl w v2 (nl n)) (h0 : 0 ≤ n) (hle : n ≤ m) (hm : (nl m).length ≤ 1000) :
    Calls Try.prog 139 #[v1, v2] w (RetOwn w (nl (m - n))) := by
  have := l02Sub_any v1 v2 (nl m) (nl n) w h1 h2 (nl_lim _) (nl_lim _) hm (nl_len_mono h0 hle) (by rw [val_nl h0, val_nl (by omega)]; exact hle)
  rwa [val_nl h0, val_nl (by omega)] at this
theorem multiply_nl (v1 v2 : Value) (b : List Int) (x : Int) (w : World) (h1 : Sl w v1 b) (h2 : Sl w v2 [x]) (hb : Lim b) (lb : b.length ≤ 40) (h0 : 0 ≤ x) (hx : x ≤ 999999) :
    Calls Try.prog 145 #[v1, v2] w (RetOwn w (nl (val b * x))) := by
  have := multiply_any v1 v2 b [x] w h1 h2 hb (lim_one0 h0 hx) (by omega) (by simp)
  rwa [show val [x] = x by simp [val]] at this
theorem subtract_nl (v1 v2 : Value) (m n : Int) (w : World) (h1 : Sl w v1 (nl m)) (h2 : Sl w v2 (nl n)) (h0 : 0 ≤ n) (hle : n ≤ m) (hm : (nl m).length ≤ 1000) :
    Calls Try.prog 146 #[v1, v2] w (RetOwn w (nl (m - n))) := by
  have := subtract_any v1 v2 (nl m) (nl n) w h1 h2 (nl_lim _) (nl_lim _) hm (nl_len_mono h0 hle) (by rw [val_nl h0, val_nl (by omega)]; exact hle)
  rwa [val_nl h0, val_nl (by omega)] at this
set_option maxHeartbeats 4000000 in
theorem l02Div_any (v1 v2 : Value) (a b : List Int) (w : World) (h1 : Sl w v1 a) (h2 : Sl w v2 b) (ha : Lim a) (hb : Lim b) (la : a.length ≤ 1000) (lb : b.length ≤ 40) (hd : 1 ≤ val b) :
    Calls Try.prog 103 #[v1, v2] w (RetTwo w (nl (val a / val b)) (nl (val a % val b))) := by
  obtain ⟨i0, hi0, hz0, hz1, hz2⟩ := info_parts Try.infoI
  have H2 := Lib.hid h2
  obtain ⟨A1, c1, rfl, hlc1, hcm1, hr1⟩ := h1
  have HR1 := Lib.hid hr1
  have HA := Lib.hid ha
  have HB := Lib.hid hb
  have HF := Lib.hid (dvs_div hd ha)
  have HFT := Lib.hid (dvs_trim hd ha)
  obtain ⟨d, hdd⟩ : ∃ d, val b = d := ⟨_, rfl⟩
  have HD := Lib.hid hdd
  rw [hdd] at hd HF HFT ⊢
  clear hr1 ha hb h2 hdd
  go_enter Try.func103, Try.ntmps103
  go_wp2_with (at_make; refine wpList_make_full _ rfl _ _ 39 rfl w.heap.size 2 i0 _ 1 Try.underlying39 hi0 hz0 hz1 _ _ _ _ a.length rfl rfl rfl rfl (by rw [hz2]; omega) (by unfold maxLen; omega) (Nat.le_refl _) ?_; intro w1 hown hg)
  have hb1 : Below w.heap.size w w1 := (Below.refl _ _).grown hg (Nat.le_refl _) (by simp)
  have hO1 : Owns w1 w.heap.size (.slice (some ⟨w.heap.size, 0, none⟩) a.length a.length) (List.replicate a.length 0 ++ (dvs (a.drop a.length) d).1) := by
    unfold Owns
    rw [made_ints] at hown
    rw [List.drop_length]
    simpa [dvs] using hown
  have hs1 : w.heap.size + 1 ≤ w1.heap.size := (hO1.lt w.heap.size rfl).2
  have HO := Lib.hid (hO1.alloc (.cells #[] 2))
  have HR0 : Hid (Owns (w1.alloc (.cells #[] 2)) (w.heap.size + 1) (.slice (some ⟨w1.heap.size, 0, none⟩) 0 0) (nl (dvs (a.drop a.length) d).2)) := Lib.hid (by
    rw [List.drop_length]; exact Owns.empty w1 _ hs1)
  have hb2 : Below w.heap.size w (w1.alloc (.cells #[] 2)) := hb1.alloc (by omega) _
  have hs2 : w.heap.size + 1 ≤ (w1.alloc (.cells #[] 2)).heap.size := by simp; omega
  clear hown hg hi0 hz0 hz1 hz2 hO1
  go_loopw [7, 8] (fun u i wr => ∃ k : Nat, k ≤ a.length ∧ i = .int .i64 ((k : Int) - 1) ∧ Hid (Owns wr (w.heap.size + 1) u (nl (dvs (a.drop k) d).2)) ∧ Hid (Owns wr w.heap.size (.slice (some ⟨w.heap.size, 0, none⟩) a.length a.length) (List.replicate k 0 ++ (dvs (a.drop k) d).1)) ∧ Below w.heap.size w wr ∧ w.heap.size + 1 ≤ wr.heap.size) (fun _ i _ => (intOf i + 1).toNat)
  case atStart => exact ⟨a.length, Nat.le_refl _, rfl, HR0, HO, hb2, hs2⟩
  case round =>
    clear HO HR0 hb2 hs2 hs1 hb1
    obtain ⟨k, hk, rfl, HRe, HK, hb, hsz⟩ := hrel
    by_cases h0 : 0 < k
    · obtain ⟨j, rfl⟩ : ∃ j, k = j + 1 := ⟨k - 1, by omega⟩
      rw [show (((j + 1 : Nat) : Int) - 1) = (j : Int) by omega]
      have hlt : j < a.length := by omega
      have hli : (j : Int) < (a.length : Int) := by omega
      obtain ⟨ad, rfl, hbk, hc⟩ := HR1.out.at_ hlt
      have hcell := (hb.cell (p := ad.add j) (by rw [block_of_add]; exact hbk)).trans hc
      have hstep := dvs_step hlt d
      have hrest := dvs_rest hd (a.drop (j + 1))
      have hlen : (List.replicate (j + 1) (0 : Int) ++ (dvs (a.drop (j + 1)) d).1).length = a.length := by rw [List.length_append, List.length_replicate, dvs_len, List.length_drop]; omega
      generalize dvs (a.drop (j + 1)) d = qr at *
      obtain ⟨q, r⟩ := qr
      simp only at hstep hrest hlen HRe HK
      have r0 := hrest.1
      have r1 := hrest.2
      have hxj := HA.out.geti j
      have x0 := hxj.1
      have x1 := hxj.2
      obtain ⟨A9, c9, rfl, _, _, hq9⟩ := HRe.out.sl
      clear hq9
      have HLEN := Lib.hid hlen
      have HST := Lib.hid hstep
      clear hrest hxj hc hlen hstep
      obtain ⟨T, hT⟩ : ∃ T, r * 1000000 + geti a j = T := ⟨_, rfl⟩
      have T0 : 0 ≤ T := by omega
      have HT1 : Hid (T < d * 1000000) := Lib.hid (by omega)
      have HT := Lib.hid hT
      have HTL := Lib.hid (nl_len41 HB.out lb HD.out T0 HT1.out)
      have HTR := Lib.hid (trim_cons_nl x0 x1 r0)
      clear hT
      have hnr : (nl r).length ≤ 41 := by
        have := nl_len41 HB.out lb HD.out r0 (show r < d * 1000000 by omega)
        exact this
      go_wp2_with (at_builtin; go_loud (refine wpList_cat rfl _ _ rfl (w.heap.size + 1) _ [geti a j] rfl ((own_lit0 wr (geti a j)).lower hsz) _ (nl r) rfl (HRe.out.sl.next ((Below.refl _ _).alloc (Nat.le_refl _) _)) (by simp; omega) (by simp; omega) ?_); intro v3 w3 o3 hg3 _)
      have hB3 : Below w.heap.size w w3 := (hb.alloc (by omega) _).grown hg3 (by simp; omega) (fun k hk => by have h : some wr.heap.size = some k := hk; injection h with h; omega)
      have HK3 := Lib.hid ((HK.out.alloc (.cells #[.int .i64 (geti a j)] 2)).kept hg3 (.inr (fun h => by have h : some w.heap.size = some wr.heap.size := h; injection h with h; omega)))
      have hs3 : w.heap.size + 1 ≤ w3.heap.size := by have := hg3.size; simp at this; omega
      try go_wp2_with fail
      refine (l02Trim_own _ _ _ _ o3).mono ?_
      rintro e w' ⟨⟨v4, rfl, o4, _⟩, rfl⟩
      rw [HTR.out, HT.out] at o4
      obtain ⟨A4, c4, rfl, _, _, hq4⟩ := o4.sl
      have HO4 := Lib.hid o4
      clear o3 o4 hg3 hq4 HK HRe hb
      go_wp2_with fail
      go_loopw [9, 10] (fun lo hi wx => ∃ x y : Int, lo = .int .i64 x ∧ hi = .int .i64 y ∧ 0 ≤ x ∧ x ≤ y ∧ y ≤ 999999 ∧ Hid (d * x ≤ T ∧ T < d * y + d) ∧ Below w3.heap.size w3 wx) (fun lo hi _ => (intOf hi - intOf lo).toNat)
      case atStart => exact ⟨0, 999999, rfl, rfl, by omega, by omega, by omega, Lib.hid ⟨by omega, by have := HT1.out; omega⟩, Below.refl _ _⟩
      case round =>
        obtain ⟨x, y, rfl, rfl, hx0, hxy, hy1, HI, hbx⟩ := hrel
        by_cases hlt2 : x < y
        · have m0 : x < (x + y + 1) / 2 := by omega
          have m1 : (x + y + 1) / 2 ≤ y := by omega
          go_wp2_with fail
          refine (l02Of_nl _ _ (by omega) (by omega)).mono ?_
          rintro e w4 ⟨v4, rfl, o5, hb4⟩
          generalize (x + y + 1) / 2 = m at *
          have hB4 := hbx.trans (hb4.mono hbx.size)
          go_wp2_with fail
          refine (l02Mul_nl _ _ b _ _ ((H2.out.next (hB3.mono (Nat.le_refl _))).next hB4) o5.sl HB.out lb (by omega) (by omega)).mono ?_
          rintro e w5 ⟨v5, rfl, o6, hb5⟩
          have hB5 := hB4.trans (hb5.mono hB4.size)
          rw [HD.out] at o6
          go_wp2_with fail
          refine (l02Compare_any _ _ _ _ _ o6.sl (HO4.out.sl.next hB5)).mono ?_
          rintro e w6 ⟨rfl, hb6⟩
          have hB6 := hB5.trans (hb6.mono hB5.size)
          have hdm : 0 ≤ d * m := Int.mul_nonneg (by omega) (by omega)
          have hcm := (cmp_nl hdm T0).1
          clear o5 o6 hb4 hb5 hb6 hB4 hB5
          generalize cmpN (nl (d * m)) (nl T) = c at *
          by_cases hle : d * m ≤ T
          · have hc0 : c ≤ 0 := hcm.2 hle
            have HI2 : Hid (d * m ≤ T ∧ T < d * y + d) := Lib.hid ⟨hle, HI.out.2⟩
            clear hle hcm hdm
            go_wp2_with fail
            go_roundw
            case rel => exact ⟨m, y, rfl, rfl, by omega, by omega, by omega, HI2, hB6⟩
            case measure => simp [intOf] <;> omega
          · have hc0 : 0 < c := by
              rcases Int.lt_or_le 0 c with h | h
              · exact h
              · exact absurd (hcm.1 h) hle
            have HI2 : Hid (d * x ≤ T ∧ T < d * (m - 1) + d) := Lib.hid ⟨HI.out.1, by rw [dm1]; omega⟩
            clear hle hcm hdm
            go_wp2_with fail
            go_roundw
            case rel => exact ⟨x, m - 1, rfl, rfl, by omega, by omega, by omega, HI2, hB6⟩
            case measure => simp [intOf] <;> omega
        · obtain rfl : x = y := by omega
          have hdig := digit_of hd HI.out.1 HI.out.2
          have HDIG := Lib.hid hdig
          have hdx : Hid (0 ≤ d * x ∧ d * x ≤ T) := Lib.hid ⟨Int.mul_nonneg (by omega) (by omega), HI.out.1⟩
          have hK := HK3.out.next hbx
          have hcell2 := hK.cellAt (j := j) (by rw [HLEN.out]; omega)
          have hfree := hK.free j
          have hst := hK.stored j x
          rw [set_rep j q] at hst
          have HSK := Lib.hid hst
          have hBx := hB3.trans (hbx.mono hB3.size)
          have hsx : w.heap.size + 1 ≤ wr.heap.size := by have := hbx.size; omega
          have HRx := Lib.hid ((HO4.out.next hbx).kept hst.2 (by
            cases e : (Value.slice A4 (nl T).length c4).ownBlock with
            | none => exact .inl rfl
            | some k => exact .inr (fun h => by have := (HO4.out.lt k e).1; injection h with h; omega)))
          have hBs := hBx.grown hst.2 hBx.size (by simp)
          clear hdig hst hK
          go_wp2_with fail
          refine (l02Of_nl _ _ (by omega) (by omega)).mono ?_
          rintro e w4 ⟨v4, rfl, o5, hb4⟩
          have hB4 := below_next hBs hb4
          go_wp2_with fail
          refine (l02Mul_nl _ _ b _ _ (H2.out.next hB4) o5.sl HB.out lb (by omega) (by omega)).mono ?_
          rintro e w5 ⟨v5, rfl, o6, hb5⟩
          rw [HD.out] at o6
          have hB5 := below_next hB4 hb5
          have hR5 := (HRx.out.next hb4).next hb5
          have HK5 := Lib.hid ((HSK.out.1.next hb4).next hb5)
          go_wp2_with fail
          refine (l02Sub_nl _ _ _ _ _ hR5.sl o6.sl hdx.out.1 hdx.out.2 (by have := HTL.out; omega)).mono ?_
          rintro e w6 ⟨v6, rfl, o7, hb6⟩
          have hB6 := below_next hB5 hb6
          have HK6 := Lib.hid (HK5.out.next hb6)
          have HR6 := Lib.hid (o7.lower (base' := w.heap.size + 1) (by have := hb5.size; have := hb4.size; simp at *; omega))
          have hs6 : w.heap.size + 1 ≤ w6.heap.size := by have := hb6.size; have := hb5.size; have := hb4.size; simp at *; omega
          have HE : Hid (dvs (a.drop j) d = (x :: q, T - d * x)) := Lib.hid (by rw [HST.out, HT.out, HDIG.out.1, HDIG.out.2])
          clear o5 o6 o7 hR5 HK5
          go_wp2_with fail
          go_roundw
          case rel => exact ⟨j, by omega, rfl, Lib.hid (by rw [HE.out]; exact HR6.out), Lib.hid (by rw [HE.out]; exact HK6.out), hB6, hs6⟩
          case measure => simp [intOf] <;> omega
    · obtain rfl : k = 0 := by omega
      rw [show (((0 : Nat) : Int) - 1) = (-1 : Int) by omega]
      have HO2 : Hid (Owns wr w.heap.size (.slice (some ⟨w.heap.size, 0, none⟩) a.length a.length) (dvs a d).1) := Lib.hid (by have := HK.out; simpa using this)
      have HR2 := HRe.out
      rw [show a.drop 0 = a from rfl] at HR2
      go_wp2_with fail
      refine (l02Trim_own _ _ _ _ HO2.out).mono ?_
      rintro e w' ⟨⟨v4, rfl, o4, ob4⟩, rfl⟩
      rw [HFT.out] at o4
      have o5 := HR2
      rw [HF.out.2] at o5
      go_wp2_with fail
      go_ret2
      refine ⟨_, _, rfl, o4, o5.lower (by omega), fun k hk e => ?_, hb⟩
      have h1 := (o5.lt k e).1
      have hk2 : v4.ownBlock = some k := hk
      rw [ob4] at hk2
      simp [Value.ownBlock] at hk2
      omega
end Go.Proofs.Ytanjpkcacgjgfaa
