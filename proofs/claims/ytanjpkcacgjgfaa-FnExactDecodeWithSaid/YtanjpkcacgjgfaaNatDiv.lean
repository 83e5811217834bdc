/- Naturals: trimming and dividing by a small number. No condition beyond the stated bounds. -/
import Derived.Test.YtanjpkcacgjgfaaNatCmp
import Derived.Test.YtanjpkcacgjgfaaNat1
import Derived.Test.YtanjpkcacgjgfaaCat
import Derived.Test.YtanjpkcacgjgfaaPlainDig
namespace Go.Proofs.Ytanjpkcacgjgfaa
open Go.RowKit
/-- A new row of which the caller owns all, and a number. -/
def RetOwnC (w : World) (l : List Int) (c : Int) (e : Ending) (w' : World) : Prop := ∃ r, e = .returned (.tuple #[r, .int .i64 c]) ∧ Owns w' w.heap.size r l ∧ Below w.heap.size w w'
theorem set_rep (j : Nat) (q : List Int) (y : Int) : (List.replicate (j + 1) (0 : Int) ++ q).set j y = List.replicate j 0 ++ (y :: q) := by
  rw [List.replicate_succ', List.append_assoc, List.set_append, if_neg (by simp), List.length_replicate, Nat.sub_self]
  rfl
theorem l02Trim_any (A : Option Addr) (c : Nat) (l : List Int) (w : World) (hr : Ints w w.heap.size A l.length l) (hlc : l.length ≤ c) (hcm : c ≤ maxLen) :
    Calls Try.prog 134 #[.slice A l.length c] w fun e w' => e = .returned (.slice A (trim l).length c) ∧ w = w' := by
  have HR := Lib.hid hr
  clear hr
  unfold maxLen at hcm
  have htl := trim_len l
  go_enter Try.func134, Try.ntmps134
  go_wp2
  go_loop [3] (fun t => ∃ k : Nat, k ≤ l.length ∧ Hid (trim (l.take k) = trim l) ∧ t = .int .i64 k) (fun t => (intOf t).toNat)
  case atStart => exact ⟨l.length, Nat.le_refl _, by rw [List.take_length]; exact Lib.hid rfl, rfl⟩
  case round =>
    obtain ⟨k, hk, H, rfl⟩ := hrel
    by_cases h0 : 0 < k
    · obtain ⟨j, rfl⟩ : ∃ j, k = j + 1 := ⟨k - 1, by omega⟩
      have hj : j < l.length := by omega
      obtain ⟨ad, rfl, hb1, hc1⟩ := HR.out.at_ hj
      by_cases hz : geti l j = 0
      · have hzb : (geti l j == 0) = true := by simpa using hz
        have HN : Hid (trim (l.take j) = trim l) := Lib.hid (by rw [← H.out, trim_step hj hz])
        clear hz
        go_wp2
        go_round
        case rel => exact ⟨j, by omega, HN, by go_num⟩
        case measure => simp [intOf] <;> omega
      · have hzb : (geti l j == 0) = false := by simpa using hz
        have HN : Hid ((trim l).length = j + 1) := Lib.hid (by rw [← H.out, trim_stop hj hz, List.length_take]; omega)
        clear hz
        go_wp2
        go_ret
        exact ⟨by rw [HN.out]; rfl, rfl⟩
    · obtain rfl : k = 0 := by omega
      have HN : Hid ((trim l).length = 0) := Lib.hid (by rw [← H.out]; rfl)
      have hd : decide ((0 : Int) < ((0 : Nat) : Int)) = false := by simp
      go_wp2
      go_ret
      exact ⟨by rw [HN.out]; rfl, rfl⟩
theorem l02Trim_own (v : Value) (base : Nat) (l : List Int) (w : World) (h : Owns w base v l) :
    Calls Try.prog 134 #[v] w fun e w' => (∃ r, e = .returned r ∧ Owns w base r (trim l) ∧ r.ownBlock = v.ownBlock) ∧ w = w' := by
  obtain ⟨A, c, rfl, h1, h2, h3⟩ := h.shape
  refine (l02Trim_any A c l w h3 h1 h2).mono ?_
  rintro e w' ⟨rfl, rfl⟩
  refine ⟨⟨_, rfl, ?_, by cases A <;> rfl⟩, rfl⟩
  have := h.cut (trim_len l)
  rwa [← trim_take] at this
theorem divideSmall_raw (v : Value) (l : List Int) (d : Int) (w : World) (h : Sl w v l) (hl : l.length ≤ 1000) (hx : Lim l) (hd : 1 ≤ d) (hd2 : d ≤ 1000000) :
    Calls Try.prog 102 #[v, .int .i64 d] w (RetOwnC w (trim (dvs l d).1) (dvs l d).2) := by
  obtain ⟨i0, hi0, hz0, hz1, hz2⟩ := info_parts Try.infoI
  obtain ⟨A, c, rfl, hlc, hcm, hr⟩ := h
  have HR := Lib.hid hr
  have HX := Lib.hid hx
  clear hr hx
  go_enter Try.func102, Try.ntmps102
  go_wp2_with (at_make; refine wpList_make_full _ rfl _ _ 39 rfl w.heap.size 2 i0 _ 1 Try.underlying39 hi0 hz0 hz1 _ _ _ _ l.length rfl rfl rfl rfl (by rw [hz2]; omega) (by unfold maxLen; omega) (Nat.le_refl _) ?_; intro w1 hown hg)
  have hb1 : Below w.heap.size w w1 := (Below.refl _ _).grown hg (Nat.le_refl _) (by simp)
  have HO : Hid (Owns w1 w.heap.size (.slice (some ⟨w.heap.size, 0, none⟩) l.length l.length) (List.replicate l.length 0 ++ (dvs (l.drop l.length) d).1)) := Lib.hid (by
    unfold Owns
    rw [made_ints] at hown
    rw [List.drop_length]
    simpa [dvs] using hown)
  have HD0 : Hid ((dvs (l.drop l.length) d).2 = 0) := Lib.hid (by rw [List.drop_length]; rfl)
  clear hown hg hi0 hz0 hz1 hz2
  go_loopw [7, 8] (fun t i wr => ∃ k : Nat, k ≤ l.length ∧ i = .int .i64 ((k : Int) - 1) ∧ t = .int .i64 (dvs (l.drop k) d).2 ∧ Hid (Owns wr w.heap.size (.slice (some ⟨w.heap.size, 0, none⟩) l.length l.length) (List.replicate k 0 ++ (dvs (l.drop k) d).1)) ∧ Below w.heap.size w wr) (fun _ i _ => (intOf i + 1).toNat)
  case atStart => exact ⟨l.length, Nat.le_refl _, rfl, by rw [HD0.out], HO, hb1⟩
  case round =>
    clear HO HD0
    obtain ⟨k, hk, rfl, rfl, HK, hb⟩ := hrel
    by_cases h0 : 0 < k
    · obtain ⟨j, rfl⟩ : ∃ j, k = j + 1 := ⟨k - 1, by omega⟩
      rw [show (((j + 1 : Nat) : Int) - 1) = (j : Int) by omega]
      have hlt : j < l.length := by omega
      have hli : (j : Int) < (l.length : Int) := by omega
      obtain ⟨ad, rfl, hbk, hc⟩ := HR.out.at_ hlt
      have hcell := (hb.cell (p := ad.add j) (by rw [block_of_add]; exact hbk)).trans hc
      have hstep := dvs_step hlt d
      have hrest := dvs_rest hd (l.drop (j + 1))
      have hown := HK.out
      have hlen : (List.replicate (j + 1) (0 : Int) ++ (dvs (l.drop (j + 1)) d).1).length = l.length := by rw [List.length_append, List.length_replicate, dvs_len, List.length_drop]; omega
      generalize dvs (l.drop (j + 1)) d = qr at *
      obtain ⟨q, r⟩ := qr
      simp only at hstep hrest hlen hown
      have r0 := hrest.1
      have r1 := hrest.2
      have hxj := HX.out.geti j
      have x0 := hxj.1
      have x1 := hxj.2
      have hcell2 := hown.cellAt (j := j) (by omega)
      have hfree := hown.free j
      have hst := hown.stored j ((r * 1000000 + geti l j) / d)
      rw [set_rep j q] at hst
      have HS := Lib.hid hst
      have HE := Lib.hid hstep
      have hq0 : 0 ≤ r * 1000000 + geti l j := by omega
      have hq1 : r * 1000000 + geti l j ≤ 1000000999999 := by omega
      have hqd := Int.ediv_le_self d hq0
      have hqn : 0 ≤ (r * 1000000 + geti l j) / d := Int.ediv_nonneg hq0 (by omega)
      clear hst hown hc hlen hstep hrest HK hxj
      go_wp2
      go_region
      all_goals (try go_wp2)
      go_roundw
      case rel => exact ⟨j, by omega, rfl, by rw [HE.out], Lib.hid (by rw [HE.out]; exact HS.out.1), by first | exact (hb.grown HS.out.2 hb.size (by simp)).drew | exact hb.grown HS.out.2 hb.size (by simp)⟩
      case measure => simp [intOf] <;> omega
    · obtain rfl : k = 0 := by omega
      rw [show (((0 : Nat) : Int) - 1) = (-1 : Int) by omega]
      have HO2 : Hid (Owns wr w.heap.size (.slice (some ⟨w.heap.size, 0, none⟩) l.length l.length) (dvs l d).1) := Lib.hid (by have := HK.out; simpa using this)
      rw [show l.drop 0 = l from rfl]
      go_wp2_with (go_at_call 77; refine (trimmed_own _ _ _ _ HO2.out).mono ?_; rintro e w' ⟨⟨r, rfl, hr, _⟩, rfl⟩)
      go_ret2
      exact ⟨_, rfl, hr, hb⟩
theorem divideSmall_any (v : Value) (l : List Int) (d : Int) (w : World) (h : Sl w v l) (hl : l.length ≤ 1000) (hx : Lim l) (hd : 1 ≤ d) (hd2 : d ≤ 1000000) :
    Calls Try.prog 102 #[v, .int .i64 d] w (RetOwnC w (nl (val l / d)) (val l % d)) := by
  have := divideSmall_raw v l d w h hl hx hd hd2
  rw [dvs_trim hd hx, (dvs_div hd hx).2] at this
  exact this
theorem l02By_raw (v : Value) (l : List Int) (d : Int) (w : World) (h : Sl w v l) (hl : l.length ≤ 1000) (hx : Lim l) (hd : 1 ≤ d) (hd2 : d ≤ 1000000) :
    Calls Try.prog 96 #[v, .int .i64 d] w (RetOwnC w (trim (dvs l d).1) (dvs l d).2) := by
  obtain ⟨i0, hi0, hz0, hz1, hz2⟩ := info_parts Try.infoI
  obtain ⟨A, c, rfl, hlc, hcm, hr⟩ := h
  have HR := Lib.hid hr
  have HX := Lib.hid hx
  clear hr hx
  go_enter Try.func96, Try.ntmps96
  go_wp2_with (at_make; refine wpList_make_full _ rfl _ _ 39 rfl w.heap.size 2 i0 _ 1 Try.underlying39 hi0 hz0 hz1 _ _ _ _ l.length rfl rfl rfl rfl (by rw [hz2]; omega) (by unfold maxLen; omega) (Nat.le_refl _) ?_; intro w1 hown hg)
  have hb1 : Below w.heap.size w w1 := (Below.refl _ _).grown hg (Nat.le_refl _) (by simp)
  have HO : Hid (Owns w1 w.heap.size (.slice (some ⟨w.heap.size, 0, none⟩) l.length l.length) (List.replicate l.length 0 ++ (dvs (l.drop l.length) d).1)) := Lib.hid (by
    unfold Owns
    rw [made_ints] at hown
    rw [List.drop_length]
    simpa [dvs] using hown)
  have HD0 : Hid ((dvs (l.drop l.length) d).2 = 0) := Lib.hid (by rw [List.drop_length]; rfl)
  clear hown hg hi0 hz0 hz1 hz2
  go_loopw [7, 8] (fun t i wr => ∃ k : Nat, k ≤ l.length ∧ i = .int .i64 ((k : Int) - 1) ∧ t = .int .i64 (dvs (l.drop k) d).2 ∧ Hid (Owns wr w.heap.size (.slice (some ⟨w.heap.size, 0, none⟩) l.length l.length) (List.replicate k 0 ++ (dvs (l.drop k) d).1)) ∧ Below w.heap.size w wr) (fun _ i _ => (intOf i + 1).toNat)
  case atStart => exact ⟨l.length, Nat.le_refl _, rfl, by rw [HD0.out], HO, hb1⟩
  case round =>
    clear HO HD0
    obtain ⟨k, hk, rfl, rfl, HK, hb⟩ := hrel
    by_cases h0 : 0 < k
    · obtain ⟨j, rfl⟩ : ∃ j, k = j + 1 := ⟨k - 1, by omega⟩
      rw [show (((j + 1 : Nat) : Int) - 1) = (j : Int) by omega]
      have hlt : j < l.length := by omega
      have hli : (j : Int) < (l.length : Int) := by omega
      obtain ⟨ad, rfl, hbk, hc⟩ := HR.out.at_ hlt
      have hcell := (hb.cell (p := ad.add j) (by rw [block_of_add]; exact hbk)).trans hc
      have hstep := dvs_step hlt d
      have hrest := dvs_rest hd (l.drop (j + 1))
      have hown := HK.out
      have hlen : (List.replicate (j + 1) (0 : Int) ++ (dvs (l.drop (j + 1)) d).1).length = l.length := by rw [List.length_append, List.length_replicate, dvs_len, List.length_drop]; omega
      generalize dvs (l.drop (j + 1)) d = qr at *
      obtain ⟨q, r⟩ := qr
      simp only at hstep hrest hlen hown
      have r0 := hrest.1
      have r1 := hrest.2
      have hxj := HX.out.geti j
      have x0 := hxj.1
      have x1 := hxj.2
      have hcell2 := hown.cellAt (j := j) (by omega)
      have hfree := hown.free j
      have hst := hown.stored j ((r * 1000000 + geti l j) / d)
      rw [set_rep j q] at hst
      have HS := Lib.hid hst
      have HE := Lib.hid hstep
      have hq0 : 0 ≤ r * 1000000 + geti l j := by omega
      have hq1 : r * 1000000 + geti l j ≤ 1000000999999 := by omega
      have hqd := Int.ediv_le_self d hq0
      have hqn : 0 ≤ (r * 1000000 + geti l j) / d := Int.ediv_nonneg hq0 (by omega)
      clear hst hown hc hlen hstep hrest HK hxj
      go_wp2

      go_roundw
      case rel => exact ⟨j, by omega, rfl, by rw [HE.out], Lib.hid (by rw [HE.out]; exact HS.out.1), hb.grown HS.out.2 hb.size (by simp)⟩
      case measure => simp [intOf] <;> omega
    · obtain rfl : k = 0 := by omega
      rw [show (((0 : Nat) : Int) - 1) = (-1 : Int) by omega]
      have HO2 : Hid (Owns wr w.heap.size (.slice (some ⟨w.heap.size, 0, none⟩) l.length l.length) (dvs l d).1) := Lib.hid (by have := HK.out; simpa using this)
      rw [show l.drop 0 = l from rfl]
      go_wp2_with (go_at_call 134; refine (l02Trim_own _ _ _ _ HO2.out).mono ?_; rintro e w' ⟨⟨r, rfl, hr, _⟩, rfl⟩)
      go_ret2
      exact ⟨_, rfl, hr, hb⟩
theorem l02By_any (v : Value) (l : List Int) (d : Int) (w : World) (h : Sl w v l) (hl : l.length ≤ 1000) (hx : Lim l) (hd : 1 ≤ d) (hd2 : d ≤ 1000000) :
    Calls Try.prog 96 #[v, .int .i64 d] w (RetOwnC w (nl (val l / d)) (val l % d)) := by
  have := l02By_raw v l d w h hl hx hd hd2
  rw [dvs_trim hd hx, (dvs_div hd hx).2] at this
  exact this
end Go.Proofs.Ytanjpkcacgjgfaa
