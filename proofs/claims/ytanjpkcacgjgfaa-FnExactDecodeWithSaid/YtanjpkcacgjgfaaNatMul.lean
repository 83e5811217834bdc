/- Naturals: products. No condition beyond the stated bounds. -/
import Derived.Test.YtanjpkcacgjgfaaNatVal
namespace Go.Proofs.Ytanjpkcacgjgfaa
open Go.RowKit
theorem mulin_step2 {o0 b o : List Int} {x c : Int} {i k : Nat} (h : MulIn o0 b x i k o c) (hb : Lim b) (hx0 : 0 ≤ x) (hx : x ≤ 999999) (hk : k < b.length) (hi : i + k < o.length) :
    MulIn o0 b x i (k + 1) (o.set (i + k) ((geti o (i + k) + c + x * geti b k) % 1000000)) ((geti o (i + k) + c + x * geti b k) / 1000000) := by
  have := h.step hb hx0 hx hk hi
  rwa [Int.add_comm c (geti o (i + k))] at this
theorem mulin_last2 {o0 b o : List Int} {x c : Int} {i k : Nat} (h : MulIn o0 b x i k o c) (hk : b.length ≤ k) (hi : i + k < o.length) (hz : geti o0 (i + k) = 0) :
    MulIn o0 b x i (k + 1) (o.set (i + k) ((geti o (i + k) + c) % 1000000)) ((geti o (i + k) + c) / 1000000) ∧ (geti o (i + k) + c) / 1000000 = 0 := by
  have := h.last hk hi hz
  rwa [Int.add_comm c (geti o (i + k))] at this
set_option maxHeartbeats 1000000 in
theorem multiply_any (v1 v2 : Value) (a b : List Int) (w : World) (h1 : Sl w v1 a) (h2 : Sl w v2 b) (ha : Lim a) (hb : Lim b) (la : a.length ≤ 1000) (lb : b.length ≤ 1000) :
    Calls Try.prog 145 #[v1, v2] w (RetOwn w (nl (val a * val b))) := by
  obtain ⟨i0, hi0, hz0, hz1, hz2⟩ := info_parts Try.infoI
  obtain ⟨A1, c1, rfl, hlc1, hcm1, hr1⟩ := h1
  obtain ⟨A2, c2, rfl, hlc2, hcm2, hr2⟩ := h2
  have HR1 := Lib.hid hr1
  have HR2 := Lib.hid hr2
  have HA := Lib.hid ha
  have HB := Lib.hid hb
  clear hr1 hr2 ha hb
  go_enter Try.func145, Try.ntmps145
  go_wp2_with (at_make; refine wpList_make_full _ rfl _ _ 39 rfl w.heap.size 2 i0 _ 1 Try.underlying39 hi0 hz0 hz1 _ _ _ _ (a.length + b.length) rfl rfl (by omega) (by omega) (by rw [hz2]; omega) (by unfold maxLen; omega) (Nat.le_refl _) ?_; intro w1 hown hg)
  have hb1 : Below w.heap.size w w1 := (Below.refl _ _).grown hg (Nat.le_refl _) (by simp)
  have HO : Hid (Owns w1 w.heap.size (.slice (some ⟨w.heap.size, 0, none⟩) (a.length + b.length) (a.length + b.length)) (List.replicate (a.length + b.length) 0)) := Lib.hid (by
    unfold Owns
    rw [made_ints] at hown
    simpa using hown)
  clear hown hg hi0 hz0 hz1 hz2
  generalize hN : (a.length + b.length) = n at *
  have hn1 : a.length + b.length ≤ n := by omega
  have hn2 : n ≤ 2001 := by omega
  clear hN
  go_loopw [18] (fun i wr => ∃ (j : Nat) (o : List Int), j ≤ a.length ∧ i = .int .i64 j ∧ Hid (MulOut a b n j o) ∧ Hid (Owns wr w.heap.size (.slice (some ⟨w.heap.size, 0, none⟩) n n) o) ∧ Below w.heap.size w wr) (fun i _ => a.length - (intOf i).toNat)
  case atStart => exact ⟨0, _, Nat.zero_le _, rfl, Lib.hid (MulOut.start a b n), HO, hb1⟩
  case round =>
    clear HO hb1
    obtain ⟨j, o, hj, rfl, HM, HO, hB⟩ := hrel
    by_cases hlt : j < a.length
    · have hji : (j : Int) < (a.length : Int) := by omega
      obtain ⟨ad1, rfl, hbk1, hc1⟩ := HR1.out.at_ hlt
      have hcell1 := (hB.cell (p := ad1.add j) (by rw [block_of_add]; exact hbk1)).trans hc1
      have hx := HA.out.geti j
      have x0 := hx.1
      have x1 := hx.2
      have HC1 := Lib.hid hc1
      clear hc1 hx
      obtain ⟨wo, rfl⟩ : ∃ wo : World, wo = wr := ⟨_, rfl⟩
      go_wp2
      clear hcell1
      go_loopw [8, 9] (fun t i wr => ∃ (k : Nat) (c : Int) (o' : List Int), k ≤ b.length + 1 ∧ 0 ≤ c ∧ c ≤ 999999 ∧ t = .int .i64 c ∧ i = .int .i64 k ∧ Hid (b.length < k → c = 0) ∧ Hid (MulIn o b (geti a j) j k o' c) ∧ Hid (Owns wr w.heap.size (.slice (some ⟨w.heap.size, 0, none⟩) n n) o') ∧ Below w.heap.size w wr) (fun _ i _ => b.length + 2 - (intOf i).toNat)
      case atStart => exact ⟨0, 0, o, by omega, by omega, by omega, rfl, rfl, Lib.hid (fun _ => rfl), Lib.hid (MulIn.start HM.out.lim), HO, hB⟩
      case round =>
        clear HO hB
        obtain ⟨k, c, o', hk, hc0, hc1, rfl, rfl, HZ, HI, HO, hB⟩ := hrel
        have hlen : o'.length = n := by rw [HI.out.len, HM.out.len]
        by_cases hkb : k < b.length
        · have hkd : (k : Int) < (b.length : Int) := by omega
          obtain ⟨ad2, rfl, hbk2, hc2⟩ := HR2.out.at_ hkb
          have hcell2 := (hB.cell (p := ad2.add k) (by rw [block_of_add]; exact hbk2)).trans hc2
          have hcell1 := (hB.cell (p := ad1.add j) (by rw [block_of_add]; exact hbk1)).trans HC1.out
          have hy := HB.out.geti k
          have y0 := hy.1
          have y1 := hy.2
          have hp := prod_bd x0 x1 y0 y1
          have p0 := hp.1
          have p1 := hp.2
          have ho := HI.out.lim.geti (j + k)
          have o0 := ho.1
          have o1 := ho.2
          have hcell3 := HO.out.cellAt (j := j + k) (by omega)
          have hfree := HO.out.free (j + k)
          have HS := Lib.hid (MulIn.step HI.out HB.out x0 x1 hkb (by omega))
          have HST := Lib.hid (HO.out.stored (j + k) ((c + geti o' (j + k) + geti a j * geti b k) % 1000000))
          have hjk : ((j : Int) + (k : Int)) < (n : Int) := by omega
          clear hc2 hy hp ho hlen
          go_wp2
          go_roundw
          case rel => exact ⟨k + 1, _, _, by omega, HS.out.c0, HS.out.c1, rfl, by go_num, Lib.hid (fun h => by omega), HS, HST.out.1, hB.grown HST.out.2 hB.size (by simp)⟩
          case measure => simp [intOf] <;> omega
        · have hkd : decide ((k : Int) < (b.length : Int)) = false := decide_eq_false (by omega)
          have hkd2 : decide (k < b.length) = false := decide_eq_false hkb
          by_cases hpos : 0 < c
          · have hkeq : k = b.length := by
              rcases Nat.lt_or_ge b.length k with h | h
              · have := HZ.out h; omega
              · omega
            have hz : Hid (geti o (j + k) = 0) := Lib.hid (high_zero HM.out.lim (HM.out.under HA.out HB.out) (by omega))
            have ho := HI.out.lim.geti (j + k)
            have o0 := ho.1
            have o1 := ho.2
            have hcell3 := HO.out.cellAt (j := j + k) (by omega)
            have hfree := HO.out.free (j + k)
            have HS := Lib.hid (MulIn.last HI.out (by omega) (by omega) hz.out)
            have HST := Lib.hid (HO.out.stored (j + k) ((c + geti o' (j + k)) % 1000000))
            have hjk : ((j : Int) + (k : Int)) < (n : Int) := by omega
            have hk1 : k ≤ b.length := by omega
            clear hkeq ho hlen
            go_wp2
            go_roundw
            case rel => exact ⟨k + 1, _, _, by omega, HS.out.1.c0, HS.out.1.c1, rfl, by go_num, Lib.hid (fun _ => HS.out.2), HS.out.1, hB.grown HST.out.2 hB.size (by simp) |> fun h => ⟨HST.out.1, h⟩⟩
            case measure => simp [intOf] <;> omega
          · have hcz : c = 0 := by omega
            subst hcz
            have HN := Lib.hid (HM.out.next hlt HI.out (by omega))
            clear hlen hpos
            go_wp2
            go_roundw
            case rel => exact ⟨j + 1, _, by omega, by go_num, HN, HO, hB⟩
            case measure => simp [intOf] <;> omega
    · obtain rfl : j = a.length := by omega
      have HF := Lib.hid HM.out.done
      go_wp2_with (go_at_call 77; refine (trimmed_own _ _ _ _ HO.out).mono ?_; rintro e w' ⟨⟨r, rfl, hr, _⟩, rfl⟩)
      go_ret
      exact ⟨_, rfl, by rw [← HF.out]; exact hr, hB⟩
set_option maxHeartbeats 1000000 in
theorem l02Mul_any (v1 v2 : Value) (a b : List Int) (w : World) (h1 : Sl w v1 a) (h2 : Sl w v2 b) (ha : Lim a) (hb : Lim b) (la : a.length ≤ 1000) (lb : b.length ≤ 1000) :
    Calls Try.prog 137 #[v1, v2] w (RetOwn w (nl (val a * val b))) := by
  obtain ⟨i0, hi0, hz0, hz1, hz2⟩ := info_parts Try.infoI
  obtain ⟨A1, c1, rfl, hlc1, hcm1, hr1⟩ := h1
  obtain ⟨A2, c2, rfl, hlc2, hcm2, hr2⟩ := h2
  have HR1 := Lib.hid hr1
  have HR2 := Lib.hid hr2
  have HA := Lib.hid ha
  have HB := Lib.hid hb
  clear hr1 hr2 ha hb
  go_enter Try.func137, Try.ntmps137
  go_wp2_with (at_make; refine wpList_make_full _ rfl _ _ 39 rfl w.heap.size 2 i0 _ 1 Try.underlying39 hi0 hz0 hz1 _ _ _ _ (a.length + b.length + 1) rfl rfl (by omega) (by omega) (by rw [hz2]; omega) (by unfold maxLen; omega) (Nat.le_refl _) ?_; intro w1 hown hg)
  have hb1 : Below w.heap.size w w1 := (Below.refl _ _).grown hg (Nat.le_refl _) (by simp)
  have HO : Hid (Owns w1 w.heap.size (.slice (some ⟨w.heap.size, 0, none⟩) (a.length + b.length + 1) (a.length + b.length + 1)) (List.replicate (a.length + b.length + 1) 0)) := Lib.hid (by
    unfold Owns
    rw [made_ints] at hown
    simpa using hown)
  clear hown hg hi0 hz0 hz1 hz2
  generalize hN : (a.length + b.length + 1) = n at *
  have hn1 : a.length + b.length ≤ n := by omega
  have hn2 : n ≤ 2001 := by omega
  clear hN
  go_loopw [6] (fun i wr => ∃ (j : Nat) (o : List Int), j ≤ a.length ∧ i = .int .i64 j ∧ Hid (MulOut a b n j o) ∧ Hid (Owns wr w.heap.size (.slice (some ⟨w.heap.size, 0, none⟩) n n) o) ∧ Below w.heap.size w wr) (fun i _ => a.length - (intOf i).toNat)
  case atStart => exact ⟨0, _, Nat.zero_le _, rfl, Lib.hid (MulOut.start a b n), HO, hb1⟩
  case round =>
    clear HO hb1
    obtain ⟨j, o, hj, rfl, HM, HO, hB⟩ := hrel
    by_cases hlt : j < a.length
    · have hji : (j : Int) < (a.length : Int) := by omega
      obtain ⟨ad1, rfl, hbk1, hc1⟩ := HR1.out.at_ hlt
      have hcell1 := (hB.cell (p := ad1.add j) (by rw [block_of_add]; exact hbk1)).trans hc1
      have hx := HA.out.geti j
      have x0 := hx.1
      have x1 := hx.2
      have HC1 := Lib.hid hc1
      clear hc1 hx
      obtain ⟨wo, rfl⟩ : ∃ wo : World, wo = wr := ⟨_, rfl⟩
      go_wp2
      clear hcell1
      go_loopw [7, 8] (fun t i wr => ∃ (k : Nat) (c : Int) (o' : List Int), k ≤ b.length + 1 ∧ 0 ≤ c ∧ c ≤ 999999 ∧ t = .int .i64 c ∧ i = .int .i64 k ∧ Hid (b.length < k → c = 0) ∧ Hid (MulIn o b (geti a j) j k o' c) ∧ Hid (Owns wr w.heap.size (.slice (some ⟨w.heap.size, 0, none⟩) n n) o') ∧ Below w.heap.size w wr) (fun _ i _ => b.length + 2 - (intOf i).toNat)
      case atStart => exact ⟨0, 0, o, by omega, by omega, by omega, rfl, rfl, Lib.hid (fun _ => rfl), Lib.hid (MulIn.start HM.out.lim), HO, hB⟩
      case round =>
        clear HO hB
        obtain ⟨k, c, o', hk, hc0, hc1, rfl, rfl, HZ, HI, HO, hB⟩ := hrel
        have hlen : o'.length = n := by rw [HI.out.len, HM.out.len]
        by_cases hkb : k < b.length
        · have hkd : (k : Int) < (b.length : Int) := by omega
          obtain ⟨ad2, rfl, hbk2, hc2⟩ := HR2.out.at_ hkb
          have hcell2 := (hB.cell (p := ad2.add k) (by rw [block_of_add]; exact hbk2)).trans hc2
          have hcell1 := (hB.cell (p := ad1.add j) (by rw [block_of_add]; exact hbk1)).trans HC1.out
          have hy := HB.out.geti k
          have y0 := hy.1
          have y1 := hy.2
          have hp := prod_bd x0 x1 y0 y1
          have p0 := hp.1
          have p1 := hp.2
          have ho := HI.out.lim.geti (j + k)
          have o0 := ho.1
          have o1 := ho.2
          have hcell3 := HO.out.cellAt (j := j + k) (by omega)
          have hfree := HO.out.free (j + k)
          have HS := Lib.hid (mulin_step2 HI.out HB.out x0 x1 hkb (by omega))
          have HST := Lib.hid (HO.out.stored (j + k) ((geti o' (j + k) + c + geti a j * geti b k) % 1000000))
          have hjk : ((j : Int) + (k : Int)) < (n : Int) := by omega
          clear hc2 hy hp ho hlen
          go_wp2
          go_quiet (fail)
          go_wp2
          go_roundw
          case rel => exact ⟨k + 1, _, _, by omega, HS.out.c0, HS.out.c1, rfl, by go_num, Lib.hid (fun h => by omega), HS, HST.out.1, (below_drewN hB _).grown ((HO.out.drewN _).stored (j + k) _).2 hB.size (by simp)⟩
          case measure => simp [intOf] <;> omega
        · have hkd : decide ((k : Int) < (b.length : Int)) = false := decide_eq_false (by omega)
          have hkd2 : decide (k < b.length) = false := decide_eq_false hkb
          by_cases hpos : 0 < c
          · have hkeq : k = b.length := by
              rcases Nat.lt_or_ge b.length k with h | h
              · have := HZ.out h; omega
              · omega
            have hz : Hid (geti o (j + k) = 0) := Lib.hid (high_zero HM.out.lim (HM.out.under HA.out HB.out) (by omega))
            have ho := HI.out.lim.geti (j + k)
            have o0 := ho.1
            have o1 := ho.2
            have hcell3 := HO.out.cellAt (j := j + k) (by omega)
            have hfree := HO.out.free (j + k)
            have HS := Lib.hid (mulin_last2 HI.out (by omega) (by omega) hz.out)
            have HST := Lib.hid (HO.out.stored (j + k) ((geti o' (j + k) + c) % 1000000))
            have hjk : ((j : Int) + (k : Int)) < (n : Int) := by omega
            have hk1 : k ≤ b.length := by omega
            clear hkeq ho hlen
            go_wp2
            go_roundw
            case rel => exact ⟨k + 1, _, _, by omega, HS.out.1.c0, HS.out.1.c1, rfl, by go_num, Lib.hid (fun _ => HS.out.2), HS.out.1, hB.grown HST.out.2 hB.size (by simp) |> fun h => ⟨HST.out.1, h⟩⟩
            case measure => simp [intOf] <;> omega
          · have hcz : c = 0 := by omega
            subst hcz
            have HN := Lib.hid (HM.out.next hlt HI.out (by omega))
            clear hlen hpos
            go_wp2
            go_roundw
            case rel => exact ⟨j + 1, _, by omega, by go_num, HN, HO, hB⟩
            case measure => simp [intOf] <;> omega
    · obtain rfl : j = a.length := by omega
      have HF := Lib.hid HM.out.done
      go_wp2_with (go_at_call 134; refine (l02Trim_own _ _ _ _ HO.out).mono ?_; rintro e w' ⟨⟨r, rfl, hr, _⟩, rfl⟩)
      go_ret
      exact ⟨_, rfl, by rw [← HF.out]; exact hr, hB⟩
end Go.Proofs.Ytanjpkcacgjgfaa
