/- Naturals: the contracts of l02Of, l02Trim, trimmed, carried, naturalOf, NaturalOf. No condition beyond the stated bounds. -/
import Derived.Test.YtanjpkcacgjgfaaValid
import Derived.Test.YtanjpkcacgjgfaaPlainNat
namespace Go.Proofs.Ytanjpkcacgjgfaa
open Go.RowKit
/-- A row cut at its end. -/
theorem Owns.cut {w : World} {base c : Nat} {A : Option Addr} {l : List Int} (h : Owns w base (.slice A l.length c) l) {k : Nat} (hk : k ≤ l.length) : Owns w base (.slice A k c) (l.take k) := by
  have hl : (l.take k).length = k := by rw [List.length_take]; omega
  refine ⟨by simp, ?_⟩
  rcases h.2 with ⟨e, hn⟩ | ⟨g, cap, cur, e, hb, hg, hnc, hcm, hcs, htake⟩
  · simp only [Value.slice.injEq] at e
    obtain ⟨rfl, _, rfl⟩ := e
    exact .inl ⟨by congr 1; omega, by omega⟩
  · simp only [Value.slice.injEq] at e
    obtain ⟨rfl, _, rfl⟩ := e
    refine .inr ⟨g, c, cur, by rw [hl], hb, hg, by omega, hcm, hcs, ?_⟩
    rw [hl, Nat.mul_one, List.map_take, ← htake, List.take_take, Nat.mul_one, Nat.min_eq_left hk]
theorem Owns.len' {w : World} {base n c : Nat} {A : Option Addr} {l : List Int} (h : Owns w base (.slice A n c) l) : l.length = n := by
  obtain ⟨A', c', e, _⟩ := h.shape
  simp only [Value.slice.injEq] at e
  exact e.2.1.symm

theorem l02Of_any (n : Int) (w : World) (hn : n ≤ 9223372036854775807) (hn0 : -9223372036854775808 ≤ n) :
    Calls Try.prog 138 #[.int .i64 n] w (RetRow w (natL n)) := by
  have HU := Lib.hid (Under.four hn)
  have HO := Lib.hid (Owns.empty w w.heap.size (Nat.le_refl _))
  have hB0 : Below w.heap.size w (w.alloc (.cells #[] 2)) := (Below.refl _ _).alloc (Nat.le_refl _) _
  go_enter Try.func138, Try.ntmps138
  go_wp2
  go_loopw [0, 3] (fun t u wr => ∃ (m : Int) (f : Nat) (pre : List Int), m ≤ 9223372036854775807 ∧ -9223372036854775808 ≤ m ∧ pre.length + f = 4 ∧ Hid (pre ++ limbs f m = natL n) ∧ Hid (Under f m) ∧ t = .int .i64 m ∧ Hid (Owns wr w.heap.size u pre) ∧ Below w.heap.size w wr) (fun t _ _ => (intOf t).toNat)
  case atStart => exact ⟨n, 4, [], hn, hn0, rfl, rfl, HU, rfl, HO, hB0⟩
  case round =>
    clear HO HU hB0
    obtain ⟨m, f, pre, hm, hm0, hf, HE, HU, rfl, HO, hB⟩ := hrel
    by_cases hpos : 0 < m
    · obtain ⟨g, rfl⟩ : ∃ g, f = g + 1 := by
        rcases f with _ | g
        · have := HU.out.zero; omega
        · exact ⟨g, rfl⟩
      have HE2 : Hid ((pre ++ [m % 1000000]) ++ limbs g (m / 1000000) = natL n) := Lib.hid (by rw [← HE.out, limbs_pos hpos]; simp)
      have HU2 := Lib.hid HU.out.step
      go_wp2_with (at_builtin; refine wpList_push rfl _ _ rfl w.heap.size _ pre rfl HO.out _ rfl (by omega) hB.size ?_; intro v1 w1 o1 hg1 _)
      have hB1 := hB.grown hg1 hB.size (fun k hk => (HO.out.lt k hk).1)
      have HO1 := Lib.hid o1
      clear o1 hg1
      go_wp2
      go_roundw
      case rel => exact ⟨m / 1000000, g, pre ++ [m % 1000000], by omega, by omega, by simp; omega, HE2, HU2, rfl, HO1, hB1⟩
      case measure => simp [intOf] <;> omega
    · have HR : Hid (pre = natL n) := Lib.hid (by rw [← HE.out, limbs_zero (by omega)]; simp)
      go_wp2
      go_ret
      exact ⟨_, rfl, .inl (by rw [← HR.out]; exact HO.out), hB⟩
theorem trimmed_any (A : Option Addr) (c : Nat) (l : List Int) (w : World) (hr : Ints w w.heap.size A l.length l) (hlc : l.length ≤ c) (hcm : c ≤ maxLen) :
    Calls Try.prog 77 #[.slice A l.length c] w fun e w' => e = .returned (.slice A (trim l).length c) ∧ w = w' := by
  have HR := Lib.hid hr
  clear hr
  unfold maxLen at hcm
  go_enter Try.func77, Try.ntmps77
  go_wp2
  go_loop [0] (fun t => ∃ k : Nat, k ≤ l.length ∧ Hid (trim (l.take k) = trim l) ∧ t = .slice A k c) (fun t => match t with | .slice _ k _ => k | _ => 0)
  case atStart => exact ⟨l.length, Nat.le_refl _, by rw [List.take_length]; exact Lib.hid rfl, rfl⟩
  case round =>
    obtain ⟨k, hk, H, rfl⟩ := hrel
    by_cases h0 : 0 < k
    · obtain ⟨j, rfl⟩ : ∃ j, k = j + 1 := ⟨k - 1, by omega⟩
      have hj : j < l.length := by omega
      obtain ⟨ad, rfl, hb1, hc1⟩ := HR.out.at_ hj
      by_cases hz : geti l j = 0
      · have hzb : (geti l j == 0) = true := by simpa using hz
        have HN : Hid (trim (l.take j) = trim l) := Lib.hid (by rw [← H.out, trim_step hj hz])
        clear hz
        go_wp2
        go_round
        case rel => exact ⟨j, by omega, HN, rfl⟩
        case measure => simp
      · have hzb : (geti l j == 0) = false := by simpa using hz
        have HN : Hid ((trim l).length = j + 1) := Lib.hid (by rw [← H.out, trim_stop hj hz, List.length_take]; omega)
        clear hz
        go_wp2
        go_ret
        exact ⟨by rw [HN.out]; rfl, rfl⟩
    · obtain rfl : k = 0 := by omega
      have HN : Hid ((trim l).length = 0) := Lib.hid (by rw [← H.out]; rfl)
      go_wp2
      go_ret
      exact ⟨by rw [HN.out]; rfl, rfl⟩
theorem trimmed_own (v : Value) (base : Nat) (l : List Int) (w : World) (h : Owns w base v l) :
    Calls Try.prog 77 #[v] w fun e w' => (∃ r, e = .returned r ∧ Owns w base r (trim l) ∧ r.ownBlock = v.ownBlock) ∧ w = w' := by
  obtain ⟨A, c, rfl, h1, h2, h3⟩ := h.shape
  refine (trimmed_any A c l w h3 h1 h2).mono ?_
  rintro e w' ⟨rfl, rfl⟩
  refine ⟨⟨_, rfl, ?_, by cases A <;> rfl⟩, rfl⟩
  have := h.cut (trim_len l)
  rwa [← trim_take] at this
theorem carried_any (v : Value) (l : List Int) (w : World) (h : Sl w v l) (hl : l.length ≤ 1000000) (hx : ∀ x ∈ l, 0 ≤ x ∧ x ≤ 1000000000000000) :
    Calls Try.prog 156 #[v] w (RetRow w (trim (carr 4 l 0))) := by
  obtain ⟨A, c, rfl, hlc, hcm, hr⟩ := h
  have HR := Lib.hid hr
  have HX := Lib.hid hx
  clear hr hx
  unfold maxLen at hcm
  have HO := Lib.hid (Owns.empty w w.heap.size (Nat.le_refl _))
  have hB0 : Below w.heap.size w (w.alloc (.cells #[] 2)) := (Below.refl _ _).alloc (Nat.le_refl _) _
  go_enter Try.func156, Try.ntmps156
  go_wp2
  go_loopw [3, 4, 5] (fun u t i wr => ∃ (k : Nat) (m : Int) (pre : List Int), k ≤ l.length + 4 ∧ 0 ≤ m ∧ m ≤ 1000000000000000 ∧ pre.length = k ∧ Hid (pre ++ carr (4 - (k - l.length)) (l.drop k) m = carr 4 l 0) ∧ Hid (Under (4 - (k - l.length)) m) ∧ i = .int .i64 k ∧ t = .int .i64 m ∧ Hid (Owns wr w.heap.size u pre) ∧ Below w.heap.size w wr) (fun _ _ i _ => l.length + 5 - (intOf i).toNat)
  case atStart => exact ⟨0, 0, [], by omega, by omega, by omega, rfl, Lib.hid (by simp), Lib.hid (by rw [Nat.zero_sub]; exact Under.four (by omega)), rfl, rfl, HO, hB0⟩
  case round =>
    clear HO hB0
    obtain ⟨k, m, pre, hk, hm0, hm1, hp, HE, HU, rfl, rfl, HO, hB⟩ := hrel
    have hp2 : pre.length ≤ 1000004 := by omega
    have HP := Lib.hid hp
    clear hp
    by_cases hlt : k < l.length
    · obtain ⟨ad, rfl, hb1, hc1⟩ := HR.out.at_ hlt
      have hcell := (hB.cell (p := ad.add k) (by rw [block_of_add]; exact hb1)).trans hc1
      have hxk := HX.out _ (geti_mem hlt)
      have hx0 := hxk.1
      have hx1 := hxk.2
      clear hc1 hxk
      have HE2 : Hid ((pre ++ [(m + geti l k) % 1000000]) ++ carr (4 - (k + 1 - l.length)) (l.drop (k + 1)) ((m + geti l k) / 1000000) = carr 4 l 0) := Lib.hid (by
        rw [← HE.out, List.drop_eq_getElem_cons hlt, carr, ← geti_eq hlt, List.append_assoc]
        rw [show 4 - (k + 1 - l.length) = 4 - (k - l.length) by omega]; rfl)
      have HU2 : Hid (Under (4 - (k + 1 - l.length)) ((m + geti l k) / 1000000)) := Lib.hid (by
        rw [show k + 1 - l.length = 0 by omega]; exact Under.four (by omega))
      go_wp2_with (at_builtin; refine wpList_push rfl _ _ rfl w.heap.size _ pre rfl HO.out _ rfl (by omega) hB.size ?_; intro v1 w1 o1 hg1 _)
      have hB1 := hB.grown hg1 hB.size (fun k hk => (HO.out.lt k hk).1)
      have HO1 := Lib.hid o1
      clear o1 hg1
      go_wp2
      go_roundw
      case rel => exact ⟨k + 1, (m + geti l k) / 1000000, pre ++ [(m + geti l k) % 1000000], by omega, by omega, by omega, by have := HP.out; simp; omega, HE2, HU2, by go_num, rfl, HO1, hB1⟩
      case measure => simp [intOf] <;> omega
    · have hd : decide ((k : Int) < (l.length : Int)) = false := decide_eq_false (by omega)
      have hd2 : decide (k < l.length) = false := decide_eq_false hlt
      by_cases hpos : 0 < m
      · have HU1 := HU.out
        have HE1 := HE.out
        obtain ⟨g, hg⟩ : ∃ g, 4 - (k - l.length) = g + 1 := by
          rcases hh : 4 - (k - l.length) with _ | g
          · rw [hh] at HU1; have := HU1.zero; omega
          · exact ⟨g, rfl⟩
        rw [hg] at HU1 HE1
        rw [List.drop_eq_nil_of_le (by omega)] at HE1
        have HE2 : Hid ((pre ++ [m % 1000000]) ++ carr (4 - (k + 1 - l.length)) (l.drop (k + 1)) (m / 1000000) = carr 4 l 0) := Lib.hid (by
          rw [← HE1, List.drop_eq_nil_of_le (by omega), carr, carr, limbs_pos hpos, show 4 - (k + 1 - l.length) = g by omega]; simp)
        have HU2 : Hid (Under (4 - (k + 1 - l.length)) (m / 1000000)) := Lib.hid (by
          rw [show 4 - (k + 1 - l.length) = g by omega]; exact HU1.step)
        have hk4 : k + 1 ≤ l.length + 4 := by omega
        clear HU1 HE1 hg
        go_wp2_with (at_builtin; refine wpList_push rfl _ _ rfl w.heap.size _ pre rfl HO.out _ rfl (by omega) hB.size ?_; intro v1 w1 o1 hg1 _)
        have hB1 := hB.grown hg1 hB.size (fun k hk => (HO.out.lt k hk).1)
        have HO1 := Lib.hid o1
        clear o1 hg1
        go_wp2
        go_roundw
        case rel => exact ⟨k + 1, m / 1000000, pre ++ [m % 1000000], by omega, by omega, by omega, by have := HP.out; simp; omega, HE2, HU2, by go_num, rfl, HO1, hB1⟩
        case measure => simp [intOf] <;> omega
      · have HF : Hid (pre = carr 4 l 0) := Lib.hid (by
          have HE1 := HE.out
          rw [List.drop_eq_nil_of_le (by omega), carr, limbs_zero (by omega), List.append_nil] at HE1
          exact HE1)
        go_wp2_with (go_at_call 77; refine (trimmed_own _ _ _ _ HO.out).mono ?_; rintro e w' ⟨⟨r, rfl, hr, _⟩, rfl⟩)
        go_ret
        exact ⟨_, rfl, .inl (by rw [← HF.out]; exact hr), hB⟩
theorem naturalOf_any (n : Int) (w : World) (h0 : 0 ≤ n) (hn : n ≤ 1000000000000) :
    Calls Try.prog 142 #[.int .i64 n] w (RetRow w (natL n)) := by
  have hown : Owns (w.alloc (.cells #[.int .i64 n] 2)) w.heap.size (.slice (some ⟨w.heap.size, 0, none⟩) 1 1) [n] :=
    World.ownsRow_lit w #[.int .i64 n] 1 (Nat.le_refl _) (by simp [maxLen]) rfl
  have HO := Lib.hid hown.sl
  have hB0 : Below w.heap.size w (w.alloc (.cells #[.int .i64 n] 2)) := (Below.refl _ _).alloc (Nat.le_refl _) _
  have HC := Lib.hid (carr_one h0 (by omega))
  clear hown
  go_enter Try.func142, Try.ntmps142
  go_wp2_with (go_at_call 156; refine (carried_any _ _ _ HO.out (by simp) (by simp; omega)).mono ?_; rintro e w' ⟨r, rfl, hr, hb⟩)
  go_ret
  refine ⟨_, rfl, ?_, below_next hB0 hb⟩
  rw [HC.out] at hr
  exact hr.lower (by simp)
end Go.Proofs.Ytanjpkcacgjgfaa
