/- Shortlex order, reversing, ranks: contracts and what the laws need. No condition beyond the stated bounds. -/
import Derived.Test.YtndddmichogaoaaLists
namespace Go.Proofs.Ytndddmichogaoaa
open Go.RowKit
theorem bothCompareShortlex (a b : List Int) (_f : Fit a) (_hn : a.length ≤ 1048576) (_g : Fit b) (_hm : b.length ≤ 1048576) : ∃ R : Int,
    (∀ (w : World) (v1 v2 : Value), Sl w v1 a → Sl w v2 b → Calls Try.prog 29 #[v1, v2] w fun e w' => e = .returned (.int .i64 R) ∧ Below w.heap.size w w') ∧
    (∀ (w : World) (v1 v2 : Value), Sl w v1 a → Sl w v2 b → Calls Try.prog 30 #[v1, v2] w fun e w' => e = .returned (.int .i64 R) ∧ Below w.heap.size w w') := by
  have hd := cmpL_bd a b
  have hlo : -1 ≤ cmpL a b := by omega
  have hhi : cmpL a b ≤ 1 := by omega
  clear hd
  refine ⟨slexL a b, fun w v1 v2 h1 h2 => ?_, fun w v1 v2 h1 h2 => ?_⟩
  · have H1 := Lib.hid h1
    have H2 := Lib.hid h2
    obtain ⟨A1, c1, rfl, _, _, _⟩ := h1
    obtain ⟨A2, c2, rfl, _, _, _⟩ := h2
    rcases Nat.lt_trichotomy a.length b.length with h | h | h
    · have HF : Hid (slexL a b = -1) := Lib.hid (by unfold slexL; rw [if_pos h])
      go_enter Try.func29, Try.ntmps29
      go_wp2
      go_ret
      exact ⟨ret_int HF.out.symm, Below.refl _ _⟩
    · have HF : Hid (slexL a b = cmpL a b) := Lib.hid (by unfold slexL; rw [if_neg (by omega), if_neg (by omega)])
      have d1 : decide (a.length < b.length) = false := decide_eq_false (by omega)
      have d2 : decide (b.length < a.length) = false := decide_eq_false (by omega)
      clear h
      go_enter Try.func29, Try.ntmps29
      go_wp2_with (first | (go_at_call 46; refine (l01Compare_any _ _ _ _ _ H1.out H2.out).mono ?_; rintro e w' ⟨rfl, hb⟩) | go_in)
      go_ret
      exact ⟨ret_int HF.out.symm, hb⟩
    · have HF : Hid (slexL a b = 1) := Lib.hid (by unfold slexL; rw [if_neg (by omega), if_pos h])
      have d1 : decide (a.length < b.length) = false := decide_eq_false (by omega)
      go_enter Try.func29, Try.ntmps29
      go_wp2
      go_ret
      exact ⟨ret_int HF.out.symm, Below.refl _ _⟩
  · have H1 := Lib.hid h1
    have H2 := Lib.hid h2
    obtain ⟨A1, c1, rfl, _, _, _⟩ := h1
    obtain ⟨A2, c2, rfl, _, _, _⟩ := h2
    rcases Nat.lt_trichotomy a.length b.length with h | h | h
    · have HF : Hid (slexL a b = -1) := Lib.hid (by unfold slexL; rw [if_pos h])
      have d1 : ((a.length : Int) != (b.length : Int)) = true := by rw [bne_iff_ne]; omega
      have d3 : (a.length != b.length) = true := by rw [bne_iff_ne]; omega
      go_enter Try.func30, Try.ntmps30
      go_wp2
      go_ret
      exact ⟨ret_int HF.out.symm, Below.refl _ _⟩
    · have HF : Hid (slexL a b = cmpL a b) := Lib.hid (by unfold slexL; rw [if_neg (by omega), if_neg (by omega)])
      have d1 : ((a.length : Int) != (b.length : Int)) = false := by simp [h]
      have d3 : (a.length != b.length) = false := by simp [h]
      clear h
      go_enter Try.func30, Try.ntmps30
      go_wp2_with (first | (go_at_call 47; refine (slicesCompare_any _ _ _ _ _ H1.out H2.out).mono ?_; rintro e w' ⟨rfl, rfl⟩) | go_in)
      go_ret
      exact ⟨ret_int HF.out.symm, Below.refl _ _⟩
    · have HF : Hid (slexL a b = 1) := Lib.hid (by unfold slexL; rw [if_neg (by omega), if_pos h])
      have d1 : ((a.length : Int) != (b.length : Int)) = true := by rw [bne_iff_ne]; omega
      have d3 : (a.length != b.length) = true := by rw [bne_iff_ne]; omega
      have d2 : decide (a.length < b.length) = false := decide_eq_false (by omega)
      go_enter Try.func30, Try.ntmps30
      go_wp2
      go_ret
      exact ⟨ret_int HF.out.symm, Below.refl _ _⟩
theorem reversed_any (v : Value) (l : List Int) (w : World) (h : Sl w v l) (hn : l.length ≤ 4000000) :
    Calls Try.prog 55 #[v] w (RetRow w l.reverse) := by
  go_enter Try.func55, Try.ntmps55
  go_wp2_with fail
  refine (clone_own _ _ _ h hn).mono ?_
  rintro e w1 ⟨r, rfl, o1, hb1⟩
  go_wp2_with fail
  refine (reverse_own _ _ _ _ o1 (by omega)).mono ?_
  rintro e w2 ⟨rfl, o2, hg2⟩
  have hB := (hb1.grown hg2 hb1.size (fun k hk => (o1.lt k hk).1))
  go_wp2_with fail
  go_ret
  exact ⟨_, rfl, .inl o2, hB⟩
theorem l03Reverse_any (v : Value) (l : List Int) (w : World) (h : Sl w v l) (hn : l.length ≤ 4000000) :
    Calls Try.prog 54 #[v] w (RetRow w l.reverse) := by
  obtain ⟨A, c, rfl, hlc, hcm, hr⟩ := h
  have HR := Lib.hid hr
  clear hr
  have HO := Lib.hid (Owns.empty w w.heap.size (Nat.le_refl _))
  have hB0 : Below w.heap.size w (w.alloc (.cells #[] 2)) := (Below.refl _ _).alloc (Nat.le_refl _) _
  go_enter Try.func54, Try.ntmps54
  go_wp2
  go_loopw [3, 4] (fun u i wr => ∃ k : Nat, k ≤ l.length ∧ i = .int .i64 ((k : Int) - 1) ∧ Hid (Owns wr w.heap.size u (l.drop k).reverse) ∧ Below w.heap.size w wr) (fun _ i _ => (intOf i + 1).toNat)
  case atStart => exact ⟨l.length, Nat.le_refl _, rfl, Lib.hid (by rw [List.drop_length]; exact HO.out), hB0⟩
  case round =>
    clear HO hB0
    obtain ⟨k, hk, rfl, HO, hB⟩ := hrel
    by_cases h0 : 0 < k
    · obtain ⟨j, rfl⟩ : ∃ j, k = j + 1 := ⟨k - 1, by omega⟩
      rw [show (((j + 1 : Nat) : Int) - 1) = (j : Int) by omega]
      have hj : j < l.length := by omega
      obtain ⟨ad, rfl, hb1, hc1⟩ := HR.out.at_ hj
      have hcell := (hB.cell (p := ad.add j) (by rw [block_of_add]; exact hb1)).trans hc1
      have hl2 : (l.drop (j + 1)).reverse.length ≤ 1000000000 := by simp; omega
      have HD := Lib.hid (reverse_snoc hj)
      clear hc1
      go_wp2_with (at_builtin; refine wpList_push rfl _ _ rfl w.heap.size _ (l.drop (j + 1)).reverse rfl HO.out _ rfl hl2 hB.size ?_; intro v1 w1 o1 hg1 _)
      have hB1 := hB.grown hg1 hB.size (fun k hk => (HO.out.lt k hk).1)
      rw [HD.out] at o1
      have HO1 := Lib.hid o1
      clear o1 hg1
      go_wp2
      go_roundw
      case rel => exact ⟨j, by omega, rfl, HO1, hB1⟩
      case measure => simp [intOf] <;> omega
    · obtain rfl : k = 0 := by omega
      rw [show (((0 : Nat) : Int) - 1) = (-1 : Int) by omega]
      go_wp2
      go_ret
      exact ⟨_, rfl, .inl HO.out, hB⟩
/-- What ReverseWord answers. -/
def revW (l : List Int) : List Int × Int := if wordB l = true then (l.reverse, 0) else ([], 1)
theorem bothReverseWord (l : List Int) (_f : Fit l) (hn : l.length ≤ 1048576) : ∃ (R : List Int) (C : Int), R.length ≤ 4000000 ∧
    (∀ (w : World) (v : Value), Sl w v l → Calls Try.prog 27 #[v] w (RetRowC w R C)) ∧
    (∀ (w : World) (v : Value), Sl w v l → Calls Try.prog 28 #[v] w (RetRowC w R C)) := by
  cases hw : wordB l with
  | true =>
    refine ⟨l.reverse, 0, by simp; omega, fun w v h => ?_, fun w v h => ?_⟩
    · go_enter Try.func27, Try.ntmps27
      go_wp2_with (first
        | (go_at_call 48; refine (l03Is_any _ _ _ h).mono ?_; rintro e w' ⟨rfl, rfl⟩)
        | (go_at_call 54; refine (l03Reverse_any _ _ _ h (by omega)).mono ?_; rintro e w' ⟨r, rfl, hr, hb⟩))
      go_ret2
      exact ⟨_, rfl, hr, hb⟩
    · go_enter Try.func28, Try.ntmps28
      go_wp2_with (first
        | (go_at_call 51; refine (implIsWord_any _ _ _ h).mono ?_; rintro e w' ⟨rfl, rfl⟩)
        | (go_at_call 55; refine (reversed_any _ _ _ h (by omega)).mono ?_; rintro e w' ⟨r, rfl, hr, hb⟩))
      go_ret2
      exact ⟨_, rfl, hr, hb⟩
  | false =>
    refine ⟨[], 1, by simp, fun w v h => ?_, fun w v h => ?_⟩
    · go_enter Try.func27, Try.ntmps27
      go_wp2_with (go_at_call 48; refine (l03Is_any _ _ _ h).mono ?_; rintro e w' ⟨rfl, rfl⟩)
      go_ret2
      exact ⟨_, rfl, Fresh.nil_ _ _, Below.refl _ _⟩
    · go_enter Try.func28, Try.ntmps28
      go_wp2_with (go_at_call 51; refine (implIsWord_any _ _ _ h).mono ?_; rintro e w' ⟨rfl, rfl⟩)
      go_ret2
      exact ⟨_, rfl, Fresh.nil_ _ _, Below.refl _ _⟩
end Go.Proofs.Ytndddmichogaoaa
