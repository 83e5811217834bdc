/- Naturals: digits and sets. No condition beyond the stated bounds. -/
import Derived.Test.YtkaicdljgchifaaNatVal
namespace Go.Proofs.Ytkaicdljgchifaa
open Go.RowKit
/-- The length of a slice value. -/
def sliceLen : Value → Nat
  | .slice _ n _ => n
  | _ => 0
theorem l02Digits_any (v : Value) (l : List Int) (b : Int) (w : World) (h : Sl w v l) (hn : natB l = true) (hb1 : 2 ≤ b) (hb2 : b ≤ 1000000) :
    Calls Try.prog 60 #[v, .int .i64 b] w (RetOwn w (dg 800 (val l) b)) := by
  have HS := Lib.hid h
  have hv0 := (nat_val hn).2.1
  have hV := Lib.hid (nat_val hn).2.2
  have hnl := Lib.hid (nat_val hn).1
  clear h hn
  have HO := Lib.hid (Owns.empty w w.heap.size (Nat.le_refl _))
  have hB0 : Below w.heap.size w (w.alloc (.cells #[] 2)) := (Below.refl _ _).alloc (Nat.le_refl _) _
  go_enter Try.func60, Try.ntmps60
  go_wp2_with fail
  go_loopw [0, 5] (fun u o wr => ∃ (m : Int) (fu : Nat) (pre : List Int), 0 ≤ m ∧ Hid (m < pw 40) ∧ pre.length + fu = 800 ∧ Hid (Und2 fu m) ∧ Hid (pre ++ dg fu m b = dg 800 (val l) b) ∧ Hid (Sl wr u (nl m)) ∧ Hid (Owns wr w.heap.size o pre) ∧ Below w.heap.size w wr) (fun _ o _ => 801 - sliceLen o)
  case atStart => exact ⟨val l, 800, [], hv0, hV, rfl, Lib.hid (und_40 hV.out), Lib.hid rfl, Lib.hid (by rw [hnl.out]; exact HS.out.next hB0), HO, hB0⟩
  case round =>
    clear HO hB0
    obtain ⟨m, fu, pre, hm0, hm40, hpf, HU, HE, HSm, HO, hB⟩ := hrel
    have HM := Lib.hid HSm.out
    obtain ⟨A1, c1, rfl, _, hc1, _⟩ := HSm.out
    unfold maxLen at hc1
    obtain ⟨A2, c2, rfl, _, _, _⟩ := HO.out.sl
    by_cases hpos : 0 < m
    · have hnp := nl_ne hpos
      have hnp2 : (0 : Int) < ((nl m).length : Int) := by omega
      rcases fu with _ | fu
      · have := HU.out.zero; omega
      have HE2 : Hid ((pre ++ [m % b]) ++ dg fu (m / b) b = dg 800 (val l) b) := Lib.hid (by rw [← HE.out, dg_pos hpos]; simp)
      have HU2 := Lib.hid (HU.out.step hb1 (show 0 ≤ m by omega))
      have hq0 : 0 ≤ m / b := Int.ediv_nonneg hm0 (by omega)
      have hm402 : Hid (m / b < pw 40) := Lib.hid (by have h1 := hm40.out; have := div_le hm0 (show 1 ≤ b by omega); omega)
      go_wp2_with fail
      refine (l02By_val _ _ _ _ HM.out (by omega) hm40.out (by omega) (by omega)).mono ?_
      rintro e w1 ⟨r1, rfl, o1, hbb⟩
      have hB1 := below_next hB hbb
      have HO1 := Lib.hid (HO.out.next hbb)
      have HR1 := Lib.hid o1
      have hlt1 : Hid (∀ k, (Value.slice A2 pre.length c2).ownBlock = some k → k < wr.heap.size) := Lib.hid (fun k hk => (HO.out.lt k hk).2)
      clear o1
      go_wp2_with (at_builtin; refine wpList_push rfl _ _ rfl w.heap.size _ pre rfl HO1.out _ rfl (by omega) hB1.size ?_; intro v2 w2 o2 hg2 _)
      have hB2 := hB1.grown hg2 hB1.size (fun k hk => (HO1.out.lt k hk).1)
      have HR2 := Lib.hid (HR1.out.kept hg2 (Owns.apart HO1.out HR1.out hlt1.out)).sl
      obtain ⟨A3, c3, rfl, _, _, _⟩ := o2.sl
      have HO2 := Lib.hid o2
      clear o2 hg2
      go_wp2_with fail
      go_roundw
      case rel => exact ⟨m / b, fu, pre ++ [m % b], hq0, hm402, by simp; omega, HU2, HE2, HR2, HO2, hB2⟩
      case measure => simp [sliceLen] <;> omega
    · have HE2 : Hid (pre = dg 800 (val l) b) := Lib.hid (by rw [← HE.out, dg_zero (by omega)]; simp)
      have hz : nl m = [] := nl_nil (by omega)
      have hnp2 : decide ((0 : Int) < ((nl m).length : Int)) = false := decide_eq_false (by rw [hz]; simp)
      have hnp3 : decide (0 < (nl m).length) = false := decide_eq_false (by rw [hz]; simp)
      clear hz
      go_wp2_with fail
      go_ret
      exact ⟨_, rfl, by rw [← HE2.out]; exact HO.out, hB⟩
/-- What DigitsOf answers. -/
def digs (l : List Int) (b : Int) : List Int × Int := if natB l = true then (if inB b 2 1000000 = true then (dg 800 (val l) b, 0) else ([], 2)) else ([], 1)
theorem digs_len (l : List Int) (b : Int) : (digs l b).1.length ≤ 800 := by
  unfold digs
  split
  · split
    · exact dg_len _ _ _
    · simp
  · simp
theorem specDigitsOf_any (v : Value) (l : List Int) (b : Int) (w : World) (h : Sl w v l) :
    Calls Try.prog 25 #[v, .int .i64 b] w (RetOwnC w (digs l b).1 (digs l b).2) := by
  cases hn : natB l with
  | false =>
    have HF : Hid (digs l b = ([], 1)) := Lib.hid (by unfold digs; rw [hn]; rfl)
    go_enter Try.func25, Try.ntmps25
    go_wp2_with (go_at_call 49; refine (l02Is_any _ _ _ h).mono ?_; rintro e w' ⟨rfl, rfl⟩)
    go_ret2
    exact ⟨_, by rw [HF.out]; rfl, by rw [HF.out]; exact Owns.nil_ _ _, Below.refl _ _⟩
  | true =>
    cases hb : inB b 2 1000000 with
    | false =>
      have HF : Hid (digs l b = ([], 2)) := Lib.hid (by unfold digs; rw [hn, hb]; rfl)
      go_enter Try.func25, Try.ntmps25
      go_wp2_with (first
        | (go_at_call 49; refine (l02Is_any _ _ _ h).mono ?_; rintro e w' ⟨rfl, rfl⟩)
        | (go_at_call 53; refine (l00In_any _ _ _ _).mono ?_; rintro e w' ⟨rfl, rfl⟩))
      go_ret2
      exact ⟨_, by rw [HF.out]; rfl, by rw [HF.out]; exact Owns.nil_ _ _, Below.refl _ _⟩
    | true =>
      have HF : Hid (digs l b = (dg 800 (val l) b, 0)) := Lib.hid (by unfold digs; rw [hn, hb]; rfl)
      obtain ⟨b1, b2⟩ := inB_true.1 hb
      have HN := Lib.hid hn
      go_enter Try.func25, Try.ntmps25
      go_wp2_with (first
        | (go_at_call 49; refine (l02Is_any _ _ _ h).mono ?_; rintro e w' ⟨rfl, rfl⟩)
        | (go_at_call 53; refine (l00In_any _ _ _ _).mono ?_; rintro e w' ⟨rfl, rfl⟩)
        | (go_at_call 60; refine (l02Digits_any _ _ _ _ h HN.out b1 b2).mono ?_; rintro e w' ⟨r, rfl, hr, hbb⟩))
      go_ret2
      exact ⟨_, by rw [HF.out]; rfl, by rw [HF.out]; exact hr, hbb⟩
theorem implDigitsOf_any (v : Value) (l : List Int) (b : Int) (w : World) (h : Sl w v l) :
    Calls Try.prog 26 #[v, .int .i64 b] w (RetOwnC w (digs l b).1 (digs l b).2) := by
  cases hn : natB l with
  | false =>
    have HF : Hid (digs l b = ([], 1)) := Lib.hid (by unfold digs; rw [hn]; rfl)
    go_enter Try.func26, Try.ntmps26
    go_wp2_with (go_at_call 55; refine (implIsNatural_any _ _ _ h).mono ?_; rintro e w' ⟨rfl, rfl⟩)
    go_ret2
    exact ⟨_, by rw [HF.out]; rfl, by rw [HF.out]; exact Owns.nil_ _ _, Below.refl _ _⟩
  | true =>
    cases hb : inB b 2 1000000 with
    | false =>
      have HF : Hid (digs l b = ([], 2)) := Lib.hid (by unfold digs; rw [hn, hb]; rfl)
      go_enter Try.func26, Try.ntmps26
      go_wp2_with (first
        | (go_at_call 55; refine (implIsNatural_any _ _ _ h).mono ?_; rintro e w' ⟨rfl, rfl⟩)
        | (go_at_call 56; refine (within_any _ _ _ _).mono ?_; rintro e w' ⟨rfl, rfl⟩))
      go_ret2
      exact ⟨_, by rw [HF.out]; rfl, by rw [HF.out]; exact Owns.nil_ _ _, Below.refl _ _⟩
    | true =>
      have HF : Hid (digs l b = (dg 800 (val l) b, 0)) := Lib.hid (by unfold digs; rw [hn, hb]; rfl)
      obtain ⟨hb1, hb2⟩ := inB_true.1 hb
      have HS := Lib.hid h
      have hv0 := (nat_val hn).2.1
      have hV := Lib.hid (nat_val hn).2.2
      have hnl := Lib.hid (nat_val hn).1
      have HO := Lib.hid (Owns.empty w w.heap.size (Nat.le_refl _))
      have hB0 : Below w.heap.size w (w.alloc (.cells #[] 2)) := (Below.refl _ _).alloc (Nat.le_refl _) _
      clear h
      go_enter Try.func26, Try.ntmps26
      go_wp2_with (first
        | (go_at_call 55; refine (implIsNatural_any _ _ _ HS.out).mono ?_; rintro e w' ⟨rfl, rfl⟩)
        | (go_at_call 56; refine (within_any _ _ _ _).mono ?_; rintro e w' ⟨rfl, rfl⟩))
      go_loopw [0, 6] (fun u o wr => ∃ (m : Int) (fu : Nat) (pre : List Int), 0 ≤ m ∧ Hid (m < pw 40) ∧ pre.length + fu = 800 ∧ Hid (Und2 fu m) ∧ Hid (pre ++ dg fu m b = dg 800 (val l) b) ∧ Hid (Sl wr u (nl m)) ∧ Hid (Owns wr w.heap.size o pre) ∧ Below w.heap.size w wr) (fun _ o _ => 801 - sliceLen o)
      case atStart => exact ⟨val l, 800, [], hv0, hV, rfl, Lib.hid (und_40 hV.out), Lib.hid rfl, Lib.hid (by rw [hnl.out]; exact HS.out.next hB0), HO, hB0⟩
      case round =>
        clear HO hB0
        obtain ⟨m, fu, pre, hm0, hm40, hpf, HU, HE, HSm, HO, hB⟩ := hrel
        have HM := Lib.hid HSm.out
        obtain ⟨A1, c1, rfl, _, hc1, _⟩ := HSm.out
        unfold maxLen at hc1
        obtain ⟨A2, c2, rfl, _, _, _⟩ := HO.out.sl
        by_cases hpos : 0 < m
        · have hnp := nl_ne hpos
          have hnp2 : (0 : Int) < ((nl m).length : Int) := by omega
          rcases fu with _ | fu
          · have := HU.out.zero; omega
          have HE2 : Hid ((pre ++ [m % b]) ++ dg fu (m / b) b = dg 800 (val l) b) := Lib.hid (by rw [← HE.out, dg_pos hpos]; simp)
          have HU2 := Lib.hid (HU.out.step hb1 (show 0 ≤ m by omega))
          have hq0 : 0 ≤ m / b := Int.ediv_nonneg hm0 (by omega)
          have hm402 : Hid (m / b < pw 40) := Lib.hid (by have h1 := hm40.out; have := div_le hm0 (show 1 ≤ b by omega); omega)
          go_wp2_with fail
          refine (divideSmall_val _ _ _ _ HM.out (by omega) hm40.out (by omega) (by omega)).mono ?_
          rintro e w1 ⟨r1, rfl, o1, hbb⟩
          have hB1 := below_next hB hbb
          have HO1 := Lib.hid (HO.out.next hbb)
          have HR1 := Lib.hid o1
          have hlt1 : Hid (∀ k, (Value.slice A2 pre.length c2).ownBlock = some k → k < wr.heap.size) := Lib.hid (fun k hk => (HO.out.lt k hk).2)
          clear o1
          go_wp2_with (at_builtin; refine wpList_push rfl _ _ rfl w.heap.size _ pre rfl HO1.out _ rfl (by omega) hB1.size ?_; intro v2 w2 o2 hg2 _)
          have hB2 := hB1.grown hg2 hB1.size (fun k hk => (HO1.out.lt k hk).1)
          have HR2 := Lib.hid (HR1.out.kept hg2 (Owns.apart HO1.out HR1.out hlt1.out)).sl
          obtain ⟨A3, c3, rfl, _, _, _⟩ := o2.sl
          have HO2 := Lib.hid o2
          clear o2 hg2
          go_wp2_with fail
          go_roundw
          case rel => exact ⟨m / b, fu, pre ++ [m % b], hq0, hm402, by simp; omega, HU2, HE2, HR2, HO2, hB2⟩
          case measure => simp [sliceLen] <;> omega
        · have HE2 : Hid (pre = dg 800 (val l) b) := Lib.hid (by rw [← HE.out, dg_zero (by omega)]; simp)
          have hz : nl m = [] := nl_nil (by omega)
          have hnp2 : decide ((0 : Int) < ((nl m).length : Int)) = false := decide_eq_false (by rw [hz]; simp)
          have hnp3 : decide (0 < (nl m).length) = false := decide_eq_false (by rw [hz]; simp)
          clear hz
          go_wp2_with fail
          go_ret2
          exact ⟨_, by rw [HF.out]; rfl, by rw [HF.out, ← HE2.out]; exact HO.out, hB⟩
theorem bothDigitsOf (l : List Int) (b : Int) (_f : Fit l) (_hn : l.length ≤ 1048576) (_hp : -9223372036854775808 ≤ b ∧ b ≤ 9223372036854775807) : ∃ (R : List Int) (C : Int), R.length ≤ 4000000 ∧
    (∀ (w : World) (v : Value), Sl w v l → Calls Try.prog 25 #[v, .int .i64 b] w (RetRowC w R C)) ∧
    (∀ (w : World) (v : Value), Sl w v l → Calls Try.prog 26 #[v, .int .i64 b] w (RetRowC w R C)) :=
  ⟨_, _, by have := digs_len l b; omega, fun w v h => (specDigitsOf_any v l b w h).mono fun _ _ ⟨r, a, b, c⟩ => ⟨r, a, .inl b, c⟩, fun w v h => (implDigitsOf_any v l b w h).mono fun _ _ ⟨r, a, b, c⟩ => ⟨r, a, .inl b, c⟩⟩
/-- What SetOf answers. -/
def setOf (l : List Int) : List Int × Int := if natB l = true then (ones (dg 800 (val l) 2) 0, 0) else ([], 1)
theorem setOf_len (l : List Int) : (setOf l).1.length ≤ 800 := by
  unfold setOf
  split
  · have := ones_len (dg 800 (val l) 2) 0; have := dg_len 800 (val l) 2; show (ones _ _).length ≤ 800; omega
  · simp
theorem digs_two {l : List Int} (h : natB l = true) : digs l 2 = (dg 800 (val l) 2, 0) := by unfold digs; rw [if_pos h, if_pos (by decide)]
theorem digs_no {l : List Int} {b : Int} (h : natB l = false) : digs l b = ([], 1) := by unfold digs; rw [if_neg (by simp [h])]
theorem specSetOf_any (v : Value) (l : List Int) (w : World) (h : Sl w v l) :
    Calls Try.prog 29 #[v] w (RetRowC w (setOf l).1 (setOf l).2) := by
  cases hn : natB l with
  | false =>
    have HF : Hid (setOf l = ([], 1)) := Lib.hid (by unfold setOf; rw [hn]; rfl)
    go_enter Try.func29, Try.ntmps29
    go_wp2_with (go_at_call 49; refine (l02Is_any _ _ _ h).mono ?_; rintro e w' ⟨rfl, rfl⟩)
    go_ret2
    exact ⟨_, by rw [HF.out]; rfl, by rw [HF.out]; exact Fresh.nil_ _ _, Below.refl _ _⟩
  | true =>
    have HF : Hid (setOf l = (ones (dg 800 (val l) 2) 0, 0)) := Lib.hid (by unfold setOf; rw [hn]; rfl)
    have HN := Lib.hid hn
    have hDl := dg_len 800 (val l) 2
    go_enter Try.func29, Try.ntmps29
    go_wp2_with fail
    refine (l02Is_any _ _ _ h).mono ?_
    rintro e w' ⟨rfl, rfl⟩
    go_wp2_with fail
    refine (l02Digits_any _ _ _ _ h HN.out (by omega) (by omega)).mono ?_
    rintro e w1 ⟨r, rfl, or, hbr⟩
    generalize dg 800 (val l) 2 = D at *
    obtain ⟨A, c, rfl, hlc, hcm, hr⟩ := or.sl
    have HR := Lib.hid hr
    unfold maxLen at hcm
    clear hr or
    have HO := Lib.hid (Owns.empty w1 w1.heap.size (Nat.le_refl _))
    have hB0 : Below w1.heap.size w1 (w1.alloc (.cells #[] 2)) := (Below.refl _ _).alloc (Nat.le_refl _) _
    go_wp2_with fail
    go_loopw [5, 6] (fun o i wr => ∃ (k : Nat) (pre : List Int), k ≤ D.length ∧ pre.length ≤ k ∧ i = .int .i64 k ∧ Hid (pre ++ ones (D.drop k) k = ones D 0) ∧ Hid (Owns wr w1.heap.size o pre) ∧ Below w1.heap.size w1 wr) (fun _ i _ => D.length - (intOf i).toNat)
    case atStart => exact ⟨0, [], Nat.zero_le _, Nat.zero_le _, rfl, Lib.hid rfl, HO, hB0⟩
    case round =>
      clear HO hB0
      obtain ⟨k, pre, hk, hpk, rfl, HE, HO, hB⟩ := hrel
      by_cases hlt : k < D.length
      · obtain ⟨ad, rfl, hb1, hc1⟩ := HR.out.at_ hlt
        have hcell := (hB.cell (p := ad.add k) (by rw [block_of_add]; exact hb1)).trans hc1
        clear hc1
        by_cases hone : geti D k = 1
        · have hob : (geti D k == 1) = true := by simpa using hone
          have HE2 : Hid ((pre ++ [(k : Int)]) ++ ones (D.drop (k + 1)) (k + 1) = ones D 0) := Lib.hid (by rw [← HE.out, ones_step hlt, if_pos hone]; simp)
          clear hone
          go_wp2_with (at_builtin; refine wpList_push rfl _ _ rfl w1.heap.size _ pre rfl HO.out _ rfl (by omega) hB.size ?_; intro v2 w2 o2 hg2 _)
          have hB2 : Below w1.heap.size w1 w2 := hB.grown hg2 hB.size (fun j hj => (HO.out.lt j hj).1)
          have HO2 := Lib.hid o2
          clear o2 hg2
          go_wp2_with fail
          go_roundw
          case rel => exact ⟨k + 1, pre ++ [(k : Int)], by omega, by simp; omega, by go_num, HE2, HO2, hB2⟩
          case measure => simp [intOf] <;> omega
        · have hob : (geti D k == 1) = false := by simpa using hone
          have HE2 : Hid (pre ++ ones (D.drop (k + 1)) (k + 1) = ones D 0) := Lib.hid (by rw [← HE.out, ones_step hlt, if_neg hone])
          clear hone
          go_wp2_with fail
          go_roundw
          case rel => exact ⟨k + 1, pre, by omega, by omega, by go_num, HE2, HO, hB⟩
          case measure => simp [intOf] <;> omega
      · have HE2 : Hid (pre = ones D 0) := Lib.hid (by rw [← HE.out, List.drop_eq_nil_of_le (by omega)]; simp [ones])
        go_wp2_with fail
        go_ret2
        exact ⟨_, by rw [HF.out]; rfl, by rw [HF.out, ← HE2.out]; exact .inl (HO.out.lower hbr.size), below_next hbr hB⟩
theorem implSetOf_any (v : Value) (l : List Int) (w : World) (h : Sl w v l) :
    Calls Try.prog 30 #[v] w (RetRowC w (setOf l).1 (setOf l).2) := by
  cases hn : natB l with
  | false =>
    have HF : Hid (setOf l = ([], 1)) := Lib.hid (by unfold setOf; rw [hn]; rfl)
    have HD := Lib.hid (digs_no (b := 2) hn)
    go_enter Try.func30, Try.ntmps30
    go_wp2_with fail
    refine (implDigitsOf_any _ _ _ _ h).mono ?_
    rintro e w1 ⟨r, rfl, or, hbr⟩
    rw [HD.out]
    go_wp2_with fail
    go_ret2
    exact ⟨_, by rw [HF.out]; rfl, by rw [HF.out]; exact Fresh.nil_ _ _, hbr⟩
  | true =>
    have HF : Hid (setOf l = (ones (dg 800 (val l) 2) 0, 0)) := Lib.hid (by unfold setOf; rw [hn]; rfl)
    have HD := Lib.hid (digs_two hn)
    have hDl := dg_len 800 (val l) 2
    go_enter Try.func30, Try.ntmps30
    go_wp2_with fail
    refine (implDigitsOf_any _ _ _ _ h).mono ?_
    rintro e w1 ⟨r, rfl, or, hbr⟩
    rw [HD.out] at or ⊢
    generalize dg 800 (val l) 2 = D at *
    simp only at or
    obtain ⟨A, c, rfl, hlc, hcm, hr⟩ := or.sl
    have HR := Lib.hid hr
    unfold maxLen at hcm
    clear hr or HD
    have HO := Lib.hid (Owns.empty w1 w1.heap.size (Nat.le_refl _))
    have hB0 : Below w1.heap.size w1 (w1.alloc (.cells #[] 2)) := (Below.refl _ _).alloc (Nat.le_refl _) _
    go_wp2_with fail
    go_loopw [6, 20] (fun o i wr => ∃ (k : Nat) (pre : List Int), k ≤ D.length ∧ pre.length ≤ k ∧ i = .int .i64 k ∧ Hid (pre ++ ones (D.drop k) k = ones D 0) ∧ Hid (Owns wr w1.heap.size o pre) ∧ Below w1.heap.size w1 wr) (fun _ i _ => D.length - (intOf i).toNat)
    case atStart => exact ⟨0, [], Nat.zero_le _, Nat.zero_le _, rfl, Lib.hid rfl, HO, hB0⟩
    case round =>
      clear HO hB0
      obtain ⟨k, pre, hk, hpk, rfl, HE, HO, hB⟩ := hrel
      by_cases hlt : k < D.length
      · obtain ⟨ad, rfl, hb1, hc1⟩ := HR.out.at_ hlt
        have hcell := (hB.cell (p := ad.add k) (by rw [block_of_add]; exact hb1)).trans hc1
        clear hc1
        by_cases hone : geti D k = 1
        · have hob : (geti D k == 1) = true := by simpa using hone
          have HE2 : Hid ((pre ++ [(k : Int)]) ++ ones (D.drop (k + 1)) (k + 1) = ones D 0) := Lib.hid (by rw [← HE.out, ones_step hlt, if_pos hone]; simp)
          clear hone
          go_wp2_with (at_builtin; refine wpList_push rfl _ _ rfl w1.heap.size _ pre rfl HO.out _ rfl (by omega) hB.size ?_; intro v2 w2 o2 hg2 _)
          have hB2 : Below w1.heap.size w1 w2 := hB.grown hg2 hB.size (fun j hj => (HO.out.lt j hj).1)
          have HO2 := Lib.hid o2
          clear o2 hg2
          go_wp2_with fail
          go_roundw
          case rel => exact ⟨k + 1, pre ++ [(k : Int)], by omega, by simp; omega, by go_num, HE2, HO2, hB2⟩
          case measure => simp [intOf] <;> omega
        · have hob : (geti D k == 1) = false := by simpa using hone
          have HE2 : Hid (pre ++ ones (D.drop (k + 1)) (k + 1) = ones D 0) := Lib.hid (by rw [← HE.out, ones_step hlt, if_neg hone])
          clear hone
          go_wp2_with fail
          go_roundw
          case rel => exact ⟨k + 1, pre, by omega, by omega, by go_num, HE2, HO, hB⟩
          case measure => simp [intOf] <;> omega
      · have HE2 : Hid (pre = ones D 0) := Lib.hid (by rw [← HE.out, List.drop_eq_nil_of_le (by omega)]; simp [ones])
        go_wp2_with fail
        go_ret2
        exact ⟨_, by rw [HF.out]; rfl, by rw [HF.out, ← HE2.out]; exact .inl (HO.out.lower hbr.size), below_next hbr hB⟩
theorem bothSetOf (l : List Int) (_f : Fit l) (_hn : l.length ≤ 1048576) : ∃ (R : List Int) (C : Int), R.length ≤ 4000000 ∧
    (∀ (w : World) (v : Value), Sl w v l → Calls Try.prog 29 #[v] w (RetRowC w R C)) ∧
    (∀ (w : World) (v : Value), Sl w v l → Calls Try.prog 30 #[v] w (RetRowC w R C)) :=
  ⟨_, _, by have := setOf_len l; omega, fun w v h => specSetOf_any v l w h, fun w v h => implSetOf_any v l w h⟩
end Go.Proofs.Ytkaicdljgchifaa
