/- Naturals: differences, powers and small values with their codes. No condition beyond the stated bounds. -/
import Derived.Test.YtkaicdljgchifaaNatArith
import Derived.Test.YtkaicdljgchifaaNatSub
namespace Go.Proofs.Ytkaicdljgchifaa
open Go.RowKit
theorem bothSubtractNaturals (a b : List Int) (_f : Fit a) (_hn : a.length ≤ 1048576) (_g : Fit b) (_hm : b.length ≤ 1048576) : ∃ (R : List Int) (C : Int), R.length ≤ 4000000 ∧
    (∀ (w : World) (v1 v2 : Value), Sl w v1 a → Sl w v2 b → Calls Try.prog 35 #[v1, v2] w (RetRowC w R C)) ∧
    (∀ (w : World) (v1 v2 : Value), Sl w v1 a → Sl w v2 b → Calls Try.prog 36 #[v1, v2] w (RetRowC w R C)) := by
  cases hab : nat2 a b with
  | false =>
    refine ⟨[], 1, by simp, fun w v1 v2 h1 h2 => ?_, fun w v1 v2 h1 h2 => ?_⟩
    · cases ha : natB a with
      | false =>
        go_enter Try.func35, Try.ntmps35
        go_wp2_with (go_at_call 49; refine (l02Is_any _ _ _ h1).mono ?_; rintro e w' ⟨rfl, rfl⟩)
        go_ret2
        exact ⟨_, rfl, Fresh.nil_ _ _, Below.refl _ _⟩
      | true =>
        have hb : natB b = false := by unfold nat2 at hab; rw [ha] at hab; simpa using hab
        go_enter Try.func35, Try.ntmps35
        go_wp2_with fail
        refine (l02Is_any _ _ _ h1).mono ?_
        rintro e w' ⟨rfl, rfl⟩
        go_wp2_with fail
        refine (l02Is_any _ _ _ h2).mono ?_
        rintro e w' ⟨rfl, rfl⟩
        go_wp2_with fail
        go_ret2
        exact ⟨_, rfl, Fresh.nil_ _ _, Below.refl _ _⟩
    · have H1 := Lib.hid h1
      have H2 := Lib.hid h2
      obtain ⟨A1, c1, rfl, _, _, _⟩ := h1
      obtain ⟨A2, c2, rfl, _, _, _⟩ := h2
      have hN : naturals_all [a, b] = false := by rw [nat2_all]; exact hab
      go_enter Try.func36, Try.ntmps36
      go_wp2_with (go_at_call 51; refine (naturals_any _ _ _ (SlL.two H1.out H2.out)).mono ?_; rintro e w' ⟨rfl, rfl⟩)
      go_ret2
      exact ⟨_, rfl, Fresh.nil_ _ _, (Below.refl _ _).alloc (Nat.le_refl _) _⟩
  | true =>
    have hab2 := hab
    unfold nat2 at hab2
    rw [Bool.and_eq_true] at hab2
    obtain ⟨ha, hb⟩ := hab2
    have fa := nat_facts ha
    have fb := nat_facts hb
    have hcv := cmpN_val fa.1 fb.1 fa.2.1 fb.2.1
    by_cases hneg : cmpN a b < 0
    · refine ⟨[], 2, by simp, fun w v1 v2 h1 h2 => ?_, fun w v1 v2 h1 h2 => ?_⟩
      · clear fa fb hcv
        go_enter Try.func35, Try.ntmps35
        go_wp2_with fail
        refine (l02Is_any _ _ _ h1).mono ?_
        rintro e w' ⟨rfl, rfl⟩
        go_wp2_with fail
        refine (l02Is_any _ _ _ h2).mono ?_
        rintro e w' ⟨rfl, rfl⟩
        go_wp2_with fail
        refine (l02Compare_any _ _ _ _ _ h1 h2).mono ?_
        rintro e w' ⟨rfl, hb2⟩
        go_wp2_with fail
        go_ret2
        exact ⟨_, rfl, Fresh.nil_ _ _, hb2⟩
      · clear fa fb hcv
        have H1 := Lib.hid h1
        have H2 := Lib.hid h2
        obtain ⟨A1, c1, rfl, _, _, _⟩ := h1
        obtain ⟨A2, c2, rfl, _, _, _⟩ := h2
        have hN : naturals_all [a, b] = true := by rw [nat2_all]; exact hab
        have hB0 : Below w.heap.size w (w.alloc (.cells #[.slice A1 a.length c1, .slice A2 b.length c2] 22)) := (Below.refl _ _).alloc (Nat.le_refl _) _
        go_enter Try.func36, Try.ntmps36
        go_wp2_with fail
        refine (naturals_any _ _ _ (SlL.two H1.out H2.out)).mono ?_
        rintro e w' ⟨rfl, rfl⟩
        go_wp2_with fail
        refine (compareNaturals_any _ _ _ _ _ (H1.out.next hB0) (H2.out.next hB0)).mono ?_
        rintro e w' ⟨rfl, hb2⟩
        go_wp2_with fail
        go_ret2
        exact ⟨_, rfl, Fresh.nil_ _ _, below_next hB0 hb2⟩
    · have hle : val b ≤ val a := by omega
      have hlen : b.length ≤ a.length := by
        rcases Nat.lt_or_ge a.length b.length with h | h
        · exfalso; apply hneg; unfold cmpN; rw [if_pos h]; omega
        · exact h
      have hRl : (nl (val a - val b)).length ≤ 40 := by
        apply nl_len40 (by omega)
        have h1 := val_nonneg fb.1
        have h2 := (nat_val ha).2.2
        omega
      refine ⟨nl (val a - val b), 0, by omega, fun w v1 v2 h1 h2 => ?_, fun w v1 v2 h1 h2 => ?_⟩
      · have HM := fun w1 (hb : Below w.heap.size w w1) => l02Sub_any v1 v2 a b w1 (h1.next hb) (h2.next hb) fa.1 fb.1 (by omega) hlen hle
        generalize nl (val a - val b) = R at *
        have HM2 := Lib.hid HM
        clear fa fb hcv HM hle
        go_enter Try.func35, Try.ntmps35
        go_wp2_with fail
        refine (l02Is_any _ _ _ h1).mono ?_
        rintro e w' ⟨rfl, rfl⟩
        go_wp2_with fail
        refine (l02Is_any _ _ _ h2).mono ?_
        rintro e w' ⟨rfl, rfl⟩
        go_wp2_with fail
        refine (l02Compare_any _ _ _ _ _ h1 h2).mono ?_
        rintro e w1 ⟨rfl, hb2⟩
        go_wp2_with fail
        refine (HM2.out _ hb2).mono ?_
        rintro e w2 ⟨r, rfl, o2, hb3⟩
        go_wp2_with fail
        go_ret2
        exact ⟨_, rfl, .inl (o2.lower hb2.size), below_next hb2 hb3⟩
      · have H1 := Lib.hid h1
        have H2 := Lib.hid h2
        obtain ⟨A1, c1, rfl, _, _, _⟩ := h1
        obtain ⟨A2, c2, rfl, _, _, _⟩ := h2
        have hN : naturals_all [a, b] = true := by rw [nat2_all]; exact hab
        have hB0 : Below w.heap.size w (w.alloc (.cells #[.slice A1 a.length c1, .slice A2 b.length c2] 22)) := (Below.refl _ _).alloc (Nat.le_refl _) _
        have HM := fun w1 (hb : Below w.heap.size w w1) => subtract_any _ _ a b w1 (H1.out.next hb) (H2.out.next hb) fa.1 fb.1 (by omega) hlen hle
        generalize nl (val a - val b) = R at *
        have HM2 := Lib.hid HM
        clear fa fb hcv HM hle
        go_enter Try.func36, Try.ntmps36
        go_wp2_with fail
        refine (naturals_any _ _ _ (SlL.two H1.out H2.out)).mono ?_
        rintro e w' ⟨rfl, rfl⟩
        go_wp2_with fail
        refine (compareNaturals_any _ _ _ _ _ (H1.out.next hB0) (H2.out.next hB0)).mono ?_
        rintro e w1 ⟨rfl, hb2⟩
        have hB1 := below_next hB0 hb2
        go_wp2_with fail
        refine (HM2.out _ hB1).mono ?_
        rintro e w2 ⟨r, rfl, o2, hb3⟩
        go_wp2_with fail
        go_ret2
        exact ⟨_, rfl, .inl (o2.lower hB1.size), below_next hB1 hb3⟩
/-- The loop of a power of values: none if it has too many limbs. -/
def pwN : Nat → Int → Int → Option Int
  | 0, x, _ => some x
  | e + 1, x, b => if 40 < (nl (x * b)).length then none else pwN e (x * b) b
theorem pwN_no {e : Nat} {x b : Int} (h : 40 < (nl (x * b)).length) : pwN (e + 1) x b = none := by rw [pwN, if_pos h]
theorem pwN_yes {e : Nat} {x b : Int} (h : ¬ 40 < (nl (x * b)).length) : pwN (e + 1) x b = pwN e (x * b) b := by rw [pwN, if_neg h]
theorem pwN_len : ∀ (e : Nat) (x b y : Int), (nl x).length ≤ 40 → pwN e x b = some y → (nl y).length ≤ 40
  | 0, x, b, y, h, he => by injection he with he; subst he; exact h
  | e + 1, x, b, y, h, he => by
    rw [pwN] at he
    split at he
    · cases he
    · exact pwN_len e _ _ _ (by omega) he
/-- What a power answers. -/
def pwR (o : Option Int) : List Int × Int := match o with | some x => (nl x, 0) | none => ([], 5)
theorem nl_one : nl 1 = [1] := by decide
theorem own_one (w : World) : Owns (w.alloc (.cells #[.int .i64 1] 2)) w.heap.size (.slice (some ⟨w.heap.size, 0, none⟩) 1 1) (nl 1) := by
  rw [nl_one]; exact World.ownsRow_lit w #[.int .i64 1] 1 (Nat.le_refl _) (by simp [maxLen]) rfl
/-- The same with a bool. -/
def RetPow (w : World) (o : Option Int) (e : Ending) (w' : World) : Prop :=
  match o with
  | some x => ∃ r, e = .returned (.tuple #[r, .bool true]) ∧ Owns w' w.heap.size r (nl x) ∧ Below w.heap.size w w'
  | none => e = .returned (.tuple #[.slice none 0 0, .bool false]) ∧ Below w.heap.size w w'
set_option maxHeartbeats 1000000 in
theorem l02Power_any (v : Value) (a : List Int) (e0 : Nat) (w : World) (h : Sl w v a) (ha : natB a = true) (he0 : e0 ≤ 801) :
    Calls Try.prog 65 #[v, .int .i64 (e0 : Int)] w (RetPow w (pwN e0 1 (val a))) := by
  have HS := Lib.hid h
  have hva := (nat_val ha).2.1
  have HLa := Lib.hid (nat_facts ha).1
  have hla := (nat_facts ha).2.2
  clear h ha
  have HO := Lib.hid (own_one w)
  have hB0 : Below w.heap.size w (w.alloc (.cells #[.int .i64 1] 2)) := (Below.refl _ _).alloc (Nat.le_refl _) _
  go_enter Try.func65, Try.ntmps65
  go_wp2_with fail
  go_loopw [1, 6] (fun t u wr => ∃ (e : Nat) (x : Int), e ≤ 801 ∧ 0 ≤ x ∧ Hid ((nl x).length ≤ 40) ∧ t = .int .i64 e ∧ Hid (pwN e x (val a) = pwN e0 1 (val a)) ∧ Hid (Owns wr w.heap.size u (nl x)) ∧ Below w.heap.size w wr) (fun t _ _ => (intOf t).toNat)
  case atStart => exact ⟨e0, 1, he0, by omega, Lib.hid (by rw [nl_one]; simp), rfl, Lib.hid rfl, HO, hB0⟩
  case round =>
    clear HO hB0
    obtain ⟨e, x, he, hx0, hxl, rfl, HE, HO, hB⟩ := hrel
    rcases e with _ | e
    · have hd : decide ((0 : Int) < ((0 : Nat) : Int)) = false := by simp
      have HR : Hid (pwN e0 1 (val a) = some x) := Lib.hid HE.out.symm
      go_wp2_with fail
      go_ret2
      rw [HR.out]
      exact ⟨_, rfl, HO.out, hB⟩
    · have hpos : (0 : Int) < ((e + 1 : Nat) : Int) := by omega
      have hxa : 0 ≤ x * val a := Int.mul_nonneg hx0 hva
      have HM := Lib.hid (l02Mul_any _ _ (nl x) a _ HO.out.sl (HS.out.next hB) (nl_lim x) HLa.out (by have := hxl.out; omega) (by omega))
      have hvx := val_nl hx0
      rw [hvx] at HM
      clear hvx
      go_wp2_with fail
      refine HM.out.mono ?_
      rintro ee w1 ⟨r, rfl, o1, hb1⟩
      have hB1 := below_next hB hb1
      have o2 := o1.lower (base' := w.heap.size) hB.size
      obtain ⟨A3, c3, rfl, _, _, _⟩ := o2.sl
      have HO2 := Lib.hid o2
      clear o1 o2
      by_cases hbig : 40 < (nl (x * val a)).length
      · have HR : Hid (pwN e0 1 (val a) = none) := Lib.hid (by rw [← HE.out, pwN_no hbig])
        have hd : (40 : Int) < ((nl (x * val a)).length : Int) := by omega
        go_wp2_with fail
        go_ret2
        rw [HR.out]
        exact ⟨rfl, hB1⟩
      · have HE2 : Hid (pwN e (x * val a) (val a) = pwN e0 1 (val a)) := Lib.hid (by rw [← HE.out, pwN_yes hbig])
        have hd : decide ((40 : Int) < ((nl (x * val a)).length : Int)) = false := decide_eq_false (by omega)
        have hd2 : decide (40 < (nl (x * val a)).length) = false := decide_eq_false hbig
        go_wp2_with fail
        go_roundw
        case rel => exact ⟨e, x * val a, by omega, hxa, Lib.hid (by omega), by go_num, HE2, HO2, hB1⟩
        case measure => simp [intOf] <;> omega
/-- What PowerNatural answers. -/
def powN (a : List Int) (e : Int) : List Int × Int := if natB a = true then (if inB e 0 800 = true then pwR (pwN e.toNat 1 (val a)) else ([], 2)) else ([], 1)
theorem powN_len (a : List Int) (e : Int) : (powN a e).1.length ≤ 40 := by
  unfold powN
  split
  · split
    · unfold pwR
      cases h : pwN e.toNat 1 (val a) with
      | none => simp
      | some x => exact pwN_len _ _ _ _ (by rw [nl_one]; simp) h
    · simp
  · simp
theorem specPowerNatural_any (v : Value) (a : List Int) (e : Int) (w : World) (h : Sl w v a) :
    Calls Try.prog 33 #[v, .int .i64 e] w (RetRowC w (powN a e).1 (powN a e).2) := by
  cases hn : natB a with
  | false =>
    have HF : Hid (powN a e = ([], 1)) := Lib.hid (by unfold powN; rw [hn]; rfl)
    go_enter Try.func33, Try.ntmps33
    go_wp2_with (go_at_call 49; refine (l02Is_any _ _ _ h).mono ?_; rintro e w' ⟨rfl, rfl⟩)
    go_ret2
    exact ⟨_, by rw [HF.out]; rfl, by rw [HF.out]; exact Fresh.nil_ _ _, Below.refl _ _⟩
  | true =>
    cases hb : inB e 0 800 with
    | false =>
      have HF : Hid (powN a e = ([], 2)) := Lib.hid (by unfold powN; rw [hn, hb]; rfl)
      go_enter Try.func33, Try.ntmps33
      go_wp2_with (first
        | (go_at_call 49; refine (l02Is_any _ _ _ h).mono ?_; rintro e w' ⟨rfl, rfl⟩)
        | (go_at_call 53; refine (l00In_any _ _ _ _).mono ?_; rintro e w' ⟨rfl, rfl⟩))
      go_ret2
      exact ⟨_, by rw [HF.out]; rfl, by rw [HF.out]; exact Fresh.nil_ _ _, Below.refl _ _⟩
    | true =>
      have HF : Hid (powN a e = pwR (pwN e.toNat 1 (val a))) := Lib.hid (by unfold powN; rw [hn, hb]; rfl)
      obtain ⟨b1, b2⟩ := inB_true.1 hb
      obtain ⟨e0, rfl⟩ := Int.eq_ofNat_of_zero_le b1
      rw [Int.toNat_natCast] at HF
      have HP := Lib.hid (l02Power_any v a e0 w h hn (by omega))
      go_enter Try.func33, Try.ntmps33
      go_wp2_with fail
      refine (l02Is_any _ _ _ h).mono ?_
      rintro e w' ⟨rfl, rfl⟩
      go_wp2_with fail
      refine (l00In_any _ _ _ _).mono ?_
      rintro e w' ⟨rfl, rfl⟩
      go_wp2_with fail
      refine HP.out.mono ?_
      cases hr : pwN e0 1 (val a) with
      | none =>
        have HR := Lib.hid hr
        clear hr
        rintro e w' ⟨rfl, hb1⟩
        go_wp2_with fail
        go_ret2
        rw [HF.out, HR.out]
        exact ⟨_, rfl, Fresh.nil_ _ _, hb1⟩
      | some x =>
        have HR := Lib.hid hr
        clear hr
        rintro e w' ⟨r, rfl, o1, hb1⟩
        go_wp2_with fail
        go_ret2
        rw [HF.out, HR.out]
        exact ⟨_, rfl, .inl o1, hb1⟩
set_option maxHeartbeats 1000000 in
theorem implPowerNatural_any (v : Value) (a : List Int) (e : Int) (w : World) (h : Sl w v a) :
    Calls Try.prog 34 #[v, .int .i64 e] w (RetRowC w (powN a e).1 (powN a e).2) := by
  cases hn : natB a with
  | false =>
    have HF : Hid (powN a e = ([], 1)) := Lib.hid (by unfold powN; rw [hn]; rfl)
    go_enter Try.func34, Try.ntmps34
    go_wp2_with (go_at_call 55; refine (implIsNatural_any _ _ _ h).mono ?_; rintro e w' ⟨rfl, rfl⟩)
    go_ret2
    exact ⟨_, by rw [HF.out]; rfl, by rw [HF.out]; exact Fresh.nil_ _ _, Below.refl _ _⟩
  | true =>
    cases hb : inB e 0 800 with
    | false =>
      have HF : Hid (powN a e = ([], 2)) := Lib.hid (by unfold powN; rw [hn, hb]; rfl)
      go_enter Try.func34, Try.ntmps34
      go_wp2_with (first
        | (go_at_call 55; refine (implIsNatural_any _ _ _ h).mono ?_; rintro e w' ⟨rfl, rfl⟩)
        | (go_at_call 56; refine (within_any _ _ _ _).mono ?_; rintro e w' ⟨rfl, rfl⟩))
      go_ret2
      exact ⟨_, by rw [HF.out]; rfl, by rw [HF.out]; exact Fresh.nil_ _ _, Below.refl _ _⟩
    | true =>
      have HF : Hid (powN a e = pwR (pwN e.toNat 1 (val a))) := Lib.hid (by unfold powN; rw [hn, hb]; rfl)
      obtain ⟨b1, he0'⟩ := inB_true.1 hb
      obtain ⟨e0, rfl⟩ := Int.eq_ofNat_of_zero_le b1
      have he0 : e0 ≤ 800 := by omega
      rw [Int.toNat_natCast] at HF
      have HS := Lib.hid h
      have hva := (nat_val hn).2.1
      have HLa := Lib.hid (nat_facts hn).1
      have hla := (nat_facts hn).2.2
      have HO := Lib.hid (own_one w)
      have hB0 : Below w.heap.size w (w.alloc (.cells #[.int .i64 1] 2)) := (Below.refl _ _).alloc (Nat.le_refl _) _
      clear h
      go_enter Try.func34, Try.ntmps34
      go_wp2_with (first
        | (go_at_call 55; refine (implIsNatural_any _ _ _ HS.out).mono ?_; rintro e w' ⟨rfl, rfl⟩)
        | (go_at_call 56; refine (within_any _ _ _ _).mono ?_; rintro e w' ⟨rfl, rfl⟩))
      go_loopw [1, 6] (fun t u wr => ∃ (e : Nat) (x : Int), e ≤ 800 ∧ 0 ≤ x ∧ Hid ((nl x).length ≤ 40) ∧ t = .int .i64 e ∧ Hid (pwN e x (val a) = pwN e0 1 (val a)) ∧ Hid (Owns wr w.heap.size u (nl x)) ∧ Below w.heap.size w wr) (fun t _ _ => (intOf t).toNat)
      case atStart => exact ⟨e0, 1, he0, by omega, Lib.hid (by rw [nl_one]; simp), rfl, Lib.hid rfl, HO, hB0⟩
      case round =>
        clear HO hB0
        obtain ⟨e, x, he, hx0, hxl, rfl, HE, HO, hB⟩ := hrel
        rcases e with _ | e
        · have hd : decide ((0 : Int) < ((0 : Nat) : Int)) = false := by simp
          have HR : Hid (pwN e0 1 (val a) = some x) := Lib.hid HE.out.symm
          go_wp2_with fail
          go_ret2
          rw [HF.out, HR.out]
          exact ⟨_, rfl, .inl HO.out, hB⟩
        · have hpos : (0 : Int) < ((e + 1 : Nat) : Int) := by omega
          have hxa : 0 ≤ x * val a := Int.mul_nonneg hx0 hva
          have HM := Lib.hid (multiply_any _ _ (nl x) a _ HO.out.sl (HS.out.next hB) (nl_lim x) HLa.out (by have := hxl.out; omega) (by omega))
          have hvx := val_nl hx0
          rw [hvx] at HM
          clear hvx
          go_wp2_with fail
          refine HM.out.mono ?_
          rintro ee w1 ⟨r, rfl, o1, hb1⟩
          have hB1 := below_next hB hb1
          have o2 := o1.lower (base' := w.heap.size) hB.size
          obtain ⟨A3, c3, rfl, _, _, _⟩ := o2.sl
          have HO2 := Lib.hid o2
          clear o1 o2
          by_cases hbig : 40 < (nl (x * val a)).length
          · have HR : Hid (pwN e0 1 (val a) = none) := Lib.hid (by rw [← HE.out, pwN_no hbig])
            have hd : (40 : Int) < ((nl (x * val a)).length : Int) := by omega
            go_wp2_with fail
            go_ret2
            rw [HF.out, HR.out]
            exact ⟨_, rfl, Fresh.nil_ _ _, hB1⟩
          · have HE2 : Hid (pwN e (x * val a) (val a) = pwN e0 1 (val a)) := Lib.hid (by rw [← HE.out, pwN_yes hbig])
            have hd : decide ((40 : Int) < ((nl (x * val a)).length : Int)) = false := decide_eq_false (by omega)
            have hd2 : decide (40 < (nl (x * val a)).length) = false := decide_eq_false hbig
            go_wp2_with fail
            go_roundw
            case rel => exact ⟨e, x * val a, by omega, hxa, Lib.hid (by omega), by go_num, HE2, HO2, hB1⟩
            case measure => simp [intOf] <;> omega
theorem bothPowerNatural (a : List Int) (e : Int) (_f : Fit a) (_hn : a.length ≤ 1048576) (_hp : -9223372036854775808 ≤ e ∧ e ≤ 9223372036854775807) : ∃ (R : List Int) (C : Int), R.length ≤ 4000000 ∧
    (∀ (w : World) (v : Value), Sl w v a → Calls Try.prog 33 #[v, .int .i64 e] w (RetRowC w R C)) ∧
    (∀ (w : World) (v : Value), Sl w v a → Calls Try.prog 34 #[v, .int .i64 e] w (RetRowC w R C)) :=
  ⟨_, _, by have := powN_len a e; omega, fun w v h => specPowerNatural_any v a e w h, fun w v h => implPowerNatural_any v a e w h⟩
end Go.Proofs.Ytkaicdljgchifaa
