/- NaturalText of the program; both give the same. Where the table of powers is laid. -/
import Derived.Test.YtipmkkojpdjgoaaDoorNText
import Derived.Test.YtipmkkojpdjgoaaDoorBld
import Derived.Test.YtipmkkojpdjgoaaDoorShelf2
namespace Go.Proofs.YtipmkkojpdjgoaaDoor
open Go.RowKit Go.Joins
theorem rep_zeros (c : Nat) : (⟨(Lib.repeatL (ByteArray.mk #[48]).data.toList c).toArray⟩ : ByteArray) = str (List.replicate c 48) := by
  have h := Lib.repeatL_replicate 48 1 c
  rw [Nat.mul_one] at h
  exact congrArg str h
theorem natR_bd {l : List Int} (h : natB l = true) (j : Nat) : (natR (l.drop j)).length ≤ 240 := by
  obtain ⟨h1, h2⟩ := natB_lim h
  have := natR_len h2 _ (List.drop_suffix j l)
  rw [List.length_drop] at this
  omega
set_option maxHeartbeats 1000000 in
theorem implNaturalText_any (v : Value) (l : List Int) (w : World) (hp : Pow w) (h : Sl w v l) :
    Calls Tryd.prog 27 #[v] w fun e w' => e = .returned (.string (str (ntxt l))) ∧ Below w.heap.size w w' := by
  have HS := Lib.hid h
  obtain ⟨A, c, rfl, hlc, hcm, hr⟩ := h
  have HR := Lib.hid hr
  have HP := Lib.hid hp
  clear hr hp
  unfold maxLen at hcm
  cases hb : natB l with
  | false =>
    have HT : Hid (str (ntxt l) = ⟨#[]⟩) := Lib.hid (by unfold ntxt; rw [hb]; rfl)
    have HB := Lib.hid hb
    clear hb
    go_enter Tryd.func27, Tryd.ntmps27
    go_wp2_with (go_at_call 53; refine (implIsNatural_any _ _ _ HS.out).mono ?_; rintro e w' ⟨rfl, rfl⟩; rw [HB.out])
    go_ret
    exact ⟨ret_str HT.out.symm, Below.refl _ _⟩
  | true =>
    have HT : Hid (ntxt l = natT l) := Lib.hid (by unfold ntxt; rw [hb]; rfl)
    have HB := Lib.hid hb
    obtain ⟨hl40, ha⟩ := natB_lim hb
    have HA := Lib.hid ha
    clear hb ha
    by_cases h0 : l.length = 0
    · have HT2 : Hid (str (ntxt l) = ⟨#[48]⟩) := Lib.hid (by rw [HT.out]; unfold natT; rw [if_pos h0]; rfl)
      have e1 : ((l.length : Int) == 0) = true := by rw [beq_iff_eq]; omega
      have e2 : (l.length == 0) = true := by rw [beq_iff_eq]; exact h0
      clear h0
      go_enter Tryd.func27, Tryd.ntmps27
      go_wp2_with (go_at_call 53; refine (implIsNatural_any _ _ _ HS.out).mono ?_; rintro e w' ⟨rfl, rfl⟩; rw [HB.out])
      go_ret
      exact ⟨ret_str HT2.out.symm, Below.refl _ _⟩
    · have HT2 : Hid (ntxt l = natR l) := Lib.hid (by rw [HT.out]; unfold natT; rw [if_neg h0])
      have e1 : ((l.length : Int) == 0) = false := by rw [beq_eq_false_iff_ne]; omega
      have e2 : (l.length == 0) = false := by rw [beq_eq_false_iff_ne]; exact h0
      have hpos : 0 < l.length := by omega
      clear h0
      have HI := Lib.hid (Lib.fresh_isBuilder 61 5 w)
      have hB0 : Below w.heap.size w (w.alloc (.cells #[.pointer none, .slice none 0 0] 61)) := (Below.refl _ _).alloc (Nat.le_refl _) _
      go_enter Tryd.func27, Tryd.ntmps27
      go_wp2_with (go_at_call 53; refine (implIsNatural_any _ _ _ HS.out).mono ?_; rintro e w' ⟨rfl, rfl⟩; rw [HB.out])
      go_loopw [4, 5] (fun i lb wr => ∃ (k : Nat), k ≤ l.length ∧ i = .int .i64 ((k : Int) - 1) ∧ Hid (Lib.IsBuilder 61 5 w.heap.size w.heap.size (Lib.byteCells (natR (l.drop k))) wr) ∧ Below w.heap.size w wr) (fun i _ _ => (intOf i + 1).toNat)
      case atStart => exact ⟨l.length, Nat.le_refl _, by first | rfl | (congr 1; omega) | go_num, by rw [List.drop_length]; exact HI, hB0⟩
      case round =>
        clear HI hB0
        obtain ⟨k, hk, rfl, HI, hB⟩ := hrel
        by_cases hk0 : 0 < k
        · obtain ⟨j, rfl⟩ : ∃ j, k = j + 1 := ⟨k - 1, by omega⟩
          rw [show (((j + 1 : Nat) : Int) - 1) = (j : Int) by omega]
          have hlt : j < l.length := by omega
          obtain ⟨ad, rfl, hbk, hc⟩ := HR.out.at_ hlt
          have hcell := (hB.cell (p := ad.add j) (by rw [block_of_add]; exact hbk)).trans hc
          have hb := HA.out _ (geti_mem hlt)
          have x0 := hb.1
          have x1 := hb.2
          have b0 : -9223372036854775808 ≤ geti l j := by omega
          have b1 : geti l j ≤ 9223372036854775807 := by omega
          obtain ⟨u, hu⟩ : ∃ u, str (Lib.itoa (geti l j)) = u := ⟨_, rfl⟩
          have HU := Lib.hid hu
          have hu6 : u.size ≤ 6 := by rw [← hu]; exact (pad_eq x0 x1).2
          have hPw : Pow wr := HP.out.next hB
          have HL := natR_bd HB.out (j + 1)
          have hB2 := hB.size
          clear hc hb
          by_cases hlast : j + 1 = l.length
          · have d1 : decide ((j : Int) < (l.length : Int) - 1) = false := decide_eq_false (by omega)
            have d2 : decide (j < l.length - 1) = false := decide_eq_false (by omega)
            have HN : Hid (natR (l.drop (j + 1)) ++ u.data.toList = natR (l.drop j)) := Lib.hid (by
              rw [natR_last hlast, List.drop_eq_nil_of_le (by omega), ← hu]; rfl)
            clear hu
            go_wp2_with (go_at_call 12; refine (implDecimal_any _ _ hPw b0 b1).mono ?_; rintro e w1 ⟨rfl, hb1⟩; rw [HU.out])
            have hB1 := below_next hB hb1
            have HI1 := Lib.hid (isBuilder_next HI.out hb1)
            refine (writeStr_any w.heap.size w.heap.size _ u w1 HI1.out (by omega) (by omega) hB1.size).mono ?_
            rintro e w2 ⟨rfl, hi, hb2⟩
            rw [HN.out] at hi
            have HI2 := Lib.hid hi
            have hB3 := hB1.trans hb2
            clear hi hb2 hcell
            go_wp2_with fail
            go_roundw
            case rel => exact ⟨j, by omega, rfl, HI2, hB3⟩
            case measure => simp [intOf] <;> omega
          · have d1 : decide ((j : Int) < (l.length : Int) - 1) = true := decide_eq_true (by omega)
            have d3 : (j : Int) < (l.length : Int) - 1 := by omega
            obtain ⟨z, hz⟩ : ∃ z : Nat, z + u.size = 6 := ⟨6 - u.size, by omega⟩
            have hz1 : (6 : Int) - (u.size : Int) = (z : Int) := by omega
            have hz2 : z ≤ 6 := by omega
            have HN : Hid (natR (l.drop (j + 1)) ++ List.replicate z 48 ++ u.data.toList = natR (l.drop j)) := Lib.hid (by
              rw [natR_step (l := l) (j := j) (by omega), List.append_assoc, pad6, ← hu]
              have : u.size = (Lib.itoa (geti l j)).length := by rw [← hu]; rfl
              rw [show 6 - (Lib.itoa (geti l j)).length = z by omega]; rfl)
            have HL1 : (natR (l.drop (j + 1)) ++ List.replicate z 48).length ≤ 1000 := by rw [List.length_append, List.length_replicate]; omega
            have hzs : (str (List.replicate z 48)).size ≤ 1000000 := by show (List.replicate z (48 : UInt8)).length ≤ _; rw [List.length_replicate]; omega
            have hzl : (ByteArray.mk #[48]).size * z ≤ 140737488355328 := by show 1 * z ≤ _; omega
            have HR0 := Lib.hid (rep_zeros z)
            clear hu hlast
            go_wp2_with (go_at_call 12; refine (implDecimal_any _ _ hPw b0 b1).mono ?_; rintro e w1 ⟨rfl, hb1⟩; rw [HU.out])
            have hB1 := below_next hB hb1
            have HI1 := Lib.hid (isBuilder_next HI.out hb1)
            refine (Tryd.strings_Repeat ⟨#[48]⟩ z w1 (by omega) hzl).mono ?_
            rintro e w2 ⟨rfl, hb2⟩
            rw [HR0.out]
            have hB2 := below_next hB1 hb2
            have HI2 := Lib.hid (isBuilder_next HI1.out hb2)
            go_wp2_with fail
            refine (writeStr_any w.heap.size w.heap.size _ _ w2 HI2.out (by omega) hzs hB2.size).mono ?_
            rintro e w3 ⟨rfl, hi3, hb3⟩
            have HI3 := Lib.hid hi3
            have hB3 := hB2.trans hb3
            clear hi3 hb3
            go_wp2_with fail
            refine (writeStr_any w.heap.size w.heap.size _ u w3 HI3.out (by exact Nat.le_trans HL1 (by omega)) (by omega) hB3.size).mono ?_
            rintro e w4 ⟨rfl, hi, hb4⟩
            rw [show (str (List.replicate z 48)).data.toList = List.replicate z 48 from rfl, HN.out] at hi
            have HI4 := Lib.hid hi
            have hB4 := hB3.trans hb4
            clear hi hb4 hcell
            go_wp2_with fail
            go_roundw
            case rel => exact ⟨j, by omega, rfl, HI4, hB4⟩
            case measure => simp [intOf] <;> omega
        · obtain rfl : k = 0 := by omega
          rw [show (((0 : Nat) : Int) - 1) = (-1 : Int) by omega]
          have hi := HI.out
          rw [List.drop_zero] at hi
          have HI2 := Lib.hid hi
          clear hi
          go_wp2_with fail
          refine (Tryd.Builder_String_any w.heap.size w.heap.size (natR l) _ HI2.out hB.size).mono ?_
          rintro e w1 ⟨rfl, hb⟩
          go_wp2_with fail
          go_ret
          exact ⟨ret_str (by rw [HT2.out]; rfl), by first | exact hB.trans hb | exact hB.trans hb.1 | exact hB.trans hb.2⟩
theorem bothNaturalText (l : List Int) (_f : Fit l) (_hn : l.length ≤ 1048576) : ∃ R : ByteArray,
    (∀ (w : World) (v : Value), Sl w v l → Calls Tryd.prog 26 #[v] w fun e w' => e = .returned (.string R) ∧ Below w.heap.size w w') ∧
    (∀ (w : World) (v : Value), Pow w → Sl w v l → Calls Tryd.prog 27 #[v] w fun e w' => e = .returned (.string R) ∧ Below w.heap.size w w') :=
  ⟨_, fun w v h => specNaturalText_any v l w h, fun w v hp h => implNaturalText_any v l w hp h⟩
end Go.Proofs.YtipmkkojpdjgoaaDoor
