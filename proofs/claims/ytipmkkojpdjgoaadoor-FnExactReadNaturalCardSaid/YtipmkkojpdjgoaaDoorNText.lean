/- NaturalText of the reference: plain part and walk. No condition beyond the stated bounds. -/
import Derived.Test.YtipmkkojpdjgoaaDoorLText
import Derived.Test.YtipmkkojpdjgoaaDoorValid
import Derived.Lib.Repeat
namespace Go.Proofs.YtipmkkojpdjgoaaDoor
open Go.RowKit
/-- A limb with six digits. -/
def pad6 (x : Int) : List UInt8 := List.replicate (6 - (Lib.itoa x).length) 48 ++ Lib.itoa x
/-- The text of limbs. -/
def natR : List Int → List UInt8
  | [] => []
  | [x] => Lib.itoa x
  | x :: y :: t => natR (y :: t) ++ pad6 x
def natT (l : List Int) : List UInt8 := if l.length = 0 then [48] else natR l
/-- What NaturalText answers. -/
def ntxt (l : List Int) : List UInt8 := if natB l then natT l else []
theorem dec_pad (k : Nat) : ∀ x, x < 10 ^ (k + 1) → Lib.decDigits (10 ^ (k + 1) + x) = 49 :: (List.replicate (k + 1 - (Lib.decDigits x).length) 48 ++ Lib.decDigits x) ∧ (Lib.decDigits x).length ≤ k + 1 := by
  induction k with
  | zero =>
    intro x hx
    have hx : x < 10 := by simpa using hx
    rw [show (10 ^ (0 + 1) + x : Nat) = 10 * 1 + x by omega, decDigits_snoc 1 x (by decide) hx, decDigits_one x hx, decDigits_one 1 (by decide)]
    exact ⟨rfl, by simp⟩
  | succ k ih =>
    intro x hx
    have h10 : 10 ^ (k + 1 + 1) = 10 * 10 ^ (k + 1) := by rw [Nat.pow_succ, Nat.mul_comm]
    have hp : 0 < 10 ^ (k + 1) := Nat.pow_pos (by decide)
    have hx2 : x / 10 < 10 ^ (k + 1) := by omega
    obtain ⟨i1, i2⟩ := ih (x / 10) hx2
    have hm : x % 10 < 10 := Nat.mod_lt _ (by decide)
    have hd : Lib.decDigits (10 ^ (k + 1 + 1) + x) = Lib.decDigits (10 ^ (k + 1) + x / 10) ++ [dchr (x % 10)] := by
      rw [← decDigits_snoc _ _ (by omega) hm]
      congr 1; omega
    rw [hd, i1]
    by_cases h : x < 10
    · have e0 : x / 10 = 0 := by omega
      have e1 : x % 10 = x := by omega
      rw [e0, e1, decDigits_one 0 (by decide), decDigits_one x h]
      refine ⟨?_, by simp⟩
      simp only [List.length_cons, List.length_nil, Nat.zero_add, Nat.add_sub_cancel, List.cons_append, List.append_assoc, List.nil_append]
      congr 1
      rw [show k + 1 = k + 1 from rfl, List.replicate_succ', List.append_assoc]; rfl
    · have e2 : Lib.decDigits x = Lib.decDigits (x / 10) ++ [dchr (x % 10)] := by
        rw [← decDigits_snoc _ _ (by omega) hm]
        congr 1; omega
      rw [e2, List.length_append, List.length_singleton]
      refine ⟨?_, by omega⟩
      rw [show k + 1 + 1 - ((Lib.decDigits (x / 10)).length + 1) = k + 1 - (Lib.decDigits (x / 10)).length by omega, List.cons_append, List.append_assoc]
theorem itoa_nn {x : Int} (h : 0 ≤ x) : Lib.itoa x = Lib.decDigits x.toNat := by
  unfold Lib.itoa; rw [if_neg (by omega)]
theorem pad_eq {x : Int} (h0 : 0 ≤ x) (h1 : x ≤ 999999) : (Lib.itoa (1000000 + x)).drop 1 = pad6 x ∧ (Lib.itoa x).length ≤ 6 := by
  obtain ⟨i1, i2⟩ := dec_pad 5 x.toNat (by have : (10 : Nat) ^ (5 + 1) = 1000000 := by decide
                                           omega)
  unfold pad6
  rw [itoa_nn h0, itoa_nn (by omega), show (1000000 + x).toNat = 10 ^ (5 + 1) + x.toNat by have : (10 : Nat) ^ (5 + 1) = 1000000 := by decide
                                                                                           omega, i1]
  exact ⟨rfl, i2⟩
theorem pad_len {x : Int} (h0 : 0 ≤ x) (h1 : x ≤ 999999) : (pad6 x).length = 6 := by
  have := (pad_eq h0 h1).2
  unfold pad6
  rw [List.length_append, List.length_replicate]; omega
theorem dropI {l : List Int} {j : Nat} (h : j < l.length) : l.drop j = geti l j :: l.drop (j + 1) := by
  rw [List.drop_eq_getElem_cons h, geti_eq h]
theorem natR_last {l : List Int} {j : Nat} (h : j + 1 = l.length) : natR (l.drop j) = Lib.itoa (geti l j) := by
  rw [dropI (by omega), List.drop_eq_nil_of_le (by omega), natR]
theorem natR_step {l : List Int} {j : Nat} (h : j + 1 < l.length) : natR (l.drop j) = natR (l.drop (j + 1)) ++ pad6 (geti l j) := by
  rw [dropI (show j < l.length by omega), dropI h, natR]
theorem natR_len {l : List Int} (ha : ∀ x ∈ l, 0 ≤ x ∧ x ≤ 999999) : ∀ l', l' <:+ l → (natR l').length ≤ 6 * l'.length := by
  intro l' h
  induction l' with
  | nil => simp [natR]
  | cons x t ih =>
    have hx := ha x (h.subset (by simp))
    cases t with
    | nil => have := (pad_eq hx.1 hx.2).2; simp only [natR, List.length_singleton]; omega
    | cons y t =>
      have i := ih ((List.suffix_cons x (y :: t)).trans h)
      have p := pad_len hx.1 hx.2
      simp only [natR, List.length_append, List.length_cons] at i ⊢
      omega
theorem natB_lim {l : List Int} (h : natB l = true) : l.length ≤ 40 ∧ ∀ x ∈ l, 0 ≤ x ∧ x ≤ 999999 :=
  ⟨(natB_true.1 h).1, allIn_true.1 (natB_true.1 h).2.1⟩
theorem cut1 (s : ByteArray) : s.extract 1 s.size = str (s.data.toList.drop 1) := by
  rw [← str_data (s.extract 1 s.size), ByteArray.data_extract, Array.toList_extract]
  congr 1
  show (s.data.toList.drop 1).take (s.size - 1) = _
  rw [List.take_of_length_le]
  rw [List.length_drop]
  show s.data.size - 1 ≤ s.data.size - 1
  omega
set_option maxHeartbeats 400000 in
theorem l02Text_any (v : Value) (l : List Int) (w : World) (h : Sl w v l) (hn : natB l = true) :
    Calls Tryd.prog 52 #[v] w fun e w' => e = .returned (.string (str (natT l))) ∧ Below w.heap.size w w' := by
  obtain ⟨A, c, rfl, hlc, hcm, hr⟩ := h
  obtain ⟨hl40, ha⟩ := natB_lim hn
  have HR := Lib.hid hr
  have HA := Lib.hid ha
  clear hr ha hn
  unfold maxLen at hcm
  by_cases h0 : l.length = 0
  · have HT : Hid (str (natT l) = ⟨#[48]⟩) := Lib.hid (by unfold natT; rw [if_pos h0]; rfl)
    have e1 : ((l.length : Int) == 0) = true := by rw [beq_iff_eq]; omega
    have e2 : (l.length == 0) = true := by rw [beq_iff_eq]; exact h0
    clear h0
    go_enter Tryd.func52, Tryd.ntmps52
    go_wp2_with fail
    go_ret
    exact ⟨ret_str HT.out.symm, Below.refl _ _⟩
  · have HT : Hid (natT l = natR l) := Lib.hid (by unfold natT; rw [if_neg h0])
    have e1 : ((l.length : Int) == 0) = false := by rw [beq_eq_false_iff_ne]; omega
    have e2 : (l.length == 0) = false := by rw [beq_eq_false_iff_ne]; exact h0
    have hlt0 : l.length - 1 < l.length := by omega
    have hpos : 0 < l.length := by omega
    clear h0
    obtain ⟨ad, rfl, hbk0, hc0⟩ := HR.out.at_ hlt0
    have hb := HA.out _ (geti_mem hlt0)
    have b0 : -9223372036854775808 ≤ geti l (l.length - 1) := by omega
    have b1 : geti l (l.length - 1) ≤ 9223372036854775807 := by omega
    have HL := Lib.hid (natR_last (l := l) (j := l.length - 1) (by omega))
    clear hb
    go_enter Tryd.func52, Tryd.ntmps52
    go_wp2_with (go_at_call 37; refine (l01Dec_any _ _ b0 b1).mono ?_; rintro e w1 ⟨rfl, hB0⟩; rw [← HL.out])
    clear hc0 hbk0 b0 b1
    go_loopw [3, 4] (fun t i wr => ∃ (k : Nat) (s : ByteArray), k < l.length ∧ i = .int .i64 ((k : Int) - 1) ∧ t = .string s ∧ Hid (s = str (natR (l.drop k))) ∧ s.size ≤ 1000 ∧ Below w.heap.size w wr) (fun _ i _ => (intOf i + 1).toNat)
    case atStart => exact ⟨l.length - 1, _, by omega, by first | rfl | (congr 1; omega) | go_num, rfl, Lib.hid rfl, by have := natR_len HA.out _ (List.drop_suffix (l.length - 1) l); rw [List.length_drop] at this; show (natR _).length ≤ _; omega, hB0⟩
    case round =>
      clear hB0
      obtain ⟨k, s, hk, rfl, rfl, HS, hsz, hB⟩ := hrel
      by_cases hk0 : 0 < k
      · obtain ⟨j, rfl⟩ : ∃ j, k = j + 1 := ⟨k - 1, by omega⟩
        rw [show (((j + 1 : Nat) : Int) - 1) = (j : Int) by omega]
        have hlt : j < l.length := by omega
        obtain ⟨ad', had, hbk, hc⟩ := HR.out.at_ hlt
        obtain rfl : ad' = ad := by simpa using had.symm
        have hcell := (hB.cell (p := ad'.add j) (by rw [block_of_add]; exact hbk)).trans hc
        have hb := HA.out _ (geti_mem hlt)
        have x0 := hb.1
        have x1 := hb.2
        have b0 : -9223372036854775808 ≤ 1000000 + geti l j := by omega
        have b1 : 1000000 + geti l j ≤ 9223372036854775807 := by omega
        obtain ⟨u, hu⟩ : ∃ u, str (Lib.itoa (1000000 + geti l j)) = u := ⟨_, rfl⟩
        have HU := Lib.hid hu
        have hp := (pad_eq x0 x1).1
        have hu1 : 1 ≤ u.size := by
          have h6 := pad_len x0 x1
          rw [← hp, List.length_drop] at h6
          rw [← hu]; show 1 ≤ (Lib.itoa (1000000 + geti l j)).length
          omega
        have husz : u.size ≤ 21 := by rw [← hu]; exact itoa_len b0 b1
        have HN : Hid (s ++ u.extract 1 u.size = str (natR (l.drop j))) := Lib.hid (by
          rw [cut1, ← hu, natR_step (by omega), HS.out, ← str_app, ← hp]; rfl)
        have hnl : (natR (l.drop j)).length ≤ 1000 := by have := natR_len HA.out _ (List.drop_suffix j l); rw [List.length_drop] at this; omega
        clear hc hb hu hp had
        go_wp2_with (go_at_call 37; refine (l01Dec_any _ _ b0 b1).mono ?_; rintro e w1 ⟨rfl, hb1⟩; rw [HU.out])
        go_roundw
        case rel => exact ⟨j, _, by omega, rfl, rfl, HN, by rw [HN.out]; exact hnl, below_next hB hb1⟩
        case measure => simp [intOf] <;> omega
      · obtain rfl : k = 0 := by omega
        rw [show (((0 : Nat) : Int) - 1) = (-1 : Int) by omega]
        have HE : Hid (s = str (natT l)) := Lib.hid (by rw [HS.out, HT.out, List.drop_zero])
        go_wp2_with fail
        go_ret
        exact ⟨ret_str HE.out, hB⟩
theorem specNaturalText_any (v : Value) (l : List Int) (w : World) (h : Sl w v l) :
    Calls Tryd.prog 26 #[v] w fun e w' => e = .returned (.string (str (ntxt l))) ∧ Below w.heap.size w w' := by
  have HS := Lib.hid h
  obtain ⟨A, c, rfl, _, _, hr⟩ := h
  clear hr
  cases hb : natB l with
  | false =>
    have HT : Hid (str (ntxt l) = ⟨#[]⟩) := Lib.hid (by unfold ntxt; rw [hb]; rfl)
    have HB := Lib.hid hb
    clear hb
    go_enter Tryd.func26, Tryd.ntmps26
    go_wp2_with (go_at_call 51; refine (l02Is_any _ _ _ HS.out).mono ?_; rintro e w' ⟨rfl, rfl⟩; rw [HB.out])
    go_ret
    exact ⟨ret_str HT.out.symm, Below.refl _ _⟩
  | true =>
    have HT : Hid (ntxt l = natT l) := Lib.hid (by unfold ntxt; rw [hb]; rfl)
    have HB := Lib.hid hb
    clear hb
    go_enter Tryd.func26, Tryd.ntmps26
    go_wp2_with (first
      | (go_at_call 51; refine (l02Is_any _ _ _ HS.out).mono ?_; rintro e w' ⟨rfl, rfl⟩; rw [HB.out])
      | (go_at_call 52; refine (l02Text_any _ _ _ HS.out HB.out).mono ?_; rintro e w1 ⟨rfl, hb1⟩))
    go_ret
    exact ⟨ret_str (by rw [HT.out]), hb1⟩
end Go.Proofs.YtipmkkojpdjgoaaDoor
