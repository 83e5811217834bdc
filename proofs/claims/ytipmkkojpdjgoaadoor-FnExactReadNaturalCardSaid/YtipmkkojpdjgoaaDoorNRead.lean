/- ReadNatural of the reference: limbs of six digits, read from the end. No condition beyond the stated bounds. -/
import Derived.Test.YtipmkkojpdjgoaaDoorPlainRead
import Derived.Test.YtipmkkojpdjgoaaDoorNat1
namespace Go.Proofs.YtipmkkojpdjgoaaDoor
open Go.RowKit Go.Joins
theorem l00Max_any (a b : Int) (w : World) :
    Calls Tryd.prog 81 #[.int .i64 a, .int .i64 b] w fun e w' => e = .returned (.int .i64 (max a b)) ∧ w = w' := by
  by_cases h : b < a
  · have e : Hid (max a b = a) := Lib.hid (by omega)
    go_enter Tryd.func81, Tryd.ntmps81
    go_wp2_with fail
    go_ret
    exact ⟨by rw [e.out]; rfl, rfl⟩
  · have e : Hid (max a b = b) := Lib.hid (by omega)
    have h2 : decide (b < a) = false := decide_eq_false h
    clear h
    go_enter Tryd.func81, Tryd.ntmps81
    go_wp2_with fail
    go_ret
    exact ⟨by rw [e.out]; rfl, rfl⟩
theorem l02Trim_any (A : Option Addr) (c : Nat) (l : List Int) (w : World) (hr : Ints w w.heap.size A l.length l) (hlc : l.length ≤ c) (hcm : c ≤ maxLen) :
    Calls Tryd.prog 82 #[.slice A l.length c] w fun e w' => e = .returned (.slice A (trim l).length c) ∧ w = w' := by
  have HR := Lib.hid hr
  clear hr
  unfold maxLen at hcm
  have htl := trim_len l
  go_enter Tryd.func82, Tryd.ntmps82
  go_wp2
  go_loop [3] (fun t => ∃ k : Nat, k ≤ l.length ∧ Hid (trim (l.take k) = trim l) ∧ t = .int .i64 k) (fun t => (intOf t).toNat)
  case atStart => exact ⟨l.length, Nat.le_refl _, by rw [List.take_length]; exact Lib.hid rfl, rfl⟩
  case round =>
    obtain ⟨k, hk, H, rfl⟩ := hrel
    by_cases h0 : 0 < k
    · obtain ⟨j, rfl⟩ : ∃ j, k = j + 1 := ⟨k - 1, by omega⟩
      have hj : j < l.length := by omega
      obtain ⟨ad, rfl, hb1, hc1⟩ := HR.out.at_ hj
      by_cases hz : geti l j = 0
      · have hzb : (geti l j == 0) = true := by simpa using hz
        have HN : Hid (trim (l.take j) = trim l) := Lib.hid (by rw [← H.out, trim_step hj hz])
        clear hz
        go_wp2
        go_round
        case rel => exact ⟨j, by omega, HN, by go_num⟩
        case measure => simp [intOf] <;> omega
      · have hzb : (geti l j == 0) = false := by simpa using hz
        have HN : Hid ((trim l).length = j + 1) := Lib.hid (by rw [← H.out, trim_stop hj hz, List.length_take]; omega)
        clear hz
        go_wp2
        go_ret
        exact ⟨by rw [HN.out]; rfl, rfl⟩
    · obtain rfl : k = 0 := by omega
      have HN : Hid ((trim l).length = 0) := Lib.hid (by rw [← H.out]; rfl)
      have hd : decide ((0 : Int) < ((0 : Nat) : Int)) = false := by simp
      go_wp2
      go_ret
      exact ⟨by rw [HN.out]; rfl, rfl⟩
theorem l02Trim_own (v : Value) (base : Nat) (l : List Int) (w : World) (h : Owns w base v l) :
    Calls Tryd.prog 82 #[v] w fun e w' => (∃ r, e = .returned r ∧ Owns w base r (trim l) ∧ r.ownBlock = v.ownBlock) ∧ w = w' := by
  obtain ⟨A, c, rfl, h1, h2, h3⟩ := h.shape
  refine (l02Trim_any A c l w h3 h1 h2).mono ?_
  rintro e w' ⟨rfl, rfl⟩
  refine ⟨⟨_, rfl, ?_, by cases A <;> rfl⟩, rfl⟩
  have := h.cut (trim_len l)
  rwa [← trim_take] at this
set_option maxHeartbeats 1000000 in
theorem l02Read_any (s : ByteArray) (w : World) (hs : s.size ≤ 100000000) :
    Calls Tryd.prog 57 #[.string s] w (RetRowB w (rdNat s.data.toList).1 (rdNat s.data.toList).2) := by
  have hl : s.data.toList.length = s.size := rfl
  by_cases h0 : s.size = 0
  · have HF : Hid (rdNat s.data.toList = ([], false)) := Lib.hid (rdNat_no (by unfold okN; rw [decide_eq_false (by omega)]; rfl))
    have e1 : ((s.size : Int) == 0) = true := by rw [beq_iff_eq]; omega
    have e2 : (s.size == 0) = true := by rw [beq_iff_eq]; exact h0
    clear h0 hl
    go_enter Tryd.func57, Tryd.ntmps57
    go_wp2_with fail
    go_ret2
    exact ⟨_, by rw [HF.out]; rfl, by rw [HF.out]; exact Fresh.nil_ _ _, Below.refl _ _⟩
  have e1 : ((s.size : Int) == 0) = false := by rw [beq_eq_false_iff_ne]; omega
  have e2 : (s.size == 0) = false := by rw [beq_eq_false_iff_ne]; exact h0
  have hpos : 0 < s.size := by omega
  clear h0
  by_cases h240 : s.size ≤ 240
  rotate_left
  · have HF : Hid (rdNat s.data.toList = ([], false)) := Lib.hid (rdNat_no (by unfold okN; rw [decide_eq_false (show ¬ s.data.toList.length ≤ 240 by omega)]; simp))
    have e3 : (240 : Int) < (s.size : Int) := by omega
    clear hl
    go_enter Tryd.func57, Tryd.ntmps57
    go_wp2_with fail
    go_ret2
    exact ⟨_, by rw [HF.out]; rfl, by rw [HF.out]; exact Fresh.nil_ _ _, Below.refl _ _⟩
  have e3 : decide ((240 : Int) < (s.size : Int)) = false := decide_eq_false (by omega)
  have e3b : decide (240 < s.size) = false := decide_eq_false (by omega)
  have hh : s.data.toList.head? = some s[0] := by rw [List.head?_eq_getElem?]; exact byte_at hpos
  cases hld : lead s.data.toList with
  | true =>
    have HF : Hid (rdNat s.data.toList = ([], false)) := Lib.hid (rdNat_no (by unfold okN; rw [hld]; simp))
    unfold lead at hld
    rw [hh] at hld
    simp only [Bool.and_eq_true, decide_eq_true_eq] at hld
    have h48 : s[0].toNat = 48 := by
      have := hld.2
      rw [beq_iff_eq] at this
      injection this with this
      rw [this]; rfl
    have e5 : ((s[0].toNat : Int) == 48) = true := by rw [beq_iff_eq]; omega
    have e6 : (1 : Int) < (s.size : Int) := by omega
    have e7 : 1 < s.size := by omega
    clear hld h48 hh hl
    go_enter Tryd.func57, Tryd.ntmps57
    go_wp2_with fail
    go_ret2
    exact ⟨_, by rw [HF.out]; rfl, by rw [HF.out]; exact Fresh.nil_ _ _, Below.refl _ _⟩
  | false =>
    have HLD := Lib.hid hld
    have hcase : (decide (1 < s.size) = true ∧ decide ((1 : Int) < (s.size : Int)) = true ∧ ((s[0].toNat : Int) == 48) = false) ∨ (decide (1 < s.size) = false ∧ decide ((1 : Int) < (s.size : Int)) = false ∧ ((s[0].toNat : Int) == 48) = ((s[0].toNat : Int) == 48)) := by
      unfold lead at hld
      rw [hh] at hld
      by_cases h1 : 1 < s.size
      · refine .inl ⟨decide_eq_true h1, decide_eq_true (by omega), ?_⟩
        rw [beq_eq_false_iff_ne]
        intro h48
        have : s[0] = 48 := UInt8.toNat_inj.1 (by show s[0].toNat = 48; omega)
        rw [this, decide_eq_true (show 1 < s.data.toList.length by omega)] at hld
        simp at hld
      · exact .inr ⟨decide_eq_false h1, decide_eq_false (by omega), rfl⟩
    clear hld hh
    have HAT : Hid (∀ k (h : k < s.size), s.data.toList[k]? = some s[k]) := Lib.hid (fun k h => byte_at h)
    have hm40 : nck s.data.toList ≤ 40 := nck_bd (by omega)
    obtain ⟨L, hL⟩ : ∃ L, s.data.toList = L := ⟨_, rfl⟩
    rw [hL] at HLD HAT hm40 hl ⊢
    clear hL
    have HO := Lib.hid (Owns.empty w w.heap.size (Nat.le_refl _))
    have hB0 : Below w.heap.size w (w.alloc (.cells #[] 2)) := (Below.refl _ _).alloc (Nat.le_refl _) _
    have HN0 : Hid (nck L = (s.size + 5) / 6) := Lib.hid (by unfold nck; rw [hl])
    have HL := Lib.hid hl
    obtain ⟨m, hm⟩ : ∃ m, nck L = m := ⟨_, rfl⟩
    have HM := Lib.hid hm
    rw [hm] at HN0 hm40
    clear hm hl
    rcases hcase with ⟨c1, c2, c3⟩ | ⟨c1, c2, _⟩
    all_goals
      go_enter Tryd.func57, Tryd.ntmps57
      go_wp2_with fail
      clear c1 c2
      go_loopw [4, 5, 6, 7] (fun u en lb iv wr => ∃ k : Nat, k ≤ m ∧ en = .int .i64 ((s.size : Int) - 6 * (k : Int)) ∧ Hid (∀ j, j < k → (ck L j).all isDig = true) ∧ Hid (Owns wr w.heap.size u (vals L k)) ∧ Below w.heap.size w wr) (fun _ en _ _ _ => (intOf en).toNat)
      case atStart => exact ⟨0, Nat.zero_le _, by first | rfl | go_num | (congr 1; omega), Lib.hid (fun j hj => by omega), HO, hB0⟩
      case round =>
        clear HO hB0
        obtain ⟨k, hk, rfl, HD, HO, hB⟩ := hrel
        by_cases hlt : k < m
        · have hnk := HN0.out
          obtain ⟨e, he⟩ : ∃ e : Nat, s.size = e + 6 * k := ⟨s.size - 6 * k, by omega⟩
          have he1 : (s.size : Int) - 6 * (k : Int) = (e : Int) := by omega
          rw [he1]
          have he0 : 0 < e := by omega
          have hei : (0 : Int) < (e : Int) := by omega
          obtain ⟨i0, hi0⟩ : ∃ i0 : Nat, i0 = e - 6 := ⟨_, rfl⟩
          have HX : Hid (max (0 : Int) ((e : Int) - 6) = (i0 : Int)) := Lib.hid (by omega)
          have hie : i0 < e := by omega
          have hes : e ≤ s.size := by omega
          obtain ⟨p, hp⟩ : ∃ p, ck L k = p := ⟨_, rfl⟩
          have hp2 : p = (L.take e).drop i0 := by rw [← hp]; unfold ck; rw [HL.out, show s.size - 6 * k = e by omega, hi0]
          have hpl : p.length = e - i0 := by rw [hp2, List.length_drop, List.length_take, HL.out]; omega
          have HPA : Hid (∀ i (h : i < s.size) (h2 : i - i0 < p.length), i0 ≤ i → i < e → p[i - i0] = s[i]) := Lib.hid (fun i h h2 h3 h4 => by
            have q1 : p[i - i0]? = some s[i] := by
              rw [hp2, List.getElem?_drop, show i0 + (i - i0) = i by omega, List.getElem?_take, if_pos h4]
              exact HAT.out i h
            rw [List.getElem?_eq_getElem h2] at q1
            exact Option.some.inj q1)
          have HP := Lib.hid hp
          have hp18 : p.length ≤ 18 := by omega
          have HE := Lib.hid he
          have HI0 := Lib.hid hi0
          clear hp hp2 he1 he hi0 hnk
          obtain ⟨wo, rfl⟩ : ∃ wo : World, wo = wr := ⟨_, rfl⟩
          go_wp2_with (go_at_call 81; refine (l00Max_any _ _ _).mono ?_; rintro e w' ⟨rfl, rfl⟩; rw [HX.out])
          go_loop [6, 7] (fun lb iv => ∃ (i : Nat) (v : Int), i0 ≤ i ∧ i ≤ e ∧ lb = .int .i64 v ∧ iv = .int .i64 (i : Int) ∧ Hid (NumI p (i - i0) v)) (fun _ iv => e - (intOf iv).toNat)
          case atStart => exact ⟨i0, 0, Nat.le_refl _, by omega, rfl, by first | rfl | rw [HI0.out], by rw [Nat.sub_self]; exact Lib.hid (NumI.start p)⟩
          case round =>
            obtain ⟨i, v, hi1, hi2, rfl, rfl, HI⟩ := hrel
            by_cases hie2 : i < e
            · have hilt : (i : Int) < (e : Int) := by omega
              have his : i < s.size := by omega
              have hisi : (i : Int) < (s.size : Int) := by omega
              have hjl : i - i0 < p.length := by omega
              have hpj := HPA.out i his hjl hi1 hie2
              have hbd := HI.out.bd hp18 hjl
              have v0 := hbd.1
              have v1 := hbd.2
              have b0 : (0 : Int) ≤ (s[i].toNat : Int) := by omega
              have b1 : (s[i].toNat : Int) ≤ 255 := by have := (s[i]).toNat_lt; omega
              cases hd : isDig p[i - i0] with
              | false =>
                have HF : Hid (rdNat L = ([], false)) := Lib.hid (rdNat_no (okN_all (k := k) (by rw [HP.out, List.all_eq_false]; exact ⟨_, List.getElem_mem hjl, by rw [hd]; simp⟩)))
                have HDD : Hid (inB (s[i].toNat : Int) 48 57 = false) := Lib.hid (by rw [isDig_inB, ← hpj]; exact hd)
                clear hpj hbd hd
                go_wp2_with (go_at_call 75; refine (l01Digit_u _ _).mono ?_; rintro e w' ⟨rfl, rfl⟩; rw [HDD.out])
                go_ret2
                exact ⟨_, by rw [HF.out]; rfl, by rw [HF.out]; exact Fresh.nil_ _ _, hB⟩
              | true =>
                have HS := Lib.hid (HI.out.step hjl hd)
                have HDD : Hid (inB (s[i].toNat : Int) 48 57 = true) := Lib.hid (by rw [isDig_inB, ← hpj]; exact hd)
                have hdd := isDig_true.1 hd
                have d0 : (48 : Int) ≤ (s[i].toNat : Int) := by rw [← hpj]; omega
                have d1 : (s[i].toNat : Int) ≤ 57 := by rw [← hpj]; omega
                have HMJ := Lib.hid hpj
                clear hpj hbd hd hdd
                go_wp2_with (go_at_call 75; refine (l01Digit_u _ _).mono ?_; rintro e w' ⟨rfl, rfl⟩; rw [HDD.out])
                go_round
                case rel => exact ⟨i + 1, _, by omega, by omega, rfl, by first | rfl | go_num, Lib.hid (by
                  have h := HS.out
                  rw [HMJ.out] at h
                  have e9 : ∀ a b : Int, a * 10 + b = 10 * a + b := fun a b => by omega
                  rw [e9, show i + 1 - i0 = i - i0 + 1 by omega]
                  exact h)⟩
                case measure => simp [intOf] <;> omega
            · obtain rfl : i = e := by omega
              have hilt : decide ((i : Int) < (i : Int)) = false := decide_eq_false (by omega)
              rw [← hpl] at HI
              have HV : Hid (v = (dval 0 (ck L k) : Int)) := Lib.hid (by have := HI.out.1; rw [List.take_length] at this; rw [HP.out]; exact this)
              have HDN : Hid (∀ j, j < k + 1 → (ck L j).all isDig = true) := Lib.hid (fun j hj => by
                rcases Nat.lt_or_ge j k with h | h
                · exact HD.out j h
                · obtain rfl : j = k := by omega
                  rw [HP.out, List.all_eq_true]
                  have := HI.out.2
                  rw [List.take_length] at this
                  exact this)
              have hvl : (vals L k).length ≤ 1000000000 := by rw [vals_len]; omega
              have HS := Lib.hid (vals_step L k)
              have hbd := HI.out.bd' hp18
              have v0 := hbd.1
              have v1 := hbd.2
              clear hbd
              go_wp2_with (at_builtin; refine wpList_push rfl _ _ rfl w.heap.size _ (vals L k) rfl HO.out v rfl hvl hB.size ?_; intro v2 w2 o2 hg2 _; have hB2 := hB.grown hg2 hB.size (fun k hk => (HO.out.lt k hk).1); have HO2 : Hid (Owns w2 w.heap.size v2 (vals L (k + 1))) := Lib.hid (by rw [← HS.out, ← HV.out]; exact o2); clear o2 hg2)
              go_roundw
              case rel =>
                have hse := HE.out
                exact ⟨k + 1, by omega, by first | (congr 1; omega) | go_num, HDN, HO2, hB2⟩
              case measure => have := HE.out; simp [intOf] <;> omega
        · obtain rfl : k = m := by omega
          have hnk := HN0.out
          obtain ⟨z, hz⟩ : ∃ z : Int, (s.size : Int) - 6 * (k : Int) = z := ⟨_, rfl⟩
          have hd1 : decide (0 < z) = false := decide_eq_false (by omega)
          rw [hz]
          clear hz
          clear hnk
          have HF : Hid (rdNat L = (trim (vals L k), true)) := Lib.hid (by
            rw [rdNat_yes, HM.out]
            unfold okN
            rw [HL.out, decide_eq_true hpos, decide_eq_true h240, HLD.out, all_yes (fun j hj => HD.out j (by rw [← HM.out]; exact hj))]
            rfl)
          go_wp2_with (go_at_call 82; refine (l02Trim_own _ _ _ _ HO.out).mono ?_; rintro e w' ⟨⟨r, rfl, hr, _⟩, rfl⟩)
          go_ret2
          exact ⟨_, by rw [HF.out]; rfl, by rw [HF.out]; exact .inl hr, hB⟩
theorem specReadNatural_any (s : ByteArray) (w : World) (hs : s.size ≤ 100000000) :
    Calls Tryd.prog 28 #[.string s] w (RetRowB w (rdNat s.data.toList).1 (rdNat s.data.toList).2) := by
  go_enter Tryd.func28, Tryd.ntmps28
  go_wp2_with (go_at_call 57; refine (l02Read_any s _ hs).mono ?_; rintro e w1 ⟨r1, rfl, o1, hb1⟩)
  go_ret2
  exact ⟨_, rfl, o1, hb1⟩
end Go.Proofs.YtipmkkojpdjgoaaDoor
