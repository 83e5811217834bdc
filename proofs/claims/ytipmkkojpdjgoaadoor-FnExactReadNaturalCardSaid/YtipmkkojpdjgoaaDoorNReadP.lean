/- ReadNatural of the program; both give the same. Where the listed variables are laid. -/
import Derived.Test.YtipmkkojpdjgoaaDoorNRead
import Derived.Test.YtipmkkojpdjgoaaDoorNTextP
import Derived.Test.YtipmkkojpdjgoaaDoorRListP
namespace Go.Proofs.YtipmkkojpdjgoaaDoor
open Go.RowKit Go.Joins
theorem ck_extract (s : ByteArray) (k e i0 : Nat) (h : s.size = e + 6 * k) (h0 : i0 = e - 6) : (s.extract i0 e).data.toList = ck s.data.toList k := by
  rw [ByteArray.data_extract, Array.toList_extract]
  have hl : s.data.toList.length = s.size := rfl
  unfold ck
  rw [hl, show s.size - 6 * k = e by omega, ← h0, List.drop_take]
theorem rdNat_len (L : List UInt8) : (rdNat L).1.length ≤ L.length + 1 := by
  unfold rdNat
  split
  · have h1 := trim_len (vals L (nck L))
    rw [vals_len] at h1
    have : nck L ≤ L.length + 1 := by unfold nck; omega
    show (trim (vals L (nck L))).length ≤ _
    omega
  · simp
theorem slice_str (s : ByteArray) (i j : Nat) (w : World) (h1 : i ≤ j) (h2 : j ≤ s.size) :
    (Instr.slice 9 (.string s) (some (.int .i64 (i : Int))) (some (.int .i64 (j : Int))) none).run Tryd.prog w = .ok (.string (s.extract i j)) w := by
  have h := run_slice_string (P := Tryd.prog) w 9 s .i64 .i64 (i : Int) (j : Int) Tryd.underlying9 (by omega) (by omega) (by omega)
  simpa using h
set_option maxHeartbeats 1000000 in
set_option maxRecDepth 100000 in
theorem implReadNatural_any (s : ByteArray) (w : World) (hp : EnvL w) (hs : s.size ≤ 100000000) :
    Calls Tryd.prog 29 #[.string s] w (RetRowB w (rdNat s.data.toList).1 (rdNat s.data.toList).2) := by
  have HP := Lib.hid hp
  have HL : Hid (s.data.toList.length = s.size) := Lib.hid rfl
  have HCK : Hid (∀ k e i0 : Nat, s.size = e + 6 * k → i0 = e - 6 → str (Lib.trimLeftB (s.extract i0 e).data.toList 48) = str (Lib.trimLeftB (ck s.data.toList k) 48)) := Lib.hid (fun k e i0 h h0 => by rw [ck_extract s k e i0 h h0])
  have HSTR : Hid (∀ q : List UInt8, str q = s ↔ q = s.data.toList) := Lib.hid (fun q => ⟨fun h => by rw [← h]; rfl, fun h => str_inj h⟩)
  obtain ⟨L, hL⟩ : ∃ L, s.data.toList = L := ⟨_, rfl⟩
  rw [hL] at HL HSTR ⊢
  have HLL := Lib.hid hL
  obtain ⟨m, hm⟩ : ∃ m, nck L = m := ⟨_, rfl⟩
  have HM := Lib.hid hm
  have HN0 : Hid (m = (s.size + 5) / 6) := Lib.hid (by rw [← hm]; unfold nck; rw [HL.out])
  clear hm hL hp
  have HO := Lib.hid (Owns.empty w w.heap.size (Nat.le_refl _))
  have hB0 : Below w.heap.size w (w.alloc (.cells #[] 2)) := (Below.refl _ _).alloc (Nat.le_refl _) _
  go_enter Tryd.func29, Tryd.ntmps29
  go_wp2_with fail
  go_loopw [4, 5, 6, 7, 8] (fun u en lb vv ok wr => ∃ k : Nat, k ≤ m ∧ k ≤ 41 ∧ en = .int .i64 ((s.size : Int) - 6 * (k : Int)) ∧ Hid (∀ j, j < k → (ck L j).all isDig = true) ∧ Hid (Owns wr w.heap.size u (vals L k)) ∧ Below w.heap.size w wr) (fun _ en _ _ _ _ => (intOf en).toNat)
  case atStart => exact ⟨0, Nat.zero_le _, Nat.zero_le _, by first | rfl | go_num | (congr 1; omega), Lib.hid (fun j hj => by omega), HO, hB0⟩
  case round =>
    clear HO hB0
    obtain ⟨k, hk, hk41, rfl, HD, HO, hB⟩ := hrel
    obtain ⟨A, c, rfl, hlc, hcm, hr⟩ : ∃ A c, u4 = .slice A k c ∧ k ≤ c ∧ c ≤ maxLen ∧ True := by
      obtain ⟨A, c, e, h1, h2, h3⟩ := HO.out.shape
      rw [vals_len] at e h1
      exact ⟨A, c, e, h1, h2, trivial⟩
    unfold maxLen at hcm
    by_cases hgo : k < m ∧ k ≤ 40
    · have hnk := HN0.out
      have hk40 := hgo.2
      have hkm := hgo.1
      have hk40i : (k : Int) ≤ 40 := by omega
      clear hgo
      obtain ⟨e, he⟩ : ∃ e : Nat, s.size = e + 6 * k := ⟨s.size - 6 * k, by omega⟩
      have he1 : (s.size : Int) - 6 * (k : Int) = (e : Int) := by omega
      rw [he1]
      have he0 : 0 < e := by omega
      have hei : (0 : Int) < (e : Int) := by omega
      have hes : e ≤ s.size := by omega
      obtain ⟨i0, hi0⟩ : ∃ i0 : Nat, i0 = e - 6 := ⟨_, rfl⟩
      have HX : Hid (max (0 : Int) ((e : Int) - 6) = (i0 : Int)) := Lib.hid (by omega)
      have hie : i0 ≤ e := by omega
      obtain ⟨q, hq⟩ : ∃ q, str (Lib.trimLeftB (ck L k) 48) = q := ⟨_, rfl⟩
      have HQ : Hid ((⟨(Lib.trimLeftB (s.extract i0 e).data.toList 48).toArray⟩ : ByteArray) = q) := Lib.hid (by
        rw [← hq, ← HLL.out]; exact HCK.out k e i0 he hi0)
      have HQL : Hid (q.data.toList = Lib.trimLeftB (ck L k) 48) := Lib.hid (by rw [← hq]; rfl)
      have hqs : q.size ≤ 100000000 := by
        rw [← hq]; show (Lib.trimLeftB (ck L k) 48).length ≤ _
        have h1 := trimL_len (ck L k)
        have h2 := ck_len L k
        omega
      have HE := Lib.hid he
      have hPw := HP.out.next hB
      clear he hnk hi0
      cases hd : (ck L k).all isDig with
      | true =>
        have HDN : Hid (∀ j, j < k + 1 → (ck L j).all isDig = true) := Lib.hid (fun j hj => by
          rcases Nat.lt_or_ge j k with h | h
          · exact HD.out j h
          · obtain rfl : j = k := by omega
            exact hd)
        have hvl : (vals L k).length ≤ 1000000000 := by rw [vals_len]; omega
        have HS := Lib.hid (vals_step L k)
        rcases chunk_yes (ck_len L k) hd with ⟨y1, y2, y3⟩ | ⟨y1, y2, y3⟩
        · obtain rfl : q = ⟨#[]⟩ := by rw [← hq, y1]; rfl
          have HOK : Hid (numOk (ByteArray.mk #[]).data.toList = false) := Lib.hid (by rw [HQL.out]; exact y2)
          have HNR : Hid (numR (ByteArray.mk #[]).data.toList = 0) := Lib.hid (numR_no HOK.out)
          have HV : Hid ((0 : Int) = (dval 0 (ck L k) : Int)) := Lib.hid (by rw [y3]; rfl)
          clear hd y1 y2 y3 hq
          go_wp2_with fail
          rw [HX.out, slice_str s i0 e wr hie hes]
          simp only [Result.andThen]
          rw [Oper.upon_value]
          go_wp2_with (first
            | (go_at_call 58; refine (Tryd.strings_TrimLeft_one _ 48 (by decide) _).mono ?_; rintro e w' ⟨rfl, rfl⟩; rw [HQ.out])
            | (go_at_call 31; refine (implReadDecimal_any _ _ hPw.pow hPw.err hqs).mono ?_; rintro e w1 ⟨rfl, hb1⟩; rw [HOK.out, HNR.out]; have hB1 := below_next hB hb1; have HO1 := Lib.hid (HO.out.next hb1))
            | (at_builtin; refine wpList_push rfl _ _ rfl w.heap.size _ (vals L k) rfl HO1.out _ rfl hvl hB1.size ?_; intro v2 w2 o2 hg2 _; have hB2 := hB1.grown hg2 hB1.size (fun k hk => (HO1.out.lt k hk).1); have HO2 : Hid (Owns w2 w.heap.size v2 (vals L (k + 1))) := Lib.hid (by rw [← HS.out, ← HV.out]; exact o2); clear o2 hg2))
          go_roundw
          case rel =>
            have hse := HE.out
            exact ⟨k + 1, by omega, by omega, by first | (congr 1; omega) | go_num, HDN, HO2, hB2⟩
          case measure => have := HE.out; simp [intOf] <;> omega
        · have HOK : Hid (numOk q.data.toList = true) := Lib.hid (by rw [HQL.out]; exact y2)
          obtain ⟨v, hv⟩ : ∃ v : Int, v = (dval 0 (ck L k) : Int) := ⟨_, rfl⟩
          have HNR : Hid (numR q.data.toList = v) := Lib.hid (by rw [numR_yes HOK.out, HQL.out, hv]; exact y3)
          have HV : Hid (v = (dval 0 (ck L k) : Int)) := Lib.hid hv
          have v0 : 0 ≤ v := by omega
          have v1 : decide (v < 0) = false := decide_eq_false (by omega)
          clear hd y1 y2 y3 hq hv
          go_wp2_with fail
          rw [HX.out, slice_str s i0 e wr hie hes]
          simp only [Result.andThen]
          rw [Oper.upon_value]
          go_wp2_with (first
            | (go_at_call 58; refine (Tryd.strings_TrimLeft_one _ 48 (by decide) _).mono ?_; rintro e w' ⟨rfl, rfl⟩; rw [HQ.out])
            | (go_at_call 31; refine (implReadDecimal_any _ _ hPw.pow hPw.err hqs).mono ?_; rintro e w1 ⟨rfl, hb1⟩; rw [HOK.out, HNR.out]; have hB1 := below_next hB hb1; have HO1 := Lib.hid (HO.out.next hb1))
            | (at_builtin; refine wpList_push rfl _ _ rfl w.heap.size _ (vals L k) rfl HO1.out _ rfl hvl hB1.size ?_; intro v2 w2 o2 hg2 _; have hB2 := hB1.grown hg2 hB1.size (fun k hk => (HO1.out.lt k hk).1); have HO2 : Hid (Owns w2 w.heap.size v2 (vals L (k + 1))) := Lib.hid (by rw [← HS.out, ← HV.out]; exact o2); clear o2 hg2))
          go_roundw
          case rel =>
            have hse := HE.out
            exact ⟨k + 1, by omega, by omega, by first | (congr 1; omega) | go_num, HDN, HO2, hB2⟩
          case measure => have := HE.out; simp [intOf] <;> omega
      | false =>
        have HF : Hid (rdNat L = ([], false)) := Lib.hid (rdNat_no (okN_all hd))
        obtain ⟨y1, y2⟩ := chunk_no hd
        have hne1 : ¬ q.toList = [] := by rw [ByteArray.toList_eq, HQL.out]; exact y1
        have hne2 : ¬ q.toList = (⟨#[]⟩ : ByteArray).toList := by rw [ByteArray.toList_eq, ByteArray.toList_eq, HQL.out]; exact y1
        have hne3 : q.toList.isEmpty = false := by rw [List.isEmpty_eq_false_iff]; exact hne1
        rcases y2 with y2 | ⟨y2, y3⟩
        · have HOK : Hid (numOk q.data.toList = false) := Lib.hid (by rw [HQL.out]; exact y2)
          have HNR : Hid (numR q.data.toList = 0) := Lib.hid (numR_no HOK.out)
          clear hd y1 y2 hq
          go_wp2_with fail
          rw [HX.out, slice_str s i0 e wr hie hes]
          simp only [Result.andThen]
          rw [Oper.upon_value]
          go_wp2_with (first
            | (go_at_call 58; refine (Tryd.strings_TrimLeft_one _ 48 (by decide) _).mono ?_; rintro e w' ⟨rfl, rfl⟩; rw [HQ.out])
            | (go_at_call 31; refine (implReadDecimal_any _ _ hPw.pow hPw.err hqs).mono ?_; rintro e w1 ⟨rfl, hb1⟩; rw [HOK.out, HNR.out]; have hB1 := below_next hB hb1))
          go_ret2
          exact ⟨_, by rw [HF.out]; rfl, by rw [HF.out]; exact Fresh.nil_ _ _, hB1⟩
        · have HOK : Hid (numOk q.data.toList = true) := Lib.hid (by rw [HQL.out]; exact y2)
          obtain ⟨v, hv⟩ : ∃ v : Int, v = numV (Lib.trimLeftB (ck L k) 48) := ⟨_, rfl⟩
          have HNR : Hid (numR q.data.toList = v) := Lib.hid (by rw [numR_yes HOK.out, HQL.out, hv])
          have v0 : v < 0 := by omega
          have v2 : -9223372036854775808 ≤ v := by have := numV_fit y2; omega
          clear hd y1 y2 y3 hq hv
          go_wp2_with fail
          rw [HX.out, slice_str s i0 e wr hie hes]
          simp only [Result.andThen]
          rw [Oper.upon_value]
          go_wp2_with (first
            | (go_at_call 58; refine (Tryd.strings_TrimLeft_one _ 48 (by decide) _).mono ?_; rintro e w' ⟨rfl, rfl⟩; rw [HQ.out])
            | (go_at_call 31; refine (implReadDecimal_any _ _ hPw.pow hPw.err hqs).mono ?_; rintro e w1 ⟨rfl, hb1⟩; rw [HOK.out, HNR.out]; have hB1 := below_next hB hb1))
          go_ret2
          exact ⟨_, by rw [HF.out]; rfl, by rw [HF.out]; exact Fresh.nil_ _ _, hB1⟩
    · obtain ⟨z, hz⟩ : ∃ z : Int, (s.size : Int) - 6 * (k : Int) = z := ⟨_, rfl⟩
      have HKM : Hid (nck L ≤ 40 → k = m) := Lib.hid (fun h => by have := HM.out; omega)
      have hcase : (decide (0 < z) = false ∧ decide ((k : Int) ≤ 40) = decide ((k : Int) ≤ 40)) ∨ (0 < z ∧ decide ((k : Int) ≤ 40) = false ∧ decide (k ≤ 40) = false) := by
        have hnk := HN0.out
        by_cases h : k < m
        · exact .inr ⟨by omega, decide_eq_false (by omega), decide_eq_false (by omega)⟩
        · exact .inl ⟨decide_eq_false (by omega), rfl⟩
      have hDD : ∀ j, j < nck L → j < 41 → (ck L j).all isDig = true := fun j h1 h2 => HD.out j (by have := HM.out; omega)
      have hvN : ∀ x ∈ trim (vals L k), True := fun _ _ => trivial
      rw [hz]
      clear hz hgo hvN
      have HDD := Lib.hid hDD
      clear hDD
      cases hnb : natB (trim (vals L k)) with
      | false =>
        have HF : Hid (rdNat L = ([], false)) := Lib.hid (rdNat_no (by
          cases ho : okN L with
          | false => rfl
          | true =>
            obtain ⟨o1, o2, o3⟩ := okN_vals ho
            rw [HKM.out o3, ← HM.out, o1] at hnb
            cases hnb))
        have HNB := Lib.hid hnb
        clear hnb
        rcases hcase with ⟨c1, _⟩ | ⟨c1, c2, c3⟩
        all_goals
          go_wp2_with (first
            | (go_at_call 59; refine (trimmed_own _ _ _ _ HO.out).mono ?_; rintro e w' ⟨⟨r, rfl, hr, _⟩, rfl⟩)
            | (go_at_call 53; refine (implIsNatural_any _ _ _ hr.sl).mono ?_; rintro e w' ⟨rfl, rfl⟩; rw [HNB.out]))
          go_ret2
          exact ⟨_, by rw [HF.out]; rfl, by rw [HF.out]; exact Fresh.nil_ _ _, hB⟩
      | true =>
        have HNB := Lib.hid hnb
        have hnt : ntxt (trim (vals L k)) = natT (trim (vals L k)) := by unfold ntxt; rw [hnb]; rfl
        have hPw := HP.out.next hB
        by_cases hT : natT (trim (vals L k)) = L
        · have ho := okN_of hnb hT HDD.out
          have HF : Hid (rdNat L = (trim (vals L k), true)) := Lib.hid (by rw [rdNat_yes ho, HKM.out (okN_vals ho).2.2, ← HM.out])
          have HT : Hid (str (ntxt (trim (vals L k))) = s) := Lib.hid (by rw [hnt]; exact (HSTR.out _).2 hT)
          clear hnb hnt hT ho
          rcases hcase with ⟨c1, _⟩ | ⟨c1, c2, c3⟩
          all_goals
            go_wp2_with (first
              | (go_at_call 59; refine (trimmed_own _ _ _ _ HO.out).mono ?_; rintro e w' ⟨⟨r, rfl, hr, _⟩, rfl⟩)
              | (go_at_call 53; refine (implIsNatural_any _ _ _ hr.sl).mono ?_; rintro e w' ⟨rfl, rfl⟩; rw [HNB.out])
              | (go_at_call 27; refine (implNaturalText_any _ _ _ hPw.pow hr.sl).mono ?_; rintro e w2 ⟨rfl, hb2⟩; rw [HT.out]))
            go_ret2
            exact ⟨_, by rw [HF.out]; rfl, by rw [HF.out]; exact .inl (hr.next hb2), below_next hB hb2⟩
        · have HF : Hid (rdNat L = ([], false)) := Lib.hid (rdNat_no (by
            cases ho : okN L with
            | false => rfl
            | true =>
              obtain ⟨o1, o2, o3⟩ := okN_vals ho
              rw [HM.out, ← HKM.out o3] at o2
              exact absurd o2 hT))
          obtain ⟨q, hq⟩ : ∃ q, str (ntxt (trim (vals L k))) = q := ⟨_, rfl⟩
          have HT := Lib.hid hq
          have hne : ¬ q.toList = s.toList := by
            rw [ByteArray.toList_eq, ByteArray.toList_eq, ← hq, hnt, HLL.out]
            exact hT
          have hne2 : (q.toList == s.toList) = false := by rw [beq_eq_false_iff_ne]; exact hne
          clear hnb hnt hT hq
          rcases hcase with ⟨c1, _⟩ | ⟨c1, c2, c3⟩
          all_goals
            go_wp2_with (first
              | (go_at_call 59; refine (trimmed_own _ _ _ _ HO.out).mono ?_; rintro e w' ⟨⟨r, rfl, hr, _⟩, rfl⟩)
              | (go_at_call 53; refine (implIsNatural_any _ _ _ hr.sl).mono ?_; rintro e w' ⟨rfl, rfl⟩; rw [HNB.out])
              | (go_at_call 27; refine (implNaturalText_any _ _ _ hPw.pow hr.sl).mono ?_; rintro e w2 ⟨rfl, hb2⟩; rw [HT.out]))
            go_ret2
            exact ⟨_, by rw [HF.out]; rfl, by rw [HF.out]; exact Fresh.nil_ _ _, below_next hB hb2⟩
theorem bothReadNatural (s : ByteArray) (hs : s.size ≤ 1048576) : ∃ (R : List Int) (C : Bool), R.length ≤ 4000000 ∧
    (∀ (w : World), Calls Tryd.prog 28 #[.string s] w (RetRowB w R C)) ∧
    (∀ (w : World), EnvL w → Calls Tryd.prog 29 #[.string s] w (RetRowB w R C)) :=
  ⟨_, _, by have h := rdNat_len s.data.toList; have h2 : s.data.toList.length = s.size := rfl; omega, fun w => specReadNatural_any s w (by omega), fun w hp => implReadNatural_any s w hp (by omega)⟩
end Go.Proofs.YtipmkkojpdjgoaaDoor
