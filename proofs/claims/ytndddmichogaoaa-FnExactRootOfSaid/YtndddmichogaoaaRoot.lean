/- RootOf: what the law needs. No condition beyond the stated bounds. -/
import Derived.Test.YtndddmichogaoaaPeriod
import Derived.Deep.RegionWith
namespace Go.Proofs.Ytndddmichogaoaa
open Go.RowKit
theorem l00Own_any (v : Value) (l : List Int) (w : World) (h : Sl w v l) (hn : l.length ≤ 4000000) :
    Calls Try.prog 63 #[v] w (RetOwn w l) := by
  have HO := Lib.hid (Owns.empty w w.heap.size (Nat.le_refl _))
  have hB0 : Below w.heap.size w (w.alloc (.cells #[] 2)) := (Below.refl _ _).alloc (Nat.le_refl _) _
  have HS := Lib.hid h
  clear h
  go_enter Try.func63, Try.ntmps63
  go_wp2_with (at_builtin; refine wpList_cat rfl _ _ rfl w.heap.size _ [] rfl HO.out _ l rfl (HS.out.next hB0) (by simp; omega) (by simp) ?_; intro v1 w1 o1 hg1 _)
  have hB1 := hB0.grown hg1 (by simp) (fun k hk => (HO.out.lt k hk).1)
  go_wp2
  go_ret
  exact ⟨_, rfl, by simpa using o1, hB1⟩
/-- The root's length: the period, if it divides the length. -/
def rootLen (l : List Int) (k0 : Nat) : Nat := if l.length % (l.length - k0) = 0 then l.length - k0 else l.length
theorem int_mod (a b : Nat) : ((a : Int) % (b : Int) = 0) ↔ a % b = 0 := by omega
set_option maxHeartbeats 2000000 in
theorem implRootOf_yes (v : Value) (l : List Int) (k0 : Nat) (w : World) (h : Sl w v l) (hw : wordB l = true) (h0 : 0 < l.length) (hk0 : LB l l.length k0) :
    Calls Try.prog 34 #[v] w (RetRowI w (l.take (rootLen l k0)) ((l.length : Int) / (rootLen l k0 : Int)) 0) := by
  have hl := (wordB_true.1 hw).2
  have HS := Lib.hid h
  obtain ⟨A, c, rfl, hlc, hcm, hr⟩ := h
  have HR := Lib.hid hr
  have HCM := Lib.hid hcm
  unfold maxLen at hcm
  clear hr
  have HK := Lib.hid hk0
  have hkl := hk0.1.1
  have hz : ((l.length : Int) == 0) = false := by rw [beq_eq_false_iff_ne]; omega
  have hz2 : (l.length == 0) = false := by rw [beq_eq_false_iff_ne]; omega
  clear hk0
  go_enter Try.func34, Try.ntmps34
  go_wp2_with fail
  refine (implIsWord_any _ _ _ HS.out).mono ?_
  rintro e w' ⟨rfl, rfl⟩
  go_wp2_with fail
  refine (periodOf_any _ _ k0 _ HS.out hl h0 HK.out).mono ?_
  rintro e w1 ⟨rfl, hb⟩
  have hp0 : 0 < l.length - k0 := by omega
  have hp1 : l.length - k0 ≤ l.length := by omega
  have HRL : Hid (rootLen l k0 = if l.length % (l.length - k0) = 0 then l.length - k0 else l.length) := Lib.hid rfl
  generalize l.length - k0 = p at *
  have hpi : (0 : Int) < (p : Int) := by omega
  by_cases hm : l.length % p = 0
  · have HF : Hid (rootLen l k0 = p) := Lib.hid (by rw [HRL.out, if_pos hm])
    have hmb : (((l.length : Int) % (p : Int)) != 0) = false := by simp only [bne_eq_false_iff_eq]; omega
    have hmb2 : ((l.length % p) != 0) = false := by simp [hm]
    have S1 := Lib.hid (Sl.upto (HR.out.next hb hb.size) hlc HCM.out hp1)
    have hpl : (l.take p).length ≤ 4000000 := by rw [List.length_take]; omega
    have HW : Hid (wrap64 ((l.length : Int) / (p : Int)) = (l.length : Int) / (p : Int)) := Lib.hid (IntWalk.wrap64_in _ (by
      have h1 := Int.ediv_le_self (p : Int) (show (0 : Int) ≤ (l.length : Int) by omega)
      have h2 : (0 : Int) ≤ (l.length : Int) / (p : Int) := Int.ediv_nonneg (by omega) (by omega)
      omega))
    clear hm
    go_wp2_with fail
    go_region_with (go_at_call 64; refine (clone_own _ (l.take p) _ (by exact S1.out) hpl).mono ?_; rintro e w2 ⟨r, rfl, o2, hb2⟩)
    all_goals go_wp2
    all_goals go_ret3
    all_goals exact ⟨_, by rw [HF.out, HW.out]; rfl, by rw [HF.out]; exact .inl (o2.lower hb.size), below_next hb.drew hb2⟩
  · have HF : Hid (rootLen l k0 = l.length) := Lib.hid (by rw [HRL.out, if_neg hm])
    have hne0 : ¬ l.length = 0 := by omega
    have hne1 : (0 : Int) < (l.length : Int) := by omega
    have hne2 : ¬ l = [] := by intro e; rw [e] at h0; simp at h0
    have hdl : (l.length : Int) / (l.length : Int) = 1 := Int.ediv_self (by omega)
    have HDL := Lib.hid hdl
    clear hdl
    have hmb : (((l.length : Int) % (p : Int)) != 0) = true := by rw [bne_iff_ne]; omega
    have hmb2 : ((l.length % p) != 0) = true := by rw [bne_iff_ne]; exact hm
    have S1 := Lib.hid (Sl.upto (HR.out.next hb hb.size) hlc HCM.out (Nat.le_refl l.length))
    have hpl : (l.take l.length).length ≤ 4000000 := by rw [List.length_take]; omega
    clear hm
    go_wp2_with fail
    go_region_with (go_at_call 64; refine (clone_own _ (l.take l.length) _ (by exact S1.out) hpl).mono ?_; rintro e w2 ⟨r, rfl, o2, hb2⟩)
    all_goals go_wp2
    all_goals go_ret3
    all_goals exact ⟨_, by rw [HF.out, HDL.out]; rfl, by rw [HF.out]; exact .inl (o2.lower hb.size), below_next hb.drew hb2⟩
set_option maxHeartbeats 2000000 in
theorem specRootOf_yes (v : Value) (l : List Int) (k0 : Nat) (w : World) (h : Sl w v l) (hw : wordB l = true) (h0 : 0 < l.length) (hk0 : LB l l.length k0) :
    Calls Try.prog 33 #[v] w (RetRowI w (l.take (rootLen l k0)) ((l.length : Int) / (rootLen l k0 : Int)) 0) := by
  have hl := (wordB_true.1 hw).2
  have HS := Lib.hid h
  obtain ⟨A, c, rfl, hlc, hcm, hr⟩ := h
  have HR := Lib.hid hr
  have HCM := Lib.hid hcm
  unfold maxLen at hcm
  clear hr
  have HK := Lib.hid hk0
  have hkl := hk0.1.1
  have hz : ((l.length : Int) == 0) = false := by rw [beq_eq_false_iff_ne]; omega
  have hz2 : (l.length == 0) = false := by rw [beq_eq_false_iff_ne]; omega
  clear hk0
  go_enter Try.func33, Try.ntmps33
  go_wp2_with fail
  refine (l03Is_any _ _ _ HS.out).mono ?_
  rintro e w' ⟨rfl, rfl⟩
  go_wp2_with fail
  refine (l03Period_any _ _ k0 _ HS.out HK.out).mono ?_
  rintro e w1 ⟨rfl, hb⟩
  have hp0 : 0 < l.length - k0 := by omega
  have hp1 : l.length - k0 ≤ l.length := by omega
  have HRL : Hid (rootLen l k0 = if l.length % (l.length - k0) = 0 then l.length - k0 else l.length) := Lib.hid rfl
  generalize l.length - k0 = p at *
  have hpi : (0 : Int) < (p : Int) := by omega
  by_cases hm : l.length % p = 0
  · have HF : Hid (rootLen l k0 = p) := Lib.hid (by rw [HRL.out, if_pos hm])
    have hmb : (((l.length : Int) % (p : Int)) != 0) = false := by simp only [bne_eq_false_iff_eq]; omega
    have hmb2 : ((l.length % p) != 0) = false := by simp [hm]
    have S1 := Lib.hid (Sl.upto (HR.out.next hb hb.size) hlc HCM.out hp1)
    have hpl : (l.take p).length ≤ 4000000 := by rw [List.length_take]; omega
    have HW : Hid (wrap64 ((l.length : Int) / (p : Int)) = (l.length : Int) / (p : Int)) := Lib.hid (IntWalk.wrap64_in _ (by
      have h1 := Int.ediv_le_self (p : Int) (show (0 : Int) ≤ (l.length : Int) by omega)
      have h2 : (0 : Int) ≤ (l.length : Int) / (p : Int) := Int.ediv_nonneg (by omega) (by omega)
      omega))
    clear hm
    go_wp2_with fail
    go_region_with (go_at_call 63; refine (l00Own_any _ (l.take p) _ (by exact S1.out) hpl).mono ?_; rintro e w2 ⟨r, rfl, o2, hb2⟩)
    all_goals go_wp2
    all_goals go_ret3
    all_goals exact ⟨_, by rw [HF.out, HW.out]; rfl, by rw [HF.out]; exact .inl (o2.lower hb.size), below_next hb.drew hb2⟩
  · have HF : Hid (rootLen l k0 = l.length) := Lib.hid (by rw [HRL.out, if_neg hm])
    have hne0 : ¬ l.length = 0 := by omega
    have hne1 : (0 : Int) < (l.length : Int) := by omega
    have hne2 : ¬ l = [] := by intro e; rw [e] at h0; simp at h0
    have hdl : (l.length : Int) / (l.length : Int) = 1 := Int.ediv_self (by omega)
    have HDL := Lib.hid hdl
    clear hdl
    have hmb : (((l.length : Int) % (p : Int)) != 0) = true := by rw [bne_iff_ne]; omega
    have hmb2 : ((l.length % p) != 0) = true := by rw [bne_iff_ne]; exact hm
    have S1 := Lib.hid (Sl.upto (HR.out.next hb hb.size) hlc HCM.out (Nat.le_refl l.length))
    have hpl : (l.take l.length).length ≤ 4000000 := by rw [List.length_take]; omega
    clear hm
    go_wp2_with fail
    go_region_with (go_at_call 63; refine (l00Own_any _ (l.take l.length) _ (by exact S1.out) hpl).mono ?_; rintro e w2 ⟨r, rfl, o2, hb2⟩)
    all_goals go_wp2
    all_goals go_ret3
    all_goals exact ⟨_, by rw [HF.out, HDL.out]; rfl, by rw [HF.out]; exact .inl (o2.lower hb.size), below_next hb.drew hb2⟩
theorem bothRootOf (l : List Int) (_f : Fit l) (hn : l.length ≤ 1048576) : ∃ (R : List Int) (D C : Int), R.length ≤ 4000000 ∧
    (∀ (w : World) (v : Value), Sl w v l → Calls Try.prog 33 #[v] w (RetRowI w R D C)) ∧
    (∀ (w : World) (v : Value), Sl w v l → Calls Try.prog 34 #[v] w (RetRowI w R D C)) := by
  cases hw : wordB l with
  | false =>
    refine ⟨[], 0, 1, by simp, fun w v h => ?_, fun w v h => ?_⟩
    · go_enter Try.func33, Try.ntmps33
      go_wp2_with (go_at_call 48; refine (l03Is_any _ _ _ h).mono ?_; rintro e w' ⟨rfl, rfl⟩)
      go_ret3
      exact ⟨_, rfl, Fresh.nil_ _ _, Below.refl _ _⟩
    · go_enter Try.func34, Try.ntmps34
      go_wp2_with (go_at_call 51; refine (implIsWord_any _ _ _ h).mono ?_; rintro e w' ⟨rfl, rfl⟩)
      go_ret3
      exact ⟨_, rfl, Fresh.nil_ _ _, Below.refl _ _⟩
  | true =>
    have hl := (wordB_true.1 hw).2
    by_cases h0 : l.length = 0
    · have e : l = [] := List.eq_nil_of_length_eq_zero h0
      subst e
      clear h0
      refine ⟨[], 0, 3, by simp, fun w v h => ?_, fun w v h => ?_⟩
      · have HS := Lib.hid h
        obtain ⟨A, c, rfl, _, _, _⟩ := h
        go_enter Try.func33, Try.ntmps33
        go_wp2_with (go_at_call 48; refine (l03Is_any _ _ _ HS.out).mono ?_; rintro e w' ⟨rfl, rfl⟩)
        go_ret3
        exact ⟨_, rfl, Fresh.nil_ _ _, Below.refl _ _⟩
      · have HS := Lib.hid h
        obtain ⟨A, c, rfl, _, _, _⟩ := h
        go_enter Try.func34, Try.ntmps34
        go_wp2_with (go_at_call 51; refine (implIsWord_any _ _ _ HS.out).mono ?_; rintro e w' ⟨rfl, rfl⟩)
        go_ret3
        exact ⟨_, rfl, Fresh.nil_ _ _, Below.refl _ _⟩
    · obtain ⟨k0, hk0⟩ := exists_LB l (show 0 < l.length by omega)
      exact ⟨l.take (rootLen l k0), (l.length : Int) / (rootLen l k0 : Int), 0, by rw [List.length_take]; omega, fun w v h => specRootOf_yes v l k0 w h hw (by omega) hk0, fun w v h => implRootOf_yes v l k0 w h hw (by omega) hk0⟩
end Go.Proofs.Ytndddmichogaoaa
