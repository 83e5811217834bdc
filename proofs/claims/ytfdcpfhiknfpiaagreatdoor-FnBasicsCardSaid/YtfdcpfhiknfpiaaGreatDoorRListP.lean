/- ReadList of the program; both give the same. Where the listed variables are laid. -/
import Derived.Test.YtfdcpfhiknfpiaaGreatDoorRList
namespace Go.Proofs.YtfdcpfhiknfpiaaGreatDoor
open Go.RowKit Go.Joins
theorem allNum_parts {P : List (List UInt8)} (h : partsB P = true) : allNum P = true := by
  unfold partsB at h
  simp only [Bool.and_eq_true] at h
  unfold allNum
  rw [List.all_eq_true]
  intro x hx
  have := List.all_eq_true.1 h.2 x hx
  unfold partB at this
  simp only [Bool.and_eq_true] at this
  exact this.1
theorem fits_parts {P : List (List UInt8)} (h : allNum P = true) : fitsB (P.map numV) = partsB P := by
  have h2 := List.all_eq_true.1 h
  unfold fitsB partsB allIn
  rw [List.all_map, List.length_map, Bool.and_comm]
  congr 1
  apply Bool.eq_iff_iff.2
  rw [List.all_eq_true, List.all_eq_true]
  exact ⟨fun k x hx => by unfold partB; rw [h2 x hx]; exact k x hx, fun k x hx => by have := k x hx; unfold partB at this; rw [h2 x hx] at this; exact this⟩
theorem itoa_vals {P : List (List UInt8)} (h : allNum P = true) : (P.map numV).map Lib.itoa = P := by
  have h2 := List.all_eq_true.1 h
  rw [List.map_map]
  conv => rhs; rw [← List.map_id P]
  exact List.map_congr_left (fun x hx => (num_good (h2 x hx)).1)
theorem ltxt_parts {l : List UInt8} (h : partsB (splitC 44 l) = true) : ltxt ((splitC 44 l).map numV) = l := by
  have h2 := allNum_parts h
  unfold ltxt
  rw [fits_parts h2, if_pos h]
  unfold listTxt joinI
  obtain ⟨p, ps, e⟩ := splitC_ne 44 l
  rw [if_neg (by rw [e]; simp), itoa_vals h2, join_splitC]
theorem ltxt_no {l : List UInt8} (h : allNum (splitC 44 l) = true) (h2 : partsB (splitC 44 l) = false) : ltxt ((splitC 44 l).map numV) = [] := by
  unfold ltxt
  rw [fits_parts h, h2]
  rfl
theorem allNum_ne {l : List UInt8} (h : allNum (splitC 44 l) = true) : l ≠ [] := by
  intro e
  subst e
  rw [splitC_nil] at h
  cases h
theorem vals_fit {P : List (List UInt8)} (h : allNum P = true) : Fit (P.map numV) := by
  intro x hx
  obtain ⟨p, hp, rfl⟩ := List.mem_map.1 hx
  exact numV_fit (List.all_eq_true.1 h p hp)
/-- What the listed variables hold. -/
structure EnvL (w : World) : Prop where
  pow : Pow w
  err : Errs w
  max : MaxL w
theorem EnvL.next {w w' : World} (h : EnvL w) (hb : Below w.heap.size w w') : EnvL w' := ⟨h.pow.next hb, h.err.next hb, h.max.next hb⟩
set_option maxHeartbeats 1000000 in
theorem implReadList_any (s : ByteArray) (w : World) (hp : EnvL w) (hs : s.size ≤ 100000000) :
    Calls Tryz.prog 8 #[.string s] w (RetRowB w (readL s).1 (readL s).2) := by
  cases hd : (s.toList == [45]) with
  | true =>
    have HF := Lib.hid (readL_dash hd)
    go_enter Tryz.func8, Tryz.ntmps8
    go_wp2_with fail
    go_ret2
    exact ⟨_, by rw [HF.out]; rfl, by rw [HF.out]; exact .inl (Owns.empty _ _ (Nat.le_refl _)), (Below.refl _ _).alloc (Nat.le_refl _) _⟩
  | false =>
    have HP := Lib.hid hp
    cases hall : allNum (splitC 44 s.data.toList) with
    | false =>
      have hpf : partsB (splitC 44 s.data.toList) = false := by
        cases h : partsB (splitC 44 s.data.toList) with
        | false => rfl
        | true => rw [allNum_parts h] at hall; cases hall
      have HF : Hid (readL s = ([], false)) := Lib.hid (readL_no hd hpf)
      have HA : Hid (allNum (splitC 44 s.data.toList) = false) := Lib.hid hall
      clear hall hpf
      go_enter Tryz.func8, Tryz.ntmps8
      go_wp2_with (go_at_call 21; refine (readDecimals_any s _ HP.out.pow HP.out.err HP.out.max hs).mono ?_; rintro e w1 ⟨r1, rfl, o1, hb1⟩; rw [HA.out])
      go_ret2
      exact ⟨_, by rw [HF.out]; rfl, by rw [HF.out]; exact Fresh.nil_ _ _, hb1⟩
    | true =>
      have HRN : Hid (readN (splitC 44 s.data.toList) = (splitC 44 s.data.toList).map numV) := Lib.hid (by unfold readN; rw [hall]; rfl)
      have HA : Hid (allNum (splitC 44 s.data.toList) = true) := Lib.hid hall
      cases hpt : partsB (splitC 44 s.data.toList) with
      | true =>
        have HF : Hid (readL s = ((splitC 44 s.data.toList).map numV, true)) := Lib.hid (readL_yes hd hpt)
        have HT : Hid (str (ltxt ((splitC 44 s.data.toList).map numV)) = s) := Lib.hid (str_inj (ltxt_parts hpt))
        clear hall hpt
        go_enter Tryz.func8, Tryz.ntmps8
        go_wp2_with (first
          | (go_at_call 21; refine (readDecimals_any s _ HP.out.pow HP.out.err HP.out.max hs).mono ?_; rintro e w1 ⟨r1, rfl, o1, hb1⟩; rw [HA.out]; rw [HRN.out] at o1)
          | (go_at_call 9; refine (implListText_any _ _ _ (HP.out.pow.next hb1) o1.sl (vals_fit HA.out)).mono ?_; rintro e w2 ⟨rfl, hb2⟩; rw [HT.out]))
        go_ret2
        exact ⟨_, by rw [HF.out]; rfl, by rw [HF.out]; exact .inl (o1.next hb2), below_next hb1 hb2⟩
      | false =>
        have HF : Hid (readL s = ([], false)) := Lib.hid (readL_no hd hpt)
        have HT : Hid (str (ltxt ((splitC 44 s.data.toList).map numV)) = ⟨#[]⟩) := Lib.hid (by rw [ltxt_no hall hpt]; rfl)
        have hne := allNum_ne hall
        have hne2 : ¬ (⟨#[]⟩ : ByteArray).toList = s.toList := by
          rw [ByteArray.toList_eq, ByteArray.toList_eq]
          exact fun h => hne h.symm
        have hne3 : ¬ s.toList = [] := by rw [ByteArray.toList_eq]; exact hne
        have hne4 : s.toList.isEmpty = false := by rw [List.isEmpty_eq_false_iff]; exact hne3
        clear hall hpt hne
        go_enter Tryz.func8, Tryz.ntmps8
        go_wp2_with (first
          | (go_at_call 21; refine (readDecimals_any s _ HP.out.pow HP.out.err HP.out.max hs).mono ?_; rintro e w1 ⟨r1, rfl, o1, hb1⟩; rw [HA.out]; rw [HRN.out] at o1)
          | (go_at_call 9; refine (implListText_any _ _ _ (HP.out.pow.next hb1) o1.sl (vals_fit HA.out)).mono ?_; rintro e w2 ⟨rfl, hb2⟩; rw [HT.out]))
        go_ret2
        exact ⟨_, by rw [HF.out]; rfl, by rw [HF.out]; exact Fresh.nil_ _ _, below_next hb1 hb2⟩
end Go.Proofs.YtfdcpfhiknfpiaaGreatDoor
