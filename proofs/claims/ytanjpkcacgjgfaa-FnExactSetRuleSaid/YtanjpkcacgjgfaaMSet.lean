/- SetRule: what the law needs. No condition beyond the stated bounds. -/
import Derived.Test.YtanjpkcacgjgfaaMMirror
import Derived.Deep.Cut
namespace Go.Proofs.Ytanjpkcacgjgfaa
open Go.RowKit
set_option maxHeartbeats 1000000 in
theorem specSetRule_inv (sy st : Int) (l : List Int) (at_ a b d : Int) (hv : validB sy st l = false) (w : World) (rv : Value) (h : Sl3 w rv l) :
    Calls Try.prog 16 #[.agg #[.int .i64 sy, .int .i64 st, rv], .int .i64 at_, .agg #[.int .i64 a, .int .i64 b, .int .i64 d]] w (RetMC w 0 0 [] 1) := by
  have HV := Lib.hid hv
  clear hv
  have HS := Lib.hid h
  obtain ⟨A, n, c, rfl, hnc, hcm, hr⟩ := h
  have hl3 := hr.1
  have HL := Lib.hid hl3
  clear hr hl3
  have HC1 := Lib.hid (C3.next (C3.next (C3.made w (.int .i64 sy) (.int .i64 st) (.slice A n c) 30) (below_one _ (.cells #[.int .i64 a, .int .i64 b, .int .i64 d] 34))) (below_one _ (.cells #[.int .i64 0, .int .i64 0, .slice none 0 0] 30)))
  go_enter Try.func16, Try.ntmps16
  go_wp2_with fail
  refine (l05Is_any _ sy st _ l _ HC1.out (HS.out.next (below_three _ _ _ _))).mono ?_
  rintro e w1 ⟨rfl, hb⟩
  have hB1 := (below_three w _ _ _).trans (hb.mono (by simp; omega))
  have hz : w.heap.size + 3 ≤ w1.heap.size := by have := hb.size; simp at this; omega
  have hh := heap_three hb
  have HM := Lib.hid (Box.of hh.1)
  have HR := Lib.hid (Box.of hh.2.1)
  have HZ := Lib.hid (Box.of hh.2.2)
  clear hh
  rw [HV.out]
  obtain ⟨z0, z1, z2, zf0, zf1, zf2⟩ := HZ.out
  go_wp2_with fail
  refine bodyPost_ret (v := .tuple #[.agg #[.int .i64 0, .int .i64 0, .slice none 0 0], .int .i64 1]) (by simp [results, Try.results16, go_sem, z0, z1, z2]) rfl ⟨_, rfl, Fresh3.nil_ _ _, ?_⟩
  repeat refine Below.setCell ?_ (by first | (simp; done) | (simp; omega)) _
  exact hB1
set_option maxHeartbeats 1000000 in
theorem specSetRule_range (sy st : Int) (l : List Int) (at_ a b d : Int) (hv : validB sy st l = true) (hi : inB at_ 0 (((l.length / 3 : Nat) : Int) - 1) = false) (hl : l.length ≤ 1000000) (w : World) (rv : Value) (h : Sl3 w rv l) :
    Calls Try.prog 16 #[.agg #[.int .i64 sy, .int .i64 st, rv], .int .i64 at_, .agg #[.int .i64 a, .int .i64 b, .int .i64 d]] w (RetMC w 0 0 [] 2) := by
  have HV := Lib.hid hv
  clear hv
  have HS := Lib.hid h
  obtain ⟨A, n, c, rfl, hnc, hcm, hr⟩ := h
  have hl3 := hr.1
  have HL := Lib.hid hl3
  clear hr hl3
  have HC1 := Lib.hid (C3.next (C3.next (C3.made w (.int .i64 sy) (.int .i64 st) (.slice A n c) 30) (below_one _ (.cells #[.int .i64 a, .int .i64 b, .int .i64 d] 34))) (below_one _ (.cells #[.int .i64 0, .int .i64 0, .slice none 0 0] 30)))
  go_enter Try.func16, Try.ntmps16
  go_wp2_with fail
  refine (l05Is_any _ sy st _ l _ HC1.out (HS.out.next (below_three _ _ _ _))).mono ?_
  rintro e w1 ⟨rfl, hb⟩
  have hB1 := (below_three w _ _ _).trans (hb.mono (by simp; omega))
  have hz : w.heap.size + 3 ≤ w1.heap.size := by have := hb.size; simp at this; omega
  have hh := heap_three hb
  have HM := Lib.hid (Box.of hh.1)
  have HR := Lib.hid (Box.of hh.2.1)
  have HZ := Lib.hid (Box.of hh.2.2)
  clear hh
  rw [HV.out]
  have hnn : n ≤ 1000000 := by have := HL.out; omega
  have HI : Hid (inB at_ 0 ((n : Int) - 1) = false) := Lib.hid (by rw [← hi]; congr 2; have := HL.out; omega)
  clear hi
  obtain ⟨m0, m1, m2, mf0, mf1, mf2⟩ := HM.out
  obtain ⟨r0, r1, r2, rf0, rf1, rf2⟩ := HR.out
  obtain ⟨z0, z1, z2, zf0, zf1, zf2⟩ := HZ.out
  go_wp2_with fail
  refine (l00In_any _ _ _ _).mono ?_
  rintro e _ ⟨rfl, rfl⟩
  rw [HI.out]
  go_wp2_with fail
  refine bodyPost_ret (v := .tuple #[.agg #[.int .i64 0, .int .i64 0, .slice none 0 0], .int .i64 2]) (by simp [results, Try.results16, go_sem, z0, z1, z2]) rfl ⟨_, rfl, Fresh3.nil_ _ _, ?_⟩
  repeat refine Below.setCell ?_ (by first | (simp; done) | (simp; omega)) _
  exact hB1
set_option maxHeartbeats 1000000 in
theorem specSetRule_order (sy st : Int) (l : List Int) (at_ a b d : Int) (hv : validB sy st l = true) (hi : inB at_ 0 (((l.length / 3 : Nat) : Int) - 1) = true) (hu : ruleB sy st a b d = false) (hl : l.length ≤ 1000000) (w : World) (rv : Value) (h : Sl3 w rv l) :
    Calls Try.prog 16 #[.agg #[.int .i64 sy, .int .i64 st, rv], .int .i64 at_, .agg #[.int .i64 a, .int .i64 b, .int .i64 d]] w (RetMC w 0 0 [] 7) := by
  obtain ⟨⟨s1, s2⟩, ⟨s3, s4⟩, _, _⟩ := validB_true hv
  have HV := Lib.hid hv
  have HU := Lib.hid hu
  clear hv hu
  have HS := Lib.hid h
  obtain ⟨A, n, c, rfl, hnc, hcm, hr⟩ := h
  have hl3 := hr.1
  have HL := Lib.hid hl3
  clear hr hl3
  have HC1 := Lib.hid (C3.next (C3.next (C3.made w (.int .i64 sy) (.int .i64 st) (.slice A n c) 30) (below_one _ (.cells #[.int .i64 a, .int .i64 b, .int .i64 d] 34))) (below_one _ (.cells #[.int .i64 0, .int .i64 0, .slice none 0 0] 30)))
  go_enter Try.func16, Try.ntmps16
  go_wp2_with fail
  refine (l05Is_any _ sy st _ l _ HC1.out (HS.out.next (below_three _ _ _ _))).mono ?_
  rintro e w1 ⟨rfl, hb⟩
  have hB1 := (below_three w _ _ _).trans (hb.mono (by simp; omega))
  have hz : w.heap.size + 3 ≤ w1.heap.size := by have := hb.size; simp at this; omega
  have hh := heap_three hb
  have HM := Lib.hid (Box.of hh.1)
  have HR := Lib.hid (Box.of hh.2.1)
  have HZ := Lib.hid (Box.of hh.2.2)
  clear hh
  rw [HV.out]
  have hnn : n ≤ 1000000 := by have := HL.out; omega
  have HI : Hid (inB at_ 0 ((n : Int) - 1) = true) := Lib.hid (by rw [← hi]; congr 2; have := HL.out; omega)
  clear hi
  obtain ⟨m0, m1, m2, mf0, mf1, mf2⟩ := HM.out
  obtain ⟨r0, r1, r2, rf0, rf1, rf2⟩ := HR.out
  obtain ⟨z0, z1, z2, zf0, zf1, zf2⟩ := HZ.out
  go_wp2_with fail
  refine (l00In_any _ _ _ _).mono ?_
  rintro e _ ⟨rfl, rfl⟩
  rw [HI.out]
  go_wp2_with fail
  refine (l05Rule_any sy st a b d _ (by omega) (by omega)).mono ?_
  rintro e w2 ⟨rfl, hb2⟩
  have hB2 := below_next hB1 hb2
  have hz2 := hb2.size
  replace HM := Lib.hid (HM.out.next hb2)
  replace HR := Lib.hid (HR.out.next hb2)
  replace HZ := Lib.hid (HZ.out.next hb2)
  clear m0 m1 m2 mf0 mf1 mf2 r0 r1 r2 rf0 rf1 rf2 z0 z1 z2 zf0 zf1 zf2
  obtain ⟨m0, m1, m2, mf0, mf1, mf2⟩ := HM.out
  obtain ⟨r0, r1, r2, rf0, rf1, rf2⟩ := HR.out
  obtain ⟨z0, z1, z2, zf0, zf1, zf2⟩ := HZ.out
  rw [HU.out]
  go_wp2_with fail
  refine bodyPost_ret (v := .tuple #[.agg #[.int .i64 0, .int .i64 0, .slice none 0 0], .int .i64 7]) (by simp [results, Try.results16, go_sem, z0, z1, z2]) rfl ⟨_, rfl, Fresh3.nil_ _ _, ?_⟩
  repeat refine Below.setCell ?_ (by first | (simp; done) | (simp; omega)) _
  exact hB2
set_option maxHeartbeats 1000000 in
theorem specSetRule_ok (sy st : Int) (l : List Int) (k : Nat) (a b d : Int) (hv : validB sy st l = true) (hi : inB (k : Int) 0 (((l.length / 3 : Nat) : Int) - 1) = true) (hu : ruleB sy st a b d = true) (hl : l.length ≤ 1000000) (w : World) (rv : Value) (h : Sl3 w rv l) :
    Calls Try.prog 16 #[.agg #[.int .i64 sy, .int .i64 st, rv], .int .i64 (k : Int), .agg #[.int .i64 a, .int .i64 b, .int .i64 d]] w (RetMC w sy st (((l.set (k * 3) a).set (k * 3 + 1) b).set (k * 3 + 1 + 1) d) 0) := by
  obtain ⟨⟨s1, s2⟩, ⟨s3, s4⟩, _, _⟩ := validB_true hv
  have hk := (inB_true.1 hi).2
  have HV := Lib.hid hv
  have HU := Lib.hid hu
  clear hv hu
  have HS := Lib.hid h
  obtain ⟨A, n, c, rfl, hnc, hcm, hr⟩ := h
  have hl3 := hr.1
  have HL := Lib.hid hl3
  clear hr hl3
  have HC1 := Lib.hid (C3.next (C3.next (C3.made w (.int .i64 sy) (.int .i64 st) (.slice A n c) 30) (below_one _ (.cells #[.int .i64 a, .int .i64 b, .int .i64 d] 34))) (below_one _ (.cells #[.int .i64 0, .int .i64 0, .slice none 0 0] 30)))
  go_enter Try.func16, Try.ntmps16
  go_wp2_with fail
  refine (l05Is_any _ sy st _ l _ HC1.out (HS.out.next (below_three _ _ _ _))).mono ?_
  rintro e w1 ⟨rfl, hb⟩
  have hB1 := (below_three w _ _ _).trans (hb.mono (by simp; omega))
  have hz : w.heap.size + 3 ≤ w1.heap.size := by have := hb.size; simp at this; omega
  have hh := heap_three hb
  have HM := Lib.hid (Box.of hh.1)
  have HR := Lib.hid (Box.of hh.2.1)
  have HZ := Lib.hid (Box.of hh.2.2)
  clear hh
  rw [HV.out]
  have hnn : n ≤ 1000000 := by have := HL.out; omega
  have hkn : k < n := by have := HL.out; omega
  have HI : Hid (inB (k : Int) 0 ((n : Int) - 1) = true) := Lib.hid (by rw [← hi]; congr 2; have := HL.out; omega)
  clear hi hk
  obtain ⟨m0, m1, m2, mf0, mf1, mf2⟩ := HM.out
  obtain ⟨r0, r1, r2, rf0, rf1, rf2⟩ := HR.out
  obtain ⟨z0, z1, z2, zf0, zf1, zf2⟩ := HZ.out
  go_wp2_with fail
  refine (l00In_any _ _ _ _).mono ?_
  rintro e _ ⟨rfl, rfl⟩
  rw [HI.out]
  go_wp2_with fail
  refine (l05Rule_any sy st a b d _ (by omega) (by omega)).mono ?_
  rintro e w2 ⟨rfl, hb2⟩
  have hB2 := below_next hB1 hb2
  have hz2 := hb2.size
  replace HM := Lib.hid (HM.out.next hb2)
  replace HR := Lib.hid (HR.out.next hb2)
  replace HZ := Lib.hid (HZ.out.next hb2)
  clear m0 m1 m2 mf0 mf1 mf2 r0 r1 r2 rf0 rf1 rf2 z0 z1 z2 zf0 zf1 zf2
  obtain ⟨m0, m1, m2, mf0, mf1, mf2⟩ := HM.out
  obtain ⟨r0, r1, r2, rf0, rf1, rf2⟩ := HR.out
  obtain ⟨z0, z1, z2, zf0, zf1, zf2⟩ := HZ.out
  rw [HU.out]
  go_wp2_with fail
  refine (l05Own_any _ sy st _ l _ ⟨m0, m1, m2⟩ (HS.out.next hB2) (by omega)).mono ?_
  rintro e w3 ⟨r, rfl, ho, hb3⟩
  have hB3 := below_next hB2 hb3
  have hz3 := hb3.size
  have hll := HL.out
  obtain ⟨g, n', cap, rfl, hbg, hgw, hl3⟩ := ho.head (by omega)
  obtain rfl : n' = n := by omega
  have hHB := heap_alloc_new w3 (.cells #[.int .i64 sy, .int .i64 st, .slice (some ⟨g, 0, none⟩) n' cap] 30)
  have ho2 := (ho.lower (base' := w.heap.size + 3) (by omega)).next (below_one w3 (.cells #[.int .i64 sy, .int .i64 st, .slice (some ⟨g, 0, none⟩) n' cap] 30))
  replace HR := Lib.hid ((HR.out.next hb3).next (below_one w3 (.cells #[.int .i64 sy, .int .i64 st, .slice (some ⟨g, 0, none⟩) n' cap] 30)))
  replace HZ := Lib.hid ((HZ.out.next hb3).next (below_one w3 (.cells #[.int .i64 sy, .int .i64 st, .slice (some ⟨g, 0, none⟩) n' cap] 30)))
  have hB4 : Below w.heap.size w (w3.alloc (.cells #[.int .i64 sy, .int .i64 st, .slice (some ⟨g, 0, none⟩) n' cap] 30)) := hB3.trans ((below_one w3 _).mono hB3.size)
  clear m0 m1 m2 mf0 mf1 mf2 r0 r1 r2 rf0 rf1 rf2 z0 z1 z2 zf0 zf1 zf2
  have HHB := Lib.hid hHB
  have HO2 := Lib.hid ho2
  clear hHB ho2
  have ne1 : ¬ g = w3.heap.size := by omega
  have ne2 : ¬ w3.heap.size = g := by omega
  have ne3 : ¬ g = w.heap.size + 2 := by omega
  have ne4 : ¬ w.heap.size + 2 = g := by omega
  have ne5 : ¬ w.heap.size + 2 = w3.heap.size := by omega
  have ne6 : ¬ w3.heap.size = w.heap.size + 2 := by omega
  go_upto_region 8 with fail
  generalize w3.alloc (.cells #[.int .i64 sy, .int .i64 st, .slice (some ⟨g, 0, none⟩) n' cap] 30) = W4 at *
  generalize w3.heap.size = bx at *
  have q0 := HO2.out.cellAt (j := k * 3) (by omega)
  have q1 := HO2.out.cellAt (j := k * 3 + 1) (by omega)
  have q2 := HO2.out.cellAt (j := k * 3 + 2) (by omega)
  have qf0 := HO2.out.free (k * 3)
  have qf1 := HO2.out.free (k * 3 + 1)
  have qf2 := HO2.out.free (k * 3 + 2)
  have HST := Lib.hid (HO2.out.stored3 (k * 3) a b d)
  obtain ⟨r0, r1, r2, rf0, rf1, rf2⟩ := HR.out
  obtain ⟨z0, z1, z2, zf0, zf1, zf2⟩ := HZ.out
  obtain ⟨x0, x1, x2, xf0, xf1, xf2⟩ := Box.of HHB.out
  have e0 : (0 : Int) ≤ (k : Int) := by omega
  have e1 : (k : Int) < (n' : Int) := by omega
  have hgB : w.heap.size + 3 ≤ g := by omega
  clear hl3 hll HL hb hb2 hb3 hz hz2 hz3 hB1 hB2 hB3
  go_wp2_with fail
  refine bodyPost_ret (v := .tuple #[.agg #[.int .i64 sy, .int .i64 st, .slice (some ⟨g, 0, none⟩) n' cap], .int .i64 0]) (by simp [results, Try.results16, go_sem, z0, z1, z2, ne3, ne4, ne5, ne6]) rfl ⟨_, rfl, ?_, ?_⟩
  · refine Fresh3.lower (base := w.heap.size + 3) ?_ (by omega)
    refine Fresh3.set (Fresh3.set (Fresh3.set ?_ (by simp) _) (by simp) _) (by simp) _
    exact .inl HST.out.1
  · have hB5 := hB4.grown HST.out.2 hB4.size (fun k hk => by injection hk with hk; omega)
    refine Below.setCell (Below.setCell (Below.setCell ?_ (by simp; omega) _) (by simp; omega) _) (by simp; omega) _
    exact hB5
set_option maxHeartbeats 1000000 in
theorem implSetRule_inv (sy st : Int) (l : List Int) (at_ a b d : Int) (hv : validB sy st l = false) (w : World) (rv : Value) (h : Sl3 w rv l) :
    Calls Try.prog 19 #[.agg #[.int .i64 sy, .int .i64 st, rv], .int .i64 at_, .agg #[.int .i64 a, .int .i64 b, .int .i64 d]] w (RetMC w 0 0 [] 1) := by
  have HV := Lib.hid hv
  clear hv
  have HS := Lib.hid h
  obtain ⟨A, n, c, rfl, hnc, hcm, hr⟩ := h
  have hl3 := hr.1
  have HL := Lib.hid hl3
  clear hr hl3
  go_enter Try.func19, Try.ntmps19
  go_wp2_with fail
  refine (implValidMachine_any sy st _ l _ (HS.out.next (below_three _ _ _ _))).mono ?_
  rintro e w1 ⟨rfl, hb⟩
  have hB1 := (below_three w _ _ _).trans (hb.mono (by simp; omega))
  have hz : w.heap.size + 3 ≤ w1.heap.size := by have := hb.size; simp at this; omega
  have hh := heap_three hb
  have HM := Lib.hid (Box.of hh.1)
  have HR := Lib.hid (Box.of hh.2.1)
  have HZ := Lib.hid (Box.of hh.2.2)
  clear hh
  rw [HV.out]
  obtain ⟨z0, z1, z2, zf0, zf1, zf2⟩ := HZ.out
  go_wp2_with fail
  refine bodyPost_ret (v := .tuple #[.agg #[.int .i64 0, .int .i64 0, .slice none 0 0], .int .i64 1]) (by simp [results, Try.results19, go_sem, z0, z1, z2]) rfl ⟨_, rfl, Fresh3.nil_ _ _, ?_⟩
  repeat refine Below.setCell ?_ (by first | (simp; done) | (simp; omega)) _
  exact hB1
set_option maxHeartbeats 1000000 in
theorem implSetRule_range (sy st : Int) (l : List Int) (at_ a b d : Int) (hv : validB sy st l = true) (hi : inB at_ 0 (((l.length / 3 : Nat) : Int) - 1) = false) (hl : l.length ≤ 1000000) (w : World) (rv : Value) (h : Sl3 w rv l) :
    Calls Try.prog 19 #[.agg #[.int .i64 sy, .int .i64 st, rv], .int .i64 at_, .agg #[.int .i64 a, .int .i64 b, .int .i64 d]] w (RetMC w 0 0 [] 2) := by
  have HV := Lib.hid hv
  clear hv
  have HS := Lib.hid h
  obtain ⟨A, n, c, rfl, hnc, hcm, hr⟩ := h
  have hl3 := hr.1
  have HL := Lib.hid hl3
  clear hr hl3
  go_enter Try.func19, Try.ntmps19
  go_wp2_with fail
  refine (implValidMachine_any sy st _ l _ (HS.out.next (below_three _ _ _ _))).mono ?_
  rintro e w1 ⟨rfl, hb⟩
  have hB1 := (below_three w _ _ _).trans (hb.mono (by simp; omega))
  have hz : w.heap.size + 3 ≤ w1.heap.size := by have := hb.size; simp at this; omega
  have hh := heap_three hb
  have HM := Lib.hid (Box.of hh.1)
  have HR := Lib.hid (Box.of hh.2.1)
  have HZ := Lib.hid (Box.of hh.2.2)
  clear hh
  rw [HV.out]
  have hnn : n ≤ 1000000 := by have := HL.out; omega
  have HI : Hid (inB at_ 0 ((n : Int) - 1) = false) := Lib.hid (by rw [← hi]; congr 2; have := HL.out; omega)
  clear hi
  obtain ⟨m0, m1, m2, mf0, mf1, mf2⟩ := HM.out
  obtain ⟨r0, r1, r2, rf0, rf1, rf2⟩ := HR.out
  obtain ⟨z0, z1, z2, zf0, zf1, zf2⟩ := HZ.out
  go_wp2_with fail
  refine (sizeR_any _ _ _ _ hnc hcm).mono ?_
  rintro e _ ⟨rfl, rfl⟩
  go_wp2_with fail
  refine (within_any _ _ _ _).mono ?_
  rintro e _ ⟨rfl, rfl⟩
  rw [HI.out]
  go_wp2_with fail
  refine bodyPost_ret (v := .tuple #[.agg #[.int .i64 0, .int .i64 0, .slice none 0 0], .int .i64 2]) (by simp [results, Try.results19, go_sem, z0, z1, z2]) rfl ⟨_, rfl, Fresh3.nil_ _ _, ?_⟩
  repeat refine Below.setCell ?_ (by first | (simp; done) | (simp; omega)) _
  exact hB1
set_option maxHeartbeats 1000000 in
theorem implSetRule_order (sy st : Int) (l : List Int) (at_ a b d : Int) (hv : validB sy st l = true) (hi : inB at_ 0 (((l.length / 3 : Nat) : Int) - 1) = true) (hu : ruleB sy st a b d = false) (hl : l.length ≤ 1000000) (w : World) (rv : Value) (h : Sl3 w rv l) :
    Calls Try.prog 19 #[.agg #[.int .i64 sy, .int .i64 st, rv], .int .i64 at_, .agg #[.int .i64 a, .int .i64 b, .int .i64 d]] w (RetMC w 0 0 [] 7) := by
  obtain ⟨⟨s1, s2⟩, ⟨s3, s4⟩, _, _⟩ := validB_true hv
  have HV := Lib.hid hv
  have HU := Lib.hid hu
  clear hv hu
  have HS := Lib.hid h
  obtain ⟨A, n, c, rfl, hnc, hcm, hr⟩ := h
  have hl3 := hr.1
  have HL := Lib.hid hl3
  clear hr hl3
  go_enter Try.func19, Try.ntmps19
  go_wp2_with fail
  refine (implValidMachine_any sy st _ l _ (HS.out.next (below_three _ _ _ _))).mono ?_
  rintro e w1 ⟨rfl, hb⟩
  have hB1 := (below_three w _ _ _).trans (hb.mono (by simp; omega))
  have hz : w.heap.size + 3 ≤ w1.heap.size := by have := hb.size; simp at this; omega
  have hh := heap_three hb
  have HM := Lib.hid (Box.of hh.1)
  have HR := Lib.hid (Box.of hh.2.1)
  have HZ := Lib.hid (Box.of hh.2.2)
  clear hh
  rw [HV.out]
  have hnn : n ≤ 1000000 := by have := HL.out; omega
  have HI : Hid (inB at_ 0 ((n : Int) - 1) = true) := Lib.hid (by rw [← hi]; congr 2; have := HL.out; omega)
  clear hi
  obtain ⟨m0, m1, m2, mf0, mf1, mf2⟩ := HM.out
  obtain ⟨r0, r1, r2, rf0, rf1, rf2⟩ := HR.out
  obtain ⟨z0, z1, z2, zf0, zf1, zf2⟩ := HZ.out
  go_wp2_with fail
  refine (sizeR_any _ _ _ _ hnc hcm).mono ?_
  rintro e _ ⟨rfl, rfl⟩
  go_wp2_with fail
  refine (within_any _ _ _ _).mono ?_
  rintro e _ ⟨rfl, rfl⟩
  rw [HI.out]
  go_wp2_with fail
  refine (validRule_any sy st a b d _ _ (by omega) (by omega)).mono ?_
  rintro e w2 ⟨rfl, hb2⟩
  have hB2 := below_next hB1 hb2
  have hz2 := hb2.size
  replace HM := Lib.hid (HM.out.next hb2)
  replace HR := Lib.hid (HR.out.next hb2)
  replace HZ := Lib.hid (HZ.out.next hb2)
  clear m0 m1 m2 mf0 mf1 mf2 r0 r1 r2 rf0 rf1 rf2 z0 z1 z2 zf0 zf1 zf2
  obtain ⟨m0, m1, m2, mf0, mf1, mf2⟩ := HM.out
  obtain ⟨r0, r1, r2, rf0, rf1, rf2⟩ := HR.out
  obtain ⟨z0, z1, z2, zf0, zf1, zf2⟩ := HZ.out
  rw [HU.out]
  go_wp2_with fail
  refine bodyPost_ret (v := .tuple #[.agg #[.int .i64 0, .int .i64 0, .slice none 0 0], .int .i64 7]) (by simp [results, Try.results19, go_sem, z0, z1, z2]) rfl ⟨_, rfl, Fresh3.nil_ _ _, ?_⟩
  repeat refine Below.setCell ?_ (by first | (simp; done) | (simp; omega)) _
  exact hB2
set_option maxHeartbeats 1000000 in
theorem implSetRule_ok (sy st : Int) (l : List Int) (k : Nat) (a b d : Int) (hv : validB sy st l = true) (hi : inB (k : Int) 0 (((l.length / 3 : Nat) : Int) - 1) = true) (hu : ruleB sy st a b d = true) (hl : l.length ≤ 1000000) (w : World) (rv : Value) (h : Sl3 w rv l) :
    Calls Try.prog 19 #[.agg #[.int .i64 sy, .int .i64 st, rv], .int .i64 (k : Int), .agg #[.int .i64 a, .int .i64 b, .int .i64 d]] w (RetMC w sy st (((l.set (k * 3) a).set (k * 3 + 1) b).set (k * 3 + 1 + 1) d) 0) := by
  obtain ⟨⟨s1, s2⟩, ⟨s3, s4⟩, _, _⟩ := validB_true hv
  have hk := (inB_true.1 hi).2
  have HV := Lib.hid hv
  have HU := Lib.hid hu
  clear hv hu
  have HS := Lib.hid h
  obtain ⟨A, n, c, rfl, hnc, hcm, hr⟩ := h
  have hl3 := hr.1
  have HL := Lib.hid hl3
  clear hr hl3
  go_enter Try.func19, Try.ntmps19
  go_wp2_with fail
  refine (implValidMachine_any sy st _ l _ (HS.out.next (below_three _ _ _ _))).mono ?_
  rintro e w1 ⟨rfl, hb⟩
  have hB1 := (below_three w _ _ _).trans (hb.mono (by simp; omega))
  have hz : w.heap.size + 3 ≤ w1.heap.size := by have := hb.size; simp at this; omega
  have hh := heap_three hb
  have HM := Lib.hid (Box.of hh.1)
  have HR := Lib.hid (Box.of hh.2.1)
  have HZ := Lib.hid (Box.of hh.2.2)
  clear hh
  rw [HV.out]
  have hnn : n ≤ 1000000 := by have := HL.out; omega
  have hkn : k < n := by have := HL.out; omega
  have HI : Hid (inB (k : Int) 0 ((n : Int) - 1) = true) := Lib.hid (by rw [← hi]; congr 2; have := HL.out; omega)
  clear hi hk
  obtain ⟨m0, m1, m2, mf0, mf1, mf2⟩ := HM.out
  obtain ⟨r0, r1, r2, rf0, rf1, rf2⟩ := HR.out
  obtain ⟨z0, z1, z2, zf0, zf1, zf2⟩ := HZ.out
  go_wp2_with fail
  refine (sizeR_any _ _ _ _ hnc hcm).mono ?_
  rintro e _ ⟨rfl, rfl⟩
  go_wp2_with fail
  refine (within_any _ _ _ _).mono ?_
  rintro e _ ⟨rfl, rfl⟩
  rw [HI.out]
  go_wp2_with fail
  refine (validRule_any sy st a b d _ _ (by omega) (by omega)).mono ?_
  rintro e w2 ⟨rfl, hb2⟩
  have hB2 := below_next hB1 hb2
  have hz2 := hb2.size
  replace HM := Lib.hid (HM.out.next hb2)
  replace HR := Lib.hid (HR.out.next hb2)
  replace HZ := Lib.hid (HZ.out.next hb2)
  clear m0 m1 m2 mf0 mf1 mf2 r0 r1 r2 rf0 rf1 rf2 z0 z1 z2 zf0 zf1 zf2
  obtain ⟨m0, m1, m2, mf0, mf1, mf2⟩ := HM.out
  obtain ⟨r0, r1, r2, rf0, rf1, rf2⟩ := HR.out
  obtain ⟨z0, z1, z2, zf0, zf1, zf2⟩ := HZ.out
  rw [HU.out]
  go_wp2_with fail
  refine (copyMachine_any sy st _ l _ (HS.out.next hB2) (by omega)).mono ?_
  rintro e w3 ⟨r, rfl, ho, hb3⟩
  have hB3 := below_next hB2 hb3
  have hz3 := hb3.size
  have hll := HL.out
  obtain ⟨g, n', cap, rfl, hbg, hgw, hl3⟩ := ho.head (by omega)
  obtain rfl : n' = n := by omega
  have hHB := heap_alloc_new w3 (.cells #[.int .i64 sy, .int .i64 st, .slice (some ⟨g, 0, none⟩) n' cap] 30)
  have ho2 := (ho.lower (base' := w.heap.size + 3) (by omega)).next (below_one w3 (.cells #[.int .i64 sy, .int .i64 st, .slice (some ⟨g, 0, none⟩) n' cap] 30))
  replace HR := Lib.hid ((HR.out.next hb3).next (below_one w3 (.cells #[.int .i64 sy, .int .i64 st, .slice (some ⟨g, 0, none⟩) n' cap] 30)))
  replace HZ := Lib.hid ((HZ.out.next hb3).next (below_one w3 (.cells #[.int .i64 sy, .int .i64 st, .slice (some ⟨g, 0, none⟩) n' cap] 30)))
  have hB4 : Below w.heap.size w (w3.alloc (.cells #[.int .i64 sy, .int .i64 st, .slice (some ⟨g, 0, none⟩) n' cap] 30)) := hB3.trans ((below_one w3 _).mono hB3.size)
  clear m0 m1 m2 mf0 mf1 mf2 r0 r1 r2 rf0 rf1 rf2 z0 z1 z2 zf0 zf1 zf2
  have HHB := Lib.hid hHB
  have HO2 := Lib.hid ho2
  clear hHB ho2
  have ne1 : ¬ g = w3.heap.size := by omega
  have ne2 : ¬ w3.heap.size = g := by omega
  have ne3 : ¬ g = w.heap.size + 2 := by omega
  have ne4 : ¬ w.heap.size + 2 = g := by omega
  have ne5 : ¬ w.heap.size + 2 = w3.heap.size := by omega
  have ne6 : ¬ w3.heap.size = w.heap.size + 2 := by omega
  go_upto_region 8 with fail
  generalize w3.alloc (.cells #[.int .i64 sy, .int .i64 st, .slice (some ⟨g, 0, none⟩) n' cap] 30) = W4 at *
  generalize w3.heap.size = bx at *
  have q0 := HO2.out.cellAt (j := k * 3) (by omega)
  have q1 := HO2.out.cellAt (j := k * 3 + 1) (by omega)
  have q2 := HO2.out.cellAt (j := k * 3 + 2) (by omega)
  have qf0 := HO2.out.free (k * 3)
  have qf1 := HO2.out.free (k * 3 + 1)
  have qf2 := HO2.out.free (k * 3 + 2)
  have HST := Lib.hid (HO2.out.stored3 (k * 3) a b d)
  obtain ⟨r0, r1, r2, rf0, rf1, rf2⟩ := HR.out
  obtain ⟨z0, z1, z2, zf0, zf1, zf2⟩ := HZ.out
  obtain ⟨x0, x1, x2, xf0, xf1, xf2⟩ := Box.of HHB.out
  have e0 : (0 : Int) ≤ (k : Int) := by omega
  have e1 : (k : Int) < (n' : Int) := by omega
  have hgB : w.heap.size + 3 ≤ g := by omega
  clear hl3 hll HL hb hb2 hb3 hz hz2 hz3 hB1 hB2 hB3
  go_wp2_with fail
  refine bodyPost_ret (v := .tuple #[.agg #[.int .i64 sy, .int .i64 st, .slice (some ⟨g, 0, none⟩) n' cap], .int .i64 0]) (by simp [results, Try.results19, go_sem, z0, z1, z2, ne3, ne4, ne5, ne6]) rfl ⟨_, rfl, ?_, ?_⟩
  · refine Fresh3.lower (base := w.heap.size + 3) ?_ (by omega)
    refine Fresh3.set (Fresh3.set (Fresh3.set ?_ (by simp) _) (by simp) _) (by simp) _
    exact .inl HST.out.1
  · have hB5 := hB4.grown HST.out.2 hB4.size (fun k hk => by injection hk with hk; omega)
    refine Below.setCell (Below.setCell (Below.setCell ?_ (by simp; omega) _) (by simp; omega) _) (by simp; omega) _
    exact hB5
theorem bothSetRule (sy st : Int) (l : List Int) (at_ : Int) (a b d : Int) (_ha : -9223372036854775808 ≤ at_ ∧ at_ ≤ 9223372036854775807) (_h : Fit l ∧ l.length ≤ 3145728 ∧ (-9223372036854775808 ≤ sy ∧ sy ≤ 9223372036854775807) ∧ (-9223372036854775808 ≤ st ∧ st ≤ 9223372036854775807))
    (_hr : (-9223372036854775808 ≤ a ∧ a ≤ 9223372036854775807) ∧ (-9223372036854775808 ≤ b ∧ b ≤ 9223372036854775807) ∧ (-9223372036854775808 ≤ d ∧ d ≤ 9223372036854775807)) : ∃ (RS RT : Int) (R : List Int) (C : Int), R.length ≤ 4000000 ∧
    (∀ (w : World) (rv : Value), Sl3 w rv l → Calls Try.prog 16 #[.agg #[.int .i64 sy, .int .i64 st, rv], .int .i64 at_, .agg #[.int .i64 a, .int .i64 b, .int .i64 d]] w (RetMC w RS RT R C)) ∧
    (∀ (w : World) (rv : Value), Sl3 w rv l → Calls Try.prog 19 #[.agg #[.int .i64 sy, .int .i64 st, rv], .int .i64 at_, .agg #[.int .i64 a, .int .i64 b, .int .i64 d]] w (RetMC w RS RT R C)) := by
  cases hv : validB sy st l with
  | false => exact ⟨0, 0, [], 1, by simp, fun w rv h => specSetRule_inv sy st l at_ a b d hv w rv h, fun w rv h => implSetRule_inv sy st l at_ a b d hv w rv h⟩
  | true =>
    obtain ⟨s1, s2, s3, s4⟩ := validB_true hv
    have hp := prod_ms s1 s2
    have hll : l.length ≤ 1000000 := by omega
    cases hi : inB at_ 0 (((l.length / 3 : Nat) : Int) - 1) with
    | false => exact ⟨0, 0, [], 2, by simp, fun w rv h => specSetRule_range sy st l at_ a b d hv hi hll w rv h, fun w rv h => implSetRule_range sy st l at_ a b d hv hi hll w rv h⟩
    | true =>
      cases hu : ruleB sy st a b d with
      | false => exact ⟨0, 0, [], 7, by simp, fun w rv h => specSetRule_order sy st l at_ a b d hv hi hu hll w rv h, fun w rv h => implSetRule_order sy st l at_ a b d hv hi hu hll w rv h⟩
      | true =>
        obtain ⟨k, rfl⟩ := Int.eq_ofNat_of_zero_le (inB_true.1 hi).1
        exact ⟨sy, st, _, 0, by simp; omega, fun w rv h => specSetRule_ok sy st l k a b d hv hi hu hll w rv h, fun w rv h => implSetRule_ok sy st l k a b d hv hi hu hll w rv h⟩
end Go.Proofs.Ytanjpkcacgjgfaa
