/- StartConfig: the reference and the program give the same results. No condition beyond the stated bounds. -/
import Derived.Test.YtanjpkcacgjgfaaMConf2
import Derived.Test.YtanjpkcacgjgfaaMMirror
import Derived.Test.YtanjpkcacgjgfaaNat1
import Derived.Test.YtanjpkcacgjgfaaRanks
namespace Go.Proofs.Ytanjpkcacgjgfaa
open Go.RowKit
theorem l00Own_st (v : Value) (l : List Int) (w : World) (h : Sl w v l) (hn : l.length ≤ 4000000) :
    Calls Try.prog 127 #[v] w (RetOwn w l) := by
  have HO := Lib.hid (Owns.empty w w.heap.size (Nat.le_refl _))
  have hB0 : Below w.heap.size w (w.alloc (.cells #[] 2)) := (Below.refl _ _).alloc (Nat.le_refl _) _
  have HS := Lib.hid h
  clear h
  go_enter Try.func127, Try.ntmps127
  go_wp2_with (at_builtin; refine wpList_cat rfl _ _ rfl w.heap.size _ [] rfl HO.out _ l rfl (HS.out.next hB0) (by simp; omega) (by simp) ?_; intro v1 w1 o1 hg1 _)
  have hB1 := hB0.grown hg1 (by simp) (fun k hk => (HO.out.lt k hk).1)
  go_wp2
  go_ret
  exact ⟨_, rfl, by simpa using o1, hB1⟩
theorem Sl.head {w : World} {A : Option Addr} {c k : Nat} {l : List Int} (hr : Ints w w.heap.size A l.length l) (hlc : l.length ≤ c) (hcm : c ≤ maxLen) (hk : k ≤ l.length) : Sl w (.slice A k c) (l.take k) := Sl.of (hr.take hk) (by omega) hcm
theorem l05Trim_any (v : Value) (l : List Int) (w : World) (h : Sl w v l) (hn : l.length ≤ 1000000) :
    Calls Try.prog 124 #[v] w (RetOwn w (trim l)) := by
  obtain ⟨A, c, rfl, hlc, hcm, hr⟩ := h
  have HR := Lib.hid hr
  have HCM := Lib.hid hcm
  clear hr
  unfold maxLen at hcm
  have htl := trim_len l
  have HT : Hid (Sl w (.slice A (trim l).length c) (trim l)) := Lib.hid (by have h := Sl.head HR.out hlc HCM.out (trim_len l); rwa [← trim_take] at h)
  go_enter Try.func124, Try.ntmps124
  go_wp2_with fail
  go_loop [3] (fun t => ∃ k : Nat, k ≤ l.length ∧ Hid (trim (l.take k) = trim l) ∧ t = .int .i64 k) (fun t => (intOf t).toNat)
  case atStart => exact ⟨l.length, Nat.le_refl _, by rw [List.take_length]; exact Lib.hid rfl, rfl⟩
  case round =>
    obtain ⟨k, hk, H, rfl⟩ := hrel
    by_cases h0 : 0 < k
    · obtain ⟨j, rfl⟩ : ∃ j, k = j + 1 := ⟨k - 1, by omega⟩
      have hj : j < l.length := by omega
      obtain ⟨ad, rfl, hb1, hc1⟩ := HR.out.at_ hj
      by_cases hz : geti l j = 0
      · have hzb : (geti l j == 0) = true := by simpa using hz
        have HN : Hid (trim (l.take j) = trim l) := Lib.hid (by rw [← H.out, trim_step hj hz])
        clear hz
        go_wp2_with fail
        go_round
        case rel => exact ⟨j, by omega, HN, by go_num⟩
        case measure => simp [intOf] <;> omega
      · have hzb : (geti l j == 0) = false := by simpa using hz
        have HN : Hid (trim l = l.take (j + 1)) := Lib.hid (by rw [← H.out, trim_stop hj hz])
        have HT2 : Hid (Sl w (.slice (some ad) (j + 1) c) (l.take (j + 1))) := Lib.hid (Sl.head HR.out hlc HCM.out (by omega))
        have hjc : j + 1 ≤ c := by omega
        clear hz
        go_wp2_with fail
        refine (l00Own_st _ _ _ HT2.out (by simp; omega)).mono ?_
        rintro e w1 ⟨r, rfl, o1, hb1⟩
        go_wp2_with fail
        go_ret
        exact ⟨r, rfl, by rw [HN.out]; exact o1, hb1⟩
    · obtain rfl : k = 0 := by omega
      have HN : Hid (trim l = l.take 0) := Lib.hid (by rw [← H.out]; rfl)
      have HT2 : Hid (Sl w (.slice A 0 c) (l.take 0)) := Lib.hid (Sl.head HR.out hlc HCM.out (by omega))
      have hd : decide ((0 : Int) < ((0 : Nat) : Int)) = false := by simp
      go_wp2_with fail
      refine (l00Own_st _ _ _ HT2.out (by simp)).mono ?_
      rintro e w1 ⟨r, rfl, o1, hb1⟩
      go_wp2_with fail
      go_ret
      exact ⟨r, rfl, by rw [HN.out]; exact o1, hb1⟩
theorem l05Start_any (v : Value) (l : List Int) (w : World) (h : Sl w v l) (hn : l.length ≤ 1000000) :
    Calls Try.prog 74 #[v] w (RetC w 0 [] (trim l)) := by
  have HS := Lib.hid h
  have hB2 := below_two w (.cells #[.int .i64 0, .slice none 0 0, .slice none 0 0] 41) (.cells #[] 2)
  have HO := Lib.hid (Owns.empty (w.alloc (.cells #[.int .i64 0, .slice none 0 0, .slice none 0 0] 41)) (w.heap.size + 1) (by simp))
  simp only [World.size_alloc] at HO
  clear h
  go_enter Try.func74, Try.ntmps74
  go_wp2_with fail
  refine (l05Trim_any _ l _ (HS.out.next hB2) hn).mono ?_
  rintro e w1 ⟨r, rfl, o1, hb1⟩
  have hh := heap_two hb1
  obtain ⟨z0, z1, z2, zf0, zf1, zf2⟩ := Box.of hh.1
  have HO1 := Lib.hid (HO.out.next hb1)
  have hB1 := hB2.trans (hb1.mono (by simp; omega))
  have hz1 : w.heap.size + 2 ≤ w1.heap.size := by have := hb1.size; simp at this; omega
  obtain ⟨A1, c1, rfl, _, _, hq1⟩ := o1.sl
  clear hq1 hh
  go_wp2_with fail
  refine bodyPost_ret (v := .agg #[.int .i64 0, .slice (some ⟨w.heap.size + 1, 0, none⟩) 0 0, .slice A1 (trim l).length c1]) (by simp [results, Try.results74, go_sem, z0, z1, z2]) rfl ⟨_, _, rfl, ?_, ?_, ?_, ?_⟩
  · exact .inr ⟨rfl, _, rfl⟩
  · refine Fresh.lower (base := w.heap.size + 2) ?_ (by omega)
    refine Fresh.set (Fresh.set (Fresh.set ?_ (by simp) _) (by simp) _) (by simp) _
    refine .inl (o1.lower (by simp))
  · intro k hk; cases hk
  · refine Below.setCell (Below.setCell (Below.setCell ?_ (by simp) _) (by simp) _) (by simp) _
    exact hB1

set_option maxHeartbeats 1000000 in
theorem specStart_inv (sy st : Int) (m l : List Int) (hv : validB sy st m = false) (hn : l.length ≤ 1048576) (w : World) (mv v : Value) (hm : Sl3 w mv m) (h : Sl w v l) :
    Calls Try.prog 23 #[.agg #[.int .i64 sy, .int .i64 st, mv], v] w (RetCC w 0 [] [] 1) := by
  have HM := Lib.hid hm
  have HS := Lib.hid h
  obtain ⟨A, n, c, rfl, hnc, hcm, hr⟩ := hm
  obtain ⟨A2, c2, rfl, hlc2, hcm2, hr2⟩ := h
  clear hr hr2
  have HV := Lib.hid hv
  clear hv
  have HC1 := Lib.hid (C3.next (C3.made w (.int .i64 sy) (.int .i64 st) (.slice A n c) 30) (below_one _ (.cells #[.int .i64 0, .slice none 0 0, .slice none 0 0] 41)))
  go_enter Try.func23, Try.ntmps23
  go_wp2_with fail
  refine (l05Is_any _ sy st _ m _ HC1.out (HM.out.next (below_two _ _ _))).mono ?_
  rintro e w1 ⟨rfl, hb⟩
  have hB1 := (below_two w _ _).trans (hb.mono (by simp; omega))
  have hz : w.heap.size + 2 ≤ w1.heap.size := by have := hb.size; simp at this; omega
  have hh := heap_two hb
  have HBM := Lib.hid (Box.of hh.1)
  have HBZ := Lib.hid (Box.of hh.2)
  clear hh
  rw [HV.out]
  obtain ⟨m0, m1, m2, mf0, mf1, mf2⟩ := HBM.out
  obtain ⟨z0, z1, z2, zf0, zf1, zf2⟩ := HBZ.out
  go_wp2_with fail
  refine bodyPost_ret (v := .tuple #[.agg #[.int .i64 0, .slice none 0 0, .slice none 0 0], .int .i64 1]) (by simp [results, Try.results23, go_sem, z0, z1, z2]) rfl ⟨_, _, rfl, Fresh.nil_ _ _, Fresh.nil_ _ _, (fun k hk => by cases hk), ?_⟩
  repeat refine Below.setCell ?_ (by first | (simp; done) | (simp; omega)) _
  exact hB1
set_option maxHeartbeats 1000000 in
theorem specStart_word (sy st : Int) (m l : List Int) (hv : validB sy st m = true) (hw : wordB l = false) (hn : l.length ≤ 1048576) (w : World) (mv v : Value) (hm : Sl3 w mv m) (h : Sl w v l) :
    Calls Try.prog 23 #[.agg #[.int .i64 sy, .int .i64 st, mv], v] w (RetCC w 0 [] [] 1) := by
  have HM := Lib.hid hm
  have HS := Lib.hid h
  obtain ⟨A, n, c, rfl, hnc, hcm, hr⟩ := hm
  obtain ⟨A2, c2, rfl, hlc2, hcm2, hr2⟩ := h
  clear hr hr2
  have HV := Lib.hid hv
  have HW := Lib.hid hw
  clear hv hw
  have HC1 := Lib.hid (C3.next (C3.made w (.int .i64 sy) (.int .i64 st) (.slice A n c) 30) (below_one _ (.cells #[.int .i64 0, .slice none 0 0, .slice none 0 0] 41)))
  go_enter Try.func23, Try.ntmps23
  go_wp2_with fail
  refine (l05Is_any _ sy st _ m _ HC1.out (HM.out.next (below_two _ _ _))).mono ?_
  rintro e w1 ⟨rfl, hb⟩
  have hB1 := (below_two w _ _).trans (hb.mono (by simp; omega))
  have hz : w.heap.size + 2 ≤ w1.heap.size := by have := hb.size; simp at this; omega
  have hh := heap_two hb
  have HBM := Lib.hid (Box.of hh.1)
  have HBZ := Lib.hid (Box.of hh.2)
  clear hh
  rw [HV.out]
  obtain ⟨m0, m1, m2, mf0, mf1, mf2⟩ := HBM.out
  obtain ⟨z0, z1, z2, zf0, zf1, zf2⟩ := HBZ.out
  go_wp2_with fail
  refine (l03Is_any _ _ _ (HS.out.next hB1)).mono ?_
  rintro e _ ⟨rfl, rfl⟩
  rw [HW.out]
  go_wp2_with fail
  refine bodyPost_ret (v := .tuple #[.agg #[.int .i64 0, .slice none 0 0, .slice none 0 0], .int .i64 1]) (by simp [results, Try.results23, go_sem, z0, z1, z2]) rfl ⟨_, _, rfl, Fresh.nil_ _ _, Fresh.nil_ _ _, (fun k hk => by cases hk), ?_⟩
  repeat refine Below.setCell ?_ (by first | (simp; done) | (simp; omega)) _
  exact hB1
set_option maxHeartbeats 1000000 in
theorem specStart_range (sy st : Int) (m l : List Int) (hv : validB sy st m = true) (hw : wordB l = true) (ho : overB l sy = false) (hn : l.length ≤ 1048576) (w : World) (mv v : Value) (hm : Sl3 w mv m) (h : Sl w v l) :
    Calls Try.prog 23 #[.agg #[.int .i64 sy, .int .i64 st, mv], v] w (RetCC w 0 [] [] 2) := by
  have HM := Lib.hid hm
  have HS := Lib.hid h
  obtain ⟨A, n, c, rfl, hnc, hcm, hr⟩ := hm
  obtain ⟨A2, c2, rfl, hlc2, hcm2, hr2⟩ := h
  clear hr hr2
  obtain ⟨⟨s1, s2⟩, ⟨s3, s4⟩, _, _⟩ := validB_true hv
  have HO := Lib.hid ho
  have HV := Lib.hid hv
  have HW := Lib.hid hw
  clear hv hw ho
  have HC1 := Lib.hid (C3.next (C3.made w (.int .i64 sy) (.int .i64 st) (.slice A n c) 30) (below_one _ (.cells #[.int .i64 0, .slice none 0 0, .slice none 0 0] 41)))
  go_enter Try.func23, Try.ntmps23
  go_wp2_with fail
  refine (l05Is_any _ sy st _ m _ HC1.out (HM.out.next (below_two _ _ _))).mono ?_
  rintro e w1 ⟨rfl, hb⟩
  have hB1 := (below_two w _ _).trans (hb.mono (by simp; omega))
  have hz : w.heap.size + 2 ≤ w1.heap.size := by have := hb.size; simp at this; omega
  have hh := heap_two hb
  have HBM := Lib.hid (Box.of hh.1)
  have HBZ := Lib.hid (Box.of hh.2)
  clear hh
  rw [HV.out]
  obtain ⟨m0, m1, m2, mf0, mf1, mf2⟩ := HBM.out
  obtain ⟨z0, z1, z2, zf0, zf1, zf2⟩ := HBZ.out
  go_wp2_with fail
  refine (l03Is_any _ _ _ (HS.out.next hB1)).mono ?_
  rintro e _ ⟨rfl, rfl⟩
  rw [HW.out]
  go_wp2_with fail
  refine (l03Over_any _ _ _ _ (HS.out.next hB1)).mono ?_
  rintro e _ ⟨rfl, rfl⟩
  rw [HO.out]
  go_wp2_with fail
  refine bodyPost_ret (v := .tuple #[.agg #[.int .i64 0, .slice none 0 0, .slice none 0 0], .int .i64 2]) (by simp [results, Try.results23, go_sem, z0, z1, z2]) rfl ⟨_, _, rfl, Fresh.nil_ _ _, Fresh.nil_ _ _, (fun k hk => by cases hk), ?_⟩
  repeat refine Below.setCell ?_ (by first | (simp; done) | (simp; omega)) _
  exact hB1
set_option maxHeartbeats 1000000 in
theorem specStart_full (sy st : Int) (m l : List Int) (hv : validB sy st m = true) (hw : wordB l = true) (ho : overB l sy = true) (ht : 200 < (trim l).length) (hn : l.length ≤ 1048576) (w : World) (mv v : Value) (hm : Sl3 w mv m) (h : Sl w v l) :
    Calls Try.prog 23 #[.agg #[.int .i64 sy, .int .i64 st, mv], v] w (RetCC w 0 [] [] 5) := by
  have HM := Lib.hid hm
  have HS := Lib.hid h
  obtain ⟨A, n, c, rfl, hnc, hcm, hr⟩ := hm
  obtain ⟨A2, c2, rfl, hlc2, hcm2, hr2⟩ := h
  clear hr hr2
  obtain ⟨⟨s1, s2⟩, ⟨s3, s4⟩, _, _⟩ := validB_true hv
  have HO := Lib.hid ho
  have hl4 := (wordB_true.1 hw).2
  have HV := Lib.hid hv
  have HW := Lib.hid hw
  clear hv hw ho
  have t1 : (200 : Int) < ((trim l).length : Int) := by omega
  have HC1 := Lib.hid (C3.next (C3.made w (.int .i64 sy) (.int .i64 st) (.slice A n c) 30) (below_one _ (.cells #[.int .i64 0, .slice none 0 0, .slice none 0 0] 41)))
  go_enter Try.func23, Try.ntmps23
  go_wp2_with fail
  refine (l05Is_any _ sy st _ m _ HC1.out (HM.out.next (below_two _ _ _))).mono ?_
  rintro e w1 ⟨rfl, hb⟩
  have hB1 := (below_two w _ _).trans (hb.mono (by simp; omega))
  have hz : w.heap.size + 2 ≤ w1.heap.size := by have := hb.size; simp at this; omega
  have hh := heap_two hb
  have HBM := Lib.hid (Box.of hh.1)
  have HBZ := Lib.hid (Box.of hh.2)
  clear hh
  rw [HV.out]
  obtain ⟨m0, m1, m2, mf0, mf1, mf2⟩ := HBM.out
  obtain ⟨z0, z1, z2, zf0, zf1, zf2⟩ := HBZ.out
  go_wp2_with fail
  refine (l03Is_any _ _ _ (HS.out.next hB1)).mono ?_
  rintro e _ ⟨rfl, rfl⟩
  rw [HW.out]
  go_wp2_with fail
  refine (l03Over_any _ _ _ _ (HS.out.next hB1)).mono ?_
  rintro e _ ⟨rfl, rfl⟩
  rw [HO.out]
  go_wp2_with fail
  refine (l05Start_any _ _ _ (HS.out.next hB1) (by omega)).mono ?_
  rintro e w2 ⟨ra, rb, rfl, oa, ob, hap, hb2⟩
  have hB2 := below_next hB1 hb2
  have hz2 := hb2.size
  obtain ⟨A5, c5, rfl, _, hc5, hq5⟩ := oa.sl
  obtain ⟨A6, c6, rfl, _, hc6, hq6⟩ := ob.sl
  unfold maxLen at hc6
  have HBZ2 := Lib.hid (HBZ.out.next hb2)
  clear m0 m1 m2 mf0 mf1 mf2 z0 z1 z2 zf0 zf1 zf2 hq6
  have HBZ3 := Lib.hid (HBZ2.out.next (below_one w2 (.cells #[.int .i64 0, .slice A5 ([] : List Int).length c5, .slice A6 (trim l).length c6] 41)))
  have hB3 := hB2.trans ((below_one w2 (.cells #[.int .i64 0, .slice A5 ([] : List Int).length c5, .slice A6 (trim l).length c6] 41)).mono hB2.size)
  have hX := Box.of (heap_alloc_new w2 (.cells #[.int .i64 0, .slice A5 ([] : List Int).length c5, .slice A6 (trim l).length c6] 41))
  have ob2 := (ob.lower (base' := w.heap.size + 2) (by omega)).next (below_one w2 (.cells #[.int .i64 0, .slice A5 ([] : List Int).length c5, .slice A6 (trim l).length c6] 41))
  have oa2 := (oa.lower (base' := w.heap.size + 2) (by omega)).next (below_one w2 (.cells #[.int .i64 0, .slice A5 ([] : List Int).length c5, .slice A6 (trim l).length c6] 41))
  clear hq5 hc5
  have ne1 : ¬ w.heap.size + 1 = w2.heap.size := by omega
  have ne2 : ¬ w2.heap.size = w.heap.size + 1 := by omega
  go_upto_region 6 with fail
  obtain ⟨z0, z1, z2, zf0, zf1, zf2⟩ := HBZ3.out
  obtain ⟨x0, x1, x2, xf0, xf1, xf2⟩ := hX
  try simp only [List.length_nil] at *
  generalize w2.alloc (.cells #[.int .i64 0, .slice A5 0 c5, .slice A6 (trim l).length c6] 41) = W3 at *
  generalize w2.heap.size = bx at *
  go_wp2_with fail
  refine bodyPost_ret (v := .tuple #[.agg #[.int .i64 0, .slice none 0 0, .slice none 0 0], .int .i64 5]) (by simp [results, Try.results23, go_sem, z0, z1, z2, ne1, ne2]) rfl ⟨_, _, rfl, Fresh.nil_ _ _, Fresh.nil_ _ _, (fun k hk => by cases hk), ?_⟩
  repeat refine Below.setCell ?_ (by first | (simp; done) | (simp; omega)) _
  exact hB3
set_option maxHeartbeats 1000000 in
theorem specStart_ok (sy st : Int) (m l : List Int) (hv : validB sy st m = true) (hw : wordB l = true) (ho : overB l sy = true) (ht : ¬ 200 < (trim l).length) (hn : l.length ≤ 1048576) (w : World) (mv v : Value) (hm : Sl3 w mv m) (h : Sl w v l) :
    Calls Try.prog 23 #[.agg #[.int .i64 sy, .int .i64 st, mv], v] w (RetCC w 0 [] (trim l) 0) := by
  have HM := Lib.hid hm
  have HS := Lib.hid h
  obtain ⟨A, n, c, rfl, hnc, hcm, hr⟩ := hm
  obtain ⟨A2, c2, rfl, hlc2, hcm2, hr2⟩ := h
  clear hr hr2
  obtain ⟨⟨s1, s2⟩, ⟨s3, s4⟩, _, _⟩ := validB_true hv
  have HO := Lib.hid ho
  have hl4 := (wordB_true.1 hw).2
  have HV := Lib.hid hv
  have HW := Lib.hid hw
  clear hv hw ho
  have t1 : decide ((200 : Int) < ((trim l).length : Int)) = false := decide_eq_false (by omega)
  have t2 : decide (200 < (trim l).length) = false := decide_eq_false ht
  have HC1 := Lib.hid (C3.next (C3.made w (.int .i64 sy) (.int .i64 st) (.slice A n c) 30) (below_one _ (.cells #[.int .i64 0, .slice none 0 0, .slice none 0 0] 41)))
  go_enter Try.func23, Try.ntmps23
  go_wp2_with fail
  refine (l05Is_any _ sy st _ m _ HC1.out (HM.out.next (below_two _ _ _))).mono ?_
  rintro e w1 ⟨rfl, hb⟩
  have hB1 := (below_two w _ _).trans (hb.mono (by simp; omega))
  have hz : w.heap.size + 2 ≤ w1.heap.size := by have := hb.size; simp at this; omega
  have hh := heap_two hb
  have HBM := Lib.hid (Box.of hh.1)
  have HBZ := Lib.hid (Box.of hh.2)
  clear hh
  rw [HV.out]
  obtain ⟨m0, m1, m2, mf0, mf1, mf2⟩ := HBM.out
  obtain ⟨z0, z1, z2, zf0, zf1, zf2⟩ := HBZ.out
  go_wp2_with fail
  refine (l03Is_any _ _ _ (HS.out.next hB1)).mono ?_
  rintro e _ ⟨rfl, rfl⟩
  rw [HW.out]
  go_wp2_with fail
  refine (l03Over_any _ _ _ _ (HS.out.next hB1)).mono ?_
  rintro e _ ⟨rfl, rfl⟩
  rw [HO.out]
  go_wp2_with fail
  refine (l05Start_any _ _ _ (HS.out.next hB1) (by omega)).mono ?_
  rintro e w2 ⟨ra, rb, rfl, oa, ob, hap, hb2⟩
  have hB2 := below_next hB1 hb2
  have hz2 := hb2.size
  obtain ⟨A5, c5, rfl, _, hc5, hq5⟩ := oa.sl
  obtain ⟨A6, c6, rfl, _, hc6, hq6⟩ := ob.sl
  unfold maxLen at hc6
  have HBZ2 := Lib.hid (HBZ.out.next hb2)
  clear m0 m1 m2 mf0 mf1 mf2 z0 z1 z2 zf0 zf1 zf2 hq6
  have HBZ3 := Lib.hid (HBZ2.out.next (below_one w2 (.cells #[.int .i64 0, .slice A5 ([] : List Int).length c5, .slice A6 (trim l).length c6] 41)))
  have hB3 := hB2.trans ((below_one w2 (.cells #[.int .i64 0, .slice A5 ([] : List Int).length c5, .slice A6 (trim l).length c6] 41)).mono hB2.size)
  have hX := Box.of (heap_alloc_new w2 (.cells #[.int .i64 0, .slice A5 ([] : List Int).length c5, .slice A6 (trim l).length c6] 41))
  have ob2 := (ob.lower (base' := w.heap.size + 2) (by omega)).next (below_one w2 (.cells #[.int .i64 0, .slice A5 ([] : List Int).length c5, .slice A6 (trim l).length c6] 41))
  have oa2 := (oa.lower (base' := w.heap.size + 2) (by omega)).next (below_one w2 (.cells #[.int .i64 0, .slice A5 ([] : List Int).length c5, .slice A6 (trim l).length c6] 41))
  clear hq5 hc5
  have ne1 : ¬ w.heap.size + 1 = w2.heap.size := by omega
  have ne2 : ¬ w2.heap.size = w.heap.size + 1 := by omega
  go_upto_region 6 with fail
  obtain ⟨z0, z1, z2, zf0, zf1, zf2⟩ := HBZ3.out
  obtain ⟨x0, x1, x2, xf0, xf1, xf2⟩ := hX
  try simp only [List.length_nil] at *
  generalize w2.alloc (.cells #[.int .i64 0, .slice A5 0 c5, .slice A6 (trim l).length c6] 41) = W3 at *
  generalize w2.heap.size = bx at *
  go_wp2_with fail
  refine bodyPost_ret (v := .tuple #[.agg #[.int .i64 0, .slice A5 0 c5, .slice A6 (trim l).length c6], .int .i64 0]) (by simp [results, Try.results23, go_sem, z0, z1, z2, ne1, ne2]) rfl ⟨_, _, rfl, ?_, ?_, ?_, ?_⟩
  · refine Fresh.lower (base := w.heap.size + 2) ?_ (by omega)
    refine Fresh.set (Fresh.set (Fresh.set ?_ (by simp) _) (by simp) _) (by simp) _
    exact oa2
  · refine Fresh.lower (base := w.heap.size + 2) ?_ (by omega)
    refine Fresh.set (Fresh.set (Fresh.set ?_ (by simp) _) (by simp) _) (by simp) _
    exact ob2
  · exact hap
  · repeat refine Below.setCell ?_ (by first | (simp; done) | (simp; omega)) _
    exact hB3
set_option maxHeartbeats 1000000 in
theorem implStart_inv (sy st : Int) (m l : List Int) (hv : validB sy st m = false) (hn : l.length ≤ 1048576) (w : World) (mv v : Value) (hm : Sl3 w mv m) (h : Sl w v l) :
    Calls Try.prog 25 #[.agg #[.int .i64 sy, .int .i64 st, mv], v] w (RetCC w 0 [] [] 1) := by
  have HM := Lib.hid hm
  have HS := Lib.hid h
  obtain ⟨A, n, c, rfl, hnc, hcm, hr⟩ := hm
  obtain ⟨A2, c2, rfl, hlc2, hcm2, hr2⟩ := h
  clear hr hr2
  have HV := Lib.hid hv
  clear hv
  go_enter Try.func25, Try.ntmps25
  go_wp2_with fail
  refine (implValidMachine_any sy st _ m _ (HM.out.next (below_two _ _ _))).mono ?_
  rintro e w1 ⟨rfl, hb⟩
  have hB1 := (below_two w _ _).trans (hb.mono (by simp; omega))
  have hz : w.heap.size + 2 ≤ w1.heap.size := by have := hb.size; simp at this; omega
  have hh := heap_two hb
  have HBM := Lib.hid (Box.of hh.1)
  have HBZ := Lib.hid (Box.of hh.2)
  clear hh
  rw [HV.out]
  obtain ⟨m0, m1, m2, mf0, mf1, mf2⟩ := HBM.out
  obtain ⟨z0, z1, z2, zf0, zf1, zf2⟩ := HBZ.out
  go_wp2_with fail
  refine bodyPost_ret (v := .tuple #[.agg #[.int .i64 0, .slice none 0 0, .slice none 0 0], .int .i64 1]) (by simp [results, Try.results25, go_sem, z0, z1, z2]) rfl ⟨_, _, rfl, Fresh.nil_ _ _, Fresh.nil_ _ _, (fun k hk => by cases hk), ?_⟩
  repeat refine Below.setCell ?_ (by first | (simp; done) | (simp; omega)) _
  exact hB1
set_option maxHeartbeats 1000000 in
theorem implStart_word (sy st : Int) (m l : List Int) (hv : validB sy st m = true) (hw : wordB l = false) (hn : l.length ≤ 1048576) (w : World) (mv v : Value) (hm : Sl3 w mv m) (h : Sl w v l) :
    Calls Try.prog 25 #[.agg #[.int .i64 sy, .int .i64 st, mv], v] w (RetCC w 0 [] [] 1) := by
  have HM := Lib.hid hm
  have HS := Lib.hid h
  obtain ⟨A, n, c, rfl, hnc, hcm, hr⟩ := hm
  obtain ⟨A2, c2, rfl, hlc2, hcm2, hr2⟩ := h
  clear hr hr2
  have HV := Lib.hid hv
  have HW := Lib.hid hw
  clear hv hw
  go_enter Try.func25, Try.ntmps25
  go_wp2_with fail
  refine (implValidMachine_any sy st _ m _ (HM.out.next (below_two _ _ _))).mono ?_
  rintro e w1 ⟨rfl, hb⟩
  have hB1 := (below_two w _ _).trans (hb.mono (by simp; omega))
  have hz : w.heap.size + 2 ≤ w1.heap.size := by have := hb.size; simp at this; omega
  have hh := heap_two hb
  have HBM := Lib.hid (Box.of hh.1)
  have HBZ := Lib.hid (Box.of hh.2)
  clear hh
  rw [HV.out]
  obtain ⟨m0, m1, m2, mf0, mf1, mf2⟩ := HBM.out
  obtain ⟨z0, z1, z2, zf0, zf1, zf2⟩ := HBZ.out
  go_wp2_with fail
  refine (implIsWord_any _ _ _ (HS.out.next hB1)).mono ?_
  rintro e _ ⟨rfl, rfl⟩
  rw [HW.out]
  go_wp2_with fail
  refine bodyPost_ret (v := .tuple #[.agg #[.int .i64 0, .slice none 0 0, .slice none 0 0], .int .i64 1]) (by simp [results, Try.results25, go_sem, z0, z1, z2]) rfl ⟨_, _, rfl, Fresh.nil_ _ _, Fresh.nil_ _ _, (fun k hk => by cases hk), ?_⟩
  repeat refine Below.setCell ?_ (by first | (simp; done) | (simp; omega)) _
  exact hB1
set_option maxHeartbeats 1000000 in
theorem implStart_range (sy st : Int) (m l : List Int) (hv : validB sy st m = true) (hw : wordB l = true) (ho : overB l sy = false) (hn : l.length ≤ 1048576) (w : World) (mv v : Value) (hm : Sl3 w mv m) (h : Sl w v l) :
    Calls Try.prog 25 #[.agg #[.int .i64 sy, .int .i64 st, mv], v] w (RetCC w 0 [] [] 2) := by
  have HM := Lib.hid hm
  have HS := Lib.hid h
  obtain ⟨A, n, c, rfl, hnc, hcm, hr⟩ := hm
  obtain ⟨A2, c2, rfl, hlc2, hcm2, hr2⟩ := h
  clear hr hr2
  obtain ⟨⟨s1, s2⟩, ⟨s3, s4⟩, _, _⟩ := validB_true hv
  have HO : Hid (allIn l 0 (sy - 1) = false) := Lib.hid (by rw [over_all (wordB_true.1 hw).1]; exact ho)
  have HV := Lib.hid hv
  have HW := Lib.hid hw
  clear hv hw ho
  go_enter Try.func25, Try.ntmps25
  go_wp2_with fail
  refine (implValidMachine_any sy st _ m _ (HM.out.next (below_two _ _ _))).mono ?_
  rintro e w1 ⟨rfl, hb⟩
  have hB1 := (below_two w _ _).trans (hb.mono (by simp; omega))
  have hz : w.heap.size + 2 ≤ w1.heap.size := by have := hb.size; simp at this; omega
  have hh := heap_two hb
  have HBM := Lib.hid (Box.of hh.1)
  have HBZ := Lib.hid (Box.of hh.2)
  clear hh
  rw [HV.out]
  obtain ⟨m0, m1, m2, mf0, mf1, mf2⟩ := HBM.out
  obtain ⟨z0, z1, z2, zf0, zf1, zf2⟩ := HBZ.out
  go_wp2_with fail
  refine (implIsWord_any _ _ _ (HS.out.next hB1)).mono ?_
  rintro e _ ⟨rfl, rfl⟩
  rw [HW.out]
  go_wp2_with fail
  refine (allWithin_any _ _ _ _ _ (HS.out.next hB1)).mono ?_
  rintro e _ ⟨rfl, rfl⟩
  rw [HO.out]
  go_wp2_with fail
  refine bodyPost_ret (v := .tuple #[.agg #[.int .i64 0, .slice none 0 0, .slice none 0 0], .int .i64 2]) (by simp [results, Try.results25, go_sem, z0, z1, z2]) rfl ⟨_, _, rfl, Fresh.nil_ _ _, Fresh.nil_ _ _, (fun k hk => by cases hk), ?_⟩
  repeat refine Below.setCell ?_ (by first | (simp; done) | (simp; omega)) _
  exact hB1
set_option maxHeartbeats 1000000 in
theorem implStart_full (sy st : Int) (m l : List Int) (hv : validB sy st m = true) (hw : wordB l = true) (ho : overB l sy = true) (ht : 200 < (trim l).length) (hn : l.length ≤ 1048576) (w : World) (mv v : Value) (hm : Sl3 w mv m) (h : Sl w v l) :
    Calls Try.prog 25 #[.agg #[.int .i64 sy, .int .i64 st, mv], v] w (RetCC w 0 [] [] 5) := by
  have HM := Lib.hid hm
  have HS := Lib.hid h
  obtain ⟨A, n, c, rfl, hnc, hcm, hr⟩ := hm
  obtain ⟨A2, c2, rfl, hlc2, hcm2, hr2⟩ := h
  clear hr hr2
  obtain ⟨⟨s1, s2⟩, ⟨s3, s4⟩, _, _⟩ := validB_true hv
  have HO : Hid (allIn l 0 (sy - 1) = true) := Lib.hid (by rw [over_all (wordB_true.1 hw).1]; exact ho)
  have hl4 := (wordB_true.1 hw).2
  have HV := Lib.hid hv
  have HW := Lib.hid hw
  clear hv hw ho
  have t1 : (200 : Int) < ((trim l).length : Int) := by omega
  go_enter Try.func25, Try.ntmps25
  go_wp2_with fail
  refine (implValidMachine_any sy st _ m _ (HM.out.next (below_two _ _ _))).mono ?_
  rintro e w1 ⟨rfl, hb⟩
  have hB1 := (below_two w _ _).trans (hb.mono (by simp; omega))
  have hz : w.heap.size + 2 ≤ w1.heap.size := by have := hb.size; simp at this; omega
  have hh := heap_two hb
  have HBM := Lib.hid (Box.of hh.1)
  have HBZ := Lib.hid (Box.of hh.2)
  clear hh
  rw [HV.out]
  obtain ⟨m0, m1, m2, mf0, mf1, mf2⟩ := HBM.out
  obtain ⟨z0, z1, z2, zf0, zf1, zf2⟩ := HBZ.out
  go_wp2_with fail
  refine (implIsWord_any _ _ _ (HS.out.next hB1)).mono ?_
  rintro e _ ⟨rfl, rfl⟩
  rw [HW.out]
  go_wp2_with fail
  refine (allWithin_any _ _ _ _ _ (HS.out.next hB1)).mono ?_
  rintro e _ ⟨rfl, rfl⟩
  rw [HO.out]
  go_wp2_with fail
  refine (clone_own _ _ _ (HS.out.next hB1) (by omega)).mono ?_
  rintro e w2 ⟨rb0, rfl, ob0, hb2⟩
  go_wp2_with fail
  refine (trimmed_own _ _ _ _ ob0).mono ?_
  rintro e w' ⟨⟨rb, rfl, ob1, _⟩, rfl⟩
  have ob : Fresh w2 w1.heap.size rb (trim l) := .inl ob1
  have hB2 := below_next hB1 hb2
  have hz2 := hb2.size
  obtain ⟨A6, c6, rfl, _, hc6, hq6⟩ := ob.sl
  unfold maxLen at hc6
  have HBZ2 := Lib.hid (HBZ.out.next hb2)
  clear m0 m1 m2 mf0 mf1 mf2 z0 z1 z2 zf0 zf1 zf2 hq6
  have HBZ3 := Lib.hid (HBZ2.out.next (below_one w2 (.cells #[.int .i64 0, .slice none 0 0, .slice A6 (trim l).length c6] 41)))
  have hB3 := hB2.trans ((below_one w2 (.cells #[.int .i64 0, .slice none 0 0, .slice A6 (trim l).length c6] 41)).mono hB2.size)
  have hX := Box.of (heap_alloc_new w2 (.cells #[.int .i64 0, .slice none 0 0, .slice A6 (trim l).length c6] 41))
  have ob2 := (ob.lower (base' := w.heap.size + 2) (by omega)).next (below_one w2 (.cells #[.int .i64 0, .slice none 0 0, .slice A6 (trim l).length c6] 41))
  have ne1 : ¬ w.heap.size + 1 = w2.heap.size := by omega
  have ne2 : ¬ w2.heap.size = w.heap.size + 1 := by omega
  go_upto_region 6 with fail
  obtain ⟨z0, z1, z2, zf0, zf1, zf2⟩ := HBZ3.out
  obtain ⟨x0, x1, x2, xf0, xf1, xf2⟩ := hX
  generalize w2.alloc (.cells #[.int .i64 0, .slice none 0 0, .slice A6 (trim l).length c6] 41) = W3 at *
  generalize w2.heap.size = bx at *
  go_wp2_with fail
  refine bodyPost_ret (v := .tuple #[.agg #[.int .i64 0, .slice none 0 0, .slice none 0 0], .int .i64 5]) (by simp [results, Try.results25, go_sem, z0, z1, z2, ne1, ne2]) rfl ⟨_, _, rfl, Fresh.nil_ _ _, Fresh.nil_ _ _, (fun k hk => by cases hk), ?_⟩
  repeat refine Below.setCell ?_ (by first | (simp; done) | (simp; omega)) _
  exact hB3
set_option maxHeartbeats 1000000 in
theorem implStart_ok (sy st : Int) (m l : List Int) (hv : validB sy st m = true) (hw : wordB l = true) (ho : overB l sy = true) (ht : ¬ 200 < (trim l).length) (hn : l.length ≤ 1048576) (w : World) (mv v : Value) (hm : Sl3 w mv m) (h : Sl w v l) :
    Calls Try.prog 25 #[.agg #[.int .i64 sy, .int .i64 st, mv], v] w (RetCC w 0 [] (trim l) 0) := by
  have HM := Lib.hid hm
  have HS := Lib.hid h
  obtain ⟨A, n, c, rfl, hnc, hcm, hr⟩ := hm
  obtain ⟨A2, c2, rfl, hlc2, hcm2, hr2⟩ := h
  clear hr hr2
  obtain ⟨⟨s1, s2⟩, ⟨s3, s4⟩, _, _⟩ := validB_true hv
  have HO : Hid (allIn l 0 (sy - 1) = true) := Lib.hid (by rw [over_all (wordB_true.1 hw).1]; exact ho)
  have hl4 := (wordB_true.1 hw).2
  have HV := Lib.hid hv
  have HW := Lib.hid hw
  clear hv hw ho
  have t1 : decide ((200 : Int) < ((trim l).length : Int)) = false := decide_eq_false (by omega)
  have t2 : decide (200 < (trim l).length) = false := decide_eq_false ht
  go_enter Try.func25, Try.ntmps25
  go_wp2_with fail
  refine (implValidMachine_any sy st _ m _ (HM.out.next (below_two _ _ _))).mono ?_
  rintro e w1 ⟨rfl, hb⟩
  have hB1 := (below_two w _ _).trans (hb.mono (by simp; omega))
  have hz : w.heap.size + 2 ≤ w1.heap.size := by have := hb.size; simp at this; omega
  have hh := heap_two hb
  have HBM := Lib.hid (Box.of hh.1)
  have HBZ := Lib.hid (Box.of hh.2)
  clear hh
  rw [HV.out]
  obtain ⟨m0, m1, m2, mf0, mf1, mf2⟩ := HBM.out
  obtain ⟨z0, z1, z2, zf0, zf1, zf2⟩ := HBZ.out
  go_wp2_with fail
  refine (implIsWord_any _ _ _ (HS.out.next hB1)).mono ?_
  rintro e _ ⟨rfl, rfl⟩
  rw [HW.out]
  go_wp2_with fail
  refine (allWithin_any _ _ _ _ _ (HS.out.next hB1)).mono ?_
  rintro e _ ⟨rfl, rfl⟩
  rw [HO.out]
  go_wp2_with fail
  refine (clone_own _ _ _ (HS.out.next hB1) (by omega)).mono ?_
  rintro e w2 ⟨rb0, rfl, ob0, hb2⟩
  go_wp2_with fail
  refine (trimmed_own _ _ _ _ ob0).mono ?_
  rintro e w' ⟨⟨rb, rfl, ob1, _⟩, rfl⟩
  have ob : Fresh w2 w1.heap.size rb (trim l) := .inl ob1
  have hB2 := below_next hB1 hb2
  have hz2 := hb2.size
  obtain ⟨A6, c6, rfl, _, hc6, hq6⟩ := ob.sl
  unfold maxLen at hc6
  have HBZ2 := Lib.hid (HBZ.out.next hb2)
  clear m0 m1 m2 mf0 mf1 mf2 z0 z1 z2 zf0 zf1 zf2 hq6
  have HBZ3 := Lib.hid (HBZ2.out.next (below_one w2 (.cells #[.int .i64 0, .slice none 0 0, .slice A6 (trim l).length c6] 41)))
  have hB3 := hB2.trans ((below_one w2 (.cells #[.int .i64 0, .slice none 0 0, .slice A6 (trim l).length c6] 41)).mono hB2.size)
  have hX := Box.of (heap_alloc_new w2 (.cells #[.int .i64 0, .slice none 0 0, .slice A6 (trim l).length c6] 41))
  have ob2 := (ob.lower (base' := w.heap.size + 2) (by omega)).next (below_one w2 (.cells #[.int .i64 0, .slice none 0 0, .slice A6 (trim l).length c6] 41))
  have ne1 : ¬ w.heap.size + 1 = w2.heap.size := by omega
  have ne2 : ¬ w2.heap.size = w.heap.size + 1 := by omega
  go_upto_region 6 with fail
  obtain ⟨z0, z1, z2, zf0, zf1, zf2⟩ := HBZ3.out
  obtain ⟨x0, x1, x2, xf0, xf1, xf2⟩ := hX
  generalize w2.alloc (.cells #[.int .i64 0, .slice none 0 0, .slice A6 (trim l).length c6] 41) = W3 at *
  generalize w2.heap.size = bx at *
  go_wp2_with fail
  refine bodyPost_ret (v := .tuple #[.agg #[.int .i64 0, .slice none 0 0, .slice A6 (trim l).length c6], .int .i64 0]) (by simp [results, Try.results25, go_sem, z0, z1, z2, ne1, ne2]) rfl ⟨_, _, rfl, ?_, ?_, ?_, ?_⟩
  · exact Fresh.nil_ _ _
  · refine Fresh.lower (base := w.heap.size + 2) ?_ (by omega)
    refine Fresh.set (Fresh.set (Fresh.set ?_ (by simp) _) (by simp) _) (by simp) _
    exact ob2
  · intro k hk; cases hk
  · repeat refine Below.setCell ?_ (by first | (simp; done) | (simp; omega)) _
    exact hB3
theorem bothStartConfig (sy st : Int) (m l : List Int) (_h : Fit m ∧ m.length ≤ 3145728 ∧ (-9223372036854775808 ≤ sy ∧ sy ≤ 9223372036854775807) ∧ (-9223372036854775808 ≤ st ∧ st ≤ 9223372036854775807)) (_f : Fit l) (hn : l.length ≤ 1048576) : ∃ (RS : Int) (R RR : List Int) (C : Int), R.length ≤ 4000000 ∧ RR.length ≤ 4000000 ∧
    (∀ (w : World) (mv v : Value), Sl3 w mv m → Sl w v l → Calls Try.prog 23 #[.agg #[.int .i64 sy, .int .i64 st, mv], v] w (RetCC w RS R RR C)) ∧
    (∀ (w : World) (mv v : Value), Sl3 w mv m → Sl w v l → Calls Try.prog 25 #[.agg #[.int .i64 sy, .int .i64 st, mv], v] w (RetCC w RS R RR C)) := by
  cases hv : validB sy st m with
  | false => exact ⟨0, [], [], 1, by simp, by simp, fun w mv v hm h => specStart_inv sy st m l hv hn w mv v hm h, fun w mv v hm h => implStart_inv sy st m l hv hn w mv v hm h⟩
  | true =>
    cases hw : wordB l with
    | false => exact ⟨0, [], [], 1, by simp, by simp, fun w mv v hm h => specStart_word sy st m l hv hw hn w mv v hm h, fun w mv v hm h => implStart_word sy st m l hv hw hn w mv v hm h⟩
    | true =>
      have hl4 := (wordB_true.1 hw).2
      have htl := trim_len l
      cases ho : overB l sy with
      | false => exact ⟨0, [], [], 2, by simp, by simp, fun w mv v hm h => specStart_range sy st m l hv hw ho hn w mv v hm h, fun w mv v hm h => implStart_range sy st m l hv hw ho hn w mv v hm h⟩
      | true =>
        by_cases ht : 200 < (trim l).length
        · exact ⟨0, [], [], 5, by simp, by simp, fun w mv v hm h => specStart_full sy st m l hv hw ho ht hn w mv v hm h, fun w mv v hm h => implStart_full sy st m l hv hw ho ht hn w mv v hm h⟩
        · exact ⟨0, [], trim l, 0, by simp, by omega, fun w mv v hm h => specStart_ok sy st m l hv hw ho ht hn w mv v hm h, fun w mv v hm h => implStart_ok sy st m l hv hw ho ht hn w mv v hm h⟩
end Go.Proofs.Ytanjpkcacgjgfaa
