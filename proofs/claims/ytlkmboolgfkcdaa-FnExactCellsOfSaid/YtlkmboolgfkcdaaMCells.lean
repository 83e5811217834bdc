/- CellsOf: what the law needs. No condition beyond the stated bounds. -/
import Derived.Test.YtlkmboolgfkcdaaMConf2
import Derived.Test.YtlkmboolgfkcdaaLists2
import Derived.Test.YtlkmboolgfkcdaaConcat
namespace Go.Proofs.Ytlkmboolgfkcdaa
open Go.RowKit
/-- The cells of a tape. -/
def cellsL (l r : List Int) : List Int := if r.length = 0 then l.reverse ++ r ++ [0] else l.reverse ++ r
set_option maxHeartbeats 1000000 in
theorem specCellsOf_bad (sy st s : Int) (mv va vb : Value) (ml l r : List Int) (w : World) (hm : Sl3 w mv ml) (ha : Sl w va l) (hb : Sl w vb r) (hv : vconfB sy st ml s l r = false) :
    Calls Try.prog 46 #[.agg #[.int .i64 sy, .int .i64 st, mv], .agg #[.int .i64 s, va, vb]] w (RetRowI w [] 0 1) := by
  have HM := Lib.hid hm
  have HA := Lib.hid ha
  have HB := Lib.hid hb
  have HC1 := Lib.hid (C3.next (C3.made w (.int .i64 sy) (.int .i64 st) mv 29) (below_one _ (.cells #[.int .i64 s, va, vb] 52)))
  have HC2 := Lib.hid (C3.made (w.alloc (.cells #[.int .i64 sy, .int .i64 st, mv] 29)) (.int .i64 s) va vb 52)
  simp only [World.size_alloc] at HC2
  clear hm ha hb
  cases hm : validB sy st ml with
  | false =>
    have HV := Lib.hid hm
    clear hm hv
    go_enter Try.func46, Try.ntmps46
    go_wp2_with fail
    refine (l05Is_any _ sy st mv ml _ HC1.out (HM.out.next (below_two _ _ _))).mono ?_
    rintro e w1 ⟨rfl, hb⟩
    rw [HV.out]
    go_wp2_with fail
    go_ret3
    exact ⟨_, rfl, Fresh.nil_ _ _, (below_two w _ _).trans (hb.mono (by simp; omega))⟩
  | true =>
    obtain ⟨⟨s1, s2⟩, ⟨s3, s4⟩, _, _⟩ := validB_true hm
    have HG : Hid (goodB sy st s l r = false) := Lib.hid (by unfold vconfB at hv; rw [hm] at hv; exact hv)
    have HV := Lib.hid hm
    clear hm hv
    go_enter Try.func46, Try.ntmps46
    go_wp2_with fail
    refine (l05Is_any _ sy st mv ml _ HC1.out (HM.out.next (below_two _ _ _))).mono ?_
    rintro e w1 ⟨rfl, hb⟩
    rw [HV.out]
    have hB1 := (below_two w _ _).trans (hb.mono (by simp; omega))
    go_wp2_with fail
    refine (l05Good_any _ _ sy st s mv va vb l r _ (HC1.out.next hb) (HC2.out.next hb) (HA.out.next hB1) (HB.out.next hB1) (by omega) (by omega) (by omega) (by omega)).mono ?_
    rintro e w2 ⟨rfl, hb2⟩
    rw [HG.out]
    go_wp2_with fail
    go_ret3
    exact ⟨_, rfl, Fresh.nil_ _ _, below_next hB1 hb2⟩
set_option maxHeartbeats 1000000 in
theorem specCellsOf_ok (sy st s : Int) (mv va vb : Value) (ml l r : List Int) (w : World) (hm : Sl3 w mv ml) (ha : Sl w va l) (hb : Sl w vb r) (hv : vconfB sy st ml s l r = true) (hl : l.length ≤ 200) (hr : r.length ≤ 200) :
    Calls Try.prog 46 #[.agg #[.int .i64 sy, .int .i64 st, mv], .agg #[.int .i64 s, va, vb]] w (RetRowI w (cellsL l r) (l.length : Int) 0) := by
  have HM := Lib.hid hm
  have HA := Lib.hid ha
  have HB := Lib.hid hb
  have HC1 := Lib.hid (C3.next (C3.made w (.int .i64 sy) (.int .i64 st) mv 29) (below_one _ (.cells #[.int .i64 s, va, vb] 52)))
  have HC2 := Lib.hid (C3.made (w.alloc (.cells #[.int .i64 sy, .int .i64 st, mv] 29)) (.int .i64 s) va vb 52)
  simp only [World.size_alloc] at HC2
  have hv2 := hv
  unfold vconfB at hv2
  simp only [Bool.and_eq_true] at hv2
  obtain ⟨⟨s1, s2⟩, ⟨s3, s4⟩, _, _⟩ := validB_true hv2.1
  have HV := Lib.hid hv2.1
  have HG := Lib.hid hv2.2
  obtain ⟨A1, c1, rfl, _, _, hr1⟩ := ha
  obtain ⟨A2, c2, rfl, _, hc2, hr2⟩ := hb
  clear hm hv hv2 hr1 hr2
  go_enter Try.func46, Try.ntmps46
  go_wp2_with fail
  refine (l05Is_any _ sy st mv ml _ HC1.out (HM.out.next (below_two _ _ _))).mono ?_
  rintro e w1 ⟨rfl, hb⟩
  rw [HV.out]
  have hB1 := (below_two w _ _).trans (hb.mono (by simp; omega))
  have HC3 := Lib.hid (HC1.out.next hb)
  have HC4 := Lib.hid (HC2.out.next hb)
  go_wp2_with fail
  refine (l05Good_any _ _ sy st s mv _ _ l r _ HC3.out HC4.out (HA.out.next hB1) (HB.out.next hB1) (by omega) (by omega) (by omega) (by omega)).mono ?_
  rintro e w2 ⟨rfl, hb2⟩
  rw [HG.out]
  have hB2 := below_next hB1 hb2
  have HC5 := Lib.hid (HC4.out.next hb2)
  obtain ⟨p0, p1, p2⟩ := HC5.out
  go_wp2_with fail
  refine (l03Reverse_own _ l _ (HA.out.next hB2) (by omega)).mono ?_
  rintro e w3 ⟨rr, rfl, ho, hb3⟩
  have hB3 := below_next hB2 hb3
  have HO := Lib.hid ho
  have hbx : w.heap.size + 1 < w2.heap.size := cell_lt HC5.out.1
  have hz3 := hb3.size
  obtain ⟨A3, c3, rfl, _, _, hr3⟩ := ho.sl
  rw [List.length_reverse] at HO ⊢
  clear p0 p1 p2 ho hr3
  have HC6 := Lib.hid (HC5.out.next hb3)
  obtain ⟨p0, p1, p2⟩ := HC6.out
  have hcatl : l.reverse.length + r.length ≤ 1000000000 := by rw [List.length_reverse]; omega
  by_cases h0 : r.length = 0
  · have HF : Hid (cellsL l r = l.reverse ++ r ++ [0]) := Lib.hid (by unfold cellsL; rw [if_pos h0])
    have e0 : ((r.length : Int) == 0) = true := by simp [h0]
    have hcl : (l.reverse ++ r).length ≤ 1000000000 := by rw [List.length_append, List.length_reverse]; omega
    have e1 : (r.length == 0) = true := by simp [h0]
    have HZ := Lib.hid h0
    clear h0
    go_wp2_with (first
      | (at_builtin; refine wpList_cat rfl (.tmp 20) (.tmp 22) rfl w2.heap.size _ l.reverse rfl HO.out _ r rfl (HB.out.next hB3) hcatl hz3 ?_; intro v4 w4 o4 hg4 _; obtain ⟨x0, x1, x2⟩ := C3.kept HC6.out hg4 (fun k hk => by have := (HO.out.lt k hk).1; omega); (have hB4 := hB3.grown hg4 hB3.size (fun k hk => by have := (HO.out.lt k hk).1; omega)); (have HO4 := Lib.hid o4); (have hz4 := hg4.size); clear p0 p1 p2 o4 hg4)
      | (at_builtin; refine wpList_push rfl (.tmp 28) (.tmp 29) rfl w2.heap.size _ (l.reverse ++ r) rfl HO4.out _ rfl hcl (by omega) ?_; intro v5 w5 o5 hg5 _))
    have hB5 := hB4.grown hg5 hB4.size (fun k hk => by have := (HO4.out.lt k hk).1; omega)
    go_ret3
    exact ⟨_, rfl, by rw [HF.out]; exact .inl (o5.lower hB2.size), hB5⟩
  · have HF : Hid (cellsL l r = l.reverse ++ r) := Lib.hid (by unfold cellsL; rw [if_neg h0])
    have e0 : ((r.length : Int) == 0) = false := by simpa using h0
    have e1 : (r.length == 0) = false := by simpa using h0
    clear h0
    go_wp2_with (at_builtin; refine wpList_cat rfl (.tmp 20) (.tmp 22) rfl w2.heap.size _ l.reverse rfl HO.out _ r rfl (HB.out.next hB3) hcatl hz3 ?_; intro v4 w4 o4 hg4 _; obtain ⟨x0, x1, x2⟩ := C3.kept HC6.out hg4 (fun k hk => by have := (HO.out.lt k hk).1; omega); (have hB4 := hB3.grown hg4 hB3.size (fun k hk => by have := (HO.out.lt k hk).1; omega)); (have HO4 := Lib.hid o4); (have hz4 := hg4.size); clear p0 p1 p2 o4 hg4)
    go_ret3
    exact ⟨_, rfl, by rw [HF.out]; exact .inl (HO4.out.lower hB2.size), hB4⟩
set_option maxHeartbeats 1000000 in
theorem implCellsOf_bad (sy st s : Int) (mv va vb : Value) (ml l r : List Int) (w : World) (hm : Sl3 w mv ml) (ha : Sl w va l) (hb : Sl w vb r) (hv : vconfB sy st ml s l r = false) :
    Calls Try.prog 47 #[.agg #[.int .i64 sy, .int .i64 st, mv], .agg #[.int .i64 s, va, vb]] w (RetRowI w [] 0 1) := by
  have HM := Lib.hid hm
  have HA := Lib.hid ha
  have HB := Lib.hid hb
  have HV := Lib.hid hv
  obtain ⟨A0, n0, c0, rfl, _, _, hr0⟩ := hm
  obtain ⟨A1, c1, rfl, _, _, hr1⟩ := ha
  obtain ⟨A2, c2, rfl, _, _, hr2⟩ := hb
  clear hr0 hr1 hr2 hv
  go_enter Try.func47, Try.ntmps47
  go_wp2_with fail
  refine (implValidConfig_any sy st s _ _ _ ml l r _ (HM.out.next (below_two _ _ _)) (HA.out.next (below_two _ _ _)) (HB.out.next (below_two _ _ _))).mono ?_
  rintro e w1 ⟨rfl, hb⟩
  rw [HV.out]
  go_wp2_with fail
  go_ret3
  exact ⟨_, rfl, Fresh.nil_ _ _, (below_two w _ _).trans (hb.mono (by simp; omega))⟩
set_option maxHeartbeats 1000000 in
theorem implCellsOf_ok (sy st s : Int) (mv va vb : Value) (ml l r : List Int) (w : World) (hm : Sl3 w mv ml) (ha : Sl w va l) (hb : Sl w vb r) (hv : vconfB sy st ml s l r = true) (hl : l.length ≤ 200) (hr : r.length ≤ 200) :
    Calls Try.prog 47 #[.agg #[.int .i64 sy, .int .i64 st, mv], .agg #[.int .i64 s, va, vb]] w (RetRowI w (cellsL l r) (l.length : Int) 0) := by
  have HM := Lib.hid hm
  have HA := Lib.hid ha
  have HB := Lib.hid hb
  have HV := Lib.hid hv
  obtain ⟨A0, n0, c0, rfl, _, _, hr0⟩ := hm
  obtain ⟨A1, c1, rfl, _, _, hr1⟩ := ha
  obtain ⟨A2, c2, rfl, _, _, hr2⟩ := hb
  have hjl : ([l.reverse, r] : List (List Int)).flatten.length ≤ 1000000 := by simp; omega
  clear hr0 hr1 hr2 hv
  go_enter Try.func47, Try.ntmps47
  go_wp2_with fail
  refine (implValidConfig_any sy st s _ _ _ ml l r _ (HM.out.next (below_two _ _ _)) (HA.out.next (below_two _ _ _)) (HB.out.next (below_two _ _ _))).mono ?_
  rintro e w1 ⟨rfl, hb⟩
  rw [HV.out]
  have hB1 := (below_two w _ _).trans (hb.mono (by simp; omega))
  obtain ⟨p0, p1, p2, _, _, _⟩ := Box.of (heap_two hb).2
  by_cases h0 : r.length = 0
  · have HF : Hid (cellsL l r = l.reverse ++ r ++ [0]) := Lib.hid (by unfold cellsL; rw [if_pos h0])
    have e0 : ((r.length : Int) == 0) = true := by simp [h0]
    have hcl : (l.reverse ++ r).length ≤ 1000000000 := by rw [List.length_append, List.length_reverse]; omega
    have e1 : (r.length == 0) = true := by simp [h0]
    clear h0
    have HC6 := Lib.hid (C3.drew ⟨p0, p1, p2⟩)
    go_wp2_with fail
    go_region_held3 (fun w' => w'.cell? ⟨w.heap.size + 1, 0, none⟩ = some (.int .i64 s) ∧ w'.cell? ⟨w.heap.size + 1, 1, none⟩ = some (.slice A1 l.length c1) ∧ w'.cell? ⟨w.heap.size + 1, 2, none⟩ = some (.slice A2 r.length c2))
      (first | go_keep | (exact C3.next HC6.out hbA) | (exact C3.next (C3.next HC6.out hbA) (below_one _ _)) | (exact C3.next (C3.next (C3.next HC6.out hbA) (below_one _ _)) hbC))
      (first
        | (go_at_call 92; refine (reversed_any _ l _ (HA.out.next hB1).drew (by omega)).mono ?_; rintro e wA ⟨ra, rfl, oA, hbA⟩; (have HOA := Lib.hid oA); obtain ⟨A3, c3, rfl, _, _, hq3⟩ := oA.sl; clear hq3 oA; rw [List.length_reverse] at HOA)
        | (go_at_call 91; refine (joined_any _ [l.reverse, r] _ (SlL.two HOA.out.sl ((HB.out.next hB1).drew.next hbA)) hjl).mono ?_; rintro e wC ⟨rC, rfl, oC, hbC⟩))
    have hBA : Below w.heap.size w wA := below_next hB1.drew hbA
    have hBC : Below w.heap.size w wC := (hBA.trans ((below_one wA _).mono hBA.size)).trans (hbC.mono (by have := hBA.size; simp; omega))
    have HC7 := Lib.hid (C3.next (C3.next (C3.next HC6.out hbA) (below_one _ _)) hbC)
    have hzC : w.heap.size + 1 < wA.heap.size := cell_lt (C3.next HC6.out hbA).1
    have HOC : Hid (Owns wC wA.heap.size rC (l.reverse ++ r)) := Lib.hid (by have h := oC.lower (base' := wA.heap.size) (by simp); simpa using h)
    have hzz : wA.heap.size ≤ wC.heap.size := by have := hbC.size; simp at this; omega
    clear p0 p1 p2 oC
    obtain ⟨p0, p1, p2⟩ := HC7.out
    go_wp2_with (at_builtin; refine wpList_push rfl (.tmp 23) (.tmp 24) rfl wA.heap.size _ (l.reverse ++ r) rfl HOC.out _ rfl hcl hzz ?_; intro v5 w5 o5 hg5 _; obtain ⟨x0, x1, x2⟩ := C3.kept HC7.out hg5 (fun k hk => by have := (HOC.out.lt k hk).1; omega); (have hB5 := hBC.grown hg5 hBC.size (fun k hk => by have := (HOC.out.lt k hk).1; have := hBA.size; omega)); (have HO5 := Lib.hid o5); clear o5 p0 p1 p2)
    refine (size_any _ l _ (HA.out.next hB5)).mono ?_
    rintro e _ ⟨rfl, rfl⟩
    go_wp2_with fail
    go_ret3
    exact ⟨_, rfl, by rw [HF.out]; exact .inl (HO5.out.lower hBA.size), hB5⟩
  · have HF : Hid (cellsL l r = l.reverse ++ r) := Lib.hid (by unfold cellsL; rw [if_neg h0])
    have e0 : ((r.length : Int) == 0) = false := by simpa using h0
    have e1 : (r.length == 0) = false := by simpa using h0
    clear h0
    have HC6 := Lib.hid (C3.drew ⟨p0, p1, p2⟩)
    go_wp2_with fail
    go_region_held3 (fun w' => w'.cell? ⟨w.heap.size + 1, 0, none⟩ = some (.int .i64 s) ∧ w'.cell? ⟨w.heap.size + 1, 1, none⟩ = some (.slice A1 l.length c1) ∧ w'.cell? ⟨w.heap.size + 1, 2, none⟩ = some (.slice A2 r.length c2))
      (first | go_keep | (exact C3.next HC6.out hbA) | (exact C3.next (C3.next HC6.out hbA) (below_one _ _)) | (exact C3.next (C3.next (C3.next HC6.out hbA) (below_one _ _)) hbC))
      (first
        | (go_at_call 92; refine (reversed_any _ l _ (HA.out.next hB1).drew (by omega)).mono ?_; rintro e wA ⟨ra, rfl, oA, hbA⟩; (have HOA := Lib.hid oA); obtain ⟨A3, c3, rfl, _, _, hq3⟩ := oA.sl; clear hq3 oA; rw [List.length_reverse] at HOA)
        | (go_at_call 91; refine (joined_any _ [l.reverse, r] _ (SlL.two HOA.out.sl ((HB.out.next hB1).drew.next hbA)) hjl).mono ?_; rintro e wC ⟨rC, rfl, oC, hbC⟩))
    have hBA : Below w.heap.size w wA := below_next hB1.drew hbA
    have hBC : Below w.heap.size w wC := (hBA.trans ((below_one wA _).mono hBA.size)).trans (hbC.mono (by have := hBA.size; simp; omega))
    have HC7 := Lib.hid (C3.next (C3.next (C3.next HC6.out hbA) (below_one _ _)) hbC)
    have hzC : w.heap.size + 1 < wA.heap.size := cell_lt (C3.next HC6.out hbA).1
    have HOC : Hid (Owns wC wA.heap.size rC (l.reverse ++ r)) := Lib.hid (by have h := oC.lower (base' := wA.heap.size) (by simp); simpa using h)
    have hzz : wA.heap.size ≤ wC.heap.size := by have := hbC.size; simp at this; omega
    clear p0 p1 p2 oC
    obtain ⟨p0, p1, p2⟩ := HC7.out
    go_wp2_with fail
    refine (size_any _ l _ (HA.out.next hBC)).mono ?_
    rintro e _ ⟨rfl, rfl⟩
    go_wp2_with fail
    go_ret3
    exact ⟨_, rfl, by rw [HF.out]; exact .inl (HOC.out.lower hBA.size), hBC⟩
theorem side_len {sy : Int} {l : List Int} (h : sideB sy l = true) : l.length ≤ 200 := by
  unfold sideB at h
  simp only [Bool.and_eq_true, decide_eq_true_eq] at h
  exact h.2.1
theorem bothCellsOf (sy st : Int) (ml : List Int) (s : Int) (l r : List Int) (_h : Fit ml ∧ ml.length ≤ 3145728 ∧ (-9223372036854775808 ≤ sy ∧ sy ≤ 9223372036854775807) ∧ (-9223372036854775808 ≤ st ∧ st ≤ 9223372036854775807))
    (_h' : Fit l ∧ l.length ≤ 1048576 ∧ Fit r ∧ r.length ≤ 1048576 ∧ (-9223372036854775808 ≤ s ∧ s ≤ 9223372036854775807)) : ∃ (R : List Int) (D C : Int), R.length ≤ 4000000 ∧
    (∀ (w : World) (mv va vb : Value), Sl3 w mv ml → Sl w va l → Sl w vb r → Calls Try.prog 46 #[.agg #[.int .i64 sy, .int .i64 st, mv], .agg #[.int .i64 s, va, vb]] w (RetRowI w R D C)) ∧
    (∀ (w : World) (mv va vb : Value), Sl3 w mv ml → Sl w va l → Sl w vb r → Calls Try.prog 47 #[.agg #[.int .i64 sy, .int .i64 st, mv], .agg #[.int .i64 s, va, vb]] w (RetRowI w R D C)) := by
  cases hv : vconfB sy st ml s l r with
  | false => exact ⟨[], 0, 1, by simp, fun w mv va vb hm ha hb => specCellsOf_bad _ _ _ mv va vb _ _ _ w hm ha hb hv, fun w mv va vb hm ha hb => implCellsOf_bad _ _ _ mv va vb _ _ _ w hm ha hb hv⟩
  | true =>
    have hv2 := hv
    unfold vconfB goodB at hv2
    simp only [Bool.and_eq_true] at hv2
    have hl := side_len hv2.2.2.1
    have hr := side_len hv2.2.2.2
    exact ⟨cellsL l r, l.length, 0, by unfold cellsL; split <;> simp <;> omega, fun w mv va vb hm ha hb => specCellsOf_ok _ _ _ mv va vb _ _ _ w hm ha hb hv hl hr, fun w mv va vb hm ha hb => implCellsOf_ok _ _ _ mv va vb _ _ _ w hm ha hb hv hl hr⟩
end Go.Proofs.Ytlkmboolgfkcdaa
