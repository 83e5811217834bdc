/- MirrorMachine, SetRule: l05Own, l05Mirror, mirrored and what the laws need. No condition beyond the stated bounds. -/
import Derived.Test.YtlkmboolgfkcdaaMOwn
namespace Go.Proofs.Ytlkmboolgfkcdaa
open Go.RowKit
theorem C3.set {w : World} {b : Nat} {x y z : Value} (h : C3 w b x y z) {p : Addr} (hne : p.block ≠ b) (u : Value) : C3 (w.setCell p u) b x y z :=
  C3.kept h (grown_set w p u) (fun k hk => by injection hk with hk; omega)
set_option maxHeartbeats 1000000 in
theorem l05Own_any (b : Nat) (sy st : Int) (rv : Value) (l : List Int) (w : World) (h : C3 w b (.int .i64 sy) (.int .i64 st) rv) (hs : Sl3 w rv l) (hn : l.length ≤ 4000000) :
    Calls Try.prog 67 #[.pointer (some ⟨b, 0, none⟩)] w (RetMO w sy st l) := by
  have HS := Lib.hid hs
  have HC := Lib.hid h
  have hlt : b < w.heap.size := cell_lt h.1
  obtain ⟨A, n, c, rfl, hnc, hcm, hr⟩ := hs
  clear hr h
  have HO := Lib.hid (Own3.empty (w.alloc (.cells #[.int .i64 0, .int .i64 0, .slice none 0 0] 29)) (w.heap.size + 1) (by simp))
  simp only [World.size_alloc] at HO
  have hB2 := below_two w (.cells #[.int .i64 0, .int .i64 0, .slice none 0 0] 29) (.cells #[] 45)
  have HK : Hid (((w.alloc (.cells #[.int .i64 0, .int .i64 0, .slice none 0 0] 29)).alloc (.cells #[] 45)).heap[w.heap.size]? = some (.cells #[.int .i64 0, .int .i64 0, .slice none 0 0] 29 (0, 0))) := Lib.hid (by
    rw [Lib.alloc_old _ _ _ (by simp)]; exact heap_alloc_new w _)
  have hc1 := C3.next HC.out (below_one w (.cells #[.int .i64 0, .int .i64 0, .slice none 0 0] 29))
  have hc2 := C3.next hc1 (below_one _ (.cells #[] 45))
  have HC1 := Lib.hid hc1
  have HC2 := Lib.hid hc2
  obtain ⟨c0, c1, c2⟩ := hc1
  clear hc2
  go_enter Try.func67, Try.ntmps67
  go_wp2_with fail
  go_region_held3 (fun w' => (w'.cell? ⟨b, 0, none⟩ = some (.int .i64 sy) ∧ w'.cell? ⟨b, 1, none⟩ = some (.int .i64 st) ∧ w'.cell? ⟨b, 2, none⟩ = some (.slice A n c)))
    (first
      | go_keep
      | exact HC2.out
      | exact C3.kept (C3.drew HC2.out) hg1 (fun k hk => by simp [Value.ownBlock] at hk; omega)
      | exact C3.set (C3.set (C3.set (C3.kept (C3.drew HC2.out) hg1 (fun k hk => by simp [Value.ownBlock] at hk; omega)) (by simp; omega) _) (by simp; omega) _) (by simp; omega) _)
    ((refine step_cat3 (by rfl) (.tmp 11) (.tmp 15) (by rfl) (w.heap.size + 1) (.slice (some ⟨w.heap.size + 1, 0, none⟩) 0 0) [] (by simp [Act.eval]) HO.out.drew (.slice A n c) l (by simp [Act.eval]) (HS.out.next hB2).drew (by simp; omega) (by simp) ?_; intro v1 w1 o1 hg1 _; obtain ⟨A1, n1, cc1, rfl, _, _, hq⟩ := o1.sl; clear hq; obtain ⟨x0, x1, x2, y0, y1, y2⟩ := Box.of ((hg1.block w.heap.size (by simp; omega) (by simp [Value.ownBlock])).trans HK.out)))
  go_wp2_with fail
  refine bodyPost_ret (v := .agg #[.int .i64 sy, .int .i64 st, .slice A1 n1 cc1]) (by simp [results, Try.results67, go_sem, x0, x1, x2]) rfl ⟨_, rfl, ?_, ?_⟩
  · refine Own3.lower (base := w.heap.size + 1) ?_ (by omega)
    have h0 : Own3 w1 (w.heap.size + 1) (.slice A1 n1 cc1) l := by simpa using o1
    repeat refine Own3.set_ ?_ (by simp) _
    exact h0
  · repeat refine Below.setCell ?_ (by first | (simp; done) | (simp; omega)) _
    exact hB2.drew.grown hg1 (by simp; omega) (fun k hk => by simp [Value.ownBlock] at hk; omega)
/-- The flat list in which the moves of the first k rules are turned. -/
def mirUp (l : List Int) (k : Nat) : List Int := (List.range l.length).map (fun j => if j % 3 = 1 ∧ j / 3 < k then - geti l j else geti l j)
theorem mirUp_len (l : List Int) (k : Nat) : (mirUp l k).length = l.length := by simp [mirUp]
theorem mirUp_at {l : List Int} {k j : Nat} (h : j < l.length) : geti (mirUp l k) j = if j % 3 = 1 ∧ j / 3 < k then - geti l j else geti l j := by
  rw [geti_eq (by rw [mirUp_len]; exact h)]; simp [mirUp]
theorem mirUp_zero (l : List Int) : mirUp l 0 = l := by
  apply ext_geti' (mirUp_len l 0)
  intro j hj
  rw [mirUp_len] at hj
  rw [mirUp_at hj, if_neg (by omega)]
theorem mirUp_step {l : List Int} {k : Nat} (h : k * 3 + 1 < l.length) : (mirUp l k).set (k * 3 + 1) (- geti l (k * 3 + 1)) = mirUp l (k + 1) := by
  apply ext_geti' (by rw [List.length_set, mirUp_len, mirUp_len])
  intro j hj
  rw [List.length_set, mirUp_len] at hj
  rw [geti_set (by rw [mirUp_len]; exact h), mirUp_at hj, mirUp_at hj]
  by_cases e : k * 3 + 1 = j
  · subst e
    rw [if_pos rfl, if_pos (by omega)]
  · rw [if_neg e]
    by_cases h1 : j % 3 = 1 ∧ j / 3 < k
    · rw [if_pos h1, if_pos (by omega)]
    · rw [if_neg h1, if_neg (by omega)]
/-- Every move is small. -/
def Moves (l : List Int) : Prop := ∀ k, k * 3 + 1 < l.length → -1 ≤ geti l (k * 3 + 1) ∧ geti l (k * 3 + 1) ≤ 1
theorem moves_of {sy st : Int} {l : List Int} (h : validB sy st l = true) (h3 : l.length % 3 = 0) : Moves l := by
  obtain ⟨s1, s2, s3, s4⟩ := validB_true h
  intro k hk
  unfold rulesB at s4
  rw [List.all_eq_true] at s4
  have := s4 k (by simp; omega)
  unfold ruleAt ruleB noneB at this
  simp only [Bool.or_eq_true, Bool.and_eq_true, decide_eq_true_eq] at this
  omega
set_option maxHeartbeats 1000000 in
theorem l05Mirror_any (b : Nat) (sy st : Int) (rv : Value) (l : List Int) (w : World) (h : C3 w b (.int .i64 sy) (.int .i64 st) rv) (hs : Sl3 w rv l) (hn : l.length ≤ 4000000) (h0 : 0 < l.length) (hm : Moves l) :
    Calls Try.prog 62 #[.pointer (some ⟨b, 0, none⟩)] w (RetM w sy st (mirUp l (l.length / 3))) := by
  have HS := Lib.hid hs
  have HC := Lib.hid h
  have HM := Lib.hid hm
  clear hs h hm
  go_enter Try.func62, Try.ntmps62
  go_wp2_with fail
  refine (l05Own_any b sy st rv l _ (C3.next HC.out (below_one _ _)) (HS.out.next (below_one _ _)) hn).mono ?_
  rintro e w1 ⟨r, rfl, ho, hb⟩
  obtain ⟨g, n, cap, rfl, hbg, hgw, hl3⟩ := ho.head h0
  have hH := heap_one hb
  have HO := Lib.hid ho
  have HL := Lib.hid hl3
  have hB1 := below_next (below_one w _) hb
  have ho2 := ho.lower (base' := w.heap.size + 1) (by simp)
  simp only [World.size_alloc] at hbg
  have HO2 : Hid (Own3 (w1.alloc (.cells #[.int .i64 sy, .int .i64 st, .slice (some ⟨g, 0, none⟩) n cap] 29)) (w.heap.size + 1) (.slice (some ⟨g, 0, none⟩) n cap) (mirUp l 0)) := Lib.hid (by rw [mirUp_zero]; exact ho2.next (below_one _ _))
  have HA : Hid ((w1.alloc (.cells #[.int .i64 sy, .int .i64 st, .slice (some ⟨g, 0, none⟩) n cap] 29)).heap[w1.heap.size]? = some (.cells #[.int .i64 sy, .int .i64 st, .slice (some ⟨g, 0, none⟩) n cap] 29 (0, 0))) := Lib.hid (heap_alloc_new w1 _)
  have HZ : Hid ((w1.alloc (.cells #[.int .i64 sy, .int .i64 st, .slice (some ⟨g, 0, none⟩) n cap] 29)).heap[w.heap.size]? = some (.cells #[.int .i64 0, .int .i64 0, .slice none 0 0] 29 (0, 0))) := Lib.hid (by
    rw [Lib.alloc_old _ _ _ (by omega)]; exact hH)
  have hB2 : Below w.heap.size w (w1.alloc (.cells #[.int .i64 sy, .int .i64 st, .slice (some ⟨g, 0, none⟩) n cap] 29)) := hB1.trans ((below_one w1 _).mono hB1.size)
  have hsz := hB1.size
  have hn3 : n ≤ 4000000 := by omega
  clear ho hl3 HO ho2 hH
  go_wp2_with fail
  go_loopw [4] (fun i wr => ∃ k : Nat, k ≤ n ∧ i = .int .i64 k ∧ Hid (Own3 wr (w.heap.size + 1) (.slice (some ⟨g, 0, none⟩) n cap) (mirUp l k)) ∧ Hid (wr.heap[w1.heap.size]? = some (.cells #[.int .i64 sy, .int .i64 st, .slice (some ⟨g, 0, none⟩) n cap] 29 (0, 0))) ∧ Hid (wr.heap[w.heap.size]? = some (.cells #[.int .i64 0, .int .i64 0, .slice none 0 0] 29 (0, 0))) ∧ Below w.heap.size w wr) (fun i _ => n - (intOf i).toNat)
  case atStart => exact ⟨0, Nat.zero_le _, rfl, HO2, HA, HZ, hB2⟩
  case round =>
    clear HO2 HA HZ hB2
    obtain ⟨k, hk, rfl, HO, HA, HZ, hB⟩ := hrel
    obtain ⟨x0, x1, x2, xf0, xf1, xf2⟩ := Box.of HA.out
    by_cases hlt : k < n
    · have hll := HL.out
      have hml := mirUp_len l k
      have hc := HO.out.cellAt (j := k * 3 + 1) (by omega)
      rw [mirUp_at (by omega), if_neg (by omega)] at hc
      have hf := HO.out.free (k * 3 + 1)
      have hmv := HM.out k (by omega)
      have mv0 := hmv.1
      have mv1 := hmv.2
      have hst := HO.out.stored (k * 3 + 1) (- geti l (k * 3 + 1))
      rw [mirUp_step (by omega)] at hst
      have HST := Lib.hid hst
      have hi0 : (0 : Int) ≤ (k : Int) := by omega
      have hi1 : (k : Int) < (n : Int) := by omega
      have HAl : w1.heap.size < wr.heap.size := cell_lt x0
      clear hst hml hll hmv
      go_wp2_with fail
      go_region
      all_goals (try go_wp2)
      all_goals go_roundw
      all_goals first
        | exact ⟨k + 1, by omega, by go_num, HST.out.1, Lib.hid ((HST.out.2.block _ HAl (by simp; omega)).trans HA.out), Lib.hid ((HST.out.2.block _ (by omega) (by simp; omega)).trans HZ.out), (hB.grown HST.out.2 hB.size (fun k hk => by injection hk with hk; omega)).drew⟩
        | (simp [intOf] <;> omega)
    · obtain rfl : k = n := by omega
      obtain ⟨z0, z1, z2, zf0, zf1, zf2⟩ := Box.of HZ.out
      have HE : Hid (k = l.length / 3) := Lib.hid (by have := HL.out; omega)
      go_wp2_with fail
      refine bodyPost_ret (v := .agg #[.int .i64 sy, .int .i64 st, .slice (some ⟨g, 0, none⟩) k cap]) (by simp [results, Try.results62, go_sem, z0, z1, z2]) rfl ⟨_, rfl, ?_, ?_⟩
      · refine Fresh3.lower (base := w.heap.size + 1) ?_ (by omega)
        have h0 : Fresh3 wr (w.heap.size + 1) (.slice (some ⟨g, 0, none⟩) k cap) (mirUp l (l.length / 3)) := by rw [← HE.out]; exact .inl HO.out
        repeat refine Fresh3.set ?_ (by simp) _
        exact h0
      · repeat refine Below.setCell ?_ (by first | (simp; done) | (simp; omega)) _
        exact hB
set_option maxHeartbeats 1000000 in
theorem mirrored_any (sy st : Int) (rv : Value) (l : List Int) (w : World) (hs : Sl3 w rv l) (hn : l.length ≤ 4000000) (h0 : 0 < l.length) (hm : Moves l) :
    Calls Try.prog 63 #[.agg #[.int .i64 sy, .int .i64 st, rv]] w (RetM w sy st (mirUp l (l.length / 3))) := by
  have HS := Lib.hid hs
  have HM := Lib.hid hm
  obtain ⟨A0, n0, c0, rfl, _, _, hr⟩ := hs
  clear hm hr
  go_enter Try.func63, Try.ntmps63
  go_wp2_with fail
  refine (copyMachine_any sy st _ l _ (HS.out.next (below_two _ _ _)) hn).mono ?_
  rintro e w1 ⟨r, rfl, ho, hb⟩
  obtain ⟨g, n, cap, rfl, hbg, hgw, hl3⟩ := ho.head h0
  have hH := (heap_two hb).2
  have HL := Lib.hid hl3
  have hB1 := (below_two w _ _).trans (hb.mono (by simp; omega))
  have hz : w.heap.size + 2 ≤ w1.heap.size := by have := hb.size; simp at this; omega
  have ho2 := ho.lower (base' := w.heap.size + 2) (by simp)
  simp only [World.size_alloc] at hbg
  have HO2 : Hid (Own3 (w1.alloc (.cells #[.int .i64 sy, .int .i64 st, .slice (some ⟨g, 0, none⟩) n cap] 29)) (w.heap.size + 2) (.slice (some ⟨g, 0, none⟩) n cap) (mirUp l 0)) := Lib.hid (by rw [mirUp_zero]; exact ho2.next (below_one _ _))
  have HA : Hid ((w1.alloc (.cells #[.int .i64 sy, .int .i64 st, .slice (some ⟨g, 0, none⟩) n cap] 29)).heap[w1.heap.size]? = some (.cells #[.int .i64 sy, .int .i64 st, .slice (some ⟨g, 0, none⟩) n cap] 29 (0, 0))) := Lib.hid (heap_alloc_new w1 _)
  have HZ : Hid ((w1.alloc (.cells #[.int .i64 sy, .int .i64 st, .slice (some ⟨g, 0, none⟩) n cap] 29)).heap[w.heap.size + 1]? = some (.cells #[.int .i64 0, .int .i64 0, .slice none 0 0] 29 (0, 0))) := Lib.hid (by
    rw [Lib.alloc_old _ _ _ (by omega)]; exact hH)
  have hB2 : Below w.heap.size w (w1.alloc (.cells #[.int .i64 sy, .int .i64 st, .slice (some ⟨g, 0, none⟩) n cap] 29)) := hB1.trans ((below_one w1 _).mono hB1.size)
  have hsz := hB1.size
  have hn3 : n ≤ 4000000 := by omega
  clear ho hl3 ho2 hH
  go_wp2_with fail
  go_loopw [10] (fun i wr => ∃ k : Nat, k ≤ n ∧ i = .int .i64 k ∧ Hid (Own3 wr (w.heap.size + 2) (.slice (some ⟨g, 0, none⟩) n cap) (mirUp l k)) ∧ Hid (wr.heap[w1.heap.size]? = some (.cells #[.int .i64 sy, .int .i64 st, .slice (some ⟨g, 0, none⟩) n cap] 29 (0, 0))) ∧ Hid (wr.heap[w.heap.size + 1]? = some (.cells #[.int .i64 0, .int .i64 0, .slice none 0 0] 29 (0, 0))) ∧ Below w.heap.size w wr) (fun i _ => n - (intOf i).toNat)
  case atStart => exact ⟨0, Nat.zero_le _, rfl, HO2, HA, HZ, hB2⟩
  case round =>
    clear HO2 HA HZ hB2
    obtain ⟨k, hk, rfl, HO, HA, HZ, hB⟩ := hrel
    obtain ⟨x0, x1, x2, xf0, xf1, xf2⟩ := Box.of HA.out
    by_cases hlt : k < n
    · have hll := HL.out
      have hml := mirUp_len l k
      have hc := HO.out.cellAt (j := k * 3 + 1) (by omega)
      rw [mirUp_at (by omega), if_neg (by omega)] at hc
      have hf := HO.out.free (k * 3 + 1)
      have hmv := HM.out k (by omega)
      have mv0 := hmv.1
      have mv1 := hmv.2
      have hst := HO.out.stored (k * 3 + 1) (- geti l (k * 3 + 1))
      rw [mirUp_step (by omega)] at hst
      have HST := Lib.hid hst
      have HAl : w1.heap.size < wr.heap.size := cell_lt x0
      clear hst hml hll hmv
      go_wp2_with fail
      go_roundw
      case rel => exact ⟨k + 1, by omega, by go_num, HST.out.1, Lib.hid ((HST.out.2.block _ HAl (by simp; omega)).trans HA.out), Lib.hid ((HST.out.2.block _ (by omega) (by simp; omega)).trans HZ.out), hB.grown HST.out.2 hB.size (fun k hk => by injection hk with hk; omega)⟩
      case measure => simp [intOf] <;> omega
    · obtain rfl : k = n := by omega
      obtain ⟨z0, z1, z2, zf0, zf1, zf2⟩ := Box.of HZ.out
      have HE : Hid (k = l.length / 3) := Lib.hid (by have := HL.out; omega)
      go_wp2_with fail
      refine bodyPost_ret (v := .agg #[.int .i64 sy, .int .i64 st, .slice (some ⟨g, 0, none⟩) k cap]) (by simp [results, Try.results63, go_sem, z0, z1, z2]) rfl ⟨_, rfl, ?_, ?_⟩
      · refine Fresh3.lower (base := w.heap.size + 2) ?_ (by omega)
        have h0 : Fresh3 wr (w.heap.size + 2) (.slice (some ⟨g, 0, none⟩) k cap) (mirUp l (l.length / 3)) := by rw [← HE.out]; exact .inl HO.out
        repeat refine Fresh3.set ?_ (by simp) _
        exact h0
      · repeat refine Below.setCell ?_ (by first | (simp; done) | (simp; omega)) _
        exact hB
theorem len3 {w : World} {rv : Value} {l : List Int} (h : Sl3 w rv l) : l.length % 3 = 0 := by
  obtain ⟨A, n, c, _, _, _, hr⟩ := h
  have := hr.1; omega
set_option maxHeartbeats 1000000 in
theorem bothMirrorMachine (sy st : Int) (l : List Int) (_h : Fit l ∧ l.length ≤ 3145728 ∧ (-9223372036854775808 ≤ sy ∧ sy ≤ 9223372036854775807) ∧ (-9223372036854775808 ≤ st ∧ st ≤ 9223372036854775807)) : ∃ (RS RT : Int) (R : List Int) (C : Int), R.length ≤ 4000000 ∧
    (∀ (w : World) (rv : Value), Sl3 w rv l → Calls Try.prog 26 #[.agg #[.int .i64 sy, .int .i64 st, rv]] w (RetMC w RS RT R C)) ∧
    (∀ (w : World) (rv : Value), Sl3 w rv l → Calls Try.prog 27 #[.agg #[.int .i64 sy, .int .i64 st, rv]] w (RetMC w RS RT R C)) := by
  cases hv : validB sy st l with
  | false =>
    refine ⟨0, 0, [], 1, by simp, fun w rv h => ?_, fun w rv h => ?_⟩
    · have HS := Lib.hid h
      clear h
      have HC1 := Lib.hid (C3.next (C3.made w (.int .i64 sy) (.int .i64 st) rv 29) (below_one _ (.cells #[.int .i64 0, .int .i64 0, .slice none 0 0] 29)))
      go_enter Try.func26, Try.ntmps26
      go_wp2_with fail
      refine (l05Is_any _ sy st rv l _ HC1.out (HS.out.next (below_two _ _ _))).mono ?_
      rintro e w1 ⟨rfl, hb⟩
      obtain ⟨z0, z1, z2, zf0, zf1, zf2⟩ := Box.of (heap_two hb).2
      have hB1 := (below_two w _ _).trans (hb.mono (by simp; omega))
      go_wp2_with fail
      refine bodyPost_ret (v := .tuple #[.agg #[.int .i64 0, .int .i64 0, .slice none 0 0], .int .i64 1]) (by simp [results, Try.results26, go_sem, z0, z1, z2]) rfl ⟨_, rfl, Fresh3.nil_ _ _, ?_⟩
      repeat refine Below.setCell ?_ (by first | (simp; done) | (simp; omega)) _
      exact hB1
    · have HS := Lib.hid h
      obtain ⟨A, n, c, rfl, _, _, hr⟩ := h
      clear hr
      go_enter Try.func27, Try.ntmps27
      go_wp2_with fail
      refine (implValidMachine_any sy st _ l _ (HS.out.next (below_two _ _ _))).mono ?_
      rintro e w1 ⟨rfl, hb⟩
      obtain ⟨z0, z1, z2, zf0, zf1, zf2⟩ := Box.of (heap_two hb).2
      have hB1 := (below_two w _ _).trans (hb.mono (by simp; omega))
      go_wp2_with fail
      refine bodyPost_ret (v := .tuple #[.agg #[.int .i64 0, .int .i64 0, .slice none 0 0], .int .i64 1]) (by simp [results, Try.results27, go_sem, z0, z1, z2]) rfl ⟨_, rfl, Fresh3.nil_ _ _, ?_⟩
      repeat refine Below.setCell ?_ (by first | (simp; done) | (simp; omega)) _
      exact hB1
  | true =>
    obtain ⟨s1, s2, s3, s4⟩ := validB_true hv
    have hp := prod_ms s1 s2
    have hp2 : 0 < sy * st := Int.mul_pos (by omega) (by omega)
    have hll : l.length ≤ 18000 := by omega
    have hl0 : 0 < l.length := by omega
    have HV := Lib.hid hv
    clear s3 s4 hp hp2 hv
    refine ⟨sy, st, mirUp l (l.length / 3), 0, by rw [mirUp_len]; omega, fun w rv h => ?_, fun w rv h => ?_⟩
    · have HS := Lib.hid h
      have HM := Lib.hid (moves_of HV.out (len3 h))
      clear h
      have HC1 := Lib.hid (C3.next (C3.made w (.int .i64 sy) (.int .i64 st) rv 29) (below_one _ (.cells #[.int .i64 0, .int .i64 0, .slice none 0 0] 29)))
      go_enter Try.func26, Try.ntmps26
      go_wp2_with fail
      refine (l05Is_any _ sy st rv l _ HC1.out (HS.out.next (below_two _ _ _))).mono ?_
      rintro e w1 ⟨rfl, hb⟩
      rw [HV.out]
      have hZ := (heap_two hb).2
      have hB1 := (below_two w _ _).trans (hb.mono (by simp; omega))
      have hz : w.heap.size + 2 ≤ w1.heap.size := by have := hb.size; simp at this; omega
      go_wp2_with fail
      refine (l05Mirror_any _ sy st rv l _ (HC1.out.next hb) (HS.out.next hB1) (by omega) hl0 HM.out).mono ?_
      rintro e w2 ⟨r, rfl, hr, hb2⟩
      obtain ⟨z0, z1, z2, zf0, zf1, zf2⟩ := Box.next (Box.of hZ) hb2
      have HR := Lib.hid (hr.lower (base' := w.heap.size + 2) hz)
      obtain ⟨A', n', c', rfl, _, _, hr'⟩ := hr.sl
      have hB2 := below_next hB1 hb2
      clear hr hr' hZ
      go_wp2_with fail
      refine bodyPost_ret (v := .tuple #[.agg #[.int .i64 sy, .int .i64 st, .slice A' n' c'], .int .i64 0]) (by simp [results, Try.results26, go_sem, z0, z1, z2]) rfl ⟨_, rfl, ?_, ?_⟩
      · refine Fresh3.lower (base := w.heap.size + 2) ?_ (by omega)
        repeat refine Fresh3.set ?_ (by simp) _
        exact HR.out
      · repeat refine Below.setCell ?_ (by first | (simp; done) | (simp; omega)) _
        exact hB2
    · have HS := Lib.hid h
      have HM := Lib.hid (moves_of HV.out (len3 h))
      obtain ⟨A, n, c, rfl, _, _, hr⟩ := h
      clear hr
      go_enter Try.func27, Try.ntmps27
      go_wp2_with fail
      refine (implValidMachine_any sy st _ l _ (HS.out.next (below_two _ _ _))).mono ?_
      rintro e w1 ⟨rfl, hb⟩
      rw [HV.out]
      have hZ := (heap_two hb).2
      obtain ⟨m0, m1, m2, _, _, _⟩ := Box.of (heap_two hb).1
      have hB1 := (below_two w _ _).trans (hb.mono (by simp; omega))
      have hz : w.heap.size + 2 ≤ w1.heap.size := by have := hb.size; simp at this; omega
      go_wp2_with fail
      refine (mirrored_any sy st _ l _ (HS.out.next hB1) (by omega) hl0 HM.out).mono ?_
      rintro e w2 ⟨r, rfl, hr, hb2⟩
      obtain ⟨z0, z1, z2, zf0, zf1, zf2⟩ := Box.next (Box.of hZ) hb2
      have HR := Lib.hid (hr.lower (base' := w.heap.size + 2) hz)
      obtain ⟨A', n', c', rfl, _, _, hr'⟩ := hr.sl
      have hB2 := below_next hB1 hb2
      clear hr hr' hZ m0 m1 m2
      go_wp2_with fail
      refine bodyPost_ret (v := .tuple #[.agg #[.int .i64 sy, .int .i64 st, .slice A' n' c'], .int .i64 0]) (by simp [results, Try.results27, go_sem, z0, z1, z2]) rfl ⟨_, rfl, ?_, ?_⟩
      · refine Fresh3.lower (base := w.heap.size + 2) ?_ (by omega)
        repeat refine Fresh3.set ?_ (by simp) _
        exact HR.out
      · repeat refine Below.setCell ?_ (by first | (simp; done) | (simp; omega)) _
        exact hB2
end Go.Proofs.Ytlkmboolgfkcdaa
