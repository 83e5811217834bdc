/- FreeRules: contracts of l05Free and freeRules, and what the law needs. No condition beyond the stated bounds. -/
import Derived.Test.YtlkmboolgfkcdaaMValid3
import Derived.Test.YtlkmboolgfkcdaaMSame
namespace Go.Proofs.Ytlkmboolgfkcdaa
open Go.RowKit
/-- There is no rule at k. -/
def freeAt (l : List Int) (k : Nat) : Bool := noneB (geti l (k * 3)) (geti l (k * 3 + 1)) (geti l (k * 3 + 2))
/-- The places without a rule below n. -/
def freeI (l : List Int) (n : Nat) : List Int := ((List.range n).filter (freeAt l)).map (fun (k : Nat) => (k : Int))
theorem freeI_len (l : List Int) (n : Nat) : (freeI l n).length ≤ n := by
  unfold freeI
  rw [List.length_map]
  have := List.length_filter_le (freeAt l) (List.range n)
  simpa using this
theorem freeI_yes {l : List Int} {n : Nat} (h : freeAt l n = true) : freeI l (n + 1) = freeI l n ++ [(n : Int)] := by
  unfold freeI; rw [List.range_succ, List.filter_append, List.map_append]; simp [h]
theorem freeI_no {l : List Int} {n : Nat} (h : freeAt l n = false) : freeI l (n + 1) = freeI l n := by
  unfold freeI; rw [List.range_succ, List.filter_append, List.map_append]; simp [h]
set_option maxHeartbeats 1000000 in
theorem l05Free_any (b : Nat) (sy st : Int) (A : Option Addr) (n c : Nat) (l : List Int) (w : World) (h : C3 w b (.int .i64 sy) (.int .i64 st) (.slice A n c)) (hr : Ints w w.heap.size A (n * 3) l) (hc : c ≤ maxLen) (hnc : n ≤ c) (hn : n ≤ 1000000) :
    Calls Try.prog 59 #[.pointer (some ⟨b, 0, none⟩)] w (RetRow w (freeI l n)) := by
  have HC := Lib.hid h
  have HR := Lib.hid hr
  unfold maxLen at hc
  clear h hr
  have HO := Lib.hid (Owns.empty w w.heap.size (Nat.le_refl _))
  have hB0 := below_one w (.cells #[] 2)
  go_enter Try.func59, Try.ntmps59
  go_wp2_with fail
  go_loopw [3, 4] (fun u i wr => ∃ k : Nat, k ≤ n ∧ i = .int .i64 k ∧ Hid (Owns wr w.heap.size u (freeI l k)) ∧ Below w.heap.size w wr) (fun _ i _ => n - (intOf i).toNat)
  case atStart => exact ⟨0, Nat.zero_le _, rfl, HO, hB0⟩
  case round =>
    clear HO hB0
    obtain ⟨k, hk, rfl, HO, hB⟩ := hrel
    obtain ⟨c0, c1, c2⟩ := C3.next HC.out hB
    have hfl := freeI_len l k
    by_cases hlt : k < n
    · obtain ⟨ad, rfl, hbk, p0, p1, p2⟩ := HR.out.three (w' := wr) (fun p hp => hB.cell hp) hlt
      have hbk2 : ad.block < wr.heap.size := by have := hB.size; omega
      have hi0 : (0 : Int) ≤ (k : Int) := by omega
      have hi1 : (k : Int) < (n : Int) := by omega
      cases hf : freeAt l k with
      | true =>
        have HN := Lib.hid (freeI_yes hf)
        have hq : ∀ w : World, (Op.equalIn 10000 45 (.agg #[.int .i64 (geti l (k * 3)), .int .i64 (geti l (k * 3 + 1)), .int .i64 (geti l (k * 3 + 2))]) (.agg #[.int .i64 0, .int .i64 0, .int .i64 (-1)])).run Try.prog w = .ok true w := fun w => by rw [← hf]; exact equal_rule w _ _ _ 0 0 (-1)
        clear hf
        go_wp2_with fail
        go_region_held3 (fun w' => (w'.cell? ⟨b, 0, none⟩ = some (.int .i64 sy) ∧ w'.cell? ⟨b, 1, none⟩ = some (.int .i64 st) ∧ w'.cell? ⟨b, 2, none⟩ = some (.slice (some ad) n c)) ∧ w'.cell? (ad.add (k * 3)) = some (.int .i64 (geti l (k * 3))) ∧ w'.cell? ⟨(ad.add (k * 3)).block, (ad.add (k * 3)).off + 1, none⟩ = some (.int .i64 (geti l (k * 3 + 1))) ∧ w'.cell? ⟨(ad.add (k * 3)).block, (ad.add (k * 3)).off + 2, none⟩ = some (.int .i64 (geti l (k * 3 + 2))))
          (first
            | go_keep
            | exact ⟨C3.next (C3.drew ⟨c0, c1, c2⟩) hbA, cells3_next hbk2 p0 p1 p2 hbA⟩)
          (first
            | (go_at_call 95; refine (l05None_any _).mono ?_; rintro e wA ⟨rfl, hbA⟩))
        have hBA : Below w.heap.size w wA := below_next hB.drew hbA
        have HOA := Lib.hid (HO.out.drew.next hbA)
        clear c0 c1 c2 p0 p1 p2 hq
        go_wp2_with (at_builtin; refine wpList_push rfl _ _ rfl w.heap.size _ (freeI l k) rfl HOA.out _ rfl (by omega) hBA.size ?_; intro v2 w2 o2 hg2 _)
        have hB2 := hBA.grown hg2 hBA.size (fun k hk => (HOA.out.lt k hk).1)
        rw [← HN.out] at o2
        have HO2 := Lib.hid o2
        clear o2 hg2
        go_wp2_with fail
        go_roundw
        case rel => exact ⟨k + 1, by omega, by go_num, HO2, hB2⟩
        case measure => simp [intOf] <;> omega
      | false =>
        have HN := Lib.hid (freeI_no hf)
        have hq : ∀ w : World, (Op.equalIn 10000 45 (.agg #[.int .i64 (geti l (k * 3)), .int .i64 (geti l (k * 3 + 1)), .int .i64 (geti l (k * 3 + 2))]) (.agg #[.int .i64 0, .int .i64 0, .int .i64 (-1)])).run Try.prog w = .ok false w := fun w => by rw [← hf]; exact equal_rule w _ _ _ 0 0 (-1)
        clear hf
        go_wp2_with fail
        go_region_held3 (fun w' => (w'.cell? ⟨b, 0, none⟩ = some (.int .i64 sy) ∧ w'.cell? ⟨b, 1, none⟩ = some (.int .i64 st) ∧ w'.cell? ⟨b, 2, none⟩ = some (.slice (some ad) n c)) ∧ w'.cell? (ad.add (k * 3)) = some (.int .i64 (geti l (k * 3))) ∧ w'.cell? ⟨(ad.add (k * 3)).block, (ad.add (k * 3)).off + 1, none⟩ = some (.int .i64 (geti l (k * 3 + 1))) ∧ w'.cell? ⟨(ad.add (k * 3)).block, (ad.add (k * 3)).off + 2, none⟩ = some (.int .i64 (geti l (k * 3 + 2))))
          (first
            | go_keep
            | exact ⟨C3.next (C3.drew ⟨c0, c1, c2⟩) hbA, cells3_next hbk2 p0 p1 p2 hbA⟩)
          (first
            | (go_at_call 95; refine (l05None_any _).mono ?_; rintro e wA ⟨rfl, hbA⟩))
        have hBA : Below w.heap.size w wA := below_next hB.drew hbA
        have HOA := Lib.hid (HO.out.drew.next hbA)
        clear c0 c1 c2 p0 p1 p2 hq
        go_wp2_with fail
        go_roundw
        case rel => exact ⟨k + 1, by omega, by go_num, Lib.hid (by rw [HN.out]; exact HOA.out), hBA⟩
        case measure => simp [intOf] <;> omega
    · obtain rfl : k = n := by omega
      go_wp2_with fail
      go_ret
      exact ⟨_, rfl, .inl HO.out, hB⟩
set_option maxHeartbeats 1000000 in
theorem freeRules_any (sy st : Int) (A : Option Addr) (n c : Nat) (l : List Int) (w : World) (hr : Ints w w.heap.size A (n * 3) l) (hc : c ≤ maxLen) (hnc : n ≤ c) (hn : n ≤ 1000000) :
    Calls Try.prog 60 #[.agg #[.int .i64 sy, .int .i64 st, .slice A n c]] w (RetRow w (freeI l n)) := by
  have HR := Lib.hid hr
  unfold maxLen at hc
  clear hr
  have hb0 := below_one w (.cells #[.int .i64 sy, .int .i64 st, .slice A n c] 29)
  have HO := Lib.hid ((Owns.empty (w.alloc (.cells #[.int .i64 sy, .int .i64 st, .slice A n c] 29)) w.heap.size (by simp)))
  simp only [World.size_alloc] at HO
  have hB0 := below_two w (.cells #[.int .i64 sy, .int .i64 st, .slice A n c] 29) (.cells #[] 2)
  clear hb0
  go_enter Try.func60, Try.ntmps60
  go_wp2_with fail
  go_loopw [3, 10] (fun u i wr => ∃ k : Nat, k ≤ n ∧ i = .int .i64 k ∧ Hid (Owns wr w.heap.size u (freeI l k)) ∧ Below w.heap.size w wr) (fun _ i _ => n - (intOf i).toNat)
  case atStart => exact ⟨0, Nat.zero_le _, rfl, HO, hB0⟩
  case round =>
    clear HO hB0
    obtain ⟨k, hk, rfl, HO, hB⟩ := hrel
    have hfl := freeI_len l k
    by_cases hlt : k < n
    · obtain ⟨ad, rfl, hbk, p0, p1, p2⟩ := HR.out.three (w' := wr) (fun p hp => hB.cell hp) hlt
      have hbk2 : ad.block < wr.heap.size := by have := hB.size; omega
      cases hf : freeAt l k with
      | true =>
        have HN := Lib.hid (freeI_yes hf)
        have HF : Hid (noneB (geti l (k * 3)) (geti l (k * 3 + 1)) (geti l (k * 3 + 2)) = true) := Lib.hid hf
        clear hf
        go_wp2_with fail
        refine (isRule_any _ _ _ _).mono ?_
        rintro e w1 ⟨rfl, hb1⟩
        rw [HF.out]
        have hB1 := (hB.trans ((below_one wr _).mono hB.size)).trans (hb1.mono (by have := hB.size; simp; omega))
        have HO1 := Lib.hid ((HO.out.next (below_one wr _)).next hb1)
        clear p0 p1 p2
        go_wp2_with (at_builtin; refine wpList_push rfl _ _ rfl w.heap.size _ (freeI l k) rfl HO1.out _ rfl (by omega) hB1.size ?_; intro v2 w2 o2 hg2 _)
        have hB2 := hB1.grown hg2 hB1.size (fun k hk => (HO1.out.lt k hk).1)
        rw [← HN.out] at o2
        have HO2 := Lib.hid o2
        clear o2 hg2
        go_wp2_with fail
        go_roundw
        case rel => exact ⟨k + 1, by omega, by go_num, HO2, hB2⟩
        case measure => simp [intOf] <;> omega
      | false =>
        have HN := Lib.hid (freeI_no hf)
        have HF : Hid (noneB (geti l (k * 3)) (geti l (k * 3 + 1)) (geti l (k * 3 + 2)) = false) := Lib.hid hf
        clear hf
        go_wp2_with fail
        refine (isRule_any _ _ _ _).mono ?_
        rintro e w1 ⟨rfl, hb1⟩
        rw [HF.out]
        have hB1 := (hB.trans ((below_one wr _).mono hB.size)).trans (hb1.mono (by have := hB.size; simp; omega))
        have HO1 := Lib.hid ((HO.out.next (below_one wr _)).next hb1)
        clear p0 p1 p2
        go_wp2_with fail
        go_roundw
        case rel => exact ⟨k + 1, by omega, by go_num, Lib.hid (by rw [HN.out]; exact HO1.out), hB1⟩
        case measure => simp [intOf] <;> omega
    · obtain rfl : k = n := by omega
      go_wp2_with fail
      go_ret
      exact ⟨_, rfl, .inl HO.out, hB⟩
theorem bothFreeRules (sy st : Int) (l : List Int) (_h : Fit l ∧ l.length ≤ 3145728 ∧ (-9223372036854775808 ≤ sy ∧ sy ≤ 9223372036854775807) ∧ (-9223372036854775808 ≤ st ∧ st ≤ 9223372036854775807)) : ∃ (R : List Int) (C : Int), R.length ≤ 4000000 ∧
    (∀ (w : World) (rv : Value), Sl3 w rv l → Calls Try.prog 20 #[.agg #[.int .i64 sy, .int .i64 st, rv]] w (RetRowC w R C)) ∧
    (∀ (w : World) (rv : Value), Sl3 w rv l → Calls Try.prog 21 #[.agg #[.int .i64 sy, .int .i64 st, rv]] w (RetRowC w R C)) := by
  cases hv : validB sy st l with
  | false =>
    refine ⟨[], 1, by simp, fun w rv h => ?_, fun w rv h => ?_⟩
    · have HS := Lib.hid h
      clear h
      go_enter Try.func20, Try.ntmps20
      go_wp2_with fail
      refine (l05Is_any _ sy st rv l _ (C3.made _ _ _ _ _) (HS.out.next (below_one _ _))).mono ?_
      rintro e w1 ⟨rfl, hb⟩
      go_wp2_with fail
      go_ret2
      exact ⟨_, rfl, Fresh.nil_ _ _, below_next (below_one _ _) hb⟩
    · have HS := Lib.hid h
      obtain ⟨A, n, c, rfl, _, _, hr⟩ := h
      clear hr
      go_enter Try.func21, Try.ntmps21
      go_wp2_with fail
      refine (implValidMachine_any sy st _ l _ (HS.out.next (below_one _ _))).mono ?_
      rintro e w1 ⟨rfl, hb⟩
      go_wp2_with fail
      go_ret2
      exact ⟨_, rfl, Fresh.nil_ _ _, below_next (below_one _ _) hb⟩
  | true =>
    obtain ⟨s1, s2, s3, s4⟩ := validB_true hv
    have hp := prod_ms s1 s2
    have hll : l.length ≤ 18000 := by omega
    refine ⟨freeI l (l.length / 3), 0, by have := freeI_len l (l.length / 3); omega, fun w rv h => ?_, fun w rv h => ?_⟩
    · have HS := Lib.hid h
      have HV := Lib.hid hv
      obtain ⟨A, n, c, rfl, hnc, hcm, hr⟩ := h
      have hl := hr.1
      obtain rfl : n = l.length / 3 := by omega
      have HR := Lib.hid hr
      have HL := Lib.hid hl
      clear hr hl s3 s4 hv
      go_enter Try.func20, Try.ntmps20
      go_wp2_with fail
      refine (l05Is_any _ sy st _ l _ (C3.made _ _ _ _ _) (HS.out.next (below_one _ _))).mono ?_
      rintro e w1 ⟨rfl, hb⟩
      rw [HV.out]
      have hB1 := below_next (below_one w _) hb
      go_wp2_with fail
      refine (l05Free_any _ sy st A _ c l _ (C3.next (C3.made w _ _ _ _) hb) (HR.out.next hB1 hB1.size) hcm hnc (by omega)).mono ?_
      rintro e w2 ⟨r, rfl, hr, hb2⟩
      go_wp2_with fail
      go_ret2
      exact ⟨_, rfl, hr.lower hB1.size, below_next hB1 hb2⟩
    · have HS := Lib.hid h
      have HV := Lib.hid hv
      obtain ⟨A, n, c, rfl, hnc, hcm, hr⟩ := h
      have hl := hr.1
      obtain rfl : n = l.length / 3 := by omega
      have HR := Lib.hid hr
      have HL := Lib.hid hl
      clear hr hl s3 s4 hv
      go_enter Try.func21, Try.ntmps21
      go_wp2_with fail
      refine (implValidMachine_any sy st _ l _ (HS.out.next (below_one _ _))).mono ?_
      rintro e w1 ⟨rfl, hb⟩
      rw [HV.out]
      have hB1 := below_next (below_one w _) hb
      obtain ⟨c0, c1, c2⟩ := C3.next (C3.made w _ _ _ _) hb
      go_wp2_with fail
      refine (freeRules_any sy st A _ c l _ (HR.out.next hB1 hB1.size) hcm hnc (by omega)).mono ?_
      rintro e w2 ⟨r, rfl, hr, hb2⟩
      clear c0 c1 c2
      go_wp2_with fail
      go_ret2
      exact ⟨_, rfl, hr.lower hB1.size, below_next hB1 hb2⟩
end Go.Proofs.Ytlkmboolgfkcdaa
