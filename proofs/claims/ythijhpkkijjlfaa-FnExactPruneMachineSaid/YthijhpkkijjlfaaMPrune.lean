/- PruneMachine: both give the same, whatever the machine. No condition beyond the stated bounds. -/
import Derived.Test.YthijhpkkijjlfaaMPruneS
namespace Go.Proofs.Ythijhpkkijjlfaa
open Go.RowKit
theorem implPrune_no (sy st : Int) (rv : Value) (l : List Int) (w : World) (h : Sl3 w rv l) (hv : validB sy st l = false) :
    Calls Try.prog 7 #[.agg #[.int .i64 sy, .int .i64 st, rv]] w (RetMLC w 0 0 [] [] 1) := by
  have HV := Lib.hid hv
  have HS := Lib.hid h
  clear hv h
  go_enter Try.func7, Try.ntmps7
  go_wp2_with fail
  refine (implValidMachine_any sy st _ l _ (HS.out.next (below_two _ _ _))).mono ?_
  rintro e w1 ⟨rfl, hb1⟩
  rw [HV.out]
  have hh := heap_two hb1
  obtain ⟨h0, h1, h2, k0, k1, k2⟩ := Box.of hh.2
  have hB1 : Below w.heap.size w w1 := (below_two w _ _).trans (hb1.mono (by simp; omega))
  clear hh hb1
  go_wp2_with fail
  refine bodyPost_ret (v := .tuple #[.agg #[.int .i64 0, .int .i64 0, .slice none 0 0], .slice none 0 0, .int .i64 1]) (by simp [results, Try.results7, go_sem, h0, h1, h2]) rfl ?_
  refine ⟨_, _, rfl, .inl (Own3.nil_ _ _), .inl (Owns.nil_ _ _), fun k hk => by simp [blk] at hk, ?_⟩
  repeat refine Below.setCell ?_ (by simp) _
  exact hB1
theorem specPrune_no (sy st : Int) (rv : Value) (l : List Int) (w : World) (h : Sl3 w rv l) (hv : validB sy st l = false) :
    Calls Try.prog 5 #[.agg #[.int .i64 sy, .int .i64 st, rv]] w (RetMLC w 0 0 [] [] 1) := by
  have HV := Lib.hid hv
  have HS := Lib.hid h
  clear hv h
  go_enter Try.func5, Try.ntmps5
  go_wp2_with fail
  refine (l05Is_any w.heap.size sy st _ l _ (C3.next (C3.made _ _ _ _ _) (below_one _ _)) (HS.out.next (below_two _ _ _))).mono ?_
  rintro e w1 ⟨rfl, hb1⟩
  rw [HV.out]
  have hh := heap_two hb1
  obtain ⟨h0, h1, h2, k0, k1, k2⟩ := Box.of hh.2
  have hB1 : Below w.heap.size w w1 := (below_two w _ _).trans (hb1.mono (by simp; omega))
  clear hh hb1
  go_wp2_with fail
  refine bodyPost_ret (v := .tuple #[.agg #[.int .i64 0, .int .i64 0, .slice none 0 0], .slice none 0 0, .int .i64 1]) (by simp [results, Try.results5, go_sem, h0, h1, h2]) rfl ?_
  refine ⟨_, _, rfl, .inl (Own3.nil_ _ _), .inl (Owns.nil_ _ _), fun k hk => by simp [blk] at hk, ?_⟩
  repeat refine Below.setCell ?_ (by simp) _
  exact hB1
theorem bothPruneMachine (sy st : Int) (l : List Int) (h : Fit l ∧ l.length ≤ 3145728 ∧ (-9223372036854775808 ≤ sy ∧ sy ≤ 9223372036854775807) ∧ (-9223372036854775808 ≤ st ∧ st ≤ 9223372036854775807)) : ∃ (RS RT : Int) (R R1 : List Int) (C : Int), R.length ≤ 4000000 ∧ R1.length ≤ 4000000 ∧
    (∀ (w : World) (rv : Value), Sl3 w rv l → Calls Try.prog 5 #[.agg #[.int .i64 sy, .int .i64 st, rv]] w (RetMLC w RS RT R R1 C)) ∧
    (∀ (w : World) (rv : Value), Sl3 w rv l → Calls Try.prog 7 #[.agg #[.int .i64 sy, .int .i64 st, rv]] w (RetMLC w RS RT R R1 C)) := by
  cases hv : validB sy st l with
  | false => exact ⟨0, 0, [], [], 1, by simp, by simp, fun w rv hs => specPrune_no sy st rv l w hs hv, fun w rv hs => implPrune_no sy st rv l w hs hv⟩
  | true =>
    obtain ⟨h1, h2, h3, _⟩ := validB_true hv
    obtain ⟨s, rfl⟩ : ∃ s : Nat, sy = (s : Int) := ⟨sy.toNat, by omega⟩
    obtain ⟨t, rfl⟩ : ∃ t : Nat, st = (t : Int) := ⟨st.toNat, by omega⟩
    have hl := valid_len hv
    have hpos : 0 < t * s := Nat.mul_pos (by omega) (by omega)
    have hle := (rchL_is (leads_valid hv) (by omega)).len (leads_valid hv) (by omega)
    have hop : ∀ (w : World) (rv : Value), Sl3 w rv l → ∃ ad c, rv = .slice (some ad) (t * s) c ∧ t * s ≤ c ∧ c ≤ maxLen ∧ Ints w w.heap.size (some ad) (t * s * 3) l := by
      rintro w rv ⟨A, n, c, rfl, hnc, hcm, hr⟩
      have hn : n = t * s := by have := hr.1; omega
      subst hn
      obtain ⟨ad, rfl, _, _⟩ := hr.2 (by omega)
      exact ⟨ad, c, rfl, hnc, hcm, hr⟩
    refine ⟨(s : Int), ((rchL (nxL s l)).length : Int), prT (rchL (nxL s l)) s l ((rchL (nxL s l)).length * s), rchL (nxL s l), 0, ?_, by omega, fun w rv hs => ?_, fun w rv hs => ?_⟩
    · rw [prT_len]
      have := Nat.mul_le_mul (show (rchL (nxL s l)).length ≤ 1000 by omega) (show s ≤ 1000 by omega)
      omega
    · obtain ⟨ad, c, rfl, hnc, hcm, hr⟩ := hop w rv hs
      exact specPrune_good s t (t * s) rfl ad c l w hr hcm hnc h.1 (by omega) (by omega) (by omega) (by omega) hv
    · obtain ⟨ad, c, rfl, hnc, hcm, hr⟩ := hop w rv hs
      exact implPrune_good s t (t * s) rfl ad c l w hr hcm hnc h.1 (by omega) (by omega) (by omega) (by omega) hv
end Go.Proofs.Ythijhpkkijjlfaa
