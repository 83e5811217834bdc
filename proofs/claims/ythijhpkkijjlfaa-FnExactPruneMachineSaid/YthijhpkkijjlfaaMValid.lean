/- ValidMachine: contracts of the functions that say whether a rule, a machine is valid. No condition beyond the stated bounds. -/
import Derived.Test.YthijhpkkijjlfaaMach
import Derived.Deep.RegionHeld3
namespace Go.Proofs.Ythijhpkkijjlfaa
open Go.RowKit
/-- (a, b, c) is the rule that says 'no rule'. -/
def noneB (a b c : Int) : Bool := decide (a = 0 ∧ b = 0 ∧ c = -1)
/-- (a, b, c) is a valid element of Rules. -/
def ruleB (sy st a b c : Int) : Bool := noneB a b c || (inB a 0 (sy - 1) && (decide (b = 1) || decide (b = -1)) && inB c 0 (st - 1))
theorem l05None_any (w : World) : Calls Try.prog 42 #[] w fun e w' => e = .returned (.agg #[.int .i64 0, .int .i64 0, .int .i64 (-1)]) ∧ Below w.heap.size w w' := by
  go_enter Try.func42, Try.ntmps42
  go_wp2
  exact bodyPost_ret (v := .agg #[.int .i64 0, .int .i64 0, .int .i64 (-1)]) (by simp [results, Try.results42, go_sem]) rfl ⟨rfl, below_one _ _⟩
theorem noRule_any (w : World) : Calls Try.prog 38 #[] w fun e w' => e = .returned (.agg #[.int .i64 0, .int .i64 0, .int .i64 (-1)]) ∧ Below w.heap.size w w' := by
  go_enter Try.func38, Try.ntmps38
  go_wp2
  exact bodyPost_ret (v := .agg #[.int .i64 0, .int .i64 0, .int .i64 (-1)]) (by simp [results, Try.results38, go_sem]) rfl ⟨rfl, below_one _ _⟩
/-- Three cells of a block. -/
abbrev C3 (w : World) (b : Nat) (x y z : Value) : Prop := w.cell? ⟨b, 0, none⟩ = some x ∧ w.cell? ⟨b, 1, none⟩ = some y ∧ w.cell? ⟨b, 2, none⟩ = some z
theorem C3.next {w w' : World} {b : Nat} {x y z : Value} (h : C3 w b x y z) (hb : Below w.heap.size w w') : C3 w' b x y z := by
  have hlt : b < w.heap.size := cell_lt h.1
  exact ⟨(hb.cell (p := ⟨b, 0, none⟩) hlt).trans h.1, (hb.cell (p := ⟨b, 1, none⟩) hlt).trans h.2.1, (hb.cell (p := ⟨b, 2, none⟩) hlt).trans h.2.2⟩
theorem C3.kept {w w' : World} {b : Nat} {x y z : Value} {row : Option Nat} (h : C3 w b x y z) (hg : w.grownBy w' row) (hne : ∀ k, row = some k → k ≠ b) : C3 w' b x y z := by
  have key : ∀ i v, w.cell? ⟨b, i, none⟩ = some v → w'.cell? ⟨b, i, none⟩ = some v := fun i v hv => hg.cell hv (fun e => hne b e.symm rfl)
  exact ⟨key 0 x h.1, key 1 y h.2.1, key 2 z h.2.2⟩
theorem C3.drew {w : World} {b : Nat} {x y z : Value} (h : C3 w b x y z) : C3 w.drew b x y z := h
theorem C3.made (w : World) (x y z : Value) (t : TypeId) : C3 (w.alloc (.cells #[x, y, z] t)) w.heap.size x y z :=
  ⟨by rw [World.cell?_alloc_at _ _ _ _ rfl]; rfl, by rw [World.cell?_alloc_at _ _ _ _ rfl]; rfl, by rw [World.cell?_alloc_at _ _ _ _ rfl]; rfl⟩
theorem equal_rule (w : World) (a b c a' b' c' : Int) :
    (Op.equalIn 10000 42 (.agg #[.int .i64 a, .int .i64 b, .int .i64 c]) (.agg #[.int .i64 a', .int .i64 b', .int .i64 c'])).run Try.prog w = .ok (decide (a = a' ∧ b = b' ∧ c = c')) w := by
  by_cases h1 : a = a' <;> by_cases h2 : b = b' <;> by_cases h3 : c = c' <;> simp [h1, h2, h3, go_sem]
theorem eql_rule (w : World) (a b c a' b' c' : Int) :
    (binOp .eql 42 (.agg #[.int .i64 a, .int .i64 b, .int .i64 c]) (.agg #[.int .i64 a', .int .i64 b', .int .i64 c'])).run Try.prog w = .ok (.bool (decide (a = a' ∧ b = b' ∧ c = c'))) w := by
  rw [run_eql_struct, equal_rule]; rfl
set_option maxHeartbeats 1000000 in
theorem isRule_any (a b c : Int) (w : World) :
    Calls Try.prog 23 #[.agg #[.int .i64 a, .int .i64 b, .int .i64 c]] w fun e w' => e = .returned (.bool (!noneB a b c)) ∧ Below w.heap.size w w' := by
  have hq : ∀ w : World, (Op.equalIn 10000 42 (.agg #[.int .i64 a, .int .i64 b, .int .i64 c]) (.agg #[.int .i64 0, .int .i64 0, .int .i64 (-1)])).run Try.prog w = .ok (noneB a b c) w := fun w => equal_rule w a b c 0 0 (-1)
  go_enter Try.func23, Try.ntmps23
  go_wp2
  go_region_held3 (fun w' => w'.cell? ⟨w.heap.size, 0, none⟩ = some (.int .i64 a) ∧ w'.cell? ⟨w.heap.size, 1, none⟩ = some (.int .i64 b) ∧ w'.cell? ⟨w.heap.size, 2, none⟩ = some (.int .i64 c))
    (first
      | go_keep
      | exact C3.next (C3.drew (C3.made w (.int .i64 a) (.int .i64 b) (.int .i64 c) _)) hbA)
    (first
      | (go_at_call 38; refine (noRule_any _).mono ?_; rintro e wA ⟨rfl, hbA⟩))
  go_wp2
  go_ret
  exact ⟨rfl, below_next (below_one w _).drew hbA⟩
theorem ruleB_none {sy st a b c : Int} (h : noneB a b c = true) : ruleB sy st a b c = true := by unfold ruleB; rw [h]; rfl
theorem ruleB_rest {sy st a b c : Int} (h : noneB a b c = false) : ruleB sy st a b c = (inB a 0 (sy - 1) && (decide (b = 1) || decide (b = -1)) && inB c 0 (st - 1)) := by unfold ruleB; rw [h]; rfl
set_option maxHeartbeats 1000000 in
theorem validRule_any (sy st a b c : Int) (rv : Value) (w : World) (h1 : -1000000 ≤ sy ∧ sy ≤ 1000000) (h2 : -1000000 ≤ st ∧ st ≤ 1000000) :
    Calls Try.prog 36 #[.agg #[.int .i64 sy, .int .i64 st, rv], .agg #[.int .i64 a, .int .i64 b, .int .i64 c]] w fun e w' => e = .returned (.bool (ruleB sy st a b c)) ∧ Below w.heap.size w w' := by
  obtain ⟨s1, s2⟩ := h1
  obtain ⟨s3, s4⟩ := h2
  cases hn : noneB a b c with
  | true =>
    have HF := Lib.hid (ruleB_none (sy := sy) (st := st) hn)
    have HN := Lib.hid hn
    clear hn
    go_enter Try.func36, Try.ntmps36
    go_wp2_with fail
    refine (isRule_any a b c _).mono ?_
    rintro e wA ⟨rfl, hbA⟩
    have hB := (below_two w _ _).trans (hbA.mono (by simp; omega))
    obtain ⟨m0, m1, m2⟩ := C3.next (C3.next (C3.made w _ _ _ _) (below_one _ _)) hbA
    obtain ⟨r0, r1, r2⟩ := C3.next (C3.made (w.alloc _) _ _ _ _) hbA
    simp only [World.size_alloc] at r0 r1 r2
    rw [HN.out]
    go_wp2_with (go_at_call 32; refine (within_any _ _ _ _).mono ?_; rintro e w' ⟨rfl, rfl⟩)
    go_ret
    exact ⟨ret_bool HF.out.symm, hB⟩
  | false =>
    have HR := Lib.hid (ruleB_rest (sy := sy) (st := st) hn)
    have HN := Lib.hid hn
    clear hn
    cases ha : inB a 0 (sy - 1) with
    | false =>
      have HF : Hid (ruleB sy st a b c = false) := Lib.hid (by rw [HR.out, ha]; rfl)
      go_enter Try.func36, Try.ntmps36
      go_wp2_with fail
      refine (isRule_any a b c _).mono ?_
      rintro e wA ⟨rfl, hbA⟩
      have hB := (below_two w _ _).trans (hbA.mono (by simp; omega))
      obtain ⟨m0, m1, m2⟩ := C3.next (C3.next (C3.made w _ _ _ _) (below_one _ _)) hbA
      obtain ⟨r0, r1, r2⟩ := C3.next (C3.made (w.alloc _) _ _ _ _) hbA
      simp only [World.size_alloc] at r0 r1 r2
      rw [HN.out]
      go_wp2_with (go_at_call 32; refine (within_any _ _ _ _).mono ?_; rintro e w' ⟨rfl, rfl⟩)
      go_ret
      exact ⟨ret_bool HF.out.symm, hB⟩
    | true =>
      by_cases hb1 : b = -1
      · have e1 : (b == -1) = true := by simpa using hb1
        have HF : Hid (ruleB sy st a b c = inB c 0 (st - 1)) := Lib.hid (by rw [HR.out, ha, hb1]; simp)
        clear hb1
        go_enter Try.func36, Try.ntmps36
        go_wp2_with fail
        refine (isRule_any a b c _).mono ?_
        rintro e wA ⟨rfl, hbA⟩
        have hB := (below_two w _ _).trans (hbA.mono (by simp; omega))
        obtain ⟨m0, m1, m2⟩ := C3.next (C3.next (C3.made w _ _ _ _) (below_one _ _)) hbA
        obtain ⟨r0, r1, r2⟩ := C3.next (C3.made (w.alloc _) _ _ _ _) hbA
        simp only [World.size_alloc] at r0 r1 r2
        rw [HN.out]
        go_wp2_with (go_at_call 32; refine (within_any _ _ _ _).mono ?_; rintro e w' ⟨rfl, rfl⟩)
        go_ret
        exact ⟨ret_bool HF.out.symm, hB⟩
      · have e1 : (b == -1) = false := by simpa using hb1
        by_cases hb2 : b = 1
        · have e2 : (b == 1) = true := by simpa using hb2
          have HF : Hid (ruleB sy st a b c = inB c 0 (st - 1)) := Lib.hid (by rw [HR.out, ha, hb2]; simp)
          clear hb1 hb2
          go_enter Try.func36, Try.ntmps36
          go_wp2_with fail
          refine (isRule_any a b c _).mono ?_
          rintro e wA ⟨rfl, hbA⟩
          have hB := (below_two w _ _).trans (hbA.mono (by simp; omega))
          obtain ⟨m0, m1, m2⟩ := C3.next (C3.next (C3.made w _ _ _ _) (below_one _ _)) hbA
          obtain ⟨r0, r1, r2⟩ := C3.next (C3.made (w.alloc _) _ _ _ _) hbA
          simp only [World.size_alloc] at r0 r1 r2
          rw [HN.out]
          go_wp2_with (go_at_call 32; refine (within_any _ _ _ _).mono ?_; rintro e w' ⟨rfl, rfl⟩)
          go_ret
          exact ⟨ret_bool HF.out.symm, hB⟩
        · have e2 : (b == 1) = false := by simpa using hb2
          have HF : Hid (ruleB sy st a b c = false) := Lib.hid (by rw [HR.out, ha]; simp [hb1, hb2])
          clear hb1 hb2
          go_enter Try.func36, Try.ntmps36
          go_wp2_with fail
          refine (isRule_any a b c _).mono ?_
          rintro e wA ⟨rfl, hbA⟩
          have hB := (below_two w _ _).trans (hbA.mono (by simp; omega))
          obtain ⟨m0, m1, m2⟩ := C3.next (C3.next (C3.made w _ _ _ _) (below_one _ _)) hbA
          obtain ⟨r0, r1, r2⟩ := C3.next (C3.made (w.alloc _) _ _ _ _) hbA
          simp only [World.size_alloc] at r0 r1 r2
          rw [HN.out]
          go_wp2_with (go_at_call 32; refine (within_any _ _ _ _).mono ?_; rintro e w' ⟨rfl, rfl⟩)
          go_ret
          exact ⟨ret_bool HF.out.symm, hB⟩
set_option maxHeartbeats 1000000 in
theorem l05Rule_any (sy st a b c : Int) (w : World) (h1 : -1000000 ≤ sy ∧ sy ≤ 1000000) (h2 : -1000000 ≤ st ∧ st ≤ 1000000) :
    Calls Try.prog 30 #[.agg #[.int .i64 a, .int .i64 b, .int .i64 c], .int .i64 sy, .int .i64 st] w fun e w' => e = .returned (.bool (ruleB sy st a b c)) ∧ Below w.heap.size w w' := by
  obtain ⟨s1, s2⟩ := h1
  obtain ⟨s3, s4⟩ := h2
  cases hn : noneB a b c with
  | true =>
    have HF := Lib.hid (ruleB_none (sy := sy) (st := st) hn)
    have hq : ∀ w : World, (Op.equalIn 10000 42 (.agg #[.int .i64 a, .int .i64 b, .int .i64 c]) (.agg #[.int .i64 0, .int .i64 0, .int .i64 (-1)])).run Try.prog w = .ok true w := fun w => by rw [← hn]; exact equal_rule w a b c 0 0 (-1)
    clear hn
    go_enter Try.func30, Try.ntmps30
    go_wp2_with fail
    go_region_held3 (fun w' => w'.cell? ⟨w.heap.size, 0, none⟩ = some (.int .i64 a) ∧ w'.cell? ⟨w.heap.size, 1, none⟩ = some (.int .i64 b) ∧ w'.cell? ⟨w.heap.size, 2, none⟩ = some (.int .i64 c))
      (first
        | go_keep
        | exact C3.next (C3.drew (C3.made w (.int .i64 a) (.int .i64 b) (.int .i64 c) _)) hbA)
      (first
        | (go_at_call 42; refine (l05None_any _).mono ?_; rintro e wA ⟨rfl, hbA⟩))
    have hB := below_next (below_one w _).drew hbA
    obtain ⟨r0, r1, r2⟩ := C3.next (C3.drew (C3.made w (.int .i64 a) (.int .i64 b) (.int .i64 c) _)) hbA
    clear hq
    go_wp2_with (go_at_call 29; refine (l00In_any _ _ _ _).mono ?_; rintro e w' ⟨rfl, rfl⟩)
    go_ret
    exact ⟨ret_bool HF.out.symm, hB⟩
  | false =>
    have HR := Lib.hid (ruleB_rest (sy := sy) (st := st) hn)
    have hq : ∀ w : World, (Op.equalIn 10000 42 (.agg #[.int .i64 a, .int .i64 b, .int .i64 c]) (.agg #[.int .i64 0, .int .i64 0, .int .i64 (-1)])).run Try.prog w = .ok false w := fun w => by rw [← hn]; exact equal_rule w a b c 0 0 (-1)
    clear hn
    cases ha : inB a 0 (sy - 1) with
    | false =>
      have HF : Hid (ruleB sy st a b c = false) := Lib.hid (by rw [HR.out, ha]; rfl)
      go_enter Try.func30, Try.ntmps30
      go_wp2_with fail
      go_region_held3 (fun w' => w'.cell? ⟨w.heap.size, 0, none⟩ = some (.int .i64 a) ∧ w'.cell? ⟨w.heap.size, 1, none⟩ = some (.int .i64 b) ∧ w'.cell? ⟨w.heap.size, 2, none⟩ = some (.int .i64 c))
        (first
          | go_keep
          | exact C3.next (C3.drew (C3.made w (.int .i64 a) (.int .i64 b) (.int .i64 c) _)) hbA)
        (first
          | (go_at_call 42; refine (l05None_any _).mono ?_; rintro e wA ⟨rfl, hbA⟩))
      have hB := below_next (below_one w _).drew hbA
      obtain ⟨r0, r1, r2⟩ := C3.next (C3.drew (C3.made w (.int .i64 a) (.int .i64 b) (.int .i64 c) _)) hbA
      clear hq
      go_wp2_with (go_at_call 29; refine (l00In_any _ _ _ _).mono ?_; rintro e w' ⟨rfl, rfl⟩)
      go_ret
      exact ⟨ret_bool HF.out.symm, hB⟩
    | true =>
      by_cases hb1 : b = 1
      · have e1 : (b == 1) = true := by simpa using hb1
        have HF : Hid (ruleB sy st a b c = inB c 0 (st - 1)) := Lib.hid (by rw [HR.out, ha, hb1]; simp)
        clear hb1
        go_enter Try.func30, Try.ntmps30
        go_wp2_with fail
        go_region_held3 (fun w' => w'.cell? ⟨w.heap.size, 0, none⟩ = some (.int .i64 a) ∧ w'.cell? ⟨w.heap.size, 1, none⟩ = some (.int .i64 b) ∧ w'.cell? ⟨w.heap.size, 2, none⟩ = some (.int .i64 c))
          (first
            | go_keep
            | exact C3.next (C3.drew (C3.made w (.int .i64 a) (.int .i64 b) (.int .i64 c) _)) hbA)
          (first
            | (go_at_call 42; refine (l05None_any _).mono ?_; rintro e wA ⟨rfl, hbA⟩))
        have hB := below_next (below_one w _).drew hbA
        obtain ⟨r0, r1, r2⟩ := C3.next (C3.drew (C3.made w (.int .i64 a) (.int .i64 b) (.int .i64 c) _)) hbA
        clear hq
        go_wp2_with (go_at_call 29; refine (l00In_any _ _ _ _).mono ?_; rintro e w' ⟨rfl, rfl⟩)
        go_ret
        exact ⟨ret_bool HF.out.symm, hB⟩
      · have e1 : (b == 1) = false := by simpa using hb1
        by_cases hb2 : b = -1
        · have e2 : (b == -1) = true := by simpa using hb2
          have HF : Hid (ruleB sy st a b c = inB c 0 (st - 1)) := Lib.hid (by rw [HR.out, ha, hb2]; simp)
          clear hb1 hb2
          go_enter Try.func30, Try.ntmps30
          go_wp2_with fail
          go_region_held3 (fun w' => w'.cell? ⟨w.heap.size, 0, none⟩ = some (.int .i64 a) ∧ w'.cell? ⟨w.heap.size, 1, none⟩ = some (.int .i64 b) ∧ w'.cell? ⟨w.heap.size, 2, none⟩ = some (.int .i64 c))
            (first
              | go_keep
              | exact C3.next (C3.drew (C3.made w (.int .i64 a) (.int .i64 b) (.int .i64 c) _)) hbA)
            (first
              | (go_at_call 42; refine (l05None_any _).mono ?_; rintro e wA ⟨rfl, hbA⟩))
          have hB := below_next (below_one w _).drew hbA
          obtain ⟨r0, r1, r2⟩ := C3.next (C3.drew (C3.made w (.int .i64 a) (.int .i64 b) (.int .i64 c) _)) hbA
          clear hq
          go_wp2_with (go_at_call 29; refine (l00In_any _ _ _ _).mono ?_; rintro e w' ⟨rfl, rfl⟩)
          go_ret
          exact ⟨ret_bool HF.out.symm, hB⟩
        · have e2 : (b == -1) = false := by simpa using hb2
          have HF : Hid (ruleB sy st a b c = false) := Lib.hid (by rw [HR.out, ha]; simp [hb1, hb2])
          clear hb1 hb2
          go_enter Try.func30, Try.ntmps30
          go_wp2_with fail
          go_region_held3 (fun w' => w'.cell? ⟨w.heap.size, 0, none⟩ = some (.int .i64 a) ∧ w'.cell? ⟨w.heap.size, 1, none⟩ = some (.int .i64 b) ∧ w'.cell? ⟨w.heap.size, 2, none⟩ = some (.int .i64 c))
            (first
              | go_keep
              | exact C3.next (C3.drew (C3.made w (.int .i64 a) (.int .i64 b) (.int .i64 c) _)) hbA)
            (first
              | (go_at_call 42; refine (l05None_any _).mono ?_; rintro e wA ⟨rfl, hbA⟩))
          have hB := below_next (below_one w _).drew hbA
          obtain ⟨r0, r1, r2⟩ := C3.next (C3.drew (C3.made w (.int .i64 a) (.int .i64 b) (.int .i64 c) _)) hbA
          clear hq
          go_wp2_with (go_at_call 29; refine (l00In_any _ _ _ _).mono ?_; rintro e w' ⟨rfl, rfl⟩)
          go_ret
          exact ⟨ret_bool HF.out.symm, hB⟩
end Go.Proofs.Ythijhpkkijjlfaa
