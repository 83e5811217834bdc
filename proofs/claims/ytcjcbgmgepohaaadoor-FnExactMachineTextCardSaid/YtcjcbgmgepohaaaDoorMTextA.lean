/- MachineText of the program, whatever the machine; both give the same. Where the table of powers is laid. -/
import Derived.Test.YtcjcbgmgepohaaaDoorMTextI
namespace Go.Proofs.YtcjcbgmgepohaaaDoor
open Go.RowKit Go.Shelf
attribute [local go_sem] Oper.semAt_some
set_option maxRecDepth 100000 in
set_option maxHeartbeats 1000000 in
theorem implMachineText_no (sy st : Int) (rv : Value) (l : List Int) (w : World) (h : Sl3 w rv l) (hv : validB sy st l = false) :
    Calls Tryd.prog 7 #[.agg #[.int .i64 sy, .int .i64 st, rv]] w fun e w' => e = .returned (.string (str (mtxt sy st l))) ∧ Below w.heap.size w w' := by
  have HT : Hid (str (mtxt sy st l) = ⟨#[]⟩) := Lib.hid (by rw [mtxt_no hv]; rfl)
  have HV := Lib.hid hv
  have HS := Lib.hid h
  clear hv h
  refine (callsIn_wide (n := 5)).1 ?_
  refine callsIn_of_wp_marks Tryd.func7 rfl trivial ?_ rfl
  simp only [Tryd.ntmps7, List.size_toArray, List.length_cons, List.length_nil, Nat.reduceAdd, Nat.reduceSub, Array.replicate_succ, Array.replicate_zero, List.push_toArray, List.append_toArray, List.nil_append, List.cons_append]
  gi_wp2_with (refine ⟨trivial, ?_⟩; gi_at_call 13; refine (callsIn_wide.2 (implValidMachine_any sy st _ l _ (HS.out.next (below_one _ _)))).mono ?_; rintro e w1 ⟨rfl, hb1⟩; rw [HV.out])
  refine ⟨_, results_tmp rfl _ _ _, ?_, below_next (below_one _ _) hb1⟩
  rw [HT.out]
  rfl
theorem implMachineText_any (sy st : Int) (rv : Value) (l : List Int) (w : World) (hp : Pow w) (h : Sl3 w rv l) (hf : Fit l) :
    Calls Tryd.prog 7 #[.agg #[.int .i64 sy, .int .i64 st, rv]] w fun e w' => e = .returned (.string (str (mtxt sy st l))) ∧ Below w.heap.size w w' := by
  cases hv : validB sy st l with
  | false => exact implMachineText_no sy st rv l w h hv
  | true =>
    obtain ⟨h1, h2, h3, _⟩ := validB_true hv
    obtain ⟨s, rfl⟩ : ∃ s : Nat, sy = (s : Int) := ⟨sy.toNat, by omega⟩
    obtain ⟨t, rfl⟩ : ∃ t : Nat, st = (t : Int) := ⟨st.toNat, by omega⟩
    obtain ⟨A, n, c, rfl, hnc, hcm, hr⟩ := h
    have hl := hr.1
    have e : ((3 : Int) * ((s : Int) * (t : Int))) = ((3 * (t * s) : Nat) : Int) := by rw [Nat.mul_comm t s]; simp
    rw [e] at h3
    have hn : n = t * s := by omega
    have hpos : 0 < t * s := Nat.mul_pos (by omega) (by omega)
    obtain ⟨ad, rfl, _, _⟩ := hr.2 (by omega)
    have := implMachineText_good s t n hn ad c l w hp hr hcm hnc hf (by omega) (by omega) (by omega) (by omega) hv
    obtain ⟨k, rfl⟩ : ∃ k, t = k + 1 := ⟨t - 1, by omega⟩
    rw [← mtx_join l (by omega) k, ← hn] at this
    rw [mtxt_yes hv, show l.length / 3 = n by omega]
    exact this
theorem bothMachineText (sy st : Int) (l : List Int) (h : Fit l ∧ l.length ≤ 3145728 ∧ (-9223372036854775808 ≤ sy ∧ sy ≤ 9223372036854775807) ∧ (-9223372036854775808 ≤ st ∧ st ≤ 9223372036854775807)) : ∃ R : ByteArray,
    (∀ (w : World) (rv : Value), Sl3 w rv l → Calls Tryd.prog 5 #[.agg #[.int .i64 sy, .int .i64 st, rv]] w fun e w' => e = .returned (.string R) ∧ Below w.heap.size w w') ∧
    (∀ (w : World) (rv : Value), Pow w → Sl3 w rv l → Calls Tryd.prog 7 #[.agg #[.int .i64 sy, .int .i64 st, rv]] w fun e w' => e = .returned (.string R) ∧ Below w.heap.size w w') :=
  ⟨_, fun w rv hs => specMachineText_any sy st rv l w hs h.1, fun w rv hp hs => implMachineText_any sy st rv l w hp hs h.1⟩
end Go.Proofs.YtcjcbgmgepohaaaDoor
