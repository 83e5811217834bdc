/- MachineText: the reference's answer; the text of a rule in the program; the text of a chunk. Where the table of powers is laid. -/
import Derived.Test.YtcjcbgmgepohaaaDoorMText
namespace Go.Proofs.YtcjcbgmgepohaaaDoor
open Go.RowKit
theorem Pow.drew {w : World} (h : Pow w) : Pow w.drew := h
theorem l05Text_sl (b : Nat) (s : Nat) (st : Int) (rv : Value) (l : List Int) (w : World) (h : C3 w b (.int .i64 (s : Int)) (.int .i64 st) rv) (hr : Sl3 w rv l) (hn : l.length ≤ 300000) (hf : Fit l) (hs0 : 0 < s) (hs1 : s ≤ 1000) :
    Calls Tryd.prog 11 #[.pointer (some ⟨b, 0, none⟩)] w fun e w' => e = .returned (.string (str (mtx s l (l.length / 3)))) ∧ Below w.heap.size w w' := by
  obtain ⟨A, n, c, rfl, hnc, hcm, hr⟩ := hr
  have hl := hr.1
  rw [show l.length / 3 = n by omega]
  exact l05Text_any b s st A n c l w h hr hcm hnc (by omega) hf hs0 hs1
theorem mtxt_no {sy st : Int} {l : List Int} (h : validB sy st l = false) : mtxt sy st l = [] := by unfold mtxt; rw [h]; rfl
theorem mtxt_yes {s : Nat} {st : Int} {l : List Int} (h : validB (s : Int) st l = true) : mtxt (s : Int) st l = mtx s l (l.length / 3) := by unfold mtxt; rw [h]; rfl
theorem specMachineText_any (sy st : Int) (rv : Value) (l : List Int) (w : World) (h : Sl3 w rv l) (hf : Fit l) :
    Calls Tryd.prog 5 #[.agg #[.int .i64 sy, .int .i64 st, rv]] w fun e w' => e = .returned (.string (str (mtxt sy st l))) ∧ Below w.heap.size w w' := by
  have HS := Lib.hid h
  clear h
  cases hv : validB sy st l with
  | false =>
    have HT : Hid (str (mtxt sy st l) = ⟨#[]⟩) := Lib.hid (by rw [mtxt_no hv]; rfl)
    have HV := Lib.hid hv
    clear hv
    go_enter Tryd.func5, Tryd.ntmps5
    go_wp2_with fail
    refine (l05Is_any _ sy st rv l _ (C3.made _ _ _ _ _) (HS.out.next (below_one _ _))).mono ?_
    rintro e w1 ⟨rfl, hb⟩
    rw [HV.out]
    go_wp2_with fail
    go_ret
    exact ⟨ret_str HT.out.symm, below_next (below_one _ _) hb⟩
  | true =>
    obtain ⟨h1, h2, h3, _⟩ := validB_true hv
    obtain ⟨s, rfl⟩ : ∃ s : Nat, sy = (s : Int) := ⟨sy.toNat, by omega⟩
    have hp := prod_ms h1 h2
    have hln : l.length ≤ 300000 := by omega
    have hs0 : 0 < s := by omega
    have hs1 : s ≤ 1000 := by omega
    have HT := Lib.hid (mtxt_yes hv)
    have HV := Lib.hid hv
    clear hv h1 h2 h3 hp
    go_enter Tryd.func5, Tryd.ntmps5
    go_wp2_with fail
    refine (l05Is_any _ (s : Int) st rv l _ (C3.made _ _ _ _ _) (HS.out.next (below_one _ _))).mono ?_
    rintro e w1 ⟨rfl, hb⟩
    rw [HV.out]
    go_wp2_with fail
    refine (l05Text_sl _ s st rv l _ (C3.next (C3.made _ _ _ _ _) hb) ((HS.out.next (below_one _ _)).next hb) hln hf hs0 hs1).mono ?_
    rintro e w2 ⟨rfl, hb2⟩
    rw [← HT.out]
    go_wp2_with fail
    go_ret
    exact ⟨rfl, below_next (below_next (below_one _ _) hb) hb2⟩
set_option maxHeartbeats 1000000 in
theorem ruleText_any (x y z : Int) (w : World) (hp : Pow w) (a0 : -9223372036854775808 ≤ x) (a1 : x ≤ 9223372036854775807) (e0 : -9223372036854775808 ≤ z) (e1 : z ≤ 9223372036854775807) :
    Calls Tryd.prog 15 #[.agg #[.int .i64 x, .int .i64 y, .int .i64 z]] w fun e w' => e = .returned (.string (str (rtx x y z))) ∧ Below w.heap.size w w' := by
  have HP := Lib.hid hp
  clear hp
  have hB0 := below_one w (.cells #[.int .i64 x, .int .i64 y, .int .i64 z] 44)
  obtain ⟨q0, q1, q2⟩ := C3.made w (.int .i64 x) (.int .i64 y) (.int .i64 z) 44
  cases hnb : noneB x y z with
  | true =>
    have HF : Hid (str (rtx x y z) = ⟨#[45, 45, 45]⟩) := Lib.hid (by unfold rtx; rw [hnb]; rfl)
    have HN := Lib.hid hnb
    clear hnb
    go_enter Tryd.func15, Tryd.ntmps15
    go_wp2_with fail
    refine (isRule_any x y z _).mono ?_
    rintro e wA ⟨rfl, hbA⟩
    rw [HN.out]
    go_wp2_with fail
    go_ret
    exact ⟨ret_str HF.out.symm, below_next hB0 hbA⟩
  | false =>
    obtain ⟨u, hu⟩ : ∃ u, str (Lib.itoa x) = u := ⟨_, rfl⟩
    obtain ⟨v, hv⟩ : ∃ v, str (Lib.itoa z) = v := ⟨_, rfl⟩
    have hus : u.size ≤ 21 := by rw [← hu]; exact itoa_len a0 a1
    have hvs : v.size ≤ 21 := by rw [← hv]; exact itoa_len e0 e1
    have HU := Lib.hid hu
    have HV := Lib.hid hv
    have HN := Lib.hid hnb
    have hx1 : u.size + 1 ≤ 9223372036854775807 := by omega
    have hx2 : u.size + 1 + v.size ≤ 9223372036854775807 := by omega
    by_cases hy0 : y < 0
    · have HF : Hid (str (rtx x y z) = u ++ ⟨#[76]⟩ ++ v) := Lib.hid (by unfold rtx; rw [hnb, if_neg (by simp), if_pos hy0, ← str_app, ← str_app, ← hu, ← hv]; rfl)
      have hy1 : ∀ w : World, (Op.stringOp .add u ⟨#[76]⟩).run Tryd.prog w = .ok (.string (u ++ ⟨#[76]⟩)) w := fun w => run_string_add_sum w _ _ hx1
      have hy2 : ∀ w : World, (Op.stringOp .add (u ++ ⟨#[76]⟩) v).run Tryd.prog w = .ok (.string (u ++ ⟨#[76]⟩ ++ v)) w := fun w => run_string_add_sum w _ _ (by rw [ByteArray.size_append]; exact hx2)
      clear hnb hu hv
      go_enter Tryd.func15, Tryd.ntmps15
      go_wp2_with fail
      refine (isRule_any x y z _).mono ?_
      rintro e wA ⟨rfl, hbA⟩
      have hBA := below_next hB0 hbA
      have hPA := HP.out.next hBA
      obtain ⟨r0, r1, r2⟩ := C3.next ⟨q0, q1, q2⟩ hbA
      rw [HN.out]
      clear q0 q1 q2
      go_wp2_with fail
      go_region_held3 (fun w' => w'.cell? ⟨w.heap.size, 0, none⟩ = some (.int .i64 x) ∧ w'.cell? ⟨w.heap.size, 1, none⟩ = some (.int .i64 y) ∧ w'.cell? ⟨w.heap.size, 2, none⟩ = some (.int .i64 z))
        (first | go_keep | exact C3.next (C3.drew ⟨r0, r1, r2⟩) hbB | exact C3.next (C3.next (C3.drew ⟨r0, r1, r2⟩) hbB) hbC)
        (first | (go_at_call 30; (with_reducible refine (implDecimal_any x _ (Pow.drew hPA) a0 a1).mono ?_); rintro e wB ⟨rfl, hbB⟩; rw [HU.out]) | (go_at_call 30; (with_reducible refine (implDecimal_any z _ (Pow.next (Pow.drew hPA) hbB) e0 e1).mono ?_); rintro e wC ⟨rfl, hbC⟩; rw [HV.out]))
      have hBB : Below w.heap.size w wB := below_next hBA.drew hbB
      have hBC : Below w.heap.size w wC := below_next hBB hbC
      go_wp2_with fail
      go_ret
      exact ⟨ret_str HF.out.symm, hBC⟩
    · have HF : Hid (str (rtx x y z) = u ++ ⟨#[82]⟩ ++ v) := Lib.hid (by unfold rtx; rw [hnb, if_neg (by simp), if_neg hy0, ← str_app, ← str_app, ← hu, ← hv]; rfl)
      have hy1 : ∀ w : World, (Op.stringOp .add u ⟨#[82]⟩).run Tryd.prog w = .ok (.string (u ++ ⟨#[82]⟩)) w := fun w => run_string_add_sum w _ _ hx1
      have hy2 : ∀ w : World, (Op.stringOp .add (u ++ ⟨#[82]⟩) v).run Tryd.prog w = .ok (.string (u ++ ⟨#[82]⟩ ++ v)) w := fun w => run_string_add_sum w _ _ (by rw [ByteArray.size_append]; exact hx2)
      have hyy : decide (y < 0) = false := decide_eq_false hy0
      clear hnb hu hv
      go_enter Tryd.func15, Tryd.ntmps15
      go_wp2_with fail
      refine (isRule_any x y z _).mono ?_
      rintro e wA ⟨rfl, hbA⟩
      have hBA := below_next hB0 hbA
      have hPA := HP.out.next hBA
      obtain ⟨r0, r1, r2⟩ := C3.next ⟨q0, q1, q2⟩ hbA
      rw [HN.out]
      clear q0 q1 q2
      go_wp2_with fail
      go_region_held3 (fun w' => w'.cell? ⟨w.heap.size, 0, none⟩ = some (.int .i64 x) ∧ w'.cell? ⟨w.heap.size, 1, none⟩ = some (.int .i64 y) ∧ w'.cell? ⟨w.heap.size, 2, none⟩ = some (.int .i64 z))
        (first | go_keep | exact C3.next (C3.drew ⟨r0, r1, r2⟩) hbB | exact C3.next (C3.next (C3.drew ⟨r0, r1, r2⟩) hbB) hbC)
        (first | (go_at_call 30; (with_reducible refine (implDecimal_any x _ (Pow.drew hPA) a0 a1).mono ?_); rintro e wB ⟨rfl, hbB⟩; rw [HU.out]) | (go_at_call 30; (with_reducible refine (implDecimal_any z _ (Pow.next (Pow.drew hPA) hbB) e0 e1).mono ?_); rintro e wC ⟨rfl, hbC⟩; rw [HV.out]))
      have hBB : Below w.heap.size w wB := below_next hBA.drew hbB
      have hBC : Below w.heap.size w wC := below_next hBB hbC
      go_wp2_with fail
      go_ret
      exact ⟨ret_str HF.out.symm, hBC⟩
/-- The texts of t rules from rule i on. -/
def rTexts (l : List Int) (i t : Nat) : List (List UInt8) := (List.range t).map (fun j => rAt l (i + j))
theorem rTexts_step (l : List Int) (i t : Nat) : rTexts l i t ++ [rAt l (i + t)] = rTexts l i (t + 1) := by unfold rTexts; rw [List.range_succ, List.map_append]; rfl
theorem rTexts_len (l : List Int) (i t : Nat) : (rTexts l i t).length = t := by unfold rTexts; rw [List.length_map, List.length_range]
/-- A chunk's text. -/
def cText (s : Nat) (l : List Int) (k : Nat) : List UInt8 := Lib.join (rTexts l (k * s) s) [44]
def cTexts (s : Nat) (l : List Int) (k : Nat) : List (List UInt8) := (List.range k).map (cText s l)
theorem cTexts_step (s : Nat) (l : List Int) (k : Nat) : cTexts s l k ++ [cText s l k] = cTexts s l (k + 1) := by unfold cTexts; rw [List.range_succ, List.map_append]; rfl
theorem cTexts_len (s : Nat) (l : List Int) (k : Nat) : (cTexts s l k).length = k := by unfold cTexts; rw [List.length_map, List.length_range]
theorem join_one (x c : List UInt8) : Lib.join [x] c = x := by simp [Lib.join, List.intercalate, List.intersperse]
theorem join_snoc' (xs : List (List UInt8)) (x : List UInt8) (c : UInt8) (h : xs ≠ []) : Lib.join (xs ++ [x]) [c] = Lib.join xs [c] ++ [c] ++ x := by
  unfold Lib.join
  induction xs with
  | nil => exact absurd rfl h
  | cons a t ih =>
    cases t with
    | nil => simp [List.intercalate, List.intersperse]
    | cons b t =>
      have := ih (by simp)
      simp only [List.intercalate, List.cons_append, List.intersperse_cons_cons, List.flatten_cons, List.append_assoc] at this ⊢
      rw [this]
/-- The reference's text over one chunk. -/
theorem mtx_chunk {s : Nat} (l : List Int) (k : Nat) (hs : 0 < s) : ∀ t, t < s → mtx s l (k * s + (t + 1)) = mtx s l (k * s) ++ (if k = 0 then [] else [59]) ++ Lib.join (rTexts l (k * s) (t + 1)) [44] := by
  intro t
  induction t with
  | zero =>
    intro _
    have e : rTexts l (k * s) (0 + 1) = [rAt l (k * s)] := by simp [rTexts]
    rw [e, join_one, Nat.zero_add, mtx]
    congr 2
    unfold sepT
    by_cases hk : k = 0
    · subst hk; simp
    · have : k * s ≠ 0 := Nat.mul_ne_zero hk (by omega)
      rw [if_neg this, Nat.mul_mod_left, if_pos rfl, if_neg hk]
  | succ t ih =>
    intro ht
    have hsep : sepT s (k * s + (t + 1)) = [44] := by
      unfold sepT
      rw [if_neg (by omega), Nat.add_comm, Nat.add_mul_mod_self_right, Nat.mod_eq_of_lt ht, if_neg (by omega)]
    rw [← rTexts_step, join_snoc' _ _ _ (by intro e; have := congrArg List.length e; rw [rTexts_len] at this; simp at this), ← List.append_assoc, ← List.append_assoc, ← ih (by omega), show k * s + (t + 1 + 1) = (k * s + (t + 1)) + 1 by omega, mtx, hsep]
/-- The program's text is the reference's. -/
theorem mtx_join {s : Nat} (l : List Int) (hs : 0 < s) : ∀ k, mtx s l ((k + 1) * s) = Lib.join (cTexts s l (k + 1)) [59] := by
  intro k
  induction k with
  | zero =>
    have h := mtx_chunk l 0 hs (s - 1) (by omega)
    rw [show s - 1 + 1 = s by omega] at h
    rw [show (0 + 1) * s = 0 * s + s by omega, h]
    have e : cTexts s l (0 + 1) = [cText s l 0] := by simp [cTexts]
    rw [e, join_one, Nat.zero_mul]
    simp [mtx, cText]
  | succ k ih =>
    have h := mtx_chunk l (k + 1) hs (s - 1) (by omega)
    rw [show s - 1 + 1 = s by omega] at h
    rw [← cTexts_step, join_snoc' _ _ _ (by intro e; have := congrArg List.length e; rw [cTexts_len] at this; simp at this), ← ih, show (k + 1 + 1) * s = (k + 1) * s + s by rw [Nat.add_mul (k + 1) 1 s]; omega, h, if_neg (by omega)]
    rfl
end Go.Proofs.YtcjcbgmgepohaaaDoor
