/- ListText of the reference and of the program: the numerals of a list between commas. Where the table of powers is laid. -/
import Derived.Test.YtipmkkojpdjgoaaDoorStrs
import Derived.Test.YtipmkkojpdjgoaaDoorPlainSplit
namespace Go.Proofs.YtipmkkojpdjgoaaDoor
open Go.RowKit
/-- Has a list a text? -/
def fitsB (l : List Int) : Bool := allIn l (-1000000000000) 1000000000000 && decide (l.length ≤ 64)
/-- Numerals between commas. -/
def joinI (l : List Int) : List UInt8 := Lib.join (l.map Lib.itoa) [44]
def listTxt (l : List Int) : List UInt8 := if l.length = 0 then [45] else joinI l
/-- What ListText answers. -/
def ltxt (l : List Int) : List UInt8 := if fitsB l then listTxt l else []
theorem fitsB_no {l : List Int} {k : Nat} (hk : k < l.length) (h : inB (geti l k) (-1000000000000) 1000000000000 = false) : fitsB l = false := by
  unfold fitsB; rw [allIn_no hk h]; rfl
theorem fitsB_yes {l : List Int} (h : ∀ k, k < l.length → inB (geti l k) (-1000000000000) 1000000000000 = true) : fitsB l = decide (l.length ≤ 64) := by
  unfold fitsB; rw [allIn_yes h]; rfl
theorem join_snoc (xs : List (List UInt8)) (x : List UInt8) (h : xs ≠ []) : Lib.join (xs ++ [x]) [44] = Lib.join xs [44] ++ [44] ++ x := by
  unfold Lib.join
  induction xs with
  | nil => exact absurd rfl h
  | cons a t ih =>
    cases t with
    | nil => simp [List.intercalate, List.intersperse]
    | cons b t =>
      have := ih (by simp)
      simp only [List.intercalate, List.cons_append, List.intersperse_cons_cons, List.flatten_cons, List.append_assoc] at this ⊢
      rw [this]
theorem joinI_snoc {l : List Int} {k : Nat} (hk : k < l.length) (h0 : 0 < k) : joinI (l.take (k + 1)) = joinI (l.take k) ++ [44] ++ Lib.itoa (geti l k) := by
  unfold joinI
  rw [take_snoc hk, List.map_append, List.map_cons, List.map_nil, join_snoc]
  intro e
  have := congrArg List.length e
  rw [List.length_map, List.length_take, List.length_nil] at this
  omega
theorem joinI_one {l : List Int} (hk : 0 < l.length) : joinI (l.take 1) = Lib.itoa (geti l 0) := by
  rw [show (1 : Nat) = 0 + 1 from rfl, take_snoc hk]
  simp [joinI, Lib.join, List.intercalate, List.intersperse]
theorem itoa_len {n : Int} (h0 : -9223372036854775808 ≤ n) (h1 : n ≤ 9223372036854775807) : (Lib.itoa n).length ≤ 21 := by
  by_cases hz : n = 0
  · subst hz
    unfold Lib.itoa; rw [if_neg (by decide), show (0 : Int).toNat = 0 from rfl, decDigits_one 0 (by decide)]; simp
  · rw [itoa_decR hz, List.length_reverse]; exact decR_len h0 h1
theorem joinI_len {l : List Int} (hf : Fit l) : ∀ k, k ≤ l.length → (joinI (l.take k)).length ≤ 22 * k := by
  intro k
  induction k with
  | zero => intro _; simp [joinI, Lib.join, List.intercalate, List.intersperse]
  | succ k ih =>
    intro hk
    have h1 := ih (by omega)
    have hb := hf _ (geti_mem (show k < l.length by omega))
    have h2 := itoa_len hb.1 hb.2
    by_cases h0 : 0 < k
    · rw [joinI_snoc (by omega) h0, List.length_append, List.length_append]; simp; omega
    · obtain rfl : k = 0 := by omega
      rw [joinI_one (by omega)]; omega
theorem l01Fits_any (v : Value) (l : List Int) (w : World) (h : Sl w v l) :
    Calls Tryd.prog 44 #[v] w fun e w' => e = .returned (.bool (fitsB l)) ∧ w = w' := by
  obtain ⟨A, c, rfl, hlc, hcm, hr⟩ := h
  have HR := Lib.hid hr
  clear hr
  unfold maxLen at hcm
  go_enter Tryd.func44, Tryd.ntmps44
  go_wp2_with fail
  go_loop [3] (fun i => ∃ k : Nat, k ≤ l.length ∧ i = .int .i64 k ∧ Hid (∀ j, j < k → inB (geti l j) (-1000000000000) 1000000000000 = true)) (fun i => l.length - (intOf i).toNat)
  case atStart => exact ⟨0, Nat.zero_le _, rfl, Lib.hid (fun j hj => by omega)⟩
  case round =>
    obtain ⟨k, hk, rfl, H⟩ := hrel
    by_cases hlt : k < l.length
    · obtain ⟨ad, rfl, hb1, hc1⟩ := HR.out.at_ hlt
      cases hin : inB (geti l k) (-1000000000000) 1000000000000 with
      | true =>
        have HN : Hid (∀ j, j < k + 1 → inB (geti l j) (-1000000000000) 1000000000000 = true) := Lib.hid (fun j hj => by
          rcases Nat.lt_or_ge j k with h | h
          · exact H.out j h
          · obtain rfl : j = k := by omega
            exact hin)
        go_wp2_with (go_at_call 49; refine (l00In_any _ _ _ _).mono ?_; rintro e w' ⟨rfl, rfl⟩)
        go_round
        case rel => exact ⟨k + 1, by omega, by go_num, HN⟩
        case measure => simp [intOf] <;> omega
      | false =>
        have HN := Lib.hid (fitsB_no hlt hin)
        go_wp2_with (go_at_call 49; refine (l00In_any _ _ _ _).mono ?_; rintro e w' ⟨rfl, rfl⟩)
        go_ret
        exact ⟨ret_bool HN.out.symm, rfl⟩
    · have HN : Hid (fitsB l = decide (l.length ≤ 64)) := Lib.hid (fitsB_yes (fun j hj => H.out j (by omega)))
      have hd : decide (k < l.length) = false := decide_eq_false hlt
      by_cases h64 : l.length ≤ 64
      · have h1 : (l.length : Int) ≤ 64 := by omega
        go_wp2_with fail
        go_ret
        exact ⟨ret_bool (by rw [HN.out, decide_eq_true h64]), rfl⟩
      · have h1 : decide ((l.length : Int) ≤ 64) = false := decide_eq_false (by omega)
        have h2 : decide (l.length ≤ 64) = false := decide_eq_false h64
        clear h64
        go_wp2_with fail
        go_ret
        exact ⟨ret_bool (by rw [HN.out, h2]), rfl⟩
set_option maxHeartbeats 400000 in
theorem l01List_any (v : Value) (l : List Int) (w : World) (h : Sl w v l) (hf : Fit l) (hn : l.length ≤ 100000) :
    Calls Tryd.prog 45 #[v] w fun e w' => e = .returned (.string (str (listTxt l))) ∧ Below w.heap.size w w' := by
  obtain ⟨A, c, rfl, hlc, hcm, hr⟩ := h
  have HR := Lib.hid hr
  have HF := Lib.hid hf
  clear hr hf
  unfold maxLen at hcm
  by_cases h0 : l.length = 0
  · have HT : Hid (str (listTxt l) = ⟨#[45]⟩) := Lib.hid (by unfold listTxt; rw [if_pos h0]; rfl)
    have e1 : ((l.length : Int) == 0) = true := by rw [beq_iff_eq]; omega
    have e2 : (l.length == 0) = true := by rw [beq_iff_eq]; exact h0
    clear h0
    go_enter Tryd.func45, Tryd.ntmps45
    go_wp2_with fail
    go_ret
    exact ⟨ret_str HT.out.symm, Below.refl _ _⟩
  · have HT : Hid (listTxt l = joinI l) := Lib.hid (by unfold listTxt; rw [if_neg h0])
    have e1 : ((l.length : Int) == 0) = false := by rw [beq_eq_false_iff_ne]; omega
    have e2 : (l.length == 0) = false := by rw [beq_eq_false_iff_ne]; exact h0
    clear h0
    go_enter Tryd.func45, Tryd.ntmps45
    go_wp2_with fail
    go_loopw [3, 4] (fun t i wr => ∃ (k : Nat) (s : ByteArray), k ≤ l.length ∧ i = .int .i64 k ∧ t = .string s ∧ Hid (s = str (joinI (l.take k))) ∧ s.size ≤ 2200000 ∧ Below w.heap.size w wr) (fun _ i _ => l.length - (intOf i).toNat)
    case atStart => exact ⟨0, _, Nat.zero_le _, rfl, rfl, Lib.hid (by simp [joinI, Lib.join, List.intercalate, str]), by decide, Below.refl _ _⟩
    case round =>
      obtain ⟨k, s, hk, rfl, rfl, HS, hsz, hB⟩ := hrel
      by_cases hlt : k < l.length
      · obtain ⟨ad, rfl, hbk, hc⟩ := HR.out.at_ hlt
        have hcell := (hB.cell (p := ad.add k) (by rw [block_of_add]; exact hbk)).trans hc
        have hb := HF.out _ (geti_mem hlt)
        have b0 := hb.1
        have b1 := hb.2
        have hil := itoa_len b0 b1
        obtain ⟨u, hu⟩ : ∃ u, str (Lib.itoa (geti l k)) = u := ⟨_, rfl⟩
        have HU := Lib.hid hu
        have husz : u.size ≤ 21 := by rw [← hu]; exact hil
        have hjl : (joinI (l.take (k + 1))).length ≤ 2200000 := by have := joinI_len HF.out (k + 1) (by omega); omega
        clear hc hb hu hil
        by_cases hk0 : 0 < k
        · have hd : decide ((0 : Int) < (k : Int)) = true := decide_eq_true (by omega)
          have hd2 : (0 : Int) < (k : Int) := by omega
          have HN : Hid (s ++ ⟨#[44]⟩ ++ u = str (joinI (l.take (k + 1)))) := Lib.hid (by
            rw [HS.out, ← HU.out, joinI_snoc hlt hk0, ← str_app, ← str_app]; rfl)
          go_wp2_with (go_at_call 37; refine (l01Dec_any _ _ b0 b1).mono ?_; rintro e w1 ⟨rfl, hb1⟩; rw [HU.out])
          go_roundw
          case rel => exact ⟨k + 1, _, by omega, by go_num, rfl, HN, by rw [HN.out]; exact hjl, below_next hB hb1⟩
          case measure => simp [intOf] <;> omega
        · have hd : decide ((0 : Int) < (k : Int)) = false := decide_eq_false (by omega)
          have hd2 : decide (0 < k) = false := decide_eq_false hk0
          have HN : Hid (s ++ u = str (joinI (l.take (k + 1)))) := Lib.hid (by
            obtain rfl : k = 0 := by omega
            rw [HS.out, ← HU.out, joinI_one hlt]
            simp [joinI, Lib.join, List.intercalate, str_app])
          clear hk0
          go_wp2_with (go_at_call 37; refine (l01Dec_any _ _ b0 b1).mono ?_; rintro e w1 ⟨rfl, hb1⟩; rw [HU.out])
          go_roundw
          case rel => exact ⟨k + 1, _, by omega, by go_num, rfl, HN, by rw [HN.out]; exact hjl, below_next hB hb1⟩
          case measure => simp [intOf] <;> omega
      · have HE : Hid (s = str (listTxt l)) := Lib.hid (by rw [HS.out, HT.out, List.take_of_length_le (by omega)])
        have hd : decide (k < l.length) = false := decide_eq_false hlt
        go_wp2_with fail
        go_ret
        exact ⟨ret_str HE.out, hB⟩
theorem specListText_any (v : Value) (l : List Int) (w : World) (h : Sl w v l) (hf : Fit l) :
    Calls Tryd.prog 18 #[v] w fun e w' => e = .returned (.string (str (ltxt l))) ∧ Below w.heap.size w w' := by
  have HS := Lib.hid h
  obtain ⟨A, c, rfl, _, _, hr⟩ := h
  clear hr
  cases hb : fitsB l with
  | false =>
    have HT : Hid (str (ltxt l) = ⟨#[]⟩) := Lib.hid (by unfold ltxt; rw [hb]; rfl)
    have HB := Lib.hid hb
    clear hb
    go_enter Tryd.func18, Tryd.ntmps18
    go_wp2_with (go_at_call 44; refine (l01Fits_any _ _ _ HS.out).mono ?_; rintro e w' ⟨rfl, rfl⟩; rw [HB.out])
    go_ret
    exact ⟨ret_str HT.out.symm, Below.refl _ _⟩
  | true =>
    have HT : Hid (ltxt l = listTxt l) := Lib.hid (by unfold ltxt; rw [hb]; rfl)
    have hl : l.length ≤ 64 := by unfold fitsB at hb; simp only [Bool.and_eq_true, decide_eq_true_eq] at hb; exact hb.2
    have HB := Lib.hid hb
    clear hb
    go_enter Tryd.func18, Tryd.ntmps18
    go_wp2_with (first
      | (go_at_call 44; refine (l01Fits_any _ _ _ HS.out).mono ?_; rintro e w' ⟨rfl, rfl⟩; rw [HB.out])
      | (go_at_call 45; refine (l01List_any _ _ _ HS.out hf (by omega)).mono ?_; rintro e w1 ⟨rfl, hb1⟩))
    go_ret
    exact ⟨ret_str (by rw [HT.out]), hb1⟩
end Go.Proofs.YtipmkkojpdjgoaaDoor
