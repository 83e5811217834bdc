/- RankWord and WordAt: contracts and what the laws need. No condition beyond the stated bounds. -/
import Derived.Test.YtndddmichogaoaaLists2
namespace Go.Proofs.Ytndddmichogaoaa
open Go.RowKit
/-- All letters lie below a number. -/
def overB (l : List Int) (m : Int) : Bool := l.all (fun x => decide (x < m))
theorem overB_no {l : List Int} {m : Int} {k : Nat} (hk : k < l.length) (h : m ≤ geti l k) : overB l m = false := by
  unfold overB; rw [List.all_eq_false]; exact ⟨_, geti_mem hk, by simp; omega⟩
theorem overB_yes {l : List Int} {m : Int} (h : ∀ k, k < l.length → geti l k < m) : overB l m = true := by
  unfold overB; rw [List.all_eq_true]; intro x hx
  obtain ⟨k, hk, rfl⟩ := List.getElem_of_mem hx
  have := h k hk
  rw [geti_eq hk] at this
  simpa using this
theorem over_all {l : List Int} {m : Int} (hw : allIn l 0 9 = true) : allIn l 0 (m - 1) = overB l m := by
  have h := allIn_true.1 hw
  rw [Bool.eq_iff_iff, allIn_true]
  unfold overB
  rw [List.all_eq_true]
  constructor
  · intro h2 x hx; have := h2 x hx; simp; omega
  · intro h2 x hx; have := h2 x hx; have := h x hx; simp at *; omega
theorem l03Over_any (v : Value) (l : List Int) (m : Int) (w : World) (h : Sl w v l) :
    Calls Try.prog 50 #[v, .int .i64 m] w fun e w' => e = .returned (.bool (overB l m)) ∧ w = w' := by
  obtain ⟨A, c, rfl, hlc, hcm, hr⟩ := h
  have HR := Lib.hid hr
  clear hr
  unfold maxLen at hcm
  go_enter Try.func50, Try.ntmps50
  go_wp2
  go_loop [5] (fun i => ∃ k : Nat, k ≤ l.length ∧ i = .int .i64 k ∧ Hid (∀ j, j < k → geti l j < m)) (fun i => l.length - (intOf i).toNat)
  case atStart => exact ⟨0, Nat.zero_le _, rfl, fun j hj => by omega⟩
  case round =>
    obtain ⟨k, hk, rfl, H⟩ := hrel
    by_cases hlt : k < l.length
    · obtain ⟨ad, rfl, hb1, hc1⟩ := HR.out.at_ hlt
      by_cases hin : geti l k < m
      · have HN : Hid (∀ j, j < k + 1 → geti l j < m) := Lib.hid (fun j hj => by
          rcases Nat.lt_or_ge j k with h | h
          · exact H.out j h
          · obtain rfl : j = k := by omega
            exact hin)
        have hd : decide (m ≤ geti l k) = false := decide_eq_false (by omega)
        go_wp2
        go_round
        case rel => exact ⟨k + 1, by omega, by go_num, HN⟩
        case measure => simp [intOf] <;> omega
      · have HN := Lib.hid (overB_no hlt (show m ≤ geti l k by omega))
        have hd : m ≤ geti l k := by omega
        go_wp2
        go_ret
        exact ⟨ret_bool HN.out.symm, rfl⟩
    · have HN : Hid (overB l m = true) := Lib.hid (overB_yes (fun j hj => H.out j (by omega)))
      go_wp2
      go_ret
      exact ⟨ret_bool HN.out.symm, rfl⟩
/-- What RankWord answers. -/
def rkR (o : Option Int) : Int × Int := match o with | some x => (x, 0) | none => (0, 5)
def rankW (l : List Int) (m : Int) : Int × Int := if wordB l = true then (if (inB m 1 10 && overB l m) = true then rkR (rk l m 0) else (0, 2)) else (0, 1)
theorem specRankWord_any (v : Value) (l : List Int) (m : Int) (w : World) (h : Sl w v l) :
    Calls Try.prog 19 #[v, .int .i64 m] w fun e w' => e = .returned (.tuple #[.int .i64 (rankW l m).1, .int .i64 (rankW l m).2]) ∧ w = w' := by
  cases hw : wordB l with
  | false =>
    have HF : Hid (rankW l m = (0, 1)) := Lib.hid (by unfold rankW; rw [hw]; rfl)
    go_enter Try.func19, Try.ntmps19
    go_wp2_with (go_at_call 48; refine (l03Is_any _ _ _ h).mono ?_; rintro e w' ⟨rfl, rfl⟩)
    go_ret2
    exact ⟨by rw [HF.out]; rfl, rfl⟩
  | true =>
    cases hm : inB m 1 10 with
    | false =>
      have HF : Hid (rankW l m = (0, 2)) := Lib.hid (by unfold rankW; rw [hw, hm]; rfl)
      go_enter Try.func19, Try.ntmps19
      go_wp2_with (first
        | (go_at_call 48; refine (l03Is_any _ _ _ h).mono ?_; rintro e w' ⟨rfl, rfl⟩)
        | (go_at_call 49; refine (l00In_any _ _ _ _).mono ?_; rintro e w' ⟨rfl, rfl⟩))
      go_ret2
      exact ⟨by rw [HF.out]; rfl, rfl⟩
    | true =>
      cases ho : overB l m with
      | false =>
        have HF : Hid (rankW l m = (0, 2)) := Lib.hid (by unfold rankW; rw [hw, hm, ho]; rfl)
        go_enter Try.func19, Try.ntmps19
        go_wp2_with (first
          | (go_at_call 48; refine (l03Is_any _ _ _ h).mono ?_; rintro e w' ⟨rfl, rfl⟩)
          | (go_at_call 49; refine (l00In_any _ _ _ _).mono ?_; rintro e w' ⟨rfl, rfl⟩)
          | (go_at_call 50; refine (l03Over_any _ _ _ _ h).mono ?_; rintro e w' ⟨rfl, rfl⟩))
        go_ret2
        exact ⟨by rw [HF.out]; rfl, rfl⟩
      | true =>
        have HF : Hid (rankW l m = rkR (rk l m 0)) := Lib.hid (by unfold rankW; rw [hw, hm, ho]; rfl)
        have HX := Lib.hid (allIn_true.1 (wordB_true.1 hw).1)
        obtain ⟨hm1, hm2⟩ := inB_true.1 hm
        have HS := Lib.hid h
        obtain ⟨A, c, rfl, hlc, hcm, hr⟩ := h
        have HR := Lib.hid hr
        clear hr
        unfold maxLen at hcm
        go_enter Try.func19, Try.ntmps19
        go_wp2_with (first
          | (go_at_call 48; refine (l03Is_any _ _ _ HS.out).mono ?_; rintro e w' ⟨rfl, rfl⟩)
          | (go_at_call 49; refine (l00In_any _ _ _ _).mono ?_; rintro e w' ⟨rfl, rfl⟩)
          | (go_at_call 50; refine (l03Over_any _ _ _ _ HS.out).mono ?_; rintro e w' ⟨rfl, rfl⟩))
        go_loop [6, 7] (fun t i => ∃ (k : Nat) (x : Int), k ≤ l.length ∧ 0 ≤ x ∧ x ≤ 1000000000000 ∧ i = .int .i64 k ∧ t = .int .i64 x ∧ Hid (rk (l.drop k) m x = rk l m 0)) (fun _ i => l.length - (intOf i).toNat)
        case atStart => exact ⟨0, 0, Nat.zero_le _, by omega, by omega, rfl, rfl, rfl⟩
        case round =>
          obtain ⟨k, x, hk, hx0, hx1, rfl, rfl, H⟩ := hrel
          by_cases hlt : k < l.length
          · obtain ⟨ad, rfl, hb1, hc1⟩ := HR.out.at_ hlt
            have hxk := HX.out _ (geti_mem hlt)
            have g0 := hxk.1
            have g1 := hxk.2
            have hmul := mul10 hx0 hx1 hm1 hm2
            have m0 := hmul.1
            have m1 := hmul.2
            clear hxk hmul
            by_cases hbig : 1000000000000 < x * m + geti l k + 1
            · have HF2 : Hid (rankW l m = (0, 5)) := Lib.hid (by rw [HF.out, ← H.out, rk_step hlt, if_pos hbig]; rfl)
              go_wp2
              go_ret2
              exact ⟨by rw [HF2.out]; rfl, rfl⟩
            · have HN : Hid (rk (l.drop (k + 1)) m (x * m + geti l k + 1) = rk l m 0) := Lib.hid (by rw [← H.out, rk_step hlt, if_neg hbig])
              go_wp2
              go_round
              case rel => exact ⟨k + 1, x * m + geti l k + 1, by omega, by omega, by omega, by go_num, rfl, HN⟩
              case measure => simp [intOf] <;> omega
          · have HF2 : Hid (rankW l m = (x, 0)) := Lib.hid (by rw [HF.out, ← H.out, rk_end (by omega)]; rfl)
            go_wp2
            go_ret2
            exact ⟨by rw [HF2.out]; rfl, rfl⟩
theorem implRankWord_any (v : Value) (l : List Int) (m : Int) (w : World) (h : Sl w v l) (hmb : -9223372036854775808 ≤ m ∧ m ≤ 9223372036854775807) :
    Calls Try.prog 20 #[v, .int .i64 m] w fun e w' => e = .returned (.tuple #[.int .i64 (rankW l m).1, .int .i64 (rankW l m).2]) ∧ w = w' := by
  cases hw : wordB l with
  | false =>
    have HF : Hid (rankW l m = (0, 1)) := Lib.hid (by unfold rankW; rw [hw]; rfl)
    go_enter Try.func20, Try.ntmps20
    go_wp2_with (go_at_call 51; refine (implIsWord_any _ _ _ h).mono ?_; rintro e w' ⟨rfl, rfl⟩)
    go_ret2
    exact ⟨by rw [HF.out]; rfl, rfl⟩
  | true =>
    cases hm : inB m 1 10 with
    | false =>
      have HF : Hid (rankW l m = (0, 2)) := Lib.hid (by unfold rankW; rw [hw, hm]; rfl)
      go_enter Try.func20, Try.ntmps20
      go_wp2_with (first
        | (go_at_call 51; refine (implIsWord_any _ _ _ h).mono ?_; rintro e w' ⟨rfl, rfl⟩)
        | (go_at_call 52; refine (within_any _ _ _ _).mono ?_; rintro e w' ⟨rfl, rfl⟩))
      go_ret2
      exact ⟨by rw [HF.out]; rfl, rfl⟩
    | true =>
      obtain ⟨hm1, hm2⟩ := inB_true.1 hm
      have HA := Lib.hid (over_all (m := m) (wordB_true.1 hw).1)
      cases ho : allIn l 0 (m - 1) with
      | false =>
        have HF : Hid (rankW l m = (0, 2)) := Lib.hid (by unfold rankW; rw [hw, hm, ← HA.out, ho]; rfl)
        go_enter Try.func20, Try.ntmps20
        go_wp2_with (first
          | (go_at_call 51; refine (implIsWord_any _ _ _ h).mono ?_; rintro e w' ⟨rfl, rfl⟩)
          | (go_at_call 52; refine (within_any _ _ _ _).mono ?_; rintro e w' ⟨rfl, rfl⟩)
          | (go_at_call 53; refine (allWithin_any _ _ _ _ _ h).mono ?_; rintro e w' ⟨rfl, rfl⟩))
        go_ret2
        exact ⟨by rw [HF.out]; rfl, rfl⟩
      | true =>
        have HF : Hid (rankW l m = rkR (rk l m 0)) := Lib.hid (by unfold rankW; rw [hw, hm, ← HA.out, ho]; rfl)
        have HX := Lib.hid (allIn_true.1 (wordB_true.1 hw).1)
        have HS := Lib.hid h
        obtain ⟨A, c, rfl, hlc, hcm, hr⟩ := h
        have HR := Lib.hid hr
        clear hr
        unfold maxLen at hcm
        go_enter Try.func20, Try.ntmps20
        go_wp2_with (first
          | (go_at_call 51; refine (implIsWord_any _ _ _ HS.out).mono ?_; rintro e w' ⟨rfl, rfl⟩)
          | (go_at_call 52; refine (within_any _ _ _ _).mono ?_; rintro e w' ⟨rfl, rfl⟩)
          | (go_at_call 53; refine (allWithin_any _ _ _ _ _ HS.out).mono ?_; rintro e w' ⟨rfl, rfl⟩))
        go_loop [6, 24] (fun t i => ∃ (k : Nat) (x : Int), k ≤ l.length ∧ 0 ≤ x ∧ x ≤ 1000000000000 ∧ i = .int .i64 k ∧ t = .int .i64 x ∧ Hid (rk (l.drop k) m x = rk l m 0)) (fun _ i => l.length - (intOf i).toNat)
        case atStart => exact ⟨0, 0, Nat.zero_le _, by omega, by omega, rfl, rfl, rfl⟩
        case round =>
          obtain ⟨k, x, hk, hx0, hx1, rfl, rfl, H⟩ := hrel
          by_cases hlt : k < l.length
          · obtain ⟨ad, rfl, hb1, hc1⟩ := HR.out.at_ hlt
            have hxk := HX.out _ (geti_mem hlt)
            have g0 := hxk.1
            have g1 := hxk.2
            have hmul := mul10 hx0 hx1 hm1 hm2
            have m0 := hmul.1
            have m1 := hmul.2
            clear hxk hmul
            by_cases hbig : 1000000000000 < x * m + geti l k + 1
            · have HF2 : Hid (rankW l m = (0, 5)) := Lib.hid (by rw [HF.out, ← H.out, rk_step hlt, if_pos hbig]; rfl)
              go_wp2
              go_ret2
              exact ⟨by rw [HF2.out]; rfl, rfl⟩
            · have HN : Hid (rk (l.drop (k + 1)) m (x * m + geti l k + 1) = rk l m 0) := Lib.hid (by rw [← H.out, rk_step hlt, if_neg hbig])
              go_wp2
              go_round
              case rel => exact ⟨k + 1, x * m + geti l k + 1, by omega, by omega, by omega, by go_num, rfl, HN⟩
              case measure => simp [intOf] <;> omega
          · have HF2 : Hid (rankW l m = (x, 0)) := Lib.hid (by rw [HF.out, ← H.out, rk_end (by omega)]; rfl)
            go_wp2
            go_ret2
            exact ⟨by rw [HF2.out]; rfl, rfl⟩
theorem bothRankWord (l : List Int) (m : Int) (_f : Fit l) (_hn : l.length ≤ 1048576) (hm : -9223372036854775808 ≤ m ∧ m ≤ 9223372036854775807) : ∃ R C : Int,
    (∀ (w : World) (v : Value), Sl w v l → Calls Try.prog 19 #[v, .int .i64 m] w fun e w' => e = .returned (.tuple #[.int .i64 R, .int .i64 C]) ∧ Below w.heap.size w w') ∧
    (∀ (w : World) (v : Value), Sl w v l → Calls Try.prog 20 #[v, .int .i64 m] w fun e w' => e = .returned (.tuple #[.int .i64 R, .int .i64 C]) ∧ Below w.heap.size w w') :=
  ⟨_, _, fun w v h => calls_below (specRankWord_any v l m w h), fun w v h => calls_below (implRankWord_any v l m w h hm)⟩
/-- What WordAt answers. -/
def waR (o : Option (List Int)) : List Int × Int := match o with | some t => (t.reverse, 0) | none => ([], 5)
def wordAt (r m : Int) : List Int × Int := if (inB r 0 1000000000000 && inB m 1 10) = true then waR (wa 400 r m) else ([], 2)
theorem wordAt_len (r m : Int) : (wordAt r m).1.length ≤ 400 := by
  unfold wordAt waR
  split
  · cases h : wa 400 r m with
    | none => simp
    | some t => have := wa_len _ _ _ _ h; simpa using this
  · simp
theorem specWordAt_any (r m : Int) (w : World) :
    Calls Try.prog 21 #[.int .i64 r, .int .i64 m] w (RetRowC w (wordAt r m).1 (wordAt r m).2) := by
  cases hr : inB r 0 1000000000000 with
  | false =>
    have HF : Hid (wordAt r m = ([], 2)) := Lib.hid (by unfold wordAt; rw [hr]; rfl)
    go_enter Try.func21, Try.ntmps21
    go_wp2_with (go_at_call 49; refine (l00In_any _ _ _ _).mono ?_; rintro e w' ⟨rfl, rfl⟩)
    go_ret2
    exact ⟨_, by rw [HF.out]; rfl, by rw [HF.out]; exact Fresh.nil_ _ _, Below.refl _ _⟩
  | true =>
    cases hm : inB m 1 10 with
    | false =>
      have HF : Hid (wordAt r m = ([], 2)) := Lib.hid (by unfold wordAt; rw [hr, hm]; rfl)
      go_enter Try.func21, Try.ntmps21
      go_wp2_with (go_at_call 49; refine (l00In_any _ _ _ _).mono ?_; rintro e w' ⟨rfl, rfl⟩)
      go_ret2
      exact ⟨_, by rw [HF.out]; rfl, by rw [HF.out]; exact Fresh.nil_ _ _, Below.refl _ _⟩
    | true =>
      have HF : Hid (wordAt r m = waR (wa 400 r m)) := Lib.hid (by unfold wordAt; rw [hr, hm]; rfl)
      obtain ⟨hr0, hr1⟩ := inB_true.1 hr
      obtain ⟨hm1, hm2⟩ := inB_true.1 hm
      have HO := Lib.hid (Owns.empty w w.heap.size (Nat.le_refl _))
      have hB0 : Below w.heap.size w (w.alloc (.cells #[] 2)) := (Below.refl _ _).alloc (Nat.le_refl _) _
      go_enter Try.func21, Try.ntmps21
      go_wp2_with (go_at_call 49; refine (l00In_any _ _ _ _).mono ?_; rintro e w' ⟨rfl, rfl⟩)
      go_loopw [0, 6] (fun t u wr => ∃ (x : Int) (f : Nat) (pre : List Int), 0 ≤ x ∧ x ≤ 1000000000000 ∧ pre.length + f = 400 ∧ t = .int .i64 x ∧ Hid ((wa f x m).map (fun t => pre ++ t) = wa 400 r m) ∧ Hid (Owns wr w.heap.size u pre) ∧ Below w.heap.size w wr) (fun t _ _ => (intOf t).toNat)
      case atStart => exact ⟨r, 400, [], hr0, hr1, rfl, rfl, Lib.hid (by cases wa 400 r m <;> rfl), HO, hB0⟩
      case round =>
        clear HO hB0
        obtain ⟨x, f, pre, hx0, hx1, hf, rfl, HE, HO, hB⟩ := hrel
        by_cases hpos : 0 < x
        · have hq := div_lt hm1 hpos
          have hq1 := hq.1
          have hq2 := hq.2
          have hmd := mod_bd (r := x - 1) hm1
          have hd0 := hmd.1
          have hd1 := hmd.2
          clear hq hmd
          obtain ⟨A, c, rfl, _, hcm, _⟩ := HO.out.sl
          unfold maxLen at hcm
          rcases f with _ | f
          · have hp : pre.length = 400 := by omega
            have HF2 : Hid (wordAt r m = ([], 5)) := Lib.hid (by rw [HF.out, ← HE.out, wa_none hpos]; rfl)
            have hb4 : ((pre.length : Int) == 400) = true := by rw [beq_iff_eq]; omega
            have hb5 : (pre.length == 400) = true := by rw [beq_iff_eq]; omega
            clear hp
            go_wp2
            go_ret2
            exact ⟨_, by rw [HF2.out]; rfl, by rw [HF2.out]; exact Fresh.nil_ _ _, hB⟩
          · have hb4 : ((pre.length : Int) == 400) = false := by rw [beq_eq_false_iff_ne]; omega
            have hb5 : (pre.length == 400) = false := by rw [beq_eq_false_iff_ne]; omega
            have HE2 : Hid ((wa f ((x - 1) / m) m).map (fun t => (pre ++ [(x - 1) % m]) ++ t) = wa 400 r m) := Lib.hid (by
              rw [← HE.out, wa_pos hpos]; cases wa f ((x - 1) / m) m <;> simp)
            go_wp2_with (at_builtin; refine wpList_push rfl _ _ rfl w.heap.size _ pre rfl HO.out _ rfl (by omega) hB.size ?_; intro v1 w1 o1 hg1 _)
            have hB1 := hB.grown hg1 hB.size (fun k hk => (HO.out.lt k hk).1)
            have HO1 := Lib.hid o1
            clear o1 hg1
            go_wp2
            go_roundw
            case rel => exact ⟨(x - 1) / m, f, pre ++ [(x - 1) % m], hq2, by omega, by simp; omega, rfl, HE2, HO1, hB1⟩
            case measure => simp [intOf] <;> omega
        · have HF2 : Hid (wordAt r m = (pre.reverse, 0)) := Lib.hid (by rw [HF.out, ← HE.out, wa_zero (by omega)]; simp [waR])
          have hpl : pre.length ≤ 400 := by omega
          go_wp2_with fail
          refine (l03Reverse_any _ _ _ HO.out.sl (by omega)).mono ?_
          rintro e w1 ⟨r1, rfl, hr1', hb1⟩
          go_wp2_with fail
          go_ret2
          exact ⟨_, by rw [HF2.out]; rfl, by rw [HF2.out]; exact hr1'.lower hB.size, below_next hB hb1⟩
theorem implWordAt_any (r m : Int) (w : World) :
    Calls Try.prog 22 #[.int .i64 r, .int .i64 m] w (RetRowC w (wordAt r m).1 (wordAt r m).2) := by
  cases hr : inB r 0 1000000000000 with
  | false =>
    have HF : Hid (wordAt r m = ([], 2)) := Lib.hid (by unfold wordAt; rw [hr]; rfl)
    go_enter Try.func22, Try.ntmps22
    go_wp2_with (go_at_call 52; refine (within_any _ _ _ _).mono ?_; rintro e w' ⟨rfl, rfl⟩)
    go_ret2
    exact ⟨_, by rw [HF.out]; rfl, by rw [HF.out]; exact Fresh.nil_ _ _, Below.refl _ _⟩
  | true =>
    cases hm : inB m 1 10 with
    | false =>
      have HF : Hid (wordAt r m = ([], 2)) := Lib.hid (by unfold wordAt; rw [hr, hm]; rfl)
      go_enter Try.func22, Try.ntmps22
      go_wp2_with (go_at_call 52; refine (within_any _ _ _ _).mono ?_; rintro e w' ⟨rfl, rfl⟩)
      go_ret2
      exact ⟨_, by rw [HF.out]; rfl, by rw [HF.out]; exact Fresh.nil_ _ _, Below.refl _ _⟩
    | true =>
      have HF : Hid (wordAt r m = waR (wa 400 r m)) := Lib.hid (by unfold wordAt; rw [hr, hm]; rfl)
      obtain ⟨hr0, hr1⟩ := inB_true.1 hr
      obtain ⟨hm1, hm2⟩ := inB_true.1 hm
      have HO := Lib.hid (Owns.empty w w.heap.size (Nat.le_refl _))
      have hB0 : Below w.heap.size w (w.alloc (.cells #[] 2)) := (Below.refl _ _).alloc (Nat.le_refl _) _
      go_enter Try.func22, Try.ntmps22
      go_wp2_with (go_at_call 52; refine (within_any _ _ _ _).mono ?_; rintro e w' ⟨rfl, rfl⟩)
      go_loopw [0, 6] (fun t u wr => ∃ (x : Int) (f : Nat) (pre : List Int), 0 ≤ x ∧ x ≤ 1000000000000 ∧ pre.length + f = 400 ∧ t = .int .i64 x ∧ Hid ((wa f x m).map (fun t => pre ++ t) = wa 400 r m) ∧ Hid (Owns wr w.heap.size u pre) ∧ Below w.heap.size w wr) (fun t _ _ => (intOf t).toNat)
      case atStart => exact ⟨r, 400, [], hr0, hr1, rfl, rfl, Lib.hid (by cases wa 400 r m <;> rfl), HO, hB0⟩
      case round =>
        clear HO hB0
        obtain ⟨x, f, pre, hx0, hx1, hf, rfl, HE, HO, hB⟩ := hrel
        by_cases hpos : 0 < x
        · have hq := div_lt hm1 hpos
          have hq1 := hq.1
          have hq2 := hq.2
          have hmd := mod_bd (r := x - 1) hm1
          have hd0 := hmd.1
          have hd1 := hmd.2
          clear hq hmd
          obtain ⟨A, c, rfl, _, hcm, _⟩ := HO.out.sl
          unfold maxLen at hcm
          rcases f with _ | f
          · have hp : pre.length = 400 := by omega
            have HF2 : Hid (wordAt r m = ([], 5)) := Lib.hid (by rw [HF.out, ← HE.out, wa_none hpos]; rfl)
            have hb4 : ((pre.length : Int) == 400) = true := by rw [beq_iff_eq]; omega
            have hb5 : (pre.length == 400) = true := by rw [beq_iff_eq]; omega
            clear hp
            go_wp2
            go_ret2
            exact ⟨_, by rw [HF2.out]; rfl, by rw [HF2.out]; exact Fresh.nil_ _ _, hB⟩
          · have hb4 : ((pre.length : Int) == 400) = false := by rw [beq_eq_false_iff_ne]; omega
            have hb5 : (pre.length == 400) = false := by rw [beq_eq_false_iff_ne]; omega
            have HE2 : Hid ((wa f ((x - 1) / m) m).map (fun t => (pre ++ [(x - 1) % m]) ++ t) = wa 400 r m) := Lib.hid (by
              rw [← HE.out, wa_pos hpos]; cases wa f ((x - 1) / m) m <;> simp)
            go_wp2_with (at_builtin; refine wpList_push rfl _ _ rfl w.heap.size _ pre rfl HO.out _ rfl (by omega) hB.size ?_; intro v1 w1 o1 hg1 _)
            have hB1 := hB.grown hg1 hB.size (fun k hk => (HO.out.lt k hk).1)
            have HO1 := Lib.hid o1
            clear o1 hg1
            go_wp2
            go_roundw
            case rel => exact ⟨(x - 1) / m, f, pre ++ [(x - 1) % m], hq2, by omega, by simp; omega, rfl, HE2, HO1, hB1⟩
            case measure => simp [intOf] <;> omega
        · have HF2 : Hid (wordAt r m = (pre.reverse, 0)) := Lib.hid (by rw [HF.out, ← HE.out, wa_zero (by omega)]; simp [waR])
          have hpl : pre.length ≤ 400 := by omega
          go_wp2_with fail
          refine (reversed_any _ _ _ HO.out.sl (by omega)).mono ?_
          rintro e w1 ⟨r1, rfl, hr1', hb1⟩
          go_wp2_with fail
          go_ret2
          exact ⟨_, by rw [HF2.out]; rfl, by rw [HF2.out]; exact hr1'.lower hB.size, below_next hB hb1⟩
theorem bothWordAt (r m : Int) (_hr : -9223372036854775808 ≤ r ∧ r ≤ 9223372036854775807) (_hm : -9223372036854775808 ≤ m ∧ m ≤ 9223372036854775807) : ∃ (R : List Int) (C : Int), R.length ≤ 4000000 ∧
    (∀ (w : World), Calls Try.prog 21 #[.int .i64 r, .int .i64 m] w (RetRowC w R C)) ∧
    (∀ (w : World), Calls Try.prog 22 #[.int .i64 r, .int .i64 m] w (RetRowC w R C)) :=
  ⟨_, _, by have := wordAt_len r m; omega, fun w => specWordAt_any r m w, fun w => implWordAt_any r m w⟩
end Go.Proofs.Ytndddmichogaoaa
