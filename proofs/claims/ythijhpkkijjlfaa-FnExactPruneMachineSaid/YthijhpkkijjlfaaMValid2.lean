/- ValidMachine: contracts of l05Is and ValidMachine, and what the law needs. No condition beyond the stated bounds. -/
import Derived.Test.YthijhpkkijjlfaaMValid
namespace Go.Proofs.Ythijhpkkijjlfaa
open Go.RowKit
/-- The rule at k of a flat list is valid. -/
def ruleAt (sy st : Int) (l : List Int) (k : Nat) : Bool := ruleB sy st (geti l (k * 3)) (geti l (k * 3 + 1)) (geti l (k * 3 + 2))
/-- All n rules are valid. -/
def rulesB (sy st : Int) (l : List Int) (n : Nat) : Bool := (List.range n).all (ruleAt sy st l)
theorem rulesB_no {sy st : Int} {l : List Int} {n k : Nat} (hk : k < n) (h : ruleAt sy st l k = false) : rulesB sy st l n = false := by
  unfold rulesB; rw [List.all_eq_false]; exact ⟨k, by simpa using hk, by simp [h]⟩
theorem rulesB_yes {sy st : Int} {l : List Int} {n : Nat} (h : ∀ k, k < n → ruleAt sy st l k = true) : rulesB sy st l n = true := by
  unfold rulesB; rw [List.all_eq_true]; intro k hk; exact h k (by simpa using hk)
/-- A machine is valid. -/
def validB (sy st : Int) (l : List Int) : Bool := inB sy 2 6 && (inB st 1 1000 && (decide ((l.length : Int) = 3 * (sy * st)) && rulesB sy st l (l.length / 3)))
theorem validB_true {sy st : Int} {l : List Int} (h : validB sy st l = true) : (2 ≤ sy ∧ sy ≤ 6) ∧ (1 ≤ st ∧ st ≤ 1000) ∧ (l.length : Int) = 3 * (sy * st) ∧ rulesB sy st l (l.length / 3) = true := by
  unfold validB at h
  simp only [Bool.and_eq_true, decide_eq_true_eq] at h
  exact ⟨inB_true.1 h.1, inB_true.1 h.2.1, h.2.2.1, h.2.2.2⟩
theorem prod_ms {sy st : Int} (h1 : 2 ≤ sy ∧ sy ≤ 6) (h2 : 1 ≤ st ∧ st ≤ 1000) : 0 ≤ sy * st ∧ sy * st ≤ 6000 := by
  have := Int.mul_le_mul h1.2 h2.2 (by omega) (by omega)
  have := Int.mul_nonneg (show 0 ≤ sy by omega) (show 0 ≤ st by omega)
  omega
theorem l05Is_bad (b : Nat) (sy st : Int) (A : Option Addr) (n c : Nat) (w : World) (h : C3 w b (.int .i64 sy) (.int .i64 st) (.slice A n c)) (hc : c ≤ maxLen) (hnc : n ≤ c)
    (hf : inB sy 2 6 = false ∨ (inB sy 2 6 = true ∧ inB st 1 1000 = false) ∨ (inB sy 2 6 = true ∧ inB st 1 1000 = true ∧ ¬ (n : Int) = sy * st)) :
    Calls Try.prog 15 #[.pointer (some ⟨b, 0, none⟩)] w fun e w' => e = .returned (.bool false) ∧ Below w.heap.size w w' := by
  obtain ⟨c0, c1, c2⟩ := h
  unfold maxLen at hc
  rcases hf with h1 | ⟨h1, h2⟩ | ⟨h1, h2, h3⟩
  · go_enter Try.func15, Try.ntmps15
    go_wp2_with fail
    go_quiet ((go_at_call 29; exact Calls.quiet_of_same (l00In_any _ _ _ _ |>.mono fun _ _ ⟨he, hw⟩ => ⟨he, hw.symm⟩)))
    go_wp2
    go_ret
    exact ⟨rfl, below_drewN (Below.refl _ _) _⟩
  · go_enter Try.func15, Try.ntmps15
    go_wp2_with fail
    go_quiet ((go_at_call 29; exact Calls.quiet_of_same (l00In_any _ _ _ _ |>.mono fun _ _ ⟨he, hw⟩ => ⟨he, hw.symm⟩)))
    go_wp2
    go_ret
    exact ⟨rfl, below_drewN (Below.refl _ _) _⟩
  · have hp := prod_ms (inB_true.1 h1) (inB_true.1 h2)
    have p0 := hp.1
    have p1 := hp.2
    have e1 : ((n : Int) != sy * st) = true := by simpa using h3
    clear hp h3
    go_enter Try.func15, Try.ntmps15
    go_wp2_with fail
    go_quiet ((go_at_call 29; exact Calls.quiet_of_same (l00In_any _ _ _ _ |>.mono fun _ _ ⟨he, hw⟩ => ⟨he, hw.symm⟩)))
    go_wp2
    go_ret
    exact ⟨rfl, below_drewN (Below.refl _ _) _⟩
theorem cells3_next {w w' : World} {ad : Addr} {j : Nat} {x y z : Value} (hb : ad.block < w.heap.size) (h0 : w.cell? (ad.add j) = some x) (h1 : w.cell? ⟨(ad.add j).block, (ad.add j).off + 1, none⟩ = some y) (h2 : w.cell? ⟨(ad.add j).block, (ad.add j).off + 2, none⟩ = some z) (hB : Below w.heap.size w.drew w') :
    w'.cell? (ad.add j) = some x ∧ w'.cell? ⟨(ad.add j).block, (ad.add j).off + 1, none⟩ = some y ∧ w'.cell? ⟨(ad.add j).block, (ad.add j).off + 2, none⟩ = some z := by
  have e : (ad.add j).block < w.heap.size := by rw [block_of_add]; exact hb
  exact ⟨(hB.cell (p := ad.add j) e).trans h0, (hB.cell (p := ⟨(ad.add j).block, (ad.add j).off + 1, none⟩) e).trans h1, (hB.cell (p := ⟨(ad.add j).block, (ad.add j).off + 2, none⟩) e).trans h2⟩
set_option maxHeartbeats 1000000 in
theorem l05Is_good (b : Nat) (sy st : Int) (A : Option Addr) (n c : Nat) (l : List Int) (w : World) (h : C3 w b (.int .i64 sy) (.int .i64 st) (.slice A n c)) (hr : Ints w w.heap.size A (n * 3) l) (hc : c ≤ maxLen) (hnc : n ≤ c)
    (h1 : inB sy 2 6 = true) (h2 : inB st 1 1000 = true) (h3 : (n : Int) = sy * st) :
    Calls Try.prog 15 #[.pointer (some ⟨b, 0, none⟩)] w fun e w' => e = .returned (.bool (rulesB sy st l n)) ∧ Below w.heap.size w w' := by
  have HC := Lib.hid h
  have HR := Lib.hid hr
  unfold maxLen at hc
  obtain ⟨c0, c1, c2⟩ := h
  have hp := prod_ms (inB_true.1 h1) (inB_true.1 h2)
  have p0 := hp.1
  have p1 := hp.2
  have e1 : ((n : Int) != sy * st) = false := by simpa using h3
  obtain ⟨s1, s2⟩ := inB_true.1 h1
  obtain ⟨s3, s4⟩ := inB_true.1 h2
  have hn6 : n ≤ 6000 := by omega
  clear hp h3 hr
  go_enter Try.func15, Try.ntmps15
  go_wp2_with fail
  go_quiet ((go_at_call 29; exact Calls.quiet_of_same (l00In_any _ _ _ _ |>.mono fun _ _ ⟨he, hw⟩ => ⟨he, hw.symm⟩)))
  go_wp2_with fail
  clear c0 c1 c2 h1 h2
  go_loopw [3] (fun i wr => ∃ k : Nat, k ≤ n ∧ i = .int .i64 k ∧ Hid (∀ j, j < k → ruleAt sy st l j = true) ∧ Below w.heap.size w wr) (fun i _ => n - (intOf i).toNat)
  case atStart => exact ⟨0, Nat.zero_le _, rfl, (fun j hj => by omega), below_drewN (Below.refl _ _) _⟩
  case round =>
    clear e1 p0 p1
    obtain ⟨k, hk, rfl, H, hB⟩ := hrel
    obtain ⟨c0, c1, c2⟩ := C3.next HC.out hB
    by_cases hlt : k < n
    · obtain ⟨ad, rfl, hbk, p0, p1, p2⟩ := HR.out.three (w' := wr) (fun p hp => hB.cell hp) hlt
      have hbk2 : ad.block < wr.heap.size := by have := hB.size; omega
      have hi0 : (0 : Int) ≤ (k : Int) := by omega
      have hi1 : (k : Int) < (n : Int) := by omega
      cases hru : ruleAt sy st l k with
      | true =>
        have HN : Hid (∀ j, j < k + 1 → ruleAt sy st l j = true) := Lib.hid (fun j hj => by
          rcases Nat.lt_or_ge j k with h | h
          · exact H.out j h
          · obtain rfl : j = k := by omega
            exact hru)
        have HR2 := Lib.hid hru
        clear hru
        go_wp2_with fail
        go_region_held3 (fun w' => (w'.cell? ⟨b, 0, none⟩ = some (.int .i64 sy) ∧ w'.cell? ⟨b, 1, none⟩ = some (.int .i64 st) ∧ w'.cell? ⟨b, 2, none⟩ = some (.slice (some ad) n c)) ∧ w'.cell? (ad.add (k * 3)) = some (.int .i64 (geti l (k * 3))) ∧ w'.cell? ⟨(ad.add (k * 3)).block, (ad.add (k * 3)).off + 1, none⟩ = some (.int .i64 (geti l (k * 3 + 1))) ∧ w'.cell? ⟨(ad.add (k * 3)).block, (ad.add (k * 3)).off + 2, none⟩ = some (.int .i64 (geti l (k * 3 + 2))))
          (first
            | go_keep
            | exact ⟨C3.next (C3.drew ⟨c0, c1, c2⟩) hbA, cells3_next hbk2 p0 p1 p2 hbA⟩)
          (first
            | (go_at_call 30; refine (l05Rule_any _ _ _ _ _ _ (by omega) (by omega)).mono ?_; rintro e wA ⟨rfl, hbA⟩; (have hr2 := HR2.out); unfold ruleAt at hr2; rw [hr2]; clear hr2))
        have hBA : Below w.heap.size w wA := below_next hB.drew hbA
        clear c0 c1 c2 p0 p1 p2
        go_wp2_with fail
        go_roundw
        case rel => exact ⟨k + 1, by omega, by go_num, HN, hBA⟩
        case measure => simp [intOf] <;> omega
      | false =>
        have HF := Lib.hid (rulesB_no hlt hru)
        have HR2 := Lib.hid hru
        clear hru
        go_wp2_with fail
        go_region_held3 (fun w' => (w'.cell? ⟨b, 0, none⟩ = some (.int .i64 sy) ∧ w'.cell? ⟨b, 1, none⟩ = some (.int .i64 st) ∧ w'.cell? ⟨b, 2, none⟩ = some (.slice (some ad) n c)) ∧ w'.cell? (ad.add (k * 3)) = some (.int .i64 (geti l (k * 3))) ∧ w'.cell? ⟨(ad.add (k * 3)).block, (ad.add (k * 3)).off + 1, none⟩ = some (.int .i64 (geti l (k * 3 + 1))) ∧ w'.cell? ⟨(ad.add (k * 3)).block, (ad.add (k * 3)).off + 2, none⟩ = some (.int .i64 (geti l (k * 3 + 2))))
          (first
            | go_keep
            | exact ⟨C3.next (C3.drew ⟨c0, c1, c2⟩) hbA, cells3_next hbk2 p0 p1 p2 hbA⟩)
          (first
            | (go_at_call 30; refine (l05Rule_any _ _ _ _ _ _ (by omega) (by omega)).mono ?_; rintro e wA ⟨rfl, hbA⟩; (have hr2 := HR2.out); unfold ruleAt at hr2; rw [hr2]; clear hr2))
        have hBA : Below w.heap.size w wA := below_next hB.drew hbA
        clear c0 c1 c2 p0 p1 p2
        go_wp2_with fail
        go_ret
        exact ⟨ret_bool HF.out.symm, hBA⟩
    · have HF : Hid (rulesB sy st l n = true) := Lib.hid (rulesB_yes (fun j hj => H.out j (by omega)))
      obtain rfl : k = n := by omega
      go_wp2_with fail
      go_ret
      exact ⟨ret_bool HF.out.symm, hB⟩
theorem l05Is_any (b : Nat) (sy st : Int) (rv : Value) (l : List Int) (w : World) (h : C3 w b (.int .i64 sy) (.int .i64 st) rv) (hr : Sl3 w rv l) :
    Calls Try.prog 15 #[.pointer (some ⟨b, 0, none⟩)] w fun e w' => e = .returned (.bool (validB sy st l)) ∧ Below w.heap.size w w' := by
  obtain ⟨A, n, c, rfl, hnc, hcm, hr⟩ := hr
  have hl := hr.1
  have hdiv : l.length / 3 = n := by omega
  cases h1 : inB sy 2 6 with
  | false =>
    have e : validB sy st l = false := by unfold validB; rw [h1]; rfl
    rw [e]
    exact l05Is_bad b sy st A n c w h hcm hnc (.inl h1)
  | true =>
    cases h2 : inB st 1 1000 with
    | false =>
      have e : validB sy st l = false := by unfold validB; rw [h1, h2]; rfl
      rw [e]
      exact l05Is_bad b sy st A n c w h hcm hnc (.inr (.inl ⟨h1, h2⟩))
    | true =>
      by_cases h3 : (n : Int) = sy * st
      · have e : validB sy st l = rulesB sy st l n := by
          unfold validB; rw [h1, h2, hdiv, decide_eq_true (by rw [hl]; omega)]; rfl
        rw [e]
        exact l05Is_good b sy st A n c l w h hr hcm hnc h1 h2 h3
      · have e : validB sy st l = false := by
          unfold validB; rw [h1, h2, decide_eq_false (by rw [hl]; omega)]; rfl
        rw [e]
        exact l05Is_bad b sy st A n c w h hcm hnc (.inr (.inr ⟨h1, h2, h3⟩))
end Go.Proofs.Ythijhpkkijjlfaa
