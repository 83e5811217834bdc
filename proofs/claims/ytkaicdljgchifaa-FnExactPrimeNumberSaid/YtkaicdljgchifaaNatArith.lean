/- Naturals: products and powers with their codes. No condition beyond the stated bounds. -/
import Derived.Test.YtkaicdljgchifaaNatMul
namespace Go.Proofs.Ytkaicdljgchifaa
open Go.RowKit
theorem l02Fit_yes (v : Value) (base : Nat) (l : List Int) (w : World) (h : Owns w base v l) (hl : l.length ≤ 40) :
    Calls Try.prog 61 #[v] w fun e w' => e = .returned (.tuple #[v, .int .i64 0]) ∧ w = w' := by
  obtain ⟨A, c, rfl, _, _, _⟩ := h.sl
  have hd : decide ((40 : Int) < (l.length : Int)) = false := decide_eq_false (by omega)
  have hd2 : decide (40 < l.length) = false := decide_eq_false (by omega)
  go_enter Try.func61, Try.ntmps61
  go_wp2
  go_ret2
  exact ⟨rfl, rfl⟩
theorem l02Fit_no (v : Value) (base : Nat) (l : List Int) (w : World) (h : Owns w base v l) (hl : 40 < l.length) :
    Calls Try.prog 61 #[v] w fun e w' => e = .returned (.tuple #[.slice none 0 0, .int .i64 5]) ∧ w = w' := by
  obtain ⟨A, c, rfl, _, _, _⟩ := h.sl
  have hd : (40 : Int) < (l.length : Int) := by omega
  go_enter Try.func61, Try.ntmps61
  go_wp2
  go_ret2
  exact ⟨rfl, rfl⟩
theorem limited_yes (v : Value) (base : Nat) (l : List Int) (w : World) (h : Owns w base v l) (hl : l.length ≤ 40) :
    Calls Try.prog 63 #[v] w fun e w' => e = .returned (.tuple #[v, .int .i64 0]) ∧ w = w' := by
  obtain ⟨A, c, rfl, _, _, _⟩ := h.sl
  have hd : decide ((40 : Int) < (l.length : Int)) = false := decide_eq_false (by omega)
  have hd2 : decide (40 < l.length) = false := decide_eq_false (by omega)
  go_enter Try.func63, Try.ntmps63
  go_wp2
  go_ret2
  exact ⟨rfl, rfl⟩
theorem limited_no (v : Value) (base : Nat) (l : List Int) (w : World) (h : Owns w base v l) (hl : 40 < l.length) :
    Calls Try.prog 63 #[v] w fun e w' => e = .returned (.tuple #[.slice none 0 0, .int .i64 5]) ∧ w = w' := by
  obtain ⟨A, c, rfl, _, _, _⟩ := h.sl
  have hd : (40 : Int) < (l.length : Int) := by omega
  go_enter Try.func63, Try.ntmps63
  go_wp2
  go_ret2
  exact ⟨rfl, rfl⟩
/-- A natural of any length, with its code. -/
def fitN (l : List Int) : List Int × Int := if l.length ≤ 40 then (l, 0) else ([], 5)
theorem fitN_len (l : List Int) : (fitN l).1.length ≤ 40 := by unfold fitN; split <;> simp; omega
/-- What MultiplyNaturals answers. -/
def mulN (a b : List Int) : List Int × Int := if nat2 a b = true then fitN (nl (val a * val b)) else ([], 1)
theorem mulN_len (a b : List Int) : (mulN a b).1.length ≤ 40 := by
  unfold mulN
  split
  · exact fitN_len _
  · simp
theorem bothMultiplyNaturals (a b : List Int) (_f : Fit a) (_hn : a.length ≤ 1048576) (_g : Fit b) (_hm : b.length ≤ 1048576) : ∃ (R : List Int) (C : Int), R.length ≤ 4000000 ∧
    (∀ (w : World) (v1 v2 : Value), Sl w v1 a → Sl w v2 b → Calls Try.prog 31 #[v1, v2] w (RetRowC w R C)) ∧
    (∀ (w : World) (v1 v2 : Value), Sl w v1 a → Sl w v2 b → Calls Try.prog 32 #[v1, v2] w (RetRowC w R C)) := by
  cases hab : nat2 a b with
  | false =>
    refine ⟨[], 1, by simp, fun w v1 v2 h1 h2 => ?_, fun w v1 v2 h1 h2 => ?_⟩
    · cases ha : natB a with
      | false =>
        go_enter Try.func31, Try.ntmps31
        go_wp2_with (go_at_call 49; refine (l02Is_any _ _ _ h1).mono ?_; rintro e w' ⟨rfl, rfl⟩)
        go_ret2
        exact ⟨_, rfl, Fresh.nil_ _ _, Below.refl _ _⟩
      | true =>
        have hb : natB b = false := by unfold nat2 at hab; rw [ha] at hab; simpa using hab
        go_enter Try.func31, Try.ntmps31
        go_wp2_with fail
        refine (l02Is_any _ _ _ h1).mono ?_
        rintro e w' ⟨rfl, rfl⟩
        go_wp2_with fail
        refine (l02Is_any _ _ _ h2).mono ?_
        rintro e w' ⟨rfl, rfl⟩
        go_wp2_with fail
        go_ret2
        exact ⟨_, rfl, Fresh.nil_ _ _, Below.refl _ _⟩
    · have H1 := Lib.hid h1
      have H2 := Lib.hid h2
      obtain ⟨A1, c1, rfl, _, _, _⟩ := h1
      obtain ⟨A2, c2, rfl, _, _, _⟩ := h2
      have hN : naturals_all [a, b] = false := by rw [nat2_all]; exact hab
      go_enter Try.func32, Try.ntmps32
      go_wp2_with (go_at_call 51; refine (naturals_any _ _ _ (SlL.two H1.out H2.out)).mono ?_; rintro e w' ⟨rfl, rfl⟩)
      go_ret2
      exact ⟨_, rfl, Fresh.nil_ _ _, (Below.refl _ _).alloc (Nat.le_refl _) _⟩
  | true =>
    have hab2 := hab
    unfold nat2 at hab2
    rw [Bool.and_eq_true] at hab2
    obtain ⟨ha, hb⟩ := hab2
    have fa := nat_facts ha
    have fb := nat_facts hb
    refine ⟨(fitN (nl (val a * val b))).1, (fitN (nl (val a * val b))).2, by have := fitN_len (nl (val a * val b)); omega, fun w v1 v2 h1 h2 => ?_, fun w v1 v2 h1 h2 => ?_⟩
    · have HM := Lib.hid (l02Mul_any v1 v2 a b w h1 h2 fa.1 fb.1 (by omega) (by omega))
      generalize nl (val a * val b) = R at *
      clear fa fb
      go_enter Try.func31, Try.ntmps31
      go_wp2_with fail
      refine (l02Is_any _ _ _ h1).mono ?_
      rintro e w' ⟨rfl, rfl⟩
      go_wp2_with fail
      refine (l02Is_any _ _ _ h2).mono ?_
      rintro e w' ⟨rfl, rfl⟩
      go_wp2_with fail
      refine HM.out.mono ?_
      rintro e w1 ⟨r, rfl, o1, hb1⟩
      by_cases hl : R.length ≤ 40
      · have HF : Hid (fitN R = (R, 0)) := Lib.hid (by unfold fitN; rw [if_pos hl])
        go_wp2_with fail
        refine (l02Fit_yes _ _ _ _ o1 hl).mono ?_
        rintro e w' ⟨rfl, rfl⟩
        go_wp2_with fail
        go_ret2
        exact ⟨_, by rw [HF.out]; rfl, by rw [HF.out]; exact .inl o1, hb1⟩
      · have HF : Hid (fitN R = ([], 5)) := Lib.hid (by unfold fitN; rw [if_neg hl])
        go_wp2_with fail
        refine (l02Fit_no _ _ _ _ o1 (by omega)).mono ?_
        rintro e w' ⟨rfl, rfl⟩
        go_wp2_with fail
        go_ret2
        exact ⟨_, by rw [HF.out]; rfl, by rw [HF.out]; exact Fresh.nil_ _ _, hb1⟩
    · have H1 := Lib.hid h1
      have H2 := Lib.hid h2
      obtain ⟨A1, c1, rfl, _, _, _⟩ := h1
      obtain ⟨A2, c2, rfl, _, _, _⟩ := h2
      have hN : naturals_all [a, b] = true := by rw [nat2_all]; exact hab
      have hB0 : Below w.heap.size w (w.alloc (.cells #[.slice A1 a.length c1, .slice A2 b.length c2] 22)) := (Below.refl _ _).alloc (Nat.le_refl _) _
      have HM := Lib.hid (multiply_any _ _ a b _ (H1.out.next hB0) (H2.out.next hB0) fa.1 fb.1 (by omega) (by omega))
      generalize nl (val a * val b) = R at *
      clear fa fb
      go_enter Try.func32, Try.ntmps32
      go_wp2_with fail
      refine (naturals_any _ _ _ (SlL.two H1.out H2.out)).mono ?_
      rintro e w' ⟨rfl, rfl⟩
      go_wp2_with fail
      refine HM.out.mono ?_
      rintro e w1 ⟨r, rfl, o1, hb1⟩
      have hB1 := below_next hB0 hb1
      have o2 := o1.lower (base' := w.heap.size) (by simp)
      by_cases hl : R.length ≤ 40
      · have HF : Hid (fitN R = (R, 0)) := Lib.hid (by unfold fitN; rw [if_pos hl])
        go_wp2_with fail
        refine (limited_yes _ _ _ _ o1 hl).mono ?_
        rintro e w' ⟨rfl, rfl⟩
        go_wp2_with fail
        go_ret2
        exact ⟨_, by rw [HF.out]; rfl, by rw [HF.out]; exact .inl o2, hB1⟩
      · have HF : Hid (fitN R = ([], 5)) := Lib.hid (by unfold fitN; rw [if_neg hl])
        go_wp2_with fail
        refine (limited_no _ _ _ _ o1 (by omega)).mono ?_
        rintro e w' ⟨rfl, rfl⟩
        go_wp2_with fail
        go_ret2
        exact ⟨_, by rw [HF.out]; rfl, by rw [HF.out]; exact Fresh.nil_ _ _, hB1⟩
end Go.Proofs.Ytkaicdljgchifaa
