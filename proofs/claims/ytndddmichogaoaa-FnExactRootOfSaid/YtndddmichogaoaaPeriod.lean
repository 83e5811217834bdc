/- PeriodOf: what the law needs. No condition beyond the stated bounds. -/
import Derived.Test.YtndddmichogaoaaBorders
namespace Go.Proofs.Ytndddmichogaoaa
open Go.RowKit
theorem periodOf_any (v : Value) (l : List Int) (k0 : Nat) (w : World) (h : Sl w v l) (hl : l.length ≤ 400) (h0 : 0 < l.length) (hk0 : LB l l.length k0) :
    Calls Try.prog 57 #[v] w fun e w' => e = .returned (.int .i64 ((l.length - k0 : Nat) : Int)) ∧ Below w.heap.size w w' := by
  have HS := Lib.hid h
  obtain ⟨A, c, rfl, hlc, hcm, _⟩ := h
  have HK := Lib.hid hk0
  have hkl := hk0.1.1
  clear hk0
  go_enter Try.func57, Try.ntmps57
  go_wp2_with fail
  refine (prefixTable_any _ _ _ HS.out (by omega)).mono ?_
  rintro e w1 ⟨g, tb, rfl, hg, hT, hok, hb⟩
  obtain ⟨t, ht, hLB⟩ := hok.2 (l.length - 1) (by omega)
  have e1 : t = k0 := by rw [show l.length - 1 + 1 = l.length by omega] at hLB; exact hLB.uniq HK.out
  subst e1
  have hc := hT.cellAt (j := l.length - 1) (by rw [hok.1]; omega)
  rw [ht] at hc
  clear ht hLB hok hT
  go_wp2_with fail
  go_ret
  refine ⟨ret_int ?_, hb⟩
  omega
theorem bothPeriodOf (l : List Int) (_f : Fit l) (_hn : l.length ≤ 1048576) : ∃ R C : Int,
    (∀ (w : World) (v : Value), Sl w v l → Calls Try.prog 25 #[v] w fun e w' => e = .returned (.tuple #[.int .i64 R, .int .i64 C]) ∧ Below w.heap.size w w') ∧
    (∀ (w : World) (v : Value), Sl w v l → Calls Try.prog 26 #[v] w fun e w' => e = .returned (.tuple #[.int .i64 R, .int .i64 C]) ∧ Below w.heap.size w w') := by
  cases hw : wordB l with
  | false =>
    refine ⟨0, 1, fun w v h => ?_, fun w v h => ?_⟩
    · go_enter Try.func25, Try.ntmps25
      go_wp2_with (go_at_call 48; refine (l03Is_any _ _ _ h).mono ?_; rintro e w' ⟨rfl, rfl⟩)
      go_ret2
      exact ⟨rfl, Below.refl _ _⟩
    · go_enter Try.func26, Try.ntmps26
      go_wp2_with (go_at_call 51; refine (implIsWord_any _ _ _ h).mono ?_; rintro e w' ⟨rfl, rfl⟩)
      go_ret2
      exact ⟨rfl, Below.refl _ _⟩
  | true =>
    have hl := (wordB_true.1 hw).2
    by_cases h0 : l.length = 0
    · have e : l = [] := List.eq_nil_of_length_eq_zero h0
      subst e
      clear h0
      refine ⟨0, 3, fun w v h => ?_, fun w v h => ?_⟩
      · have HS := Lib.hid h
        obtain ⟨A, c, rfl, _, _, _⟩ := h
        go_enter Try.func25, Try.ntmps25
        go_wp2_with (go_at_call 48; refine (l03Is_any _ _ _ HS.out).mono ?_; rintro e w' ⟨rfl, rfl⟩)
        go_ret2
        exact ⟨rfl, Below.refl _ _⟩
      · have HS := Lib.hid h
        obtain ⟨A, c, rfl, _, _, _⟩ := h
        go_enter Try.func26, Try.ntmps26
        go_wp2_with (go_at_call 51; refine (implIsWord_any _ _ _ HS.out).mono ?_; rintro e w' ⟨rfl, rfl⟩)
        go_ret2
        exact ⟨rfl, Below.refl _ _⟩
    · have hl0 : 0 < l.length := by omega
      obtain ⟨k0, hk0⟩ := exists_LB l hl0
      have HK := Lib.hid hk0
      have hz : ((l.length : Int) == 0) = false := by rw [beq_eq_false_iff_ne]; omega
      have hz2 : (l.length == 0) = false := by rw [beq_eq_false_iff_ne]; omega
      have hkl := hk0.1.1
      clear h0 hk0
      refine ⟨((l.length - k0 : Nat) : Int), 0, fun w v h => ?_, fun w v h => ?_⟩
      · have HS := Lib.hid h
        obtain ⟨A, c, rfl, _, _, _⟩ := h
        go_enter Try.func25, Try.ntmps25
        go_wp2_with (first
          | (go_at_call 48; refine (l03Is_any _ _ _ HS.out).mono ?_; rintro e w' ⟨rfl, rfl⟩)
          | (go_at_call 56; refine (l03Period_any _ _ k0 _ HS.out HK.out).mono ?_; rintro e w' ⟨rfl, hb⟩))
        go_ret2
        exact ⟨rfl, hb⟩
      · have HS := Lib.hid h
        obtain ⟨A, c, rfl, _, _, _⟩ := h
        go_enter Try.func26, Try.ntmps26
        go_wp2_with (first
          | (go_at_call 51; refine (implIsWord_any _ _ _ HS.out).mono ?_; rintro e w' ⟨rfl, rfl⟩)
          | (go_at_call 57; refine (periodOf_any _ _ k0 _ HS.out hl hl0 HK.out).mono ?_; rintro e w' ⟨rfl, hb⟩))
        go_ret2
        exact ⟨rfl, hb⟩
end Go.Proofs.Ytndddmichogaoaa
