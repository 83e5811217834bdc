/- MirrorConfig: the reference and the program give the same results. No condition beyond the stated bounds. -/
import Derived.Test.YtbjkhnajnbmnlaaMMirS
namespace Go.Proofs.Ytbjkhnajnbmnlaa
open Go.RowKit
theorem side_len9 {sy : Int} {l : List Int} (h : sideB sy l = true) : l.length ≤ 200 := by
  unfold sideB at h
  simp only [Bool.and_eq_true, decide_eq_true_eq] at h
  exact h.2.1
theorem bothMirrorConfig (sy st : Int) (ml : List Int) (s : Int) (l r : List Int) (_h : Fit ml ∧ ml.length ≤ 3145728 ∧ (-9223372036854775808 ≤ sy ∧ sy ≤ 9223372036854775807) ∧ (-9223372036854775808 ≤ st ∧ st ≤ 9223372036854775807))
    (_h' : Fit l ∧ l.length ≤ 1048576 ∧ Fit r ∧ r.length ≤ 1048576 ∧ (-9223372036854775808 ≤ s ∧ s ≤ 9223372036854775807)) : ∃ (RS : Int) (R RR : List Int) (C : Int), R.length ≤ 4000000 ∧ RR.length ≤ 4000000 ∧
    (∀ (w : World) (mv va vb : Value), Sl3 w mv ml → Sl w va l → Sl w vb r → Calls Try.prog 8 #[.agg #[.int .i64 sy, .int .i64 st, mv], .agg #[.int .i64 s, va, vb]] w (RetCC w RS R RR C)) ∧
    (∀ (w : World) (mv va vb : Value), Sl3 w mv ml → Sl w va l → Sl w vb r → Calls Try.prog 11 #[.agg #[.int .i64 sy, .int .i64 st, mv], .agg #[.int .i64 s, va, vb]] w (RetCC w RS R RR C)) := by
  cases hv : vconfB sy st ml s l r with
  | false => exact ⟨0, [], [], 1, by simp, by simp, fun w mv va vb hm ha hb => specMirror_bad _ _ _ mv va vb _ _ _ w hm ha hb hv, fun w mv va vb hm ha hb => implMirror_bad _ _ _ mv va vb _ _ _ w hm ha hb hv⟩
  | true =>
    have hv2 := hv
    unfold vconfB goodB at hv2
    simp only [Bool.and_eq_true] at hv2
    have hl := side_len9 hv2.2.2.1
    have hr := side_len9 hv2.2.2.2
    have hm := mirR_len l r
    by_cases ht : 200 < (mirR l r).length
    · have e : ∀ w, RetMir w s l r = RetCC w 0 [] [] 5 := fun w => by funext a b; unfold RetMir; rw [if_pos ht]
      exact ⟨0, [], [], 5, by simp, by simp, fun w mv va vb hm ha hb => e w ▸ specMirror_any _ _ _ mv va vb _ _ _ w hm ha hb hv hl hr, fun w mv va vb hm ha hb => e w ▸ implMirror_any _ _ _ mv va vb _ _ _ w hm ha hb hv hl hr⟩
    · have e : ∀ w, RetMir w s l r = RetCC w s (r.drop 1) (mirR l r) 0 := fun w => by funext a b; unfold RetMir; rw [if_neg ht]
      exact ⟨s, r.drop 1, mirR l r, 0, by simp; omega, by omega, fun w mv va vb hm ha hb => e w ▸ specMirror_any _ _ _ mv va vb _ _ _ w hm ha hb hv hl hr, fun w mv va vb hm ha hb => e w ▸ implMirror_any _ _ _ mv va vb _ _ _ w hm ha hb hv hl hr⟩
end Go.Proofs.Ytbjkhnajnbmnlaa
