/- WordOf: what the law needs. No condition beyond the stated bounds. -/
import Derived.Test.YtanjpkcacgjgfaaNatArith2
import Derived.Test.YtanjpkcacgjgfaaNatSmall
import Derived.Test.YtanjpkcacgjgfaaNatDig
import Derived.Test.YtanjpkcacgjgfaaLists2
namespace Go.Proofs.Ytanjpkcacgjgfaa
open Go.RowKit
theorem one_any (w : World) : Calls Try.prog 99 #[] w (RetOwn w (nl 1)) := by
  go_enter Try.func99, Try.ntmps99
  go_wp2
  go_ret
  exact ⟨_, rfl, own_one w, (Below.refl _ _).alloc (Nat.le_refl _) _⟩
/-- What a search of letters answers. -/
def waR2 (o : Option (List Int)) : List Int × Int := match o with | some t => (t.reverse, 0) | none => ([], 5)
/-- What WordOf answers. -/
def wordOf (l : List Int) (m : Int) : List Int × Int := if natB l = true then (if inB m 1 10 = true then waR2 (wa 400 (val l) m) else ([], 2)) else ([], 1)
theorem wordOf_len (l : List Int) (m : Int) : (wordOf l m).1.length ≤ 400 := by
  unfold wordOf waR2
  split
  · split
    · cases h : wa 400 (val l) m with
      | none => simp
      | some t => have := wa_len _ _ _ _ h; simpa using this
    · simp
  · simp
theorem val_one : val (nl 1) = 1 := by rw [nl_one]; rfl
theorem subtract_one (v1 v2 : Value) (m : Int) (w : World) (h1 : Sl w v1 (nl m)) (h2 : Sl w v2 (nl 1)) (hm : 0 < m) (hm2 : m < pw 40) :
    Calls Try.prog 146 #[v1, v2] w (RetOwn w (nl (m - 1))) := by
  have := subtract_any v1 v2 (nl m) (nl 1) w h1 h2 (nl_lim m) (nl_lim 1) (by have := nl_len40 (by omega) hm2; omega) (by rw [nl_one]; have := nl_ne hm; simp; omega) (by rw [val_one, val_nl (by omega)]; omega)
  rw [val_one, val_nl (by omega)] at this
  exact this
theorem l02Sub_one (v1 v2 : Value) (m : Int) (w : World) (h1 : Sl w v1 (nl m)) (h2 : Sl w v2 (nl 1)) (hm : 0 < m) (hm2 : m < pw 40) :
    Calls Try.prog 139 #[v1, v2] w (RetOwn w (nl (m - 1))) := by
  have := l02Sub_any v1 v2 (nl m) (nl 1) w h1 h2 (nl_lim m) (nl_lim 1) (by have := nl_len40 (by omega) hm2; omega) (by rw [nl_one]; have := nl_ne hm; simp; omega) (by rw [val_one, val_nl (by omega)]; omega)
  rw [val_one, val_nl (by omega)] at this
  exact this
end Go.Proofs.Ytanjpkcacgjgfaa
