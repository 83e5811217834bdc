/- RankWord and WordAt: contracts and what the laws need. No condition beyond the stated bounds. -/
import Derived.Test.YtanjpkcacgjgfaaLists2
namespace Go.Proofs.Ytanjpkcacgjgfaa
open Go.RowKit
/-- All letters lie below a number. -/
def overB (l : List Int) (m : Int) : Bool := l.all (fun x => decide (x < m))
theorem overB_no {l : List Int} {m : Int} {k : Nat} (hk : k < l.length) (h : m ≤ geti l k) : overB l m = false := by
  unfold overB; rw [List.all_eq_false]; exact ⟨_, geti_mem hk, by simp; omega⟩
theorem overB_yes {l : List Int} {m : Int} (h : ∀ k, k < l.length → geti l k < m) : overB l m = true := by
  unfold overB; rw [List.all_eq_true]; intro x hx
  obtain ⟨k, hk, rfl⟩ := List.getElem_of_mem hx
  have := h k hk
  rw [geti_eq hk] at this
  simpa using this
theorem over_all {l : List Int} {m : Int} (hw : allIn l 0 9 = true) : allIn l 0 (m - 1) = overB l m := by
  have h := allIn_true.1 hw
  rw [Bool.eq_iff_iff, allIn_true]
  unfold overB
  rw [List.all_eq_true]
  constructor
  · intro h2 x hx; have := h2 x hx; simp; omega
  · intro h2 x hx; have := h2 x hx; have := h x hx; simp at *; omega
theorem l03Over_any (v : Value) (l : List Int) (m : Int) (w : World) (h : Sl w v l) :
    Calls Try.prog 73 #[v, .int .i64 m] w fun e w' => e = .returned (.bool (overB l m)) ∧ w = w' := by
  obtain ⟨A, c, rfl, hlc, hcm, hr⟩ := h
  have HR := Lib.hid hr
  clear hr
  unfold maxLen at hcm
  go_enter Try.func73, Try.ntmps73
  go_wp2
  go_loop [5] (fun i => ∃ k : Nat, k ≤ l.length ∧ i = .int .i64 k ∧ Hid (∀ j, j < k → geti l j < m)) (fun i => l.length - (intOf i).toNat)
  case atStart => exact ⟨0, Nat.zero_le _, rfl, fun j hj => by omega⟩
  case round =>
    obtain ⟨k, hk, rfl, H⟩ := hrel
    by_cases hlt : k < l.length
    · obtain ⟨ad, rfl, hb1, hc1⟩ := HR.out.at_ hlt
      by_cases hin : geti l k < m
      · have HN : Hid (∀ j, j < k + 1 → geti l j < m) := Lib.hid (fun j hj => by
          rcases Nat.lt_or_ge j k with h | h
          · exact H.out j h
          · obtain rfl : j = k := by omega
            exact hin)
        have hd : decide (m ≤ geti l k) = false := decide_eq_false (by omega)
        go_wp2
        go_round
        case rel => exact ⟨k + 1, by omega, by go_num, HN⟩
        case measure => simp [intOf] <;> omega
      · have HN := Lib.hid (overB_no hlt (show m ≤ geti l k by omega))
        have hd : m ≤ geti l k := by omega
        go_wp2
        go_ret
        exact ⟨ret_bool HN.out.symm, rfl⟩
    · have HN : Hid (overB l m = true) := Lib.hid (overB_yes (fun j hj => H.out j (by omega)))
      go_wp2
      go_ret
      exact ⟨ret_bool HN.out.symm, rfl⟩
/-- What RankWord answers. -/
def rkR (o : Option Int) : Int × Int := match o with | some x => (x, 0) | none => (0, 5)
def rankW (l : List Int) (m : Int) : Int × Int := if wordB l = true then (if (inB m 1 10 && overB l m) = true then rkR (rk l m 0) else (0, 2)) else (0, 1)
end Go.Proofs.Ytanjpkcacgjgfaa
