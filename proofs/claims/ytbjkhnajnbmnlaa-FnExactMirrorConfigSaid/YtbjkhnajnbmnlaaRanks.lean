/- RankWord and WordAt: contracts and what the laws need. No condition beyond the stated bounds. -/
import Derived.Test.YtbjkhnajnbmnlaaLists2
namespace Go.Proofs.Ytbjkhnajnbmnlaa
open Go.RowKit
/-- All letters lie below a number. -/
def overB (l : List Int) (m : Int) : Bool := l.all (fun x => decide (x < m))
theorem overB_no {l : List Int} {m : Int} {k : Nat} (hk : k < l.length) (h : m ≤ geti l k) : overB l m = false := by
  unfold overB; rw [List.all_eq_false]; exact ⟨_, geti_mem hk, by simp; omega⟩
theorem overB_yes {l : List Int} {m : Int} (h : ∀ k, k < l.length → geti l k < m) : overB l m = true := by
  unfold overB; rw [List.all_eq_true]; intro x hx
  obtain ⟨k, hk, rfl⟩ := List.getElem_of_mem hx
  have := h k hk
  rw [geti_eq hk] at this
  simpa using this
theorem over_all {l : List Int} {m : Int} (hw : allIn l 0 9 = true) : allIn l 0 (m - 1) = overB l m := by
  have h := allIn_true.1 hw
  rw [Bool.eq_iff_iff, allIn_true]
  unfold overB
  rw [List.all_eq_true]
  constructor
  · intro h2 x hx; have := h2 x hx; simp; omega
  · intro h2 x hx; have := h2 x hx; have := h x hx; simp at *; omega
/-- What RankWord answers. -/
def rkR (o : Option Int) : Int × Int := match o with | some x => (x, 0) | none => (0, 5)
def rankW (l : List Int) (m : Int) : Int × Int := if wordB l = true then (if (inB m 1 10 && overB l m) = true then rkR (rk l m 0) else (0, 2)) else (0, 1)
end Go.Proofs.Ytbjkhnajnbmnlaa
