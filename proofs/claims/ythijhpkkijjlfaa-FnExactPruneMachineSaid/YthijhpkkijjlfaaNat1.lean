/- Naturals: the contracts of l02Of, l02Trim, trimmed, carried, naturalOf, NaturalOf. No condition beyond the stated bounds. -/
import Derived.Test.YthijhpkkijjlfaaValid
import Derived.Test.YthijhpkkijjlfaaPlainNat
namespace Go.Proofs.Ythijhpkkijjlfaa
open Go.RowKit
/-- A row cut at its end. -/
theorem Owns.cut {w : World} {base c : Nat} {A : Option Addr} {l : List Int} (h : Owns w base (.slice A l.length c) l) {k : Nat} (hk : k ≤ l.length) : Owns w base (.slice A k c) (l.take k) := by
  have hl : (l.take k).length = k := by rw [List.length_take]; omega
  refine ⟨by simp, ?_⟩
  rcases h.2 with ⟨e, hn⟩ | ⟨g, cap, cur, e, hb, hg, hnc, hcm, hcs, htake⟩
  · simp only [Value.slice.injEq] at e
    obtain ⟨rfl, _, rfl⟩ := e
    exact .inl ⟨by congr 1; omega, by omega⟩
  · simp only [Value.slice.injEq] at e
    obtain ⟨rfl, _, rfl⟩ := e
    refine .inr ⟨g, c, cur, by rw [hl], hb, hg, by omega, hcm, hcs, ?_⟩
    rw [hl, Nat.mul_one, List.map_take, ← htake, List.take_take, Nat.mul_one, Nat.min_eq_left hk]
theorem Owns.len' {w : World} {base n c : Nat} {A : Option Addr} {l : List Int} (h : Owns w base (.slice A n c) l) : l.length = n := by
  obtain ⟨A', c', e, _⟩ := h.shape
  simp only [Value.slice.injEq] at e
  exact e.2.1.symm

end Go.Proofs.Ythijhpkkijjlfaa
