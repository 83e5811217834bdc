/- Configurations: the contracts of szConfig, toConfig, eqConfig, markConfig, heldConfig. No condition beyond the stated bounds. -/
import Derived.Test.YthijhpkkijjlfaaMOwn
import Derived.Deep.Cut
namespace Go.Proofs.Ythijhpkkijjlfaa
open Go.RowKit
/-- What a call leaves that returns a new configuration. -/
def RetC (w : World) (st : Int) (l r : List Int) (e : Ending) (w' : World) : Prop := ∃ a b, e = .returned (.agg #[.int .i64 st, a, b]) ∧ Fresh w' w.heap.size a l ∧ Fresh w' w.heap.size b r ∧ (∀ k, blk a = some k → blk b ≠ some k) ∧ Below w.heap.size w w'
def RetCC (w : World) (st : Int) (l r : List Int) (c : Int) (e : Ending) (w' : World) : Prop := ∃ a b, e = .returned (.tuple #[.agg #[.int .i64 st, a, b], .int .i64 c]) ∧ Fresh w' w.heap.size a l ∧ Fresh w' w.heap.size b r ∧ (∀ k, blk a = some k → blk b ≠ some k) ∧ Below w.heap.size w w'
/-- A store into a box. -/
theorem Box.put1 {w : World} {b : Nat} {x y z : Value} (h : Box w b x y z) (u : Value) : Box (w.setCell ⟨b, 1, none⟩ u) b x u z :=
  ⟨(World.cell?_setCell_other w _ _ u (by simp)).trans h.c0, World.cell?_setCell_same w _ u h.c1, (World.cell?_setCell_other w _ _ u (by simp)).trans h.c2, by rw [World.frozen?_setCell]; exact h.f0, by rw [World.frozen?_setCell]; exact h.f1, by rw [World.frozen?_setCell]; exact h.f2⟩
theorem Box.put2 {w : World} {b : Nat} {x y z : Value} (h : Box w b x y z) (u : Value) : Box (w.setCell ⟨b, 2, none⟩ u) b x y u :=
  ⟨(World.cell?_setCell_other w _ _ u (by simp)).trans h.c0, (World.cell?_setCell_other w _ _ u (by simp)).trans h.c1, World.cell?_setCell_same w _ u h.c2, by rw [World.frozen?_setCell]; exact h.f0, by rw [World.frozen?_setCell]; exact h.f1, by rw [World.frozen?_setCell]; exact h.f2⟩
theorem Box.far {w : World} {b : Nat} {x y z : Value} (h : Box w b x y z) {p : Addr} (hp : p.block ≠ b) (u : Value) : Box (w.setCell p u) b x y z :=
  ⟨(World.cell?_setCell_other w _ _ u (fun e => hp (by rw [e]))).trans h.c0, (World.cell?_setCell_other w _ _ u (fun e => hp (by rw [e]))).trans h.c1, (World.cell?_setCell_other w _ _ u (fun e => hp (by rw [e]))).trans h.c2, by rw [World.frozen?_setCell]; exact h.f0, by rw [World.frozen?_setCell]; exact h.f1, by rw [World.frozen?_setCell]; exact h.f2⟩
theorem size_set (w : World) (p : Addr) (u : Value) : (w.setCell p u).heap.size = w.heap.size := by simp [World.setCell]
end Go.Proofs.Ythijhpkkijjlfaa
