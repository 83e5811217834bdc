/- Slices of bytes as lists: what an argument of bytes is known by. No condition. -/
import Derived.Test.YtfdcpfhiknfpiaaGreatDoorSl
namespace Go.Proofs.YtfdcpfhiknfpiaaGreatDoor
open Go.RowKit
/-- A slice of n bytes at A reads as the list l of their values. -/
def BytesAt (w : World) (B : Nat) (A : Option Addr) (n : Nat) (l : List Int) : Prop :=
  l.length = n ∧ (0 < n → ∃ ad, A = some ad ∧ ad.block < B ∧ ∀ j, j < n → w.cell? (ad.add j) = some (.int .u8 (geti l j)))
/-- Every element is a byte. -/
def FitB (l : List Int) : Prop := ∀ x ∈ l, 0 ≤ x ∧ x ≤ 255
theorem BytesAt.next {w w' : World} {A : Option Addr} {n : Nat} {l : List Int} (h : BytesAt w w.heap.size A n l) (hb : Below w.heap.size w w') : BytesAt w' w'.heap.size A n l := by
  refine ⟨h.1, fun h0 => ?_⟩
  obtain ⟨ad, e, hlt, hc⟩ := h.2 h0
  have := hb.size
  exact ⟨ad, e, by omega, fun j hj => (hb.cell (p := ad.add j) (by rw [block_of_add]; exact hlt)).trans (hc j hj)⟩
theorem BytesAt.at_ {w : World} {B n : Nat} {A : Option Addr} {l : List Int} (h : BytesAt w B A n l) {k : Nat} (hk : k < n) : ∃ ad, A = some ad ∧ ad.block < B ∧ w.cell? (ad.add k) = some (.int .u8 (geti l k)) := by
  obtain ⟨ad, e, hb, hc⟩ := h.2 (by omega)
  exact ⟨ad, e, hb, hc k hk⟩
end Go.Proofs.YtfdcpfhiknfpiaaGreatDoor
