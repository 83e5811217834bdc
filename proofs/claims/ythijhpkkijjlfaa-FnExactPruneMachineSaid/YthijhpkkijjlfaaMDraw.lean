/- What a drawn statement leaves whose first result is a struct. No condition. -/
import Derived.Test.YthijhpkkijjlfaaMConf
import Derived.Test.YthijhpkkijjlfaaMMirror
import Derived.Deep.Cut
import Derived.Deep.RegionHeld3
import Derived.Deep.DeepCutAuto
namespace Go.Proofs.Ythijhpkkijjlfaa
open Go.RowKit
theorem C3.set3 {w : World} {b p : Nat} {x y z : Value} (h : C3 w b x y z) (hne : p ≠ b) (u0 u1 u2 : Value) : C3 (((w.setCell ⟨p, 0, none⟩ u0).setCell ⟨p, 1, none⟩ u1).setCell ⟨p, 2, none⟩ u2) b x y z :=
  C3.set (C3.set (C3.set h (by simpa using hne) u0) (by simpa using hne) u1) (by simpa using hne) u2
theorem Box.all {w : World} {b : Nat} {x y z : Value} (h : Box w b x y z) (u0 u1 u2 : Value) : C3 (((w.setCell ⟨b, 0, none⟩ u0).setCell ⟨b, 1, none⟩ u1).setCell ⟨b, 2, none⟩ u2) b u0 u1 u2 := by
  refine ⟨?_, ?_, ?_⟩
  · rw [World.cell?_setCell_other _ _ _ _ (by simp), World.cell?_setCell_other _ _ _ _ (by simp)]
    exact World.cell?_setCell_same w _ u0 h.c0
  · rw [World.cell?_setCell_other _ _ _ _ (by simp)]
    exact World.cell?_setCell_same _ _ u1 ((World.cell?_setCell_other w _ _ u0 (by simp)).trans h.c1)
  · exact World.cell?_setCell_same _ _ u2 ((World.cell?_setCell_other _ _ _ u1 (by simp)).trans ((World.cell?_setCell_other w _ _ u0 (by simp)).trans h.c2))
theorem below_set3 {B : Nat} {a w : World} {p : Nat} (h : Below B a w) (hp : B ≤ p) (u0 u1 u2 : Value) : Below B a (((w.setCell ⟨p, 0, none⟩ u0).setCell ⟨p, 1, none⟩ u1).setCell ⟨p, 2, none⟩ u2) :=
  Below.setCell (Below.setCell (Below.setCell h hp u0) hp u1) hp u2
theorem size_set3 (w : World) (p : Nat) (u0 u1 u2 : Value) : (((w.setCell ⟨p, 0, none⟩ u0).setCell ⟨p, 1, none⟩ u1).setCell ⟨p, 2, none⟩ u2).heap.size = w.heap.size := by simp [World.setCell]
section
variable {W : World} {b p : Nat} {x y z : Value}
theorem ka1 {o : Obj} (h : W.cell? ⟨b, 0, none⟩ = some x ∧ W.cell? ⟨b, 1, none⟩ = some y ∧ W.cell? ⟨b, 2, none⟩ = some z) : (W.alloc o).cell? ⟨b, 0, none⟩ = some x ∧ (W.alloc o).cell? ⟨b, 1, none⟩ = some y ∧ (W.alloc o).cell? ⟨b, 2, none⟩ = some z := C3.next (show C3 W b x y z from h) (below_one W o)
theorem kda1 {o : Obj} (h : W.drew.cell? ⟨b, 0, none⟩ = some x ∧ W.drew.cell? ⟨b, 1, none⟩ = some y ∧ W.drew.cell? ⟨b, 2, none⟩ = some z) : (W.alloc o).drew.cell? ⟨b, 0, none⟩ = some x ∧ (W.alloc o).drew.cell? ⟨b, 1, none⟩ = some y ∧ (W.alloc o).drew.cell? ⟨b, 2, none⟩ = some z := C3.drew (C3.next (show C3 W b x y z from h) (below_one W o))
theorem ks1 {u0 u1 u2 : Value} (h : W.cell? ⟨b, 0, none⟩ = some x ∧ W.cell? ⟨b, 1, none⟩ = some y ∧ W.cell? ⟨b, 2, none⟩ = some z) (hne : p ≠ b) :
    (((W.setCell ⟨p, 0, none⟩ u0).setCell ⟨p, 1, none⟩ u1).setCell ⟨p, 2, none⟩ u2).cell? ⟨b, 0, none⟩ = some x ∧ (((W.setCell ⟨p, 0, none⟩ u0).setCell ⟨p, 1, none⟩ u1).setCell ⟨p, 2, none⟩ u2).cell? ⟨b, 1, none⟩ = some y ∧ (((W.setCell ⟨p, 0, none⟩ u0).setCell ⟨p, 1, none⟩ u1).setCell ⟨p, 2, none⟩ u2).cell? ⟨b, 2, none⟩ = some z := C3.set3 (show C3 W b x y z from h) hne u0 u1 u2
end
/-- A machine as the result. -/
structure St3 (wc wx : World) (vb : Nat) (sy st : Int) (rv : Value) (l : List Int) : Prop where
  box : C3 wx vb (.int .i64 sy) (.int .i64 st) rv
  row : Fresh3 wx wc.heap.size rv l
  below : Below wc.heap.size wc wx
  lo : wc.heap.size ≤ vb
  hi : vb < wx.heap.size
  ne : ∀ k, blk rv = some k → k ≠ vb
theorem St3.late {wc wf : World} {base : Nat} {sy st : Int} {rv : Value} {l : List Int} (hq : Below wc.heap.size wc wf) (T : TypeId) (o : Fresh3 wf base rv l) (hb : wc.heap.size ≤ base) : St3 wc (wf.alloc (.cells #[.int .i64 sy, .int .i64 st, rv] T)) wf.heap.size sy st rv l :=
  ⟨C3.made wf _ _ _ T, (o.lower hb).next (below_one wf _), below_next hq (below_one wf _), hq.size, by simp, fun k hk => by have := (o.lt k hk).2; omega⟩
theorem St3.early {wc wf : World} {base vb : Nat} {sy st : Int} {rv z0 z1 z2 : Value} {l : List Int} (hq : Below wc.heap.size wc wf) (bx : Box wf vb z0 z1 z2) (lo : wc.heap.size ≤ vb) (o : Fresh3 wf base rv l) (hb : vb < base) :
    St3 wc (((wf.setCell ⟨vb, 0, none⟩ (.int .i64 sy)).setCell ⟨vb, 1, none⟩ (.int .i64 st)).setCell ⟨vb, 2, none⟩ rv) vb sy st rv l := by
  have hl : vb < wf.heap.size := cell_lt bx.c0
  refine ⟨bx.all _ _ _, ?_, below_set3 hq lo _ _ _, lo, by rw [size_set3]; exact hl, fun k hk => by have := (o.lt k hk).1; omega⟩
  exact Fresh3.lower (Fresh3.set (Fresh3.set (Fresh3.set o hb _) hb _) hb _) (by omega)
/-- A configuration as the result. -/
structure StC (wc wx : World) (vb : Nat) (st : Int) (va vr : Value) (l r : List Int) : Prop where
  box : C3 wx vb (.int .i64 st) va vr
  rowa : Fresh wx wc.heap.size va l
  rowb : Fresh wx wc.heap.size vr r
  ap : ∀ k, blk va = some k → blk vr ≠ some k
  below : Below wc.heap.size wc wx
  lo : wc.heap.size ≤ vb
  hi : vb < wx.heap.size
  nea : ∀ k, blk va = some k → k ≠ vb
  neb : ∀ k, blk vr = some k → k ≠ vb
theorem StC.late {wc wf : World} {base : Nat} {st : Int} {va vr : Value} {l r : List Int} (hq : Below wc.heap.size wc wf) (T : TypeId) (o : Fresh wf base va l) (o2 : Fresh wf base vr r) (ap : ∀ k, blk va = some k → blk vr ≠ some k) (hb : wc.heap.size ≤ base) : StC wc (wf.alloc (.cells #[.int .i64 st, va, vr] T)) wf.heap.size st va vr l r :=
  ⟨C3.made wf _ _ _ T, (o.lower hb).next (below_one wf _), (o2.lower hb).next (below_one wf _), ap, below_next hq (below_one wf _), hq.size, by simp, fun k hk => by have := (o.lt k hk).2; omega, fun k hk => by have := (o2.lt k hk).2; omega⟩
theorem StC.early {wc wf : World} {base vb : Nat} {st : Int} {va vr z0 z1 z2 : Value} {l r : List Int} (hq : Below wc.heap.size wc wf) (bx : Box wf vb z0 z1 z2) (lo : wc.heap.size ≤ vb) (o : Fresh wf base va l) (o2 : Fresh wf base vr r) (ap : ∀ k, blk va = some k → blk vr ≠ some k) (hb : vb < base) :
    StC wc (((wf.setCell ⟨vb, 0, none⟩ (.int .i64 st)).setCell ⟨vb, 1, none⟩ va).setCell ⟨vb, 2, none⟩ vr) vb st va vr l r := by
  have hl : vb < wf.heap.size := cell_lt bx.c0
  refine ⟨bx.all _ _ _, ?_, ?_, ap, below_set3 hq lo _ _ _, lo, by rw [size_set3]; exact hl, fun k hk => by have := (o.lt k hk).1; omega, fun k hk => by have := (o2.lt k hk).1; omega⟩
  · exact Fresh.lower (Fresh.set (Fresh.set (Fresh.set o hb _) hb _) hb _) (by omega)
  · exact Fresh.lower (Fresh.set (Fresh.set (Fresh.set o2 hb _) hb _) hb _) (by omega)
end Go.Proofs.Ythijhpkkijjlfaa
