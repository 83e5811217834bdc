/- Words for memory over this seat's program: a slice that reads as a list, blocks, small lemmas. No condition. -/
import Derived.Test.YthijhpkkijjlfaaRows
import Derived.WalkKit
import Derived.Below
import Derived.Laws.OwnMore
import Derived.Deep.AppendLies
import Derived.Deep.Draws
import Derived.Lib.Hide
import Derived.LoopTactic
import Derived.OwnWalk
import Derived.Outline
import Derived.Maps.AppendAt
import Derived.RegionTactic
import Derived.Deep.QuietTactic
import Derived.BigQuiet
import Derived.IntWalk
namespace Go.Proofs.Ythijhpkkijjlfaa
open Go.RowKit

theorem ret_int {k : IntKind} {a b : Int} (h : a = b) : Ending.returned (.int k a) = .returned (.int k b) := by rw [h]
theorem cell_lt {w : World} {a : Addr} {v : Value} (h : w.cell? a = some v) : a.block < w.heap.size := by
  unfold World.cell? at h
  rcases Nat.lt_or_ge a.block w.heap.size with hl | hl
  · exact hl
  · rw [Array.getElem?_eq_none hl] at h; cases h
theorem ret_bool {a b : Bool} (h : a = b) : Ending.returned (.bool a) = .returned (.bool b) := by rw [h]

theorem block_of_add (a : Addr) (n : Nat) : (a.add n).block = a.block := by unfold Addr.add; split <;> rfl
theorem add_of_add (a : Addr) (i j : Nat) : (a.add i).add j = a.add (i + j) := by
  unfold Addr.add
  by_cases hi : i = 0 <;> by_cases hj : j = 0 <;> simp [hi, hj, Nat.add_assoc]

/-- The element at k (0 beyond the end): closed to simp. -/
def geti (l : List Int) (k : Nat) : Int := l.getD k 0
theorem geti_eq {l : List Int} {k : Nat} (h : k < l.length) : geti l k = l[k] := by
  unfold geti; rw [List.getD_eq_getElem?_getD, List.getElem?_eq_getElem h]; rfl
theorem geti_drop (l : List Int) (k j : Nat) : geti (l.drop k) j = geti l (k + j) := by
  unfold geti; rw [List.getD_eq_getElem?_getD, List.getD_eq_getElem?_getD, List.getElem?_drop]
theorem geti_take (l : List Int) {k j : Nat} (h : j < k) : geti (l.take k) j = geti l j := by
  unfold geti; rw [List.getD_eq_getElem?_getD, List.getD_eq_getElem?_getD, List.getElem?_take, if_pos h]
theorem geti_mem {l : List Int} {k : Nat} (h : k < l.length) : geti l k ∈ l := by rw [geti_eq h]; exact List.getElem_mem h
theorem take_snoc {l : List Int} {k : Nat} (h : k < l.length) : l.take (k + 1) = l.take k ++ [geti l k] := by
  rw [List.take_succ_eq_append_getElem h, geti_eq h]

/-- The slice value '.slice A n c' holds the integers l (one cell each), in a block below B. -/
def Ints (w : World) (B : Nat) (A : Option Addr) (n : Nat) (l : List Int) : Prop :=
  l.length = n ∧ (0 < n → ∃ ad, A = some ad ∧ ad.block < B ∧ ∀ j, j < n → w.cell? (ad.add j) = some (.int .i64 (geti l j)))

/-- Every element fits an int64. -/
def Fit (l : List Int) : Prop := ∀ x ∈ l, -9223372036854775808 ≤ x ∧ x ≤ 9223372036854775807

section
variable {w w' : World} {B B' n : Nat} {A : Option Addr} {l : List Int}
theorem Ints.none_ : Ints w B A 0 [] := ⟨rfl, fun h => absurd h (by omega)⟩
theorem Ints.at_ (h : Ints w B A n l) {k : Nat} (hk : k < n) : ∃ ad, A = some ad ∧ ad.block < B ∧ w.cell? (ad.add k) = some (.int .i64 (geti l k)) := by
  obtain ⟨ad, e, hb, hc⟩ := h.2 (by omega)
  exact ⟨ad, e, hb, hc k hk⟩
theorem Ints.keep (h : Ints w B A n l) (hk : ∀ p : Addr, p.block < B → w'.cell? p = w.cell? p) : Ints w' B A n l :=
  ⟨h.1, fun hn => by
    obtain ⟨ad, e, hb, hc⟩ := h.2 hn
    exact ⟨ad, e, hb, fun j hj => (hk _ (by rw [block_of_add]; exact hb)).trans (hc j hj)⟩⟩
theorem Ints.more (h : Ints w B A n l) (hB : B ≤ B') : Ints w B' A n l :=
  ⟨h.1, fun hn => by
    obtain ⟨ad, e, hb, hc⟩ := h.2 hn
    exact ⟨ad, e, by omega, hc⟩⟩
theorem Ints.below (h : Ints w B A n l) (hb : Below B w w') : Ints w' B A n l := h.keep fun _ hp => hb.cell hp
theorem Ints.next (h : Ints w B A n l) (hb : Below B w w') (hB : B ≤ B') : Ints w' B' A n l := (h.below hb).more hB
theorem Ints.drew (h : Ints w B A n l) : Ints w.drew B A n l := h
theorem Ints.drewN (h : Ints w B A n l) (k : Nat) : Ints (w.drewN k) B A n l := h
theorem Ints.alloc (h : Ints w B A n l) (hB : B ≤ w.heap.size) (o : Obj) : Ints (w.alloc o) B A n l := h.keep fun p hp => World.cell?_alloc_lt w o p (by omega)
theorem Ints.setCell (h : Ints w B A n l) {p : Addr} (hB : B ≤ p.block) (u : Value) : Ints (w.setCell p u) B A n l :=
  h.keep fun q hq => World.cell?_setCell_other w p q u (fun e => by subst e; omega)
theorem Ints.cut (h : Ints w B A n l) {k cap : Nat} (hk : k ≤ n) (hc : n ≤ cap) :
    Ints w B (if cap = k then A else A.map (·.add k)) (n - k) (l.drop k) := by
  refine ⟨by rw [List.length_drop, h.1], fun hn => ?_⟩
  obtain ⟨ad, rfl, hb, hcell⟩ := h.2 (by omega)
  rw [if_neg (by omega)]
  refine ⟨ad.add k, rfl, by rw [block_of_add]; exact hb, fun j hj => ?_⟩
  rw [add_of_add, hcell _ (by omega), geti_drop]
theorem Ints.take (h : Ints w B A n l) {k : Nat} (hk : k ≤ n) : Ints w B A k (l.take k) := by
  refine ⟨by rw [List.length_take, h.1]; omega, fun hn => ?_⟩
  obtain ⟨ad, rfl, hb, hcell⟩ := h.2 (by omega)
  refine ⟨ad, rfl, hb, fun j hj => ?_⟩
  rw [hcell _ (by omega), geti_take l hj]
end

/-- The slice value v owns a row of int64 cells in a block from base on; its elements are l. -/
def Owns (w : World) (base : Nat) (v : Value) (l : List Int) : Prop := w.ownsRow base 2 1 v l.length (l.map (Value.int .i64))

section
variable {w w' : World} {base : Nat} {v : Value} {l : List Int}
theorem Owns.nil_ (w : World) (base : Nat) : Owns w base (.slice none 0 0) [] := World.ownsRow_nil w base _ 1
theorem Owns.empty (w : World) (base : Nat) (hb : base ≤ w.heap.size) : Owns (w.alloc (.cells #[] 2)) base (.slice (some ⟨w.heap.size, 0, none⟩) 0 0) [] :=
  World.ownsRow_lit w #[] 0 hb (by simp [maxLen]) rfl
/-- Its shape: a slice whose length is that of l; it reads as l. -/
theorem Owns.shape (h : Owns w base v l) : ∃ A c, v = .slice A l.length c ∧ l.length ≤ c ∧ c ≤ maxLen ∧ Ints w w.heap.size A l.length l := by
  rcases h.2 with ⟨rfl, hn⟩ | ⟨g, cap, cur, rfl, hb, hg, hnc, hcm, hcs, htake⟩
  · refine ⟨none, 0, by rw [hn], by omega, by omega, rfl, fun h0 => ?_⟩
    omega
  · refine ⟨some ⟨g, 0, none⟩, cap, rfl, hnc, hcm, rfl, fun _ => ⟨⟨g, 0, none⟩, rfl, ?_, fun j hj => ?_⟩⟩
    · exact (h.lt g rfl).2
    · have := h.cells (g := g) rfl j (.int .i64 (geti l j)) (by
        rw [List.getElem?_map, geti_eq hj, List.getElem?_eq_getElem hj]; rfl)
      exact this
theorem Owns.lt (h : Owns w base v l) : ∀ k, v.ownBlock = some k → base ≤ k ∧ k < w.heap.size := World.ownsRow.lt h
theorem Owns.kept {row : Option Nat} (h : Owns w base v l) (hg : w.grownBy w' row) (hne : v.ownBlock = none ∨ v.ownBlock ≠ row) : Owns w' base v l := World.ownsRow.kept h hg hne
theorem Owns.next (h : Owns w base v l) (hb : Below w.heap.size w w') : Owns w' base v l := by
  refine World.ownsRow.kept (row := none) h ⟨hb.os, hb.tape, hb.output, hb.size, fun k hk _ => hb.block k hk⟩ ?_
  cases v.ownBlock <;> simp
theorem Owns.alloc (h : Owns w base v l) (o : Obj) : Owns (w.alloc o) base v l := World.ownsRow.alloc h o
theorem Owns.drew (h : Owns w base v l) : Owns w.drew base v l := h
theorem Owns.drewN (h : Owns w base v l) (n : Nat) : Owns (w.drewN n) base v l := h
theorem Owns.lower {base' : Nat} (h : Owns w base v l) (hb : base' ≤ base) : Owns w base' v l := by
  refine ⟨h.1, ?_⟩
  rcases h.2 with h0 | ⟨g, cap, cur, e, hbg, r⟩
  · exact .inl h0
  · exact .inr ⟨g, cap, cur, e, by omega, r⟩
end

theorem below_drewN {B : Nat} {a w : World} (h : Below B a w) (n : Nat) : Below B a (w.drewN n) := ⟨h.os, h.tape, h.output, h.size, h.block⟩
theorem below_next {a b c : World} (h : Below a.heap.size a b) (k : Below b.heap.size b c) : Below a.heap.size a c := h.trans (k.mono h.size)

theorem getD_map_int (l : List Int) (k : Nat) (h : k < l.length) : (l.map (Value.int .i64))[k]? = some (.int .i64 (geti l k)) := by
  rw [List.getElem?_map, geti_eq h, List.getElem?_eq_getElem h]; rfl

theorem Try.infoI : (Try.prog.info? 2).map (fun i => (i.zero, i.size, i.bytes)) = some (some (.int .i64 0), 1, 8) := by kernel_rfl

/-- n lies from lo to hi. -/
def inB (n lo hi : Int) : Bool := decide (lo ≤ n ∧ n ≤ hi)
theorem inB_true {n lo hi : Int} : inB n lo hi = true ↔ lo ≤ n ∧ n ≤ hi := by unfold inB; simp
theorem inB_false {n lo hi : Int} : inB n lo hi = false ↔ ¬ (lo ≤ n ∧ n ≤ hi) := by unfold inB; simp
theorem inB_def (n lo hi : Int) : inB n lo hi = (decide (lo ≤ n) && decide (n ≤ hi)) := by unfold inB; simp

end Go.Proofs.Ythijhpkkijjlfaa
