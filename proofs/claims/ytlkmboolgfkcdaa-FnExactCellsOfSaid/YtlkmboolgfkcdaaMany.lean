/- Slices of slices; slices.IndexFunc and ContainsFunc at the closures of naturals and areWords. No condition. -/
import Derived.Test.YtlkmboolgfkcdaaValid
namespace Go.Proofs.Ytlkmboolgfkcdaa
open Go.RowKit
def getv (vs : List Value) (j : Nat) : Value := vs.getD j (.bool false)
def getl (ls : List (List Int)) (j : Nat) : List Int := ls.getD j []
theorem getl_mem {ls : List (List Int)} {j : Nat} (h : j < ls.length) : getl ls j ∈ ls := by
  unfold getl; rw [List.getD_eq_getElem?_getD, List.getElem?_eq_getElem h]; exact List.getElem_mem h
theorem mem_getl {ls : List (List Int)} {l : List Int} (h : l ∈ ls) : ∃ j, j < ls.length ∧ getl ls j = l := by
  obtain ⟨j, hj, rfl⟩ := List.getElem_of_mem h
  exact ⟨j, hj, by unfold getl; rw [List.getD_eq_getElem?_getD, List.getElem?_eq_getElem hj]; rfl⟩
/-- The slice value v holds slices that read as the lists ls. -/
def SlL (w : World) (v : Value) (ls : List (List Int)) : Prop :=
  ∃ A c vs, v = .slice A ls.length c ∧ ls.length ≤ c ∧ c ≤ maxLen ∧
    (0 < ls.length → ∃ ad, A = some ad ∧ ad.block < w.heap.size ∧ ∀ j, j < ls.length → w.cell? (ad.add j) = some (getv vs j)) ∧ ∀ j, j < ls.length → Sl w (getv vs j) (getl ls j)
theorem SlL.next {w w' : World} {v : Value} {ls : List (List Int)} (h : SlL w v ls) (hb : Below w.heap.size w w') : SlL w' v ls := by
  obtain ⟨A, c, vs, e, h1, h2, h3, h4⟩ := h
  refine ⟨A, c, vs, e, h1, h2, fun hn => ?_, fun j hj => (h4 j hj).next hb⟩
  obtain ⟨ad, e, hb1, hc⟩ := h3 hn
  exact ⟨ad, e, Nat.lt_of_lt_of_le hb1 hb.size, fun j hj => (hb.cell (p := ad.add j) (by rw [block_of_add]; exact hb1)).trans (hc j hj)⟩
/-- What IndexFunc answers: an index, if not all is well. -/
def IdxPost (b : Bool) (w : World) (e : Ending) (w' : World) : Prop := ∃ n : Int, e = .returned (.int .i64 n) ∧ (0 ≤ n ↔ b = false) ∧ -1 ≤ n ∧ w = w'
/-- Two slices in a new block: the arguments of a variadic call. -/
theorem SlL.two {w : World} {va vb : Value} {a b : List Int} (ha : Sl w va a) (hb : Sl w vb b) :
    SlL (w.alloc (.cells #[va, vb] 34)) (.slice (some ⟨w.heap.size, 0, none⟩) 2 2) [a, b] := by
  have hB : Below w.heap.size w (w.alloc (.cells #[va, vb] 34)) := (Below.refl _ _).alloc (Nat.le_refl _) _
  refine ⟨_, _, [va, vb], rfl, Nat.le_refl _, by simp [maxLen], fun _ => ⟨_, rfl, by simp, fun j hj => ?_⟩, fun j hj => ?_⟩
  · have hj2 : j = 0 ∨ j = 1 := by simp at hj; omega
    rcases hj2 with rfl | rfl
    · rw [show (⟨w.heap.size, 0, none⟩ : Addr).add 0 = ⟨w.heap.size, 0, none⟩ from rfl, World.cell?_alloc_at _ _ _ _ rfl]; rfl
    · rw [show (⟨w.heap.size, 0, none⟩ : Addr).add 1 = ⟨w.heap.size, 1, none⟩ from rfl, World.cell?_alloc_at _ _ _ _ rfl]; rfl
  · have hj2 : j = 0 ∨ j = 1 := by simp at hj; omega
    rcases hj2 with rfl | rfl
    · exact ha.next hB
    · exact hb.next hB
end Go.Proofs.Ytlkmboolgfkcdaa
