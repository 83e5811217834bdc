/- A law's argument of type [][]int64 read as plain data. No condition. -/
import Derived.Test.YtanjpkcacgjgfaaMany
import Derived.ProofKit
import Derived.OpenShut
import Derived.Lib.SmallJoins
import Derived.Deep.Slices
import Derived.Deep.Fields
namespace Go.Proofs.Ytanjpkcacgjgfaa
open Go.ChangeShapes Go.WideShapes Go.ChangeAt Go.RowKit Go.Joins Go.Deep
section
variable {H : Type} {enc : TypeId × Value → H} {W : World} {base : Nat}
theorem openIntsL {fuel : Nat} {v : Value} {x : DataW H × List MemPlace} (h : DataW.trod enc Try.prog W 0 (fun _ => true) true fuel 39 [v] = some x) :
    ∃ l, Sl W v l ∧ Fit l := by
  rcases open_ints Try.underlying39 Try.underlying2 (by kernel_rfl) h with ⟨hcs, _⟩ | ⟨ad, len, cap, zs, hcs, _, hl, hm, hz, _, hcell, hwz⟩
  · obtain rfl : v = .slice none 0 0 := by simpa using hcs
    exact ⟨[], Sl.nil_ W, fun x hx => by cases hx⟩
  · obtain rfl : v = .slice (some ad) len cap := by simpa using hcs
    have hz' : zs.length = cap := by simpa using hz
    refine ⟨zs.take len, Sl.of ⟨by rw [List.length_take]; omega, fun h0 => ⟨ad, rfl, ?_, fun j hj => ?_⟩⟩ hl hm, fun y hy => bounds_i64 (hwz y (List.mem_of_mem_take hy))⟩
    · have := cell_lt (hcell 0 (by omega))
      simpa [Addr.add] using this
    · rw [hcell j (by omega)]
      simp [geti, List.getD_eq_getElem?_getD, hj]
theorem lists_of {P : Nat → Value → List Int → Prop} {n : Nat} (h : ∀ j, j < n → ∃ x l, P j x l) : ∃ (vs : List Value) (ls : List (List Int)), ls.length = n ∧ ∀ j, j < n → P j (getv vs j) (getl ls j) := by
  have h2 : ∀ j, ∃ x : Value × List Int, j < n → P j x.1 x.2 := fun j => by
    by_cases hj : j < n
    · obtain ⟨x, l, hx⟩ := h j hj; exact ⟨(x, l), fun _ => hx⟩
    · exact ⟨(.bool false, []), fun h => absurd h hj⟩
  obtain ⟨f, hf⟩ := Classical.axiomOfChoice h2
  refine ⟨(List.range n).map (fun j => (f j).1), (List.range n).map (fun j => (f j).2), by simp, fun j hj => ?_⟩
  have e1 : getv ((List.range n).map (fun j => (f j).1)) j = (f j).1 := by unfold getv; simp [List.getD_eq_getElem?_getD, hj]
  have e2 : getl ((List.range n).map (fun j => (f j).2)) j = (f j).2 := by unfold getl; simp [List.getD_eq_getElem?_getD, hj]
  rw [e1, e2]
  exact hf j hj
set_option maxRecDepth 100000 in
theorem openRows {v : Value} {d : DataW H} {p : List MemPlace} (hv : Value.okWide Try.prog W .any base 64 v) (h : DataW.Trod enc Try.prog W 0 (fun _ => true) true 64 v d p) :
    ∃ ls, SlL W v ls ∧ ∀ l ∈ ls, Fit l := by
  obtain ⟨A, len, cap, rfl⟩ := okWide_slice Try.underlying64 hv
  obtain ⟨fuel, hf⟩ := h
  rcases open_slice Try.underlying64 hf with ⟨hcs, _⟩ | ⟨ad, l, c, m, n, D, Pl, hcs, _, hl, hm, hmm, _, hi⟩
  · simp [Value.cells] at hcs
    obtain ⟨rfl, rfl, rfl⟩ := hcs
    exact ⟨[], ⟨none, 0, [], rfl, Nat.le_refl _, Nat.zero_le _, fun h => by simp at h, fun j hj => by simp at hj⟩, fun l hl => by cases hl⟩
  · simp [Value.cells] at hcs
    obtain ⟨rfl, rfl, rfl⟩ := hcs
    have hmc : m = cap := by simpa using hmm
    have hC : Try.prog.cellsOf 39 = 1 := by kernel_rfl
    have key : ∀ j, j < len → ∃ (x : Value) (l : List Int), W.cell? (ad.add j) = some x ∧ Sl W x l ∧ Fit l := by
      intro j hj
      obtain ⟨cs', hc, ht⟩ := hi j (by omega)
      rw [hC] at hc
      obtain ⟨_, hcl, hat⟩ := World.cells?_some hc
      match cs', hcl with
      | [c0], _ =>
        have hat2 := hat 0 (by omega)
        rw [add_of_add, Nat.mul_one, Nat.add_zero] at hat2
        obtain ⟨l, h1, h2⟩ := openIntsL ht
        exact ⟨c0, l, hat2, h1, h2⟩
    obtain ⟨vs, ls, hll, hlc⟩ := lists_of key
    subst hll
    refine ⟨ls, ⟨some ad, cap, vs, rfl, hl, hm, fun h0 => ⟨ad, rfl, ?_, fun j hj => (hlc j hj).1⟩, fun j hj => (hlc j hj).2.1⟩, fun l hl => ?_⟩
    · have := cell_lt (hlc 0 h0).1
      simpa [Addr.add] using this
    · obtain ⟨j, hj, rfl⟩ := mem_getl hl
      exact (hlc j hj).2.2
end
end Go.Proofs.Ytanjpkcacgjgfaa
