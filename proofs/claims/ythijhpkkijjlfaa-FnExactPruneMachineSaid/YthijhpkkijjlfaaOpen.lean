/- Arguments of the laws read as plain data: machines, configurations, rules, lists. No condition. -/
import Derived.Test.YthijhpkkijjlfaaMach
import Derived.ProofKit
import Derived.OpenShut
import Derived.Lib.SmallJoins
import Derived.Deep.Slices
import Derived.Deep.Fields
namespace Go.Proofs.Ythijhpkkijjlfaa
open Go.ChangeShapes Go.WideShapes Go.ChangeAt Go.RowKit Go.Joins Go.Deep
section
variable {H : Type} {enc : TypeId × Value → H} {W : World} {base : Nat}
theorem list_of {P : Nat → Int → Prop} {n : Nat} (h : ∀ j, j < n → ∃ x, P j x) : ∃ l : List Int, l.length = n ∧ ∀ j, j < n → P j (geti l j) := by
  have h2 : ∀ j, ∃ x, j < n → P j x := fun j => by
    by_cases hj : j < n
    · obtain ⟨x, hx⟩ := h j hj; exact ⟨x, fun _ => hx⟩
    · exact ⟨0, fun h => absurd h hj⟩
  obtain ⟨f, hf⟩ := Classical.axiomOfChoice h2
  refine ⟨(List.range n).map f, by simp, fun j hj => ?_⟩
  rw [geti_eq (by simpa using hj)]
  simpa using hf j hj
theorem fit_of {l : List Int} (h : ∀ j, j < l.length → -9223372036854775808 ≤ geti l j ∧ geti l j ≤ 9223372036854775807) : Fit l := by
  intro x hx
  obtain ⟨j, hj, rfl⟩ := List.getElem_of_mem hx
  have := h j hj
  rwa [geti_eq hj] at this
theorem openInts {fuel : Nat} {v : Value} {x : DataW H × List MemPlace} (h : DataW.trod enc Try.prog W 0 (fun _ => true) true fuel 29 [v] = some x) :
    ∃ l, Sl W v l ∧ Fit l := by
  rcases open_ints Try.underlying29 Try.underlying2 (by kernel_rfl) h with ⟨hcs, _⟩ | ⟨ad, len, cap, zs, hcs, _, hl, hm, hz, _, hcell, hwz⟩
  · obtain rfl : v = .slice none 0 0 := by simpa using hcs
    exact ⟨[], Sl.nil_ W, fun x hx => by cases hx⟩
  · obtain rfl : v = .slice (some ad) len cap := by simpa using hcs
    have hz' : zs.length = cap := by simpa using hz
    refine ⟨zs.take len, Sl.of ⟨by rw [List.length_take]; omega, fun h0 => ⟨ad, rfl, ?_, fun j hj => ?_⟩⟩ hl hm, fun y hy => bounds_i64 (hwz y (List.mem_of_mem_take hy))⟩
    · have := cell_lt (hcell 0 (by omega))
      simpa [Addr.add] using this
    · rw [hcell j (by omega)]
      simp [geti, List.getD_eq_getElem?_getD, hj]
set_option maxRecDepth 100000 in
theorem openRules {fuel : Nat} {v : Value} {x : DataW H × List MemPlace} (h : DataW.trod enc Try.prog W 0 (fun _ => true) true fuel 22 [v] = some x) :
    ∃ l, Sl3 W v l ∧ Fit l := by
  rcases open_slice Try.underlying22 h with ⟨hcs, _⟩ | ⟨ad, len, cap, m, n, D, Pl, hcs, _, hl, hm, hmm, _, hi⟩
  · obtain rfl : v = .slice none 0 0 := by simpa using hcs
    exact ⟨[], ⟨none, 0, 0, rfl, Nat.le_refl _, Nat.zero_le _, Ints.none_⟩, fun x hx => by cases hx⟩
  · obtain rfl : v = .slice (some ad) len cap := by simpa using hcs
    have hmc : m = cap := by simpa using hmm
    have hC : Try.prog.cellsOf 59 = 3 := by kernel_rfl
    have key : ∀ j, j < len * 3 → ∃ x : Int, W.cell? (ad.add j) = some (.int .i64 x) ∧ (-9223372036854775808 ≤ x ∧ x ≤ 9223372036854775807) := by
      intro j hj
      obtain ⟨cs', hc, ht⟩ := hi (j / 3) (by omega)
      rw [hC] at hc
      obtain ⟨xs, n', hn', hy, hlen, hxl, hf⟩ := DataW.trod_struct Try.underlying59 ht
      obtain ⟨_, hcl, hat⟩ := World.cells?_some hc
      have hat2 := hat (j % 3) (by omega)
      rw [add_of_add, show j / 3 * 3 + j % 3 = j by omega] at hat2
      have h3 : j % 3 = 0 ∨ j % 3 = 1 ∨ j % 3 = 2 := by omega
      match cs', hcl with
      | [c0, c1, c2], _ =>
        rcases h3 with h3 | h3 | h3
        · have h4 := hf 0 _ rfl
          obtain ⟨y, hy⟩ : ∃ y, xs[0]? = some y := ⟨_, List.getElem?_eq_getElem (by rw [hxl]; decide)⟩
          rw [hy] at h4
          obtain ⟨a, h5, _, h6⟩ := DataW.trod_int Try.underlying2 h4
          have h7 : c0 = .int .i64 a := by simpa [show Try.prog.cellsOf 2 = 1 by kernel_rfl] using h5
          rw [h3] at hat2
          exact ⟨a, by rw [hat2, ← h7]; rfl, bounds_i64 h6⟩
        · have h4 := hf 1 _ rfl
          obtain ⟨y, hy⟩ : ∃ y, xs[1]? = some y := ⟨_, List.getElem?_eq_getElem (by rw [hxl]; decide)⟩
          rw [hy] at h4
          obtain ⟨a, h5, _, h6⟩ := DataW.trod_int Try.underlying2 h4
          have h7 : c1 = .int .i64 a := by simpa [show Try.prog.cellsOf 2 = 1 by kernel_rfl] using h5
          rw [h3] at hat2
          exact ⟨a, by rw [hat2, ← h7]; rfl, bounds_i64 h6⟩
        · have h4 := hf 2 _ rfl
          obtain ⟨y, hy⟩ : ∃ y, xs[2]? = some y := ⟨_, List.getElem?_eq_getElem (by rw [hxl]; decide)⟩
          rw [hy] at h4
          obtain ⟨a, h5, _, h6⟩ := DataW.trod_int Try.underlying2 h4
          have h7 : c2 = .int .i64 a := by simpa [show Try.prog.cellsOf 2 = 1 by kernel_rfl] using h5
          rw [h3] at hat2
          exact ⟨a, by rw [hat2, ← h7]; rfl, bounds_i64 h6⟩
    obtain ⟨l, hll, hlc⟩ := list_of key
    refine ⟨l, ⟨some ad, len, cap, rfl, hl, hm, hll, fun h0 => ⟨ad, rfl, ?_, fun j hj => (hlc j hj).1⟩⟩, fit_of (fun j hj => (hlc j (by omega)).2)⟩
    have := cell_lt (hlc 0 (by omega)).1
    simpa [Addr.add] using this
set_option maxRecDepth 100000 in
theorem openMachine {v : Value} {d : DataW H} {p : List MemPlace} (hv : Value.okWide Try.prog W .any base 24 v) (h : DataW.Trod enc Try.prog W 0 (fun _ => true) true 24 v d p) : ∃ z, IsM W v z := by
  obtain ⟨v0, v1, v2, y0, y1, y2, n, rfl, _, _, t0, t1, t2⟩ := open_agg3 Try.underlying24 (by kernel_rfl) (by kernel_rfl) hv h
  obtain ⟨a, h0, _, w0⟩ := DataW.trod_int Try.underlying2 t0
  obtain ⟨b, h1, _, w1⟩ := DataW.trod_int Try.underlying2 t1
  obtain ⟨l, h2, f2⟩ := openRules t2
  obtain rfl : v0 = .int .i64 a := by simpa using h0
  obtain rfl : v1 = .int .i64 b := by simpa using h1
  exact ⟨(a, b, l), v2, rfl, h2, f2, bounds_i64 w0, bounds_i64 w1⟩
set_option maxRecDepth 100000 in
theorem openRule {v : Value} {d : DataW H} {p : List MemPlace} (hv : Value.okWide Try.prog W .any base 59 v) (h : DataW.Trod enc Try.prog W 0 (fun _ => true) true 59 v d p) : ∃ z, IsR v z := by
  obtain ⟨v0, v1, v2, y0, y1, y2, n, rfl, _, _, t0, t1, t2⟩ := open_agg3 Try.underlying59 (by kernel_rfl) (by kernel_rfl) hv h
  obtain ⟨a, h0, _, w0⟩ := DataW.trod_int Try.underlying2 t0
  obtain ⟨b, h1, _, w1⟩ := DataW.trod_int Try.underlying2 t1
  obtain ⟨c, h2, _, w2⟩ := DataW.trod_int Try.underlying2 t2
  obtain rfl : v0 = .int .i64 a := by simpa using h0
  obtain rfl : v1 = .int .i64 b := by simpa using h1
  obtain rfl : v2 = .int .i64 c := by simpa using h2
  exact ⟨(a, b, c), rfl, bounds_i64 w0, bounds_i64 w1, bounds_i64 w2⟩
end
end Go.Proofs.Ythijhpkkijjlfaa
