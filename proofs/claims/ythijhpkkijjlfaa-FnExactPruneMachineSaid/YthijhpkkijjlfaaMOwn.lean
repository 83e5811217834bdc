/- Copies of machines: 'append(out, rules...)', slices.Clone at rules, l05Own, copyMachine. No condition beyond the stated bounds. -/
import Derived.Test.YthijhpkkijjlfaaMValid3
import Derived.Test.YthijhpkkijjlfaaCat
import Derived.Deep.RegionLaw
import Derived.Lib.Builder
namespace Go.Proofs.Ythijhpkkijjlfaa
open Go.RowKit
theorem Own3.empty (w : World) (base : Nat) (hb : base ≤ w.heap.size) : Own3 (w.alloc (.cells #[] 42)) base (.slice (some ⟨w.heap.size, 0, none⟩) 0 0) [] :=
  ⟨0, rfl, World.ownsRow_lit w #[] 0 hb (by simp [maxLen]) rfl⟩
set_option maxRecDepth 100000 in
theorem run_cat3 (wr : World) (ty : TypeId) (base : Nat) (v : Value) (l : List Int) (hown : Own3 wr base v l) (xv : Value) (m : List Int) (hsl : Sl3 wr xv m)
    (hlen : l.length + m.length ≤ 1000000000) (hbase : base ≤ wr.heap.size) :
    ∃ v' w', (Builtin.append_ #[26, 26] ty #[v, xv]).run Try.prog wr = .ok v' w' ∧ Own3 w' base v' (l ++ m) ∧ wr.grownBy w' v.ownBlock ∧ (v'.ownBlock = v.ownBlock ∨ ∃ k, v'.ownBlock = some k ∧ wr.heap.size ≤ k) := by
  obtain ⟨i0, hi0, hz0, hz1, hz2⟩ := info_parts Try.infoR
  obtain ⟨nl, hnl, hown⟩ := hown
  obtain ⟨A, n, c, rfl, hlc, hcm, hr⟩ := hsl
  have hml := hr.1
  rcases A with _ | ad
  · have hm : n = 0 := by
      rcases Nat.eq_zero_or_pos n with h0 | h0
      · exact h0
      · obtain ⟨ad, h, _⟩ := hr.2 (by omega)
        cases h
    subst hm
    have hm2 : m = [] := List.eq_nil_of_length_eq_zero (by omega)
    subst hm2
    exact ⟨v, wr, run_append_of_nil wr base _ ty _ i0 3 Try.underlying26 hi0 v _ _ hown c, ⟨nl, by simpa using hnl, by simpa using hown⟩, World.grownBy.refl wr _, .inl rfl⟩
  · have hcells : ∀ j u, (m.map (Value.int .i64))[j]? = some u → wr.cell? (ad.add j) = some u := by
      intro j u hu
      have hj : j < m.length := by
        rcases Nat.lt_or_ge j m.length with h | h
        · exact h
        · rw [List.getElem?_eq_none (by simpa using h)] at hu; cases hu
      obtain ⟨ad', h, _, hc⟩ := hr.2 (by omega)
      injection h with h
      subst h
      rw [getD_map_int m j hj] at hu
      rw [hc j (by omega)]; exact hu
    obtain ⟨v', w', hrun, h2, h3, _, h5⟩ := run_append_own_at (P := Try.prog) wr base 26 ty 42 i0 (.agg #[.int .i64 0, .int .i64 0, .int .i64 0]) 3 24 Try.underlying26 hi0 hz0 hz1 hz2 rfl (by omega)
      v nl (l.map (Value.int .i64)) hown ad n c (m.map (Value.int .i64)) (by simp; omega) hcells (ints_oneCell .i64 m) (by unfold maxLen; omega) (by omega) hbase
    refine ⟨v', w', hrun, ⟨nl + n, by rw [List.length_append]; omega, by rw [List.map_append]; exact h2⟩, h3, ?_⟩
    rcases h5 with e | e
    · exact .inl e
    · exact .inr ⟨_, e, Nat.le_refl _⟩
theorem wpList_cat3 {ops : Array Oper} {rest : List Oper} {o : Oper} {a : Act} {Q : Exit → Act → World → Prop} {wr : World} (hgd : o.guard = none) (s x : Operand)
    (ho : o.op = .call { callee := .builtin .append, args := #[s, x], argTypes := #[26, 26] })
    (base : Nat) (v : Value) (l : List Int) (hs : a.eval s = v) (hown : Own3 wr base v l) (xv : Value) (m : List Int) (hx : a.eval x = xv) (hsl : Sl3 wr xv m)
    (hlen : l.length + m.length ≤ 1000000000) (hbase : base ≤ wr.heap.size)
    (h : ∀ v' w', Own3 w' base v' (l ++ m) → wr.grownBy w' v.ownBlock → (v'.ownBlock = v.ownBlock ∨ ∃ k, v'.ownBlock = some k ∧ wr.heap.size ≤ k) → wpList Try.prog ops Q rest (a.put o.dst v') w') :
    wpList Try.prog ops Q (o :: rest) a wr := by
  obtain ⟨v', w', hrun, h2, h3, h4⟩ := run_cat3 wr o.type base v l hown xv m hsl hlen hbase
  refine wpList_plain hgd fun _ hK => ?_
  unfold Oper.wp execOp
  simp only [ho, resolve, invoke, builtin, Sem.run_bind, Sem.run_pure, Result.andThen_ok, List.map_toArray, List.map_cons, List.map_nil, hs, hx, hrun]
  exact hK _ _ (h v' w' h2 h3 h4)
theorem step_cat3 {ops : Array Oper} {o : Oper} {a : Act} {wr : World} {K : Act → World → Prop} {Q : Exit → Act → World → Prop} {E : Prop} (hgd : o.guard = none) (s x : Operand)
    (ho : o.op = .call { callee := .builtin .append, args := #[s, x], argTypes := #[26, 26] })
    (base : Nat) (v : Value) (l : List Int) (hs : a.eval s = v) (hown : Own3 wr base v l) (xv : Value) (m : List Int) (hx : a.eval x = xv) (hsl : Sl3 wr xv m)
    (hlen : l.length + m.length ≤ 1000000000) (hbase : base ≤ wr.heap.size)
    (h : ∀ v' w', Own3 w' base v' (l ++ m) → wr.grownBy w' v.ownBlock → (v'.ownBlock = v.ownBlock ∨ ∃ k, v'.ownBlock = some k ∧ wr.heap.size ≤ k) → K (a.put o.dst v') w') :
    if Region.wanted o (yielded ops a.tmps) = true then Oper.wp Try.prog o a wr K Q else E := by
  have hw : Region.wanted o (yielded ops a.tmps) = true := by simp [Region.wanted, hgd]
  rw [if_pos hw]
  obtain ⟨v', w', hrun, h2, h3, h4⟩ := run_cat3 wr o.type base v l hown xv m hsl hlen hbase
  unfold Oper.wp execOp
  simp only [ho, resolve, invoke, builtin, Sem.run_bind, Sem.run_pure, Result.andThen_ok, List.map_toArray, List.map_cons, List.map_nil, hs, hx, hrun]
  exact h v' w' h2 h3 h4
/-- What a call leaves that returns a machine whose rules it owns. -/
def RetMO (w : World) (sy st : Int) (l : List Int) (e : Ending) (w' : World) : Prop := ∃ r, e = .returned (.agg #[.int .i64 sy, .int .i64 st, r]) ∧ Own3 w' w.heap.size r l ∧ Below w.heap.size w w'
theorem Own3.set_ {w : World} {base : Nat} {v : Value} {l : List Int} (h : Own3 w base v l) {p : Addr} (hp : p.block < base) (u : Value) : Own3 (w.setCell p u) base v l :=
  h.kept (grown_set w p u) (by
    cases e : v.ownBlock with
    | none => exact .inl rfl
    | some k => right; intro e2; injection e2 with e2; have := (h.lt k e).1; omega)
/-- Blocks that a call has made first, read behind what it called. -/
theorem heap_one {w w1 : World} {o1 : Obj} (hb : Below (w.alloc o1).heap.size (w.alloc o1) w1) : w1.heap[w.heap.size]? = some o1 := by
  rw [hb.block _ (by simp)]; exact heap_alloc_new w o1
theorem heap_two {w w1 : World} {o1 o2 : Obj} (hb : Below ((w.alloc o1).alloc o2).heap.size ((w.alloc o1).alloc o2) w1) : w1.heap[w.heap.size]? = some o1 ∧ w1.heap[w.heap.size + 1]? = some o2 := by
  constructor
  · rw [hb.block _ (by simp; omega), Lib.alloc_old _ _ _ (by simp)]; exact heap_alloc_new w o1
  · rw [hb.block _ (by simp)]
    have := heap_alloc_new (w.alloc o1) o2
    simpa using this
theorem heap_three {w w1 : World} {o1 o2 o3 : Obj} (hb : Below (((w.alloc o1).alloc o2).alloc o3).heap.size (((w.alloc o1).alloc o2).alloc o3) w1) : w1.heap[w.heap.size]? = some o1 ∧ w1.heap[w.heap.size + 1]? = some o2 ∧ w1.heap[w.heap.size + 2]? = some o3 := by
  refine ⟨?_, ?_, ?_⟩
  · rw [hb.block _ (by simp; omega), Lib.alloc_old _ _ _ (by simp; omega), Lib.alloc_old _ _ _ (by simp)]; exact heap_alloc_new w o1
  · rw [hb.block _ (by simp), Lib.alloc_old _ _ _ (by simp)]
    have := heap_alloc_new (w.alloc o1) o2
    simpa using this
  · rw [hb.block _ (by simp)]
    have := heap_alloc_new ((w.alloc o1).alloc o2) o3
    simpa using this
/-- Three cells of a block that is no part of the read-only data. -/
structure Box (w : World) (b : Nat) (x y z : Value) : Prop where
  c0 : w.cell? ⟨b, 0, none⟩ = some x
  c1 : w.cell? ⟨b, 1, none⟩ = some y
  c2 : w.cell? ⟨b, 2, none⟩ = some z
  f0 : w.frozen? ⟨b, 0, none⟩ = false
  f1 : w.frozen? ⟨b, 1, none⟩ = false
  f2 : w.frozen? ⟨b, 2, none⟩ = false
theorem Box.of {w : World} {b : Nat} {x y z : Value} {t : TypeId} (h : w.heap[b]? = some (.cells #[x, y, z] t (0, 0))) : Box w b x y z :=
  ⟨by rw [Lib.cell_of_heap h]; rfl, by rw [Lib.cell_of_heap h]; rfl, by rw [Lib.cell_of_heap h]; rfl, Lib.frozen_of_heap h 0, Lib.frozen_of_heap h 1, Lib.frozen_of_heap h 2⟩
theorem Box.next {w w' : World} {b : Nat} {x y z : Value} (h : Box w b x y z) (hb : Below w.heap.size w w') : Box w' b x y z := by
  have hlt : b < w.heap.size := cell_lt h.c0
  exact ⟨(hb.cell (p := ⟨b, 0, none⟩) hlt).trans h.c0, (hb.cell (p := ⟨b, 1, none⟩) hlt).trans h.c1, (hb.cell (p := ⟨b, 2, none⟩) hlt).trans h.c2,
    (hb.frozen (p := ⟨b, 0, none⟩) hlt).trans h.f0, (hb.frozen (p := ⟨b, 1, none⟩) hlt).trans h.f1, (hb.frozen (p := ⟨b, 2, none⟩) hlt).trans h.f2⟩
end Go.Proofs.Ythijhpkkijjlfaa
