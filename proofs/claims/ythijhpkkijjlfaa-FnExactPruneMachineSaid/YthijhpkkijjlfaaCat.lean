/- 'append(out, xs...)' onto a row of the call's own; slices.Clone; slices.Reverse. No condition beyond the stated bounds. -/
import Derived.Test.YthijhpkkijjlfaaSl
import Derived.Test.YthijhpkkijjlfaaPlainLists
import Derived.WalkSpells
namespace Go.Proofs.Ythijhpkkijjlfaa
open Go.RowKit
theorem run_append_of_nil {P : Program} (w : World) (base : Nat) (t ty e : TypeId) (i : TypeInfo) (size : Nat) (ht : P.underlying t = some (.slice e)) (hi : P.info? e = some i)
    (v : Value) (n : Nat) (xs : List Value) (hown : w.ownsRow base e size v n xs) (c : Nat) : (Builtin.append_ #[t, t] ty #[v, .slice none 0 c]).run P w = .ok v w := by
  rcases hown.2 with ⟨rfl, rfl⟩ | ⟨g, cap, cur, rfl, _, _, hnc, _⟩
  · simp [Builtin.append_, run_underlying ht, sizeOf, typeInfo, hi, Builtin.lenOf, Builtin.firstCells]
  · simp [Builtin.append_, run_underlying ht, sizeOf, typeInfo, hi, Builtin.lenOf, Builtin.firstCells, hnc, storeCells]
set_option maxRecDepth 100000 in
theorem run_cat (wr : World) (ty : TypeId) (base : Nat) (v : Value) (l : List Int) (hown : Owns wr base v l) (xv : Value) (m : List Int) (hsl : Sl wr xv m)
    (hlen : l.length + m.length ≤ 1000000000) (hbase : base ≤ wr.heap.size) :
    ∃ v' w', (Builtin.append_ #[29, 29] ty #[v, xv]).run Try.prog wr = .ok v' w' ∧ Owns w' base v' (l ++ m) ∧ wr.grownBy w' v.ownBlock ∧ (v'.ownBlock = v.ownBlock ∨ ∃ k, v'.ownBlock = some k ∧ wr.heap.size ≤ k) := by
  obtain ⟨i0, hi0, hz0, hz1, hz2⟩ := info_parts Try.infoI
  obtain ⟨A, c, rfl, hlc, hcm, hr⟩ := hsl
  rcases A with _ | ad
  · have hm : m.length = 0 := by
      rcases Nat.eq_zero_or_pos m.length with h0 | h0
      · exact h0
      · obtain ⟨ad, h, _⟩ := hr.2 h0
        cases h
    have hm2 : m = [] := List.eq_nil_of_length_eq_zero hm
    subst hm2
    exact ⟨v, wr, run_append_of_nil wr base _ ty _ i0 1 Try.underlying29 hi0 v _ _ hown c, by simpa using hown, World.grownBy.refl wr _, .inl rfl⟩
  · have hcells : ∀ j u, (m.map (Value.int .i64))[j]? = some u → wr.cell? (ad.add j) = some u := by
      intro j u hu
      have hj : j < m.length := by
        rcases Nat.lt_or_ge j m.length with h | h
        · exact h
        · rw [List.getElem?_eq_none (by simpa using h)] at hu; cases hu
      obtain ⟨ad', h, _, hc⟩ := hr.2 (by omega)
      injection h with h
      subst h
      rw [getD_map_int m j hj] at hu
      rw [hc j hj]; exact hu
    obtain ⟨v', w', hrun, h2, h3, _, h5⟩ := run_append_own_at (P := Try.prog) wr base 29 ty 2 i0 (.int .i64 0) 1 8 Try.underlying29 hi0 hz0 hz1 hz2 rfl (by omega)
      v l.length (l.map (Value.int .i64)) hown ad m.length c (m.map (Value.int .i64)) (by simp) hcells (ints_oneCell .i64 m) (by unfold maxLen; omega) (by omega) hbase
    refine ⟨v', w', hrun, ?_, h3, ?_⟩
    · unfold Owns
      rw [List.length_append, List.map_append]
      exact h2
    · rcases h5 with e | e
      · exact .inl e
      · exact .inr ⟨_, e, Nat.le_refl _⟩
theorem wpList_cat {ops : Array Oper} {rest : List Oper} {o : Oper} {a : Act} {Q : Exit → Act → World → Prop} {wr : World} (hgd : o.guard = none) (s x : Operand)
    (ho : o.op = .call { callee := .builtin .append, args := #[s, x], argTypes := #[29, 29] })
    (base : Nat) (v : Value) (l : List Int) (hs : a.eval s = v) (hown : Owns wr base v l) (xv : Value) (m : List Int) (hx : a.eval x = xv) (hsl : Sl wr xv m)
    (hlen : l.length + m.length ≤ 1000000000) (hbase : base ≤ wr.heap.size)
    (h : ∀ v' w', Owns w' base v' (l ++ m) → wr.grownBy w' v.ownBlock → (v'.ownBlock = v.ownBlock ∨ ∃ k, v'.ownBlock = some k ∧ wr.heap.size ≤ k) → wpList Try.prog ops Q rest (a.put o.dst v') w') :
    wpList Try.prog ops Q (o :: rest) a wr := by
  obtain ⟨v', w', hrun, h2, h3, h4⟩ := run_cat wr o.type base v l hown xv m hsl hlen hbase
  refine wpList_plain hgd fun _ hK => ?_
  unfold Oper.wp execOp
  simp only [ho, resolve, invoke, builtin, Sem.run_bind, Sem.run_pure, Result.andThen_ok, List.map_toArray, List.map_cons, List.map_nil, hs, hx, hrun]
  exact hK _ _ (h v' w' h2 h3 h4)
theorem only_drew {a w : World} {row : Option Nat} (h : a.grownBy w row) : a.grownBy w.drew row := ⟨h.os, h.tape, h.output, h.size, h.block⟩
/-- A new row of which the caller owns all. -/
def RetOwn (w : World) (l : List Int) (e : Ending) (w' : World) : Prop := ∃ r, e = .returned r ∧ Owns w' w.heap.size r l ∧ Below w.heap.size w w'
end Go.Proofs.Ythijhpkkijjlfaa
