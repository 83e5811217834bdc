/- Rows of texts that a call owns; slices of texts as lists. No condition beyond the stated bounds. -/
import Derived.Test.YtfdcpfhiknfpiaaGreatDoorDec
namespace Go.Proofs.YtfdcpfhiknfpiaaGreatDoor
open Go.RowKit
/-- The text at k. -/
def gets (l : List (List UInt8)) (k : Nat) : List UInt8 := l.getD k []
theorem gets_eq {l : List (List UInt8)} {k : Nat} (h : k < l.length) : gets l k = l[k] := by
  unfold gets; rw [List.getD_eq_getElem?_getD, List.getElem?_eq_getElem h]; rfl
theorem gets_mem {l : List (List UInt8)} {k : Nat} (h : k < l.length) : gets l k ∈ l := by rw [gets_eq h]; exact List.getElem_mem h
theorem takes_snoc {l : List (List UInt8)} {k : Nat} (h : k < l.length) : l.take (k + 1) = l.take k ++ [gets l k] := by
  rw [List.take_succ_eq_append_getElem h, gets_eq h]
/-- The cell of a text. -/
def strV (b : List UInt8) : Value := .string (str b)
/-- The slice value v reads as the list of texts l. -/
def SlS (w : World) (v : Value) (l : List (List UInt8)) : Prop :=
  ∃ A c, v = .slice A l.length c ∧ l.length ≤ c ∧ c ≤ maxLen ∧ (0 < l.length → ∃ ad, A = some ad ∧ ad.block < w.heap.size ∧ ∀ j, j < l.length → w.cell? (ad.add j) = some (strV (gets l j)))
theorem SlS.next {w w' : World} {v : Value} {l : List (List UInt8)} (h : SlS w v l) (hb : Below w.heap.size w w') : SlS w' v l := by
  obtain ⟨A, c, e, h1, h2, h3⟩ := h
  refine ⟨A, c, e, h1, h2, fun h0 => ?_⟩
  obtain ⟨ad, e2, hlt, hc⟩ := h3 h0
  have := hb.size
  exact ⟨ad, e2, by omega, fun j hj => (hb.cell (p := ad.add j) (by rw [block_of_add]; exact hlt)).trans (hc j hj)⟩
/-- The slice value v owns a row of texts in a block from base on. -/
def OwnsS (w : World) (base : Nat) (v : Value) (l : List (List UInt8)) : Prop := w.ownsRow base 9 1 v l.length (l.map strV)
section
variable {w w' : World} {base : Nat} {v : Value} {l : List (List UInt8)}
theorem OwnsS.empty (w : World) (base : Nat) (hb : base ≤ w.heap.size) : OwnsS (w.alloc (.cells #[] 9)) base (.slice (some ⟨w.heap.size, 0, none⟩) 0 0) [] :=
  World.ownsRow_lit w #[] 0 hb (by simp [maxLen]) rfl
theorem OwnsS.lt (h : OwnsS w base v l) : ∀ k, v.ownBlock = some k → base ≤ k ∧ k < w.heap.size := World.ownsRow.lt h
theorem OwnsS.kept {row : Option Nat} (h : OwnsS w base v l) (hg : w.grownBy w' row) (hne : v.ownBlock = none ∨ v.ownBlock ≠ row) : OwnsS w' base v l := World.ownsRow.kept h hg hne
theorem OwnsS.next (h : OwnsS w base v l) (hb : Below w.heap.size w w') : OwnsS w' base v l := by
  refine World.ownsRow.kept (row := none) h ⟨hb.os, hb.tape, hb.output, hb.size, fun k hk _ => hb.block k hk⟩ ?_
  cases v.ownBlock <;> simp
theorem OwnsS.drewN (h : OwnsS w base v l) (n : Nat) : OwnsS (w.drewN n) base v l := h
theorem OwnsS.lower {base' : Nat} (h : OwnsS w base v l) (hb : base' ≤ base) : OwnsS w base' v l := by
  refine ⟨h.1, ?_⟩
  rcases h.2 with h0 | ⟨g, cap, cur, e, hbg, r⟩
  · exact .inl h0
  · exact .inr ⟨g, cap, cur, e, by omega, r⟩
theorem strV_at {l : List (List UInt8)} {j : Nat} (h : j < l.length) : (l.map strV)[j]? = some (strV (gets l j)) := by
  rw [List.getElem?_map, List.getElem?_eq_getElem h, gets_eq h]; rfl
/-- Its shape. -/
theorem OwnsS.shape (h : OwnsS w base v l) : (v = .slice none 0 0 ∧ l = []) ∨ ∃ g c, v = .slice (some ⟨g, 0, none⟩) l.length c ∧ base ≤ g ∧ g < w.heap.size ∧ l.length ≤ c ∧ c ≤ maxLen ∧ ∀ j, j < l.length → w.cell? ⟨g, j, none⟩ = some (strV (gets l j)) := by
  have hc := fun g (hg : v.ownBlock = some g) => World.ownsRow.cells h hg
  have hlt := World.ownsRow.lt h
  rcases h.2 with ⟨rfl, hn⟩ | ⟨g, cap, cur, rfl, hb, hg, hnc, hcm, hcs, htake⟩
  · exact .inl ⟨rfl, List.eq_nil_of_length_eq_zero hn⟩
  · refine .inr ⟨g, cap, rfl, hb, (hlt g rfl).2, hnc, hcm, fun j hj => ?_⟩
    have h2 := hc g rfl j _ (strV_at hj)
    have e : (⟨g, 0, none⟩ : Addr).add j = ⟨g, j, none⟩ := by unfold Addr.add; by_cases h : j = 0 <;> simp [h]
    rw [← e]; exact h2
theorem OwnsS.sl (h : OwnsS w base v l) : SlS w v l := by
  rcases h.shape with ⟨rfl, rfl⟩ | ⟨g, c, rfl, hb, hg, h1, h2, h3⟩
  · exact ⟨none, 0, rfl, Nat.le_refl _, Nat.zero_le _, fun h => by simp at h⟩
  · refine ⟨_, c, rfl, h1, h2, fun _ => ⟨⟨g, 0, none⟩, rfl, hg, fun j hj => ?_⟩⟩
    have e : (⟨g, 0, none⟩ : Addr).add j = ⟨g, j, none⟩ := by unfold Addr.add; by_cases h : j = 0 <;> simp [h]
    rw [e]; exact h3 j hj
end
theorem Tryz.infoS : (Tryz.prog.info? 9).map (fun i => (i.zero, i.size, i.bytes)) = some (some (.string ByteArray.empty), 1, 16) := by kernel_rfl
/-- 'append(out, s)': the text lies in a new block of one cell. -/
theorem wpList_pushS {ops : Array Oper} {rest : List Oper} {o : Oper} {a : Act} {Q : Exit → Act → World → Prop} {wr : World} (hgd : o.guard = none) (s x : Operand)
    (ho : o.op = .call { callee := .builtin .append, args := #[s, x], argTypes := #[54, 54] })
    (base : Nat) (v : Value) (l : List (List UInt8)) (hs : a.eval s = v) (hown : OwnsS wr base v l) (y : ByteArray) (hx : a.eval x = .slice (some ⟨wr.heap.size, 0, none⟩) 1 1)
    (hlen : l.length ≤ 1000000000) (hbase : base ≤ wr.heap.size)
    (h : ∀ v' w', OwnsS w' base v' (l ++ [y.data.toList]) → wr.grownBy w' v.ownBlock → (v'.ownBlock = v.ownBlock ∨ ∃ k, v'.ownBlock = some k ∧ wr.heap.size ≤ k) → wpList Tryz.prog ops Q rest (a.put o.dst v') w') :
    wpList Tryz.prog ops Q (o :: rest) a (wr.alloc (.cells #[.string y] 9)) := by
  obtain ⟨i0, hi0, hz0, hz1, hz2⟩ := info_parts Tryz.infoS
  obtain ⟨v', w', hrun, h2, h3, _, h5⟩ := run_append_own_at (P := Tryz.prog) (wr.alloc (.cells #[.string y] 9)) base 54 o.type 9 i0 (.string ByteArray.empty) 1 16 Tryz.underlying54 hi0 hz0 hz1 hz2 rfl (by omega)
    v l.length (l.map strV) (World.ownsRow.alloc hown _) ⟨wr.heap.size, 0, none⟩ 1 1 [.string y] rfl
    (fun j u hu => by
      rcases j with _ | j
      · have : u = .string y := by simpa using hu.symm
        subst this
        rw [show (⟨wr.heap.size, 0, none⟩ : Addr).add 0 = ⟨wr.heap.size, 0, none⟩ from rfl, World.cell?_alloc_at _ _ _ _ rfl]
        rfl
      · simp at hu)
    (fun u hu => by have : u = .string y := by simpa using hu
                    subst this; rfl)
    (by unfold maxLen; omega) (by omega) (by simp; omega)
  refine wpList_plain hgd fun _ hK => ?_
  unfold Oper.wp execOp
  simp only [ho, resolve, invoke, builtin, Sem.run_bind, Sem.run_pure, Result.andThen_ok, List.map_toArray, List.map_cons, List.map_nil, hs, hx, hrun]
  refine hK _ _ (h v' w' ?_ ((World.grownBy_alloc wr _ _).trans h3) ?_)
  · unfold OwnsS
    rw [List.length_append, List.map_append]
    exact h2
  · rcases h5 with e | e
    · exact .inl e
    · exact .inr ⟨_, e, by simp⟩
theorem str_app (a b : List UInt8) : str a ++ str b = str (a ++ b) := by
  apply ByteArray.ext
  simp [str]
end Go.Proofs.YtfdcpfhiknfpiaaGreatDoor
