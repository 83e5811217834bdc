/- Rows of bytes that a call owns: 'append(out, b)', 'string(out)'. No condition beyond the stated bounds. -/
import Derived.Test.YtfdcpfhiknfpiaaGreatDoorSl
import Derived.Lib.UnsafeStr
import Derived.Lib.BufferWrite
import Derived.Laws.IdiomStrings
namespace Go.Proofs.YtfdcpfhiknfpiaaGreatDoor
open Go.RowKit
/-- The slice value v owns a row of bytes in a block from base on; its elements are l. -/
def OwnsB (w : World) (base : Nat) (v : Value) (l : List UInt8) : Prop := w.ownsRow base 5 1 v l.length (Lib.byteCells l)
section
variable {w w' : World} {base : Nat} {v : Value} {l : List UInt8}
theorem OwnsB.empty (w : World) (base : Nat) (hb : base ≤ w.heap.size) : OwnsB (w.alloc (.cells #[] 5)) base (.slice (some ⟨w.heap.size, 0, none⟩) 0 0) [] :=
  World.ownsRow_lit w #[] 0 hb (by simp [maxLen]) rfl
theorem OwnsB.lt (h : OwnsB w base v l) : ∀ k, v.ownBlock = some k → base ≤ k ∧ k < w.heap.size := World.ownsRow.lt h
theorem OwnsB.kept {row : Option Nat} (h : OwnsB w base v l) (hg : w.grownBy w' row) (hne : v.ownBlock = none ∨ v.ownBlock ≠ row) : OwnsB w' base v l := World.ownsRow.kept h hg hne
theorem OwnsB.next (h : OwnsB w base v l) (hb : Below w.heap.size w w') : OwnsB w' base v l := by
  refine World.ownsRow.kept (row := none) h ⟨hb.os, hb.tape, hb.output, hb.size, fun k hk _ => hb.block k hk⟩ ?_
  cases v.ownBlock <;> simp
theorem OwnsB.drewN (h : OwnsB w base v l) (n : Nat) : OwnsB (w.drewN n) base v l := h
theorem OwnsB.drew (h : OwnsB w base v l) : OwnsB w.drew base v l := h
theorem byteCells_at {l : List UInt8} {j : Nat} (h : j < l.length) : (Lib.byteCells l)[j]? = some (.int .u8 (l[j].toNat : Int)) := by
  unfold Lib.byteCells; rw [List.getElem?_map, List.getElem?_eq_getElem h]; rfl
/-- Its shape. -/
theorem OwnsB.shape (h : OwnsB w base v l) : (v = .slice none 0 0 ∧ l = []) ∨ ∃ g c, v = .slice (some ⟨g, 0, none⟩) l.length c ∧ base ≤ g ∧ g < w.heap.size ∧ l.length ≤ c ∧ c ≤ maxLen ∧ ∀ j (hj : j < l.length), w.cell? ((⟨g, 0, none⟩ : Addr).add j) = some (.int .u8 (l[j].toNat : Int)) := by
  have hc := fun g (hg : v.ownBlock = some g) => World.ownsRow.cells h hg
  have hlt := World.ownsRow.lt h
  rcases h.2 with ⟨rfl, hn⟩ | ⟨g, cap, cur, rfl, hb, hg, hnc, hcm, hcs, htake⟩
  · exact .inl ⟨rfl, List.eq_nil_of_length_eq_zero hn⟩
  · exact .inr ⟨g, cap, rfl, hb, (hlt g rfl).2, hnc, hcm, fun j hj => hc g rfl j _ (byteCells_at hj)⟩
end
theorem Tryz.infoB : (Tryz.prog.info? 5).map (fun i => (i.zero, i.size, i.bytes)) = some (some (.int .u8 0), 1, 1) := by kernel_rfl
/-- 'append(out, b)': the byte lies in a new block of one cell. -/
theorem wpList_pushB {ops : Array Oper} {rest : List Oper} {o : Oper} {a : Act} {Q : Exit → Act → World → Prop} {wr : World} (hgd : o.guard = none) (s x : Operand)
    (ho : o.op = .call { callee := .builtin .append, args := #[s, x], argTypes := #[22, 22] })
    (base : Nat) (v : Value) (l : List UInt8) (hs : a.eval s = v) (hown : OwnsB wr base v l) (y : Int) (b : UInt8) (hy : y = (b.toNat : Int)) (hx : a.eval x = .slice (some ⟨wr.heap.size, 0, none⟩) 1 1)
    (hlen : l.length ≤ 1000000000) (hbase : base ≤ wr.heap.size)
    (h : ∀ v' w', OwnsB w' base v' (l ++ [b]) → wr.grownBy w' v.ownBlock → (v'.ownBlock = v.ownBlock ∨ ∃ k, v'.ownBlock = some k ∧ wr.heap.size ≤ k) → wpList Tryz.prog ops Q rest (a.put o.dst v') w') :
    wpList Tryz.prog ops Q (o :: rest) a (wr.alloc (.cells #[.int .u8 y] 5)) := by
  subst hy
  obtain ⟨i0, hi0, hz0, hz1, hz2⟩ := info_parts Tryz.infoB
  obtain ⟨v', w', hrun, h2, h3, _, h5⟩ := run_append_own_at (P := Tryz.prog) (wr.alloc (.cells #[.int .u8 (b.toNat : Int)] 5)) base 22 o.type 5 i0 (.int .u8 0) 1 1 Tryz.underlying22 hi0 hz0 hz1 hz2 rfl (by omega)
    v l.length (Lib.byteCells l) (World.ownsRow.alloc hown _) ⟨wr.heap.size, 0, none⟩ 1 1 [.int .u8 (b.toNat : Int)] rfl
    (fun j u hu => by
      rcases j with _ | j
      · have : u = .int .u8 (b.toNat : Int) := by simpa using hu.symm
        subst this
        rw [show (⟨wr.heap.size, 0, none⟩ : Addr).add 0 = ⟨wr.heap.size, 0, none⟩ from rfl, World.cell?_alloc_at _ _ _ _ rfl]
        rfl
      · simp at hu)
    (fun u hu => by have : u = .int .u8 (b.toNat : Int) := by simpa using hu
                    subst this; rfl)
    (by unfold maxLen; omega) (by omega) (by simp; omega)
  refine wpList_plain hgd fun _ hK => ?_
  unfold Oper.wp execOp
  simp only [ho, resolve, invoke, builtin, Sem.run_bind, Sem.run_pure, Result.andThen_ok, List.map_toArray, List.map_cons, List.map_nil, hs, hx, hrun]
  refine hK _ _ (h v' w' ?_ ((World.grownBy_alloc wr _ _).trans h3) ?_)
  · unfold OwnsB
    rw [List.length_append, Lib.byteCells_append]
    exact h2
  · rcases h5 with e | e
    · exact .inl e
    · exact .inr ⟨_, e, by simp⟩
/-- 'string(out)'. -/
theorem conv_back {w : World} {base g c : Nat} {l : List UInt8} (h : OwnsB w base (.slice (some ⟨g, 0, none⟩) l.length c) l) :
    (convert 22 9 (.slice (some ⟨g, 0, none⟩) l.length c)).run Tryz.prog w = .ok (.string ⟨l.toArray⟩) w := by
  rcases h.shape with ⟨h', _⟩ | ⟨g', c', h', _, _, _, _, hc⟩
  · simp at h'
  · simp only [Value.slice.injEq, Option.some.injEq, Addr.mk.injEq] at h'
    obtain ⟨⟨rfl, _⟩, _, rfl⟩ := h'
    exact run_convert_bytes_back (P := Tryz.prog) w 22 9 5 ⟨g, 0, none⟩ c l Tryz.underlying22 Tryz.underlying5 Tryz.underlying9 hc
/-- The digit of a number from 0 to 9. -/
def digB (x : Int) : UInt8 := (48 + x).toNat.toUInt8
theorem digB_val {x : Int} (h0 : 0 ≤ x) (h1 : x ≤ 9) : 48 + x = ((digB x).toNat : Int) := by
  unfold digB
  have : (48 + x).toNat < 256 := by omega
  simp [Nat.toUInt8, UInt8.toNat_ofNat, Nat.mod_eq_of_lt this]
  omega
end Go.Proofs.YtfdcpfhiknfpiaaGreatDoor
