/- Slices of integers as lists; the contracts of toInt64S, eqInt64S, markInt64S, heldInt64S, allWithin. No condition beyond the stated bounds. -/
import Derived.Test.YtfdcpfhiknfpiaaGreatDoorNums
namespace Go.Proofs.YtfdcpfhiknfpiaaGreatDoor
open Go.RowKit

/-- The slice value v reads as the list l. -/
def Sl (w : World) (v : Value) (l : List Int) : Prop :=
  ∃ A c, v = .slice A l.length c ∧ l.length ≤ c ∧ c ≤ maxLen ∧ Ints w w.heap.size A l.length l
theorem Sl.next {w w' : World} {v : Value} {l : List Int} (h : Sl w v l) (hb : Below w.heap.size w w') : Sl w' v l := by
  obtain ⟨A, c, e, h1, h2, h3⟩ := h
  exact ⟨A, c, e, h1, h2, h3.next hb hb.size⟩
theorem Sl.drewN {w : World} {v : Value} {l : List Int} (h : Sl w v l) (n : Nat) : Sl (w.drewN n) v l := h
theorem Sl.drew {w : World} {v : Value} {l : List Int} (h : Sl w v l) : Sl w.drew v l := h
theorem Owns.sl {w : World} {base : Nat} {v : Value} {l : List Int} (h : Owns w base v l) : Sl w v l := by
  obtain ⟨A, c, e, h1, h2, h3⟩ := h.shape
  exact ⟨A, c, e, h1, h2, h3⟩
theorem Sl.of {w : World} {A : Option Addr} {n c : Nat} {l : List Int} (h : Ints w w.heap.size A n l) (h1 : n ≤ c) (h2 : c ≤ maxLen) : Sl w (.slice A n c) l := by
  obtain rfl := h.1
  exact ⟨A, c, rfl, h1, h2, h⟩
theorem Sl.nil_ (w : World) : Sl w (.slice none 0 0) [] := ⟨none, 0, rfl, Nat.le_refl _, Nat.zero_le _, Ints.none_⟩

theorem Owns.len {w : World} {base g n cap : Nat} {l : List Int} (h : Owns w base (.slice (some ⟨g, 0, none⟩) n cap) l) : l.length = n := by
  rcases h.2 with ⟨h', _⟩ | ⟨g', cap', cur, h', _⟩
  · simp at h'
  · simp only [Value.slice.injEq] at h'
    exact h'.2.1.symm
theorem Owns.stored {w : World} {base g n cap : Nat} {l : List Int} (h : Owns w base (.slice (some ⟨g, 0, none⟩) n cap) l) (j : Nat) (x : Int) :
    Owns (w.setCell ⟨g, j, none⟩ (.int .i64 x)) base (.slice (some ⟨g, 0, none⟩) n cap) (l.set j x) ∧ w.grownBy (w.setCell ⟨g, j, none⟩ (.int .i64 x)) (some g) := by
  obtain rfl := h.len
  have := World.ownsRow.stored h j (.int .i64 x)
  refine ⟨?_, this.2⟩
  unfold Owns
  rw [List.length_set, List.map_set]
  exact this.1
theorem Owns.cellAt {w : World} {base g n cap : Nat} {l : List Int} (h : Owns w base (.slice (some ⟨g, 0, none⟩) n cap) l) {j : Nat} (hj : j < l.length) :
    w.cell? ⟨g, j, none⟩ = some (.int .i64 (geti l j)) := by
  obtain rfl := h.len
  rw [World.ownsRow.cellAt h j (by omega), getD_map_int l j hj]
theorem Owns.free {w : World} {base g n cap : Nat} {l : List Int} (h : Owns w base (.slice (some ⟨g, 0, none⟩) n cap) l) (j : Nat) : w.frozen? ⟨g, j, none⟩ = false := by
  obtain rfl := h.len
  exact World.ownsRow.frozenAt h j
/-- Where there are elements the row begins at a block's head. -/
theorem Owns.head {w : World} {base : Nat} {v : Value} {l : List Int} (h : Owns w base v l) (hl : 0 < l.length) : ∃ g cap, v = .slice (some ⟨g, 0, none⟩) l.length cap ∧ base ≤ g ∧ g < w.heap.size := by
  rcases h.2 with ⟨rfl, hn⟩ | ⟨g, cap, cur, rfl, hb, hg, _⟩
  · omega
  · exact ⟨g, cap, rfl, hb, (h.lt g rfl).2⟩
theorem Owns.apart {w : World} {b1 b2 : Nat} {v1 v2 : Value} {l1 l2 : List Int} (_h1 : Owns w b1 v1 l1) (h2 : Owns w b2 v2 l2) (hlt : ∀ k, v1.ownBlock = some k → k < b2) :
    v2.ownBlock = none ∨ v2.ownBlock ≠ v1.ownBlock := by
  cases e : v2.ownBlock with
  | none => exact .inl rfl
  | some k =>
    right
    intro e2
    have := (h2.lt k e).1
    have := hlt k e2.symm
    omega
theorem Owns.apart' {w : World} {b1 b2 : Nat} {v1 v2 : Value} {l1 l2 : List Int} (_h1 : Owns w b1 v1 l1) (h2 : Owns w b2 v2 l2) (hlt : ∀ k, v1.ownBlock = some k → k < b2) :
    v1.ownBlock = none ∨ v1.ownBlock ≠ v2.ownBlock := by
  cases e : v1.ownBlock with
  | none => exact .inl rfl
  | some k =>
    right
    intro e2
    have := (h2.lt k e2.symm).1
    have := hlt k e
    omega

/-- The block into which a slice with room leads. -/
def blk : Value → Option Nat
  | .slice (some a) _ (_ + 1) => some a.block
  | _ => none
/-- v reads as l; its row, if it has room, lies in a block from base on that it owns (an empty slice without room may lead anywhere). -/
def Fresh (w : World) (base : Nat) (v : Value) (l : List Int) : Prop := Owns w base v l ∨ (l = [] ∧ ∃ A, v = .slice A 0 0)
section
variable {w w' : World} {base : Nat} {v : Value} {l : List Int}
theorem Owns.fresh (h : Owns w base v l) : Fresh w base v l := .inl h
theorem Fresh.nil_ (w : World) (base : Nat) : Fresh w base (.slice none 0 0) [] := .inl (Owns.nil_ w base)
theorem Fresh.sl (h : Fresh w base v l) : Sl w v l := by
  rcases h with h | ⟨rfl, A, rfl⟩
  · exact h.sl
  · exact ⟨A, 0, rfl, Nat.le_refl _, Nat.zero_le _, Ints.none_⟩
theorem Fresh.shape (h : Fresh w base v l) : ∃ A c, v = .slice A l.length c ∧ l.length ≤ c ∧ c ≤ maxLen ∧ Ints w w.heap.size A l.length l := h.sl
theorem Fresh.lower {base' : Nat} (h : Fresh w base v l) (hb : base' ≤ base) : Fresh w base' v l := by
  rcases h with h | h
  · exact .inl (h.lower hb)
  · exact .inr h
theorem blk_own {k : Nat} (h : blk v = some k) : v.ownBlock = some k := by
  unfold blk at h
  split at h
  · simpa [Value.ownBlock] using h
  · cases h
theorem Fresh.lt (h : Fresh w base v l) (k : Nat) (hk : blk v = some k) : base ≤ k ∧ k < w.heap.size := by
  rcases h with h | ⟨rfl, A, rfl⟩
  · exact h.lt k (blk_own hk)
  · cases A <;> cases hk
theorem Owns.room (h : Owns w base v l) : (l = [] ∧ ∃ A, v = .slice A 0 0) ∨ blk v = v.ownBlock := by
  rcases h.2 with ⟨rfl, hn⟩ | ⟨g, cap, cur, rfl, hb, hg, hnc, _⟩
  · exact .inl ⟨List.eq_nil_of_length_eq_zero hn, none, rfl⟩
  · rcases cap with _ | cap
    · have h0 : l.length = 0 := by omega
      exact .inl ⟨List.eq_nil_of_length_eq_zero h0, some ⟨g, 0, none⟩, by rw [h0]⟩
    · exact .inr rfl
theorem Fresh.kept {row : Option Nat} (h : Fresh w base v l) (hg : w.grownBy w' row) (hne : ∀ k, blk v = some k → row ≠ some k) : Fresh w' base v l := by
  rcases h with h | h
  · rcases h.room with h0 | h0
    · exact .inr h0
    · refine .inl (h.kept hg ?_)
      rw [← h0]
      cases e : blk v with
      | none => exact .inl rfl
      | some k => exact .inr (fun e2 => hne k e e2.symm)
  · exact .inr h
theorem Fresh.next (h : Fresh w base v l) (hb : Below w.heap.size w w') : Fresh w' base v l := by
  rcases h with h | h
  · exact .inl (h.next hb)
  · exact .inr h
theorem Fresh.drew (h : Fresh w base v l) : Fresh w.drew base v l := h
theorem Fresh.drewN (h : Fresh w base v l) (n : Nat) : Fresh (w.drewN n) base v l := h
end

theorem calls_below {P : Program} {f : FuncId} {args : Array Value} {w : World} {e0 : Ending} (h : Calls P f args w fun e w' => e = e0 ∧ w = w') : Calls P f args w fun e w' => e = e0 ∧ Below w.heap.size w w' :=
  h.mono fun _ _ ⟨he, hw⟩ => ⟨he, hw ▸ Below.refl _ _⟩

/-- What a call leaves that returns a new row of integers. -/
def RetRow (w : World) (l : List Int) (e : Ending) (w' : World) : Prop := ∃ r, e = .returned r ∧ Fresh w' w.heap.size r l ∧ Below w.heap.size w w'
/-- .. beside a code. -/
def RetRowC (w : World) (l : List Int) (c : Int) (e : Ending) (w' : World) : Prop := ∃ r, e = .returned (.tuple #[r, .int .i64 c]) ∧ Fresh w' w.heap.size r l ∧ Below w.heap.size w w'
/-- .. beside two numbers. -/
def RetRowI (w : World) (l : List Int) (n c : Int) (e : Ending) (w' : World) : Prop := ∃ r, e = .returned (.tuple #[r, .int .i64 n, .int .i64 c]) ∧ Fresh w' w.heap.size r l ∧ Below w.heap.size w w'
/-- Two new rows, apart, beside a code. -/
def RetTwoC (w : World) (l m : List Int) (c : Int) (e : Ending) (w' : World) : Prop :=
  ∃ r s, e = .returned (.tuple #[r, s, .int .i64 c]) ∧ Fresh w' w.heap.size r l ∧ Fresh w' w.heap.size s m ∧ (∀ k, blk r = some k → blk s ≠ some k) ∧ Below w.heap.size w w'
/-- .. beside a bool. -/
def RetRowB (w : World) (l : List Int) (b : Bool) (e : Ending) (w' : World) : Prop := ∃ r, e = .returned (.tuple #[r, .bool b]) ∧ Fresh w' w.heap.size r l ∧ Below w.heap.size w w'

theorem set_fill (l : List Int) (k : Nat) (hk : k < l.length) : (l.take k ++ List.replicate (l.length - k) 0).set k (geti l k) = l.take (k + 1) ++ List.replicate (l.length - (k + 1)) 0 := by
  have e : l.length - k = (l.length - (k + 1)) + 1 := by omega
  have hl : (l.take k).length = k := by rw [List.length_take]; omega
  rw [e, List.replicate_succ, List.set_append, if_neg (by omega), hl, Nat.sub_self, List.set_cons_zero, List.take_succ_eq_append_getElem hk, List.append_assoc, geti_eq hk]
  rfl
theorem made_ints (n : Nat) : (madeCells (Value.int .i64 0).cells (n * 1)).toList = (List.replicate n (0 : Int)).map (Value.int .i64) := by
  rw [Nat.mul_one, List.map_replicate]
  exact toList_madeCells_one _ _

/-- 'append(out, y)': y lies in a new block of one cell. -/
theorem wpList_push {ops : Array Oper} {rest : List Oper} {o : Oper} {a : Act} {Q : Exit → Act → World → Prop} {wr : World} (hgd : o.guard = none) (s x : Operand)
    (ho : o.op = .call { callee := .builtin .append, args := #[s, x], argTypes := #[24, 24] })
    (base : Nat) (v : Value) (l : List Int) (hs : a.eval s = v) (hown : Owns wr base v l) (y : Int) (hx : a.eval x = .slice (some ⟨wr.heap.size, 0, none⟩) 1 1)
    (hlen : l.length ≤ 1000000000) (hbase : base ≤ wr.heap.size)
    (h : ∀ v' w', Owns w' base v' (l ++ [y]) → wr.grownBy w' v.ownBlock → (v'.ownBlock = v.ownBlock ∨ ∃ k, v'.ownBlock = some k ∧ wr.heap.size ≤ k) → wpList Tryz.prog ops Q rest (a.put o.dst v') w') :
    wpList Tryz.prog ops Q (o :: rest) a (wr.alloc (.cells #[.int .i64 y] 2)) := by
  obtain ⟨i0, hi0, hz0, hz1, hz2⟩ := info_parts Tryz.infoI
  obtain ⟨v', w', hrun, h2, h3, _, h5⟩ := run_append_own_at (P := Tryz.prog) (wr.alloc (.cells #[.int .i64 y] 2)) base 24 o.type 2 i0 (.int .i64 0) 1 8 Tryz.underlying24 hi0 hz0 hz1 hz2 rfl (by omega)
    v l.length (l.map (Value.int .i64)) (World.ownsRow.alloc hown _) ⟨wr.heap.size, 0, none⟩ 1 1 [.int .i64 y] rfl
    (fun j u hu => by
      rcases j with _ | j
      · have : u = .int .i64 y := by simpa using hu.symm
        subst this
        rw [show (⟨wr.heap.size, 0, none⟩ : Addr).add 0 = ⟨wr.heap.size, 0, none⟩ from rfl, World.cell?_alloc_at _ _ _ _ rfl]
        rfl
      · simp at hu)
    (fun u hu => by have : u = .int .i64 y := by simpa using hu
                    subst this; rfl)
    (by unfold maxLen; omega) (by omega) (by simp; omega)
  refine wpList_plain hgd fun _ hK => ?_
  unfold Oper.wp execOp
  simp only [ho, resolve, invoke, builtin, Sem.run_bind, Sem.run_pure, Result.andThen_ok, List.map_toArray, List.map_cons, List.map_nil, hs, hx, hrun]
  refine hK _ _ (h v' w' ?_ ((World.grownBy_alloc wr _ _).trans h3) ?_)
  · unfold Owns
    rw [List.length_append, List.map_append]
    exact h2
  · rcases h5 with e | e
    · exact .inl e
    · exact .inr ⟨_, e, by simp⟩

/-- The numbers from k on, n of them. -/
def marks (k : Int) (n : Nat) : List Int := (List.range n).map (fun (j : Nat) => k + (j : Int))
theorem marks_len (k : Int) (n : Nat) : (marks k n).length = n := by simp [marks]
theorem geti_marks {k : Int} {n j : Nat} (h : j < n) : geti (marks k n) j = k + (j : Int) := by
  rw [geti_eq (by rw [marks_len]; exact h)]; simp [marks]
theorem marks_set (k : Int) (j : Nat) (l : List Int) (h : j < l.length) : (marks k j ++ l.drop j).set j (k + (j : Int)) = marks k (j + 1) ++ l.drop (j + 1) := by
  rw [List.set_append, if_neg (by rw [marks_len]; omega), marks_len, Nat.sub_self, List.drop_eq_getElem_cons h, List.set_cons_zero]
  simp [marks, List.range_succ]


/-- All numbers lie from lo to hi. -/
def allIn (l : List Int) (lo hi : Int) : Bool := l.all (fun x => inB x lo hi)
theorem allIn_true {l : List Int} {lo hi : Int} : allIn l lo hi = true ↔ ∀ x ∈ l, lo ≤ x ∧ x ≤ hi := by
  unfold allIn
  rw [List.all_eq_true]
  exact ⟨fun h x hx => inB_true.1 (h x hx), fun h x hx => inB_true.2 (h x hx)⟩
theorem allIn_no {l : List Int} {lo hi : Int} {k : Nat} (hk : k < l.length) (h : inB (geti l k) lo hi = false) : allIn l lo hi = false := by
  unfold allIn
  rw [List.all_eq_false]
  exact ⟨_, geti_mem hk, by simp [h]⟩
theorem allIn_yes {l : List Int} {lo hi : Int} (h : ∀ k, k < l.length → inB (geti l k) lo hi = true) : allIn l lo hi = true := by
  unfold allIn
  rw [List.all_eq_true]
  intro x hx
  obtain ⟨k, hk, rfl⟩ := List.getElem_of_mem hx
  have := h k hk
  rwa [geti_eq hk] at this

theorem allWithin_any (v : Value) (l : List Int) (lo hi : Int) (w : World) (h : Sl w v l) :
    Calls Tryz.prog 22 #[v, .int .i64 lo, .int .i64 hi] w fun e w' => e = .returned (.bool (allIn l lo hi)) ∧ w = w' := by
  obtain ⟨A, c, rfl, hlc, hcm, hr⟩ := h
  have HR := Lib.hid hr
  clear hr
  unfold maxLen at hcm
  go_enter Tryz.func22, Tryz.ntmps22
  go_wp2
  go_loop [11] (fun i => ∃ k : Nat, k ≤ l.length ∧ i = .int .i64 k ∧ Hid (∀ j, j < k → inB (geti l j) lo hi = true)) (fun i => l.length - (intOf i).toNat)
  case atStart => exact ⟨0, Nat.zero_le _, rfl, fun j hj => by omega⟩
  case round =>
    obtain ⟨k, hk, rfl, H⟩ := hrel
    by_cases hlt : k < l.length
    · obtain ⟨ad, rfl, hb1, hc1⟩ := HR.out.at_ hlt
      cases hin : inB (geti l k) lo hi with
      | true =>
        have HN : Hid (∀ j, j < k + 1 → inB (geti l j) lo hi = true) := Lib.hid (fun j hj => by
          rcases Nat.lt_or_ge j k with h | h
          · exact H.out j h
          · obtain rfl : j = k := by omega
            exact hin)
        go_wp2_with (go_at_call 25; refine (within_any _ _ _ _).mono ?_; rintro e w' ⟨rfl, rfl⟩)
        go_round
        case rel => exact ⟨k + 1, by omega, by go_num, HN⟩
        case measure => simp [intOf] <;> omega
      | false =>
        have HN := Lib.hid (allIn_no hlt hin)
        go_wp2_with (go_at_call 25; refine (within_any _ _ _ _).mono ?_; rintro e w' ⟨rfl, rfl⟩)
        go_ret
        exact ⟨ret_bool HN.out.symm, rfl⟩
    · have HN : Hid (allIn l lo hi = true) := Lib.hid (allIn_yes (fun j hj => H.out j (by omega)))
      go_wp2
      go_ret
      exact ⟨ret_bool HN.out.symm, rfl⟩
end Go.Proofs.YtfdcpfhiknfpiaaGreatDoor
