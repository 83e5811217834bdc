/- Slices of integers as lists; the contracts of toInt64S, eqInt64S, markInt64S, heldInt64S, allWithin. No condition beyond the stated bounds. -/
import Derived.Test.YthijhpkkijjlfaaNums
namespace Go.Proofs.Ythijhpkkijjlfaa
open Go.RowKit

/-- The slice value v reads as the list l. -/
def Sl (w : World) (v : Value) (l : List Int) : Prop :=
  ∃ A c, v = .slice A l.length c ∧ l.length ≤ c ∧ c ≤ maxLen ∧ Ints w w.heap.size A l.length l
theorem Sl.next {w w' : World} {v : Value} {l : List Int} (h : Sl w v l) (hb : Below w.heap.size w w') : Sl w' v l := by
  obtain ⟨A, c, e, h1, h2, h3⟩ := h
  exact ⟨A, c, e, h1, h2, h3.next hb hb.size⟩
theorem Sl.drewN {w : World} {v : Value} {l : List Int} (h : Sl w v l) (n : Nat) : Sl (w.drewN n) v l := h
theorem Sl.drew {w : World} {v : Value} {l : List Int} (h : Sl w v l) : Sl w.drew v l := h
theorem Owns.sl {w : World} {base : Nat} {v : Value} {l : List Int} (h : Owns w base v l) : Sl w v l := by
  obtain ⟨A, c, e, h1, h2, h3⟩ := h.shape
  exact ⟨A, c, e, h1, h2, h3⟩
theorem Sl.of {w : World} {A : Option Addr} {n c : Nat} {l : List Int} (h : Ints w w.heap.size A n l) (h1 : n ≤ c) (h2 : c ≤ maxLen) : Sl w (.slice A n c) l := by
  obtain rfl := h.1
  exact ⟨A, c, rfl, h1, h2, h⟩
theorem Sl.nil_ (w : World) : Sl w (.slice none 0 0) [] := ⟨none, 0, rfl, Nat.le_refl _, Nat.zero_le _, Ints.none_⟩

theorem Owns.len {w : World} {base g n cap : Nat} {l : List Int} (h : Owns w base (.slice (some ⟨g, 0, none⟩) n cap) l) : l.length = n := by
  rcases h.2 with ⟨h', _⟩ | ⟨g', cap', cur, h', _⟩
  · simp at h'
  · simp only [Value.slice.injEq] at h'
    exact h'.2.1.symm
theorem Owns.stored {w : World} {base g n cap : Nat} {l : List Int} (h : Owns w base (.slice (some ⟨g, 0, none⟩) n cap) l) (j : Nat) (x : Int) :
    Owns (w.setCell ⟨g, j, none⟩ (.int .i64 x)) base (.slice (some ⟨g, 0, none⟩) n cap) (l.set j x) ∧ w.grownBy (w.setCell ⟨g, j, none⟩ (.int .i64 x)) (some g) := by
  obtain rfl := h.len
  have := World.ownsRow.stored h j (.int .i64 x)
  refine ⟨?_, this.2⟩
  unfold Owns
  rw [List.length_set, List.map_set]
  exact this.1
theorem Owns.cellAt {w : World} {base g n cap : Nat} {l : List Int} (h : Owns w base (.slice (some ⟨g, 0, none⟩) n cap) l) {j : Nat} (hj : j < l.length) :
    w.cell? ⟨g, j, none⟩ = some (.int .i64 (geti l j)) := by
  obtain rfl := h.len
  rw [World.ownsRow.cellAt h j (by omega), getD_map_int l j hj]
theorem Owns.free {w : World} {base g n cap : Nat} {l : List Int} (h : Owns w base (.slice (some ⟨g, 0, none⟩) n cap) l) (j : Nat) : w.frozen? ⟨g, j, none⟩ = false := by
  obtain rfl := h.len
  exact World.ownsRow.frozenAt h j
/-- Where there are elements the row begins at a block's head. -/
theorem Owns.head {w : World} {base : Nat} {v : Value} {l : List Int} (h : Owns w base v l) (hl : 0 < l.length) : ∃ g cap, v = .slice (some ⟨g, 0, none⟩) l.length cap ∧ base ≤ g ∧ g < w.heap.size := by
  rcases h.2 with ⟨rfl, hn⟩ | ⟨g, cap, cur, rfl, hb, hg, _⟩
  · omega
  · exact ⟨g, cap, rfl, hb, (h.lt g rfl).2⟩
theorem Owns.apart {w : World} {b1 b2 : Nat} {v1 v2 : Value} {l1 l2 : List Int} (_h1 : Owns w b1 v1 l1) (h2 : Owns w b2 v2 l2) (hlt : ∀ k, v1.ownBlock = some k → k < b2) :
    v2.ownBlock = none ∨ v2.ownBlock ≠ v1.ownBlock := by
  cases e : v2.ownBlock with
  | none => exact .inl rfl
  | some k =>
    right
    intro e2
    have := (h2.lt k e).1
    have := hlt k e2.symm
    omega
theorem Owns.apart' {w : World} {b1 b2 : Nat} {v1 v2 : Value} {l1 l2 : List Int} (_h1 : Owns w b1 v1 l1) (h2 : Owns w b2 v2 l2) (hlt : ∀ k, v1.ownBlock = some k → k < b2) :
    v1.ownBlock = none ∨ v1.ownBlock ≠ v2.ownBlock := by
  cases e : v1.ownBlock with
  | none => exact .inl rfl
  | some k =>
    right
    intro e2
    have := (h2.lt k e2.symm).1
    have := hlt k e
    omega

/-- The block into which a slice with room leads. -/
def blk : Value → Option Nat
  | .slice (some a) _ (_ + 1) => some a.block
  | _ => none
/-- v reads as l; its row, if it has room, lies in a block from base on that it owns (an empty slice without room may lead anywhere). -/
def Fresh (w : World) (base : Nat) (v : Value) (l : List Int) : Prop := Owns w base v l ∨ (l = [] ∧ ∃ A, v = .slice A 0 0)
section
variable {w w' : World} {base : Nat} {v : Value} {l : List Int}
theorem Owns.fresh (h : Owns w base v l) : Fresh w base v l := .inl h
theorem Fresh.nil_ (w : World) (base : Nat) : Fresh w base (.slice none 0 0) [] := .inl (Owns.nil_ w base)
theorem Fresh.sl (h : Fresh w base v l) : Sl w v l := by
  rcases h with h | ⟨rfl, A, rfl⟩
  · exact h.sl
  · exact ⟨A, 0, rfl, Nat.le_refl _, Nat.zero_le _, Ints.none_⟩
theorem Fresh.shape (h : Fresh w base v l) : ∃ A c, v = .slice A l.length c ∧ l.length ≤ c ∧ c ≤ maxLen ∧ Ints w w.heap.size A l.length l := h.sl
theorem Fresh.lower {base' : Nat} (h : Fresh w base v l) (hb : base' ≤ base) : Fresh w base' v l := by
  rcases h with h | h
  · exact .inl (h.lower hb)
  · exact .inr h
theorem blk_own {k : Nat} (h : blk v = some k) : v.ownBlock = some k := by
  unfold blk at h
  split at h
  · simpa [Value.ownBlock] using h
  · cases h
theorem Fresh.lt (h : Fresh w base v l) (k : Nat) (hk : blk v = some k) : base ≤ k ∧ k < w.heap.size := by
  rcases h with h | ⟨rfl, A, rfl⟩
  · exact h.lt k (blk_own hk)
  · cases A <;> cases hk
theorem Owns.room (h : Owns w base v l) : (l = [] ∧ ∃ A, v = .slice A 0 0) ∨ blk v = v.ownBlock := by
  rcases h.2 with ⟨rfl, hn⟩ | ⟨g, cap, cur, rfl, hb, hg, hnc, _⟩
  · exact .inl ⟨List.eq_nil_of_length_eq_zero hn, none, rfl⟩
  · rcases cap with _ | cap
    · have h0 : l.length = 0 := by omega
      exact .inl ⟨List.eq_nil_of_length_eq_zero h0, some ⟨g, 0, none⟩, by rw [h0]⟩
    · exact .inr rfl
theorem Fresh.kept {row : Option Nat} (h : Fresh w base v l) (hg : w.grownBy w' row) (hne : ∀ k, blk v = some k → row ≠ some k) : Fresh w' base v l := by
  rcases h with h | h
  · rcases h.room with h0 | h0
    · exact .inr h0
    · refine .inl (h.kept hg ?_)
      rw [← h0]
      cases e : blk v with
      | none => exact .inl rfl
      | some k => exact .inr (fun e2 => hne k e e2.symm)
  · exact .inr h
theorem Fresh.next (h : Fresh w base v l) (hb : Below w.heap.size w w') : Fresh w' base v l := by
  rcases h with h | h
  · exact .inl (h.next hb)
  · exact .inr h
theorem Fresh.drew (h : Fresh w base v l) : Fresh w.drew base v l := h
theorem Fresh.drewN (h : Fresh w base v l) (n : Nat) : Fresh (w.drewN n) base v l := h
end

theorem calls_below {P : Program} {f : FuncId} {args : Array Value} {w : World} {e0 : Ending} (h : Calls P f args w fun e w' => e = e0 ∧ w = w') : Calls P f args w fun e w' => e = e0 ∧ Below w.heap.size w w' :=
  h.mono fun _ _ ⟨he, hw⟩ => ⟨he, hw ▸ Below.refl _ _⟩

/-- What a call leaves that returns a new row of integers. -/
def RetRow (w : World) (l : List Int) (e : Ending) (w' : World) : Prop := ∃ r, e = .returned r ∧ Fresh w' w.heap.size r l ∧ Below w.heap.size w w'
/-- .. beside a code. -/
def RetRowC (w : World) (l : List Int) (c : Int) (e : Ending) (w' : World) : Prop := ∃ r, e = .returned (.tuple #[r, .int .i64 c]) ∧ Fresh w' w.heap.size r l ∧ Below w.heap.size w w'
/-- .. beside two numbers. -/
def RetRowI (w : World) (l : List Int) (n c : Int) (e : Ending) (w' : World) : Prop := ∃ r, e = .returned (.tuple #[r, .int .i64 n, .int .i64 c]) ∧ Fresh w' w.heap.size r l ∧ Below w.heap.size w w'
/-- Two new rows, apart, beside a code. -/
def RetTwoC (w : World) (l m : List Int) (c : Int) (e : Ending) (w' : World) : Prop :=
  ∃ r s, e = .returned (.tuple #[r, s, .int .i64 c]) ∧ Fresh w' w.heap.size r l ∧ Fresh w' w.heap.size s m ∧ (∀ k, blk r = some k → blk s ≠ some k) ∧ Below w.heap.size w w'
/-- .. beside a bool. -/
def RetRowB (w : World) (l : List Int) (b : Bool) (e : Ending) (w' : World) : Prop := ∃ r, e = .returned (.tuple #[r, .bool b]) ∧ Fresh w' w.heap.size r l ∧ Below w.heap.size w w'

theorem set_fill (l : List Int) (k : Nat) (hk : k < l.length) : (l.take k ++ List.replicate (l.length - k) 0).set k (geti l k) = l.take (k + 1) ++ List.replicate (l.length - (k + 1)) 0 := by
  have e : l.length - k = (l.length - (k + 1)) + 1 := by omega
  have hl : (l.take k).length = k := by rw [List.length_take]; omega
  rw [e, List.replicate_succ, List.set_append, if_neg (by omega), hl, Nat.sub_self, List.set_cons_zero, List.take_succ_eq_append_getElem hk, List.append_assoc, geti_eq hk]
  rfl
theorem made_ints (n : Nat) : (madeCells (Value.int .i64 0).cells (n * 1)).toList = (List.replicate n (0 : Int)).map (Value.int .i64) := by
  rw [Nat.mul_one, List.map_replicate]
  exact toList_madeCells_one _ _

/-- 'append(out, y)': y lies in a new block of one cell. -/
theorem wpList_push {ops : Array Oper} {rest : List Oper} {o : Oper} {a : Act} {Q : Exit → Act → World → Prop} {wr : World} (hgd : o.guard = none) (s x : Operand)
    (ho : o.op = .call { callee := .builtin .append, args := #[s, x], argTypes := #[29, 29] })
    (base : Nat) (v : Value) (l : List Int) (hs : a.eval s = v) (hown : Owns wr base v l) (y : Int) (hx : a.eval x = .slice (some ⟨wr.heap.size, 0, none⟩) 1 1)
    (hlen : l.length ≤ 1000000000) (hbase : base ≤ wr.heap.size)
    (h : ∀ v' w', Owns w' base v' (l ++ [y]) → wr.grownBy w' v.ownBlock → (v'.ownBlock = v.ownBlock ∨ ∃ k, v'.ownBlock = some k ∧ wr.heap.size ≤ k) → wpList Try.prog ops Q rest (a.put o.dst v') w') :
    wpList Try.prog ops Q (o :: rest) a (wr.alloc (.cells #[.int .i64 y] 2)) := by
  obtain ⟨i0, hi0, hz0, hz1, hz2⟩ := info_parts Try.infoI
  obtain ⟨v', w', hrun, h2, h3, _, h5⟩ := run_append_own_at (P := Try.prog) (wr.alloc (.cells #[.int .i64 y] 2)) base 29 o.type 2 i0 (.int .i64 0) 1 8 Try.underlying29 hi0 hz0 hz1 hz2 rfl (by omega)
    v l.length (l.map (Value.int .i64)) (World.ownsRow.alloc hown _) ⟨wr.heap.size, 0, none⟩ 1 1 [.int .i64 y] rfl
    (fun j u hu => by
      rcases j with _ | j
      · have : u = .int .i64 y := by simpa using hu.symm
        subst this
        rw [show (⟨wr.heap.size, 0, none⟩ : Addr).add 0 = ⟨wr.heap.size, 0, none⟩ from rfl, World.cell?_alloc_at _ _ _ _ rfl]
        rfl
      · simp at hu)
    (fun u hu => by have : u = .int .i64 y := by simpa using hu
                    subst this; rfl)
    (by unfold maxLen; omega) (by omega) (by simp; omega)
  refine wpList_plain hgd fun _ hK => ?_
  unfold Oper.wp execOp
  simp only [ho, resolve, invoke, builtin, Sem.run_bind, Sem.run_pure, Result.andThen_ok, List.map_toArray, List.map_cons, List.map_nil, hs, hx, hrun]
  refine hK _ _ (h v' w' ?_ ((World.grownBy_alloc wr _ _).trans h3) ?_)
  · unfold Owns
    rw [List.length_append, List.map_append]
    exact h2
  · rcases h5 with e | e
    · exact .inl e
    · exact .inr ⟨_, e, by simp⟩

theorem eqInt64S_any (v1 v2 : Value) (l1 l2 : List Int) (w : World) (h1 : Sl w v1 l1) (h2 : Sl w v2 l2) :
    Calls Try.prog 9 #[v1, v2] w fun e w' => e = .returned (.bool (decide (l1 = l2))) ∧ Below w.heap.size w w' := by
  obtain ⟨A1, c1, rfl, hlc1, hcm1, hr1⟩ := h1
  obtain ⟨A2, c2, rfl, hlc2, hcm2, hr2⟩ := h2
  have HR1 := Lib.hid hr1
  have HR2 := Lib.hid hr2
  clear hr1 hr2
  unfold maxLen at hcm1 hcm2
  by_cases hl : l1.length = l2.length
  · have hlb : ((l1.length : Int) != (l2.length : Int)) = false := by simp [hl]
    have hlb2 : (l1.length != l2.length) = false := by simp [hl]
    have HL := Lib.hid hl
    have hle : l1.length ≤ l2.length := by omega
    clear hl
    go_enter Try.func9, Try.ntmps9
    go_wp2
    go_loopw [5] (fun i wr => ∃ k : Nat, k ≤ l1.length ∧ i = .int .i64 k ∧ Hid (l1.take k = l2.take k) ∧ Below w.heap.size w wr) (fun i _ => l1.length - (intOf i).toNat)
    case atStart => exact ⟨0, Nat.zero_le _, rfl, rfl, Below.refl _ _⟩
    case round =>
      obtain ⟨k, hk, rfl, HK, hb⟩ := hrel
      by_cases hlt : k < l1.length
      · have hlt2 : k < l2.length := by omega
        obtain ⟨a1, rfl, hb1, hc1⟩ := HR1.out.at_ hlt
        obtain ⟨a2, rfl, hb2, hc2⟩ := HR2.out.at_ hlt2
        have hcell1 := (hb.cell (p := a1.add k) (by rw [block_of_add]; exact hb1)).trans hc1
        have hcell2 := (hb.cell (p := a2.add k) (by rw [block_of_add]; exact hb2)).trans hc2
        clear hc1 hc2
        have hi1 : (k : Int) < (l1.length : Int) := by omega
        have hi2 : (k : Int) < (l2.length : Int) := by omega
        by_cases he : geti l1 k = geti l2 k
        · have heb : (geti l1 k != geti l2 k) = false := by simp [he]
          have HN : Hid (l1.take (k + 1) = l2.take (k + 1)) := Lib.hid (by
            rw [take_snoc hlt, take_snoc hlt2, HK.out, he])
          clear he
          go_wp2
          go_quiet (fail)
          go_wp2
          go_roundw
          case rel => exact ⟨k + 1, by omega, by go_num, HN, by first | exact hb | exact hb.drew | exact below_drewN hb _⟩
          case measure => simp [intOf] <;> omega
        · have heb : (geti l1 k != geti l2 k) = true := by simpa using he
          have HN : Hid (¬ l1 = l2) := Lib.hid (fun e => he (by rw [e]))
          clear he
          go_wp2
          go_quiet (fail)
          go_wp2
          go_ret
          exact ⟨ret_bool (decide_eq_false HN.out).symm, by first | exact hb | exact hb.drew | exact below_drewN hb _⟩
      · have HN : Hid (l1 = l2) := Lib.hid (by
          have := HK.out
          have e1 := HL.out
          rw [List.take_of_length_le (by omega), List.take_of_length_le (by omega)] at this
          exact this)
        go_wp2
        go_ret
        exact ⟨ret_bool (decide_eq_true HN.out).symm, hb⟩
  · have hlb : ((l1.length : Int) != (l2.length : Int)) = true := by simp; omega
    have hlb2 : (l1.length != l2.length) = true := by simpa using hl
    have HN : Hid (¬ l1 = l2) := Lib.hid (fun e => hl (by rw [e]))
    clear hl
    go_enter Try.func9, Try.ntmps9
    go_wp2
    go_ret
    exact ⟨ret_bool (decide_eq_false HN.out).symm, Below.refl _ _⟩
/-- The numbers from k on, n of them. -/
def marks (k : Int) (n : Nat) : List Int := (List.range n).map (fun (j : Nat) => k + (j : Int))
theorem marks_len (k : Int) (n : Nat) : (marks k n).length = n := by simp [marks]
theorem geti_marks {k : Int} {n j : Nat} (h : j < n) : geti (marks k n) j = k + (j : Int) := by
  rw [geti_eq (by rw [marks_len]; exact h)]; simp [marks]
theorem marks_set (k : Int) (j : Nat) (l : List Int) (h : j < l.length) : (marks k j ++ l.drop j).set j (k + (j : Int)) = marks k (j + 1) ++ l.drop (j + 1) := by
  rw [List.set_append, if_neg (by rw [marks_len]; omega), marks_len, Nat.sub_self, List.drop_eq_getElem_cons h, List.set_cons_zero]
  simp [marks, List.range_succ]

theorem markInt64S_own (v : Value) (l : List Int) (base : Nat) (k0 : Int) (w : World) (h : Owns w base v l) (hn : l.length ≤ 4000000) (h00 : 0 ≤ k0) (hk : k0 ≤ 1000000000) :
    Calls Try.prog 11 #[v, .int .i64 k0] w fun e w' => e = .returned (.int .i64 (k0 + (l.length : Int))) ∧ Owns w' base v (marks k0 l.length) ∧ w.grownBy w' v.ownBlock := by
  by_cases h0 : l.length = 0
  · obtain ⟨A, c, rfl, _, _, _⟩ := h.sl
    have hl : l = [] := List.eq_nil_of_length_eq_zero h0
    subst hl
    have HO := Lib.hid h
    clear h h0
    go_enter Try.func11, Try.ntmps11
    go_wp2
    refine wp_loop_rounds 1 ?_
    rw [rounds_succ]
    go_wp2
    go_ret
    exact ⟨by simp, HO.out, World.grownBy.refl _ _⟩
  · obtain ⟨g, cap, rfl, hbg, hgw⟩ := h.head (by omega)
    have HO := Lib.hid h
    clear h h0
    go_enter Try.func11, Try.ntmps11
    go_wp2
    go_loopw [1, 5] (fun t i wr => ∃ j : Nat, j ≤ l.length ∧ i = .int .i64 j ∧ t = .int .i64 (k0 + (j : Int)) ∧ Hid (Owns wr base (.slice (some ⟨g, 0, none⟩) l.length cap) (marks k0 j ++ l.drop j)) ∧ w.grownBy wr (some g)) (fun _ i _ => l.length - (intOf i).toNat)
    case atStart => exact ⟨0, Nat.zero_le _, rfl, by simp, Lib.hid (by simpa [marks] using HO.out), World.grownBy.refl _ _⟩
    case round =>
      clear HO
      obtain ⟨j, hj, rfl, rfl, HJ, hg⟩ := hrel
      by_cases hlt : j < l.length
      · have hlen : (marks k0 j ++ l.drop j).length = l.length := by rw [List.length_append, marks_len, List.length_drop]; omega
        have hcell := HJ.out.cellAt (j := j) (by omega)
        have hfree := HJ.out.free j
        have hst := HJ.out.stored j (k0 + (j : Int))
        rw [marks_set k0 j l hlt] at hst
        have HS := Lib.hid hst
        clear hst hlen
        go_wp2
        go_roundw
        case rel => exact ⟨j + 1, by omega, by go_num, by go_num, HS.out.1, hg.trans HS.out.2⟩
        case measure => simp [intOf] <;> omega
      · obtain rfl : j = l.length := by omega
        go_wp2
        go_ret
        refine ⟨rfl, ?_, hg⟩
        have := HJ.out
        rwa [List.drop_eq_nil_of_le (Nat.le_refl _), List.append_nil] at this
theorem markInt64S_any (v : Value) (l : List Int) (base : Nat) (k0 : Int) (w : World) (h : Fresh w base v l) (hn : l.length ≤ 4000000) (h00 : 0 ≤ k0) (hk : k0 ≤ 1000000000) :
    Calls Try.prog 11 #[v, .int .i64 k0] w fun e w' => e = .returned (.int .i64 (k0 + (l.length : Int))) ∧ Fresh w' base v (marks k0 l.length) ∧ w.grownBy w' (blk v) := by
  have hemp : ∀ A, Calls Try.prog 11 #[.slice A 0 0, .int .i64 k0] w fun e w' => e = .returned (.int .i64 (k0 + (([] : List Int).length : Int))) ∧ Fresh w' base (.slice A 0 0) (marks k0 ([] : List Int).length) ∧ w.grownBy w' (blk (.slice A 0 0)) := by
    intro A
    go_enter Try.func11, Try.ntmps11
    go_wp2
    refine wp_loop_rounds 1 ?_
    rw [rounds_succ]
    go_wp2
    go_ret
    exact ⟨by simp, .inr ⟨rfl, A, rfl⟩, World.grownBy.refl _ _⟩
  rcases h with h | ⟨rfl, A, rfl⟩
  · rcases h.room with ⟨rfl, A, rfl⟩ | h0
    · exact hemp A
    · rw [h0]
      exact (markInt64S_own v l base k0 w h hn h00 hk).mono fun _ _ ⟨a, b, c⟩ => ⟨a, .inl b, c⟩
  · exact hemp A
theorem heldInt64S_any (v : Value) (n : Nat) (k0 : Int) (w : World) (h : Sl w v (marks k0 n)) (hn : n ≤ 4000000) (h00 : 0 ≤ k0) (hk : k0 ≤ 1000000000) :
    Calls Try.prog 13 #[v, .int .i64 k0] w fun e w' => e = .returned (.int .i64 (k0 + (n : Int))) ∧ w = w' := by
  obtain ⟨A, c, rfl, hlc, hcm, hr⟩ := h
  rw [marks_len] at hlc hr ⊢
  have HR := Lib.hid hr
  clear hr
  unfold maxLen at hcm
  go_enter Try.func13, Try.ntmps13
  go_wp2
  go_loop [1, 5] (fun t i => ∃ j : Nat, j ≤ n ∧ i = .int .i64 j ∧ t = .int .i64 (k0 + (j : Int))) (fun _ i => n - (intOf i).toNat)
  case atStart => exact ⟨0, Nat.zero_le _, rfl, by simp⟩
  case round =>
    obtain ⟨j, hj, rfl, rfl⟩ := hrel
    by_cases hlt : j < n
    · obtain ⟨ad, rfl, hb1, hc1⟩ := HR.out.at_ hlt
      rw [geti_marks hlt] at hc1
      go_wp2
      go_round
      case rel => exact ⟨j + 1, by omega, by go_num, by go_num⟩
      case measure => simp [intOf] <;> omega
    · obtain rfl : j = n := by omega
      go_wp2
      go_ret
      exact ⟨rfl, rfl⟩

/-- All numbers lie from lo to hi. -/
def allIn (l : List Int) (lo hi : Int) : Bool := l.all (fun x => inB x lo hi)
theorem allIn_true {l : List Int} {lo hi : Int} : allIn l lo hi = true ↔ ∀ x ∈ l, lo ≤ x ∧ x ≤ hi := by
  unfold allIn
  rw [List.all_eq_true]
  exact ⟨fun h x hx => inB_true.1 (h x hx), fun h x hx => inB_true.2 (h x hx)⟩
theorem allIn_no {l : List Int} {lo hi : Int} {k : Nat} (hk : k < l.length) (h : inB (geti l k) lo hi = false) : allIn l lo hi = false := by
  unfold allIn
  rw [List.all_eq_false]
  exact ⟨_, geti_mem hk, by simp [h]⟩
theorem allIn_yes {l : List Int} {lo hi : Int} (h : ∀ k, k < l.length → inB (geti l k) lo hi = true) : allIn l lo hi = true := by
  unfold allIn
  rw [List.all_eq_true]
  intro x hx
  obtain ⟨k, hk, rfl⟩ := List.getElem_of_mem hx
  have := h k hk
  rwa [geti_eq hk] at this

end Go.Proofs.Ythijhpkkijjlfaa
