/- Slices of rules, read as flat lists of integers (three cells a rule); the contracts of toRule, toRuleS, szRuleS, eqRule, eqRuleS, markRuleS, heldRuleS. No condition beyond the stated bounds. -/
import Derived.Test.YthijhpkkijjlfaaSl
import Derived.Deep.RegionWith
namespace Go.Proofs.Ythijhpkkijjlfaa
open Go.RowKit
/-- The slice value v of rules reads as the flat list l. -/
def Sl3 (w : World) (v : Value) (l : List Int) : Prop := ∃ A n c, v = .slice A n c ∧ n ≤ c ∧ c ≤ maxLen ∧ Ints w w.heap.size A (n * 3) l
/-- .. and owns its row, in a block from base on. -/
def Own3 (w : World) (base : Nat) (v : Value) (l : List Int) : Prop := ∃ n, l.length = n * 3 ∧ w.ownsRow base 42 3 v n (l.map (Value.int .i64))
section
variable {w w' : World} {base : Nat} {v : Value} {l : List Int}
theorem Sl3.next (h : Sl3 w v l) (hb : Below w.heap.size w w') : Sl3 w' v l := by
  obtain ⟨A, n, c, e, h1, h2, h3⟩ := h
  exact ⟨A, n, c, e, h1, h2, h3.next hb hb.size⟩
theorem Sl3.drewN (h : Sl3 w v l) (n : Nat) : Sl3 (w.drewN n) v l := h
theorem Sl3.drew (h : Sl3 w v l) : Sl3 w.drew v l := h
theorem Own3.lt (h : Own3 w base v l) : ∀ k, v.ownBlock = some k → base ≤ k ∧ k < w.heap.size := by
  obtain ⟨n, _, h⟩ := h; exact World.ownsRow.lt h
theorem Own3.kept {row : Option Nat} (h : Own3 w base v l) (hg : w.grownBy w' row) (hne : v.ownBlock = none ∨ v.ownBlock ≠ row) : Own3 w' base v l := by
  obtain ⟨n, h1, h⟩ := h; exact ⟨n, h1, World.ownsRow.kept h hg hne⟩
theorem Own3.next (h : Own3 w base v l) (hb : Below w.heap.size w w') : Own3 w' base v l := by
  refine h.kept (row := none) ⟨hb.os, hb.tape, hb.output, hb.size, fun k hk _ => hb.block k hk⟩ ?_
  cases v.ownBlock <;> simp
theorem Own3.nil_ (w : World) (base : Nat) : Own3 w base (.slice none 0 0) [] := ⟨0, rfl, World.ownsRow_nil w base _ 3⟩
theorem Own3.drew (h : Own3 w base v l) : Own3 w.drew base v l := h
theorem Own3.drewN (h : Own3 w base v l) (n : Nat) : Own3 (w.drewN n) base v l := h
theorem Own3.lower {base' : Nat} (h : Own3 w base v l) (hb : base' ≤ base) : Own3 w base' v l := by
  obtain ⟨n, h1, h2, h⟩ := h
  refine ⟨n, h1, h2, ?_⟩
  rcases h with h0 | ⟨g, cap, cur, e, hbg, r⟩
  · exact .inl h0
  · exact .inr ⟨g, cap, cur, e, by omega, r⟩
theorem Own3.sl (h : Own3 w base v l) : Sl3 w v l := by
  obtain ⟨n, h1, h⟩ := h
  have hc := fun g (hg : v.ownBlock = some g) => World.ownsRow.cells h hg
  have hlt := World.ownsRow.lt h
  rcases h.2 with ⟨rfl, hn⟩ | ⟨g, cap, cur, rfl, hb, hg, hnc, hcm, hcs, htake⟩
  · subst hn
    have hl : l = [] := List.eq_nil_of_length_eq_zero (by omega)
    subst hl
    exact ⟨none, 0, 0, rfl, Nat.le_refl _, Nat.zero_le _, Ints.none_⟩
  · refine ⟨some ⟨g, 0, none⟩, n, cap, rfl, hnc, hcm, h1, fun _ => ⟨⟨g, 0, none⟩, rfl, (hlt g rfl).2, fun j hj => ?_⟩⟩
    exact hc g rfl j _ (getD_map_int l j (by omega))
theorem Own3.head (h : Own3 w base v l) (hl : 0 < l.length) : ∃ g n cap, v = .slice (some ⟨g, 0, none⟩) n cap ∧ base ≤ g ∧ g < w.heap.size ∧ l.length = n * 3 := by
  obtain ⟨n, h1, h⟩ := h
  rcases h.2 with ⟨rfl, hn⟩ | ⟨g, cap, cur, rfl, hb, hg, _⟩
  · omega
  · exact ⟨g, n, cap, rfl, hb, (World.ownsRow.lt h g rfl).2, h1⟩
theorem Own3.len {g n cap : Nat} (h : Own3 w base (.slice (some ⟨g, 0, none⟩) n cap) l) : l.length = n * 3 := by
  obtain ⟨m, h1, h⟩ := h
  rcases h.2 with ⟨h', _⟩ | ⟨g', cap', cur, h', _⟩
  · simp at h'
  · simp only [Value.slice.injEq] at h'
    rw [h1, h'.2.1]
theorem Own3.raw {g n cap : Nat} (h : Own3 w base (.slice (some ⟨g, 0, none⟩) n cap) l) : w.ownsRow base 42 3 (.slice (some ⟨g, 0, none⟩) n cap) n (l.map (Value.int .i64)) := by
  have hl := h.len
  obtain ⟨m, h1, h⟩ := h
  obtain rfl : m = n := by omega
  exact h
theorem Own3.stored {g n cap : Nat} (h : Own3 w base (.slice (some ⟨g, 0, none⟩) n cap) l) (j : Nat) (x : Int) :
    Own3 (w.setCell ⟨g, j, none⟩ (.int .i64 x)) base (.slice (some ⟨g, 0, none⟩) n cap) (l.set j x) ∧ w.grownBy (w.setCell ⟨g, j, none⟩ (.int .i64 x)) (some g) := by
  have hl := h.len
  have := World.ownsRow.stored h.raw j (.int .i64 x)
  refine ⟨⟨n, by rw [List.length_set, hl], ?_⟩, this.2⟩
  rw [List.map_set]
  exact this.1
theorem Own3.cellAt {g n cap : Nat} (h : Own3 w base (.slice (some ⟨g, 0, none⟩) n cap) l) {j : Nat} (hj : j < l.length) :
    w.cell? ⟨g, j, none⟩ = some (.int .i64 (geti l j)) := by
  have hl := h.len
  rw [World.ownsRow.cellAt h.raw j (by omega), getD_map_int l j hj]
theorem Own3.stored3 {g n cap : Nat} (h : Own3 w base (.slice (some ⟨g, 0, none⟩) n cap) l) (j : Nat) (x y z : Int) :
    Own3 (((w.setCell ⟨g, j, none⟩ (.int .i64 x)).setCell ⟨g, j + 1, none⟩ (.int .i64 y)).setCell ⟨g, j + 2, none⟩ (.int .i64 z)) base (.slice (some ⟨g, 0, none⟩) n cap) (((l.set j x).set (j + 1) y).set (j + 1 + 1) z) ∧
      w.grownBy (((w.setCell ⟨g, j, none⟩ (.int .i64 x)).setCell ⟨g, j + 1, none⟩ (.int .i64 y)).setCell ⟨g, j + 2, none⟩ (.int .i64 z)) (some g) := by
  have h1 := h.stored j x
  have h2 := h1.1.stored (j + 1) y
  have h3 := h2.1.stored (j + 2) z
  exact ⟨h3.1, (h1.2.trans h2.2).trans h3.2⟩
theorem Own3.free {g n cap : Nat} (h : Own3 w base (.slice (some ⟨g, 0, none⟩) n cap) l) (j : Nat) : w.frozen? ⟨g, j, none⟩ = false := World.ownsRow.frozenAt h.raw j
end
/-- v reads as l; its row, if it has room, lies in a block from base on that it owns. -/
def Fresh3 (w : World) (base : Nat) (v : Value) (l : List Int) : Prop := Own3 w base v l ∨ (l = [] ∧ ∃ A, v = .slice A 0 0)
section
variable {w w' : World} {base : Nat} {v : Value} {l : List Int}
theorem Fresh3.nil_ (w : World) (base : Nat) : Fresh3 w base (.slice none 0 0) [] := .inl (Own3.nil_ w base)
theorem Fresh3.sl (h : Fresh3 w base v l) : Sl3 w v l := by
  rcases h with h | ⟨rfl, A, rfl⟩
  · exact h.sl
  · exact ⟨A, 0, 0, rfl, Nat.le_refl _, Nat.zero_le _, Ints.none_⟩
theorem Fresh3.lower {base' : Nat} (h : Fresh3 w base v l) (hb : base' ≤ base) : Fresh3 w base' v l := by
  rcases h with h | h
  · exact .inl (h.lower hb)
  · exact .inr h
theorem Fresh3.lt (h : Fresh3 w base v l) (k : Nat) (hk : blk v = some k) : base ≤ k ∧ k < w.heap.size := by
  rcases h with h | ⟨rfl, A, rfl⟩
  · exact h.lt k (blk_own hk)
  · cases A <;> cases hk
theorem Own3.room (h : Own3 w base v l) : (l = [] ∧ ∃ A, v = .slice A 0 0) ∨ blk v = v.ownBlock := by
  obtain ⟨n, h1, h⟩ := h
  rcases h.2 with ⟨rfl, hn⟩ | ⟨g, cap, cur, rfl, hb, hg, hnc, _⟩
  · exact .inl ⟨List.eq_nil_of_length_eq_zero (by omega), none, rfl⟩
  · rcases cap with _ | cap
    · obtain rfl : n = 0 := by omega
      exact .inl ⟨List.eq_nil_of_length_eq_zero (by omega), some ⟨g, 0, none⟩, rfl⟩
    · exact .inr rfl
theorem Fresh3.kept {row : Option Nat} (h : Fresh3 w base v l) (hg : w.grownBy w' row) (hne : ∀ k, blk v = some k → row ≠ some k) : Fresh3 w' base v l := by
  rcases h with h | h
  · rcases h.room with h0 | h0
    · exact .inr h0
    · refine .inl (h.kept hg ?_)
      rw [← h0]
      cases e : blk v with
      | none => exact .inl rfl
      | some k => exact .inr (fun e2 => hne k e e2.symm)
  · exact .inr h
theorem Fresh3.next (h : Fresh3 w base v l) (hb : Below w.heap.size w w') : Fresh3 w' base v l := by
  rcases h with h | h
  · exact .inl (h.next hb)
  · exact .inr h
theorem Fresh3.drew (h : Fresh3 w base v l) : Fresh3 w.drew base v l := h
end
theorem take_three {l : List Int} {k : Nat} (h : k * 3 + 2 < l.length) : l.take ((k + 1) * 3) = l.take (k * 3) ++ [geti l (k * 3), geti l (k * 3 + 1), geti l (k * 3 + 2)] := by
  rw [show (k + 1) * 3 = k * 3 + 1 + 1 + 1 by omega, take_snoc (by omega), take_snoc (by omega), take_snoc (by omega)]
  simp
theorem addr_at (ad : Addr) (j i : Nat) : (⟨(ad.add j).block, (ad.add j).off + (i + 1), none⟩ : Addr) = ad.add (j + (i + 1)) := by
  unfold Addr.add
  by_cases hj : j = 0
  · subst hj; simp
  · simp [hj]; omega
theorem Ints.three {w w' : World} {B n : Nat} {A : Option Addr} {l : List Int} (h : Ints w B A (n * 3) l) (hb : ∀ p : Addr, p.block < B → w'.cell? p = w.cell? p) {k : Nat} (hk : k < n) : ∃ ad, A = some ad ∧ ad.block < B ∧
    w'.cell? (ad.add (k * 3)) = some (.int .i64 (geti l (k * 3))) ∧ w'.cell? ⟨(ad.add (k * 3)).block, (ad.add (k * 3)).off + 1, none⟩ = some (.int .i64 (geti l (k * 3 + 1))) ∧ w'.cell? ⟨(ad.add (k * 3)).block, (ad.add (k * 3)).off + 2, none⟩ = some (.int .i64 (geti l (k * 3 + 2))) := by
  obtain ⟨ad, e, hbk, hc⟩ := h.2 (by omega)
  refine ⟨ad, e, hbk, ?_, ?_, ?_⟩
  · rw [hb _ (by rw [block_of_add]; exact hbk)]; exact hc _ (by omega)
  · rw [addr_at ad (k * 3) 0, hb _ (by rw [block_of_add]; exact hbk)]; exact hc _ (by omega)
  · rw [addr_at ad (k * 3) 1, hb _ (by rw [block_of_add]; exact hbk)]; exact hc _ (by omega)
/-- What a call leaves that returns a new row of rules. -/
def RetRow3 (w : World) (l : List Int) (e : Ending) (w' : World) : Prop := ∃ r, e = .returned r ∧ Fresh3 w' w.heap.size r l ∧ Below w.heap.size w w'
def RetOwn3 (w : World) (l : List Int) (e : Ending) (w' : World) : Prop := ∃ r, e = .returned r ∧ Own3 w' w.heap.size r l ∧ Below w.heap.size w w'
theorem made_rules (n : Nat) : (madeCells (Value.agg #[.int .i64 0, .int .i64 0, .int .i64 0]).cells (n * 3)).toList = (List.replicate (n * 3) (0 : Int)).map (Value.int .i64) := by
  apply List.ext_getElem
  · simp [madeCells]
  · intro j h1 h2
    have h3 : j % 3 = 0 ∨ j % 3 = 1 ∨ j % 3 = 2 := by omega
    simp only [madeCells, Value.cells, Array.toList_map, Array.toList_range, List.getElem_map, List.getElem_range, List.getElem_replicate]
    rcases h3 with h | h | h <;> simp [h]
theorem Try.infoR : (Try.prog.info? 42).map (fun i => (i.zero, i.size, i.bytes)) = some (some (.agg #[.int .i64 0, .int .i64 0, .int .i64 0]), 3, 24) := by kernel_rfl
theorem toRule_any (a b c : Int) (w : World) :
    Calls Try.prog 31 #[.agg #[.int .i64 a, .int .i64 b, .int .i64 c]] w fun e w' => e = .returned (.agg #[.int .i64 a, .int .i64 b, .int .i64 c]) ∧ Below w.heap.size w w' := by
  go_enter Try.func31, Try.ntmps31
  go_wp2
  exact bodyPost_ret (v := .agg #[.int .i64 a, .int .i64 b, .int .i64 c]) (by simp [results, Try.results31, go_sem]) rfl ⟨rfl, by
    refine (((Below.refl _ _).alloc (Nat.le_refl _) _).alloc ?_ _).alloc ?_ _ <;> first | (simp; done) | (simp; omega)⟩
theorem eqRule_any (a b c a' b' c' : Int) (w : World) :
    Calls Try.prog 41 #[.agg #[.int .i64 a, .int .i64 b, .int .i64 c], .agg #[.int .i64 a', .int .i64 b', .int .i64 c']] w fun e w' => e = .returned (.bool (decide (a = a' ∧ b = b' ∧ c = c'))) ∧ Below w.heap.size w w' := by
  have hB : ∀ o1 o2, Below w.heap.size w ((w.alloc o1).alloc o2) := fun o1 o2 => by refine ((Below.refl _ _).alloc (Nat.le_refl _) _).alloc ?_ _; simp
  by_cases h1 : a = a'
  · have e1 : (a != a') = false := by simp [h1]
    by_cases h2 : b = b'
    · have e2 : (b != b') = false := by simp [h2]
      by_cases h3 : c = c'
      · have e3 : (c != c') = false := by simp [h3]
        have HF : Hid (decide (a = a' ∧ b = b' ∧ c = c') = true) := Lib.hid (decide_eq_true ⟨h1, h2, h3⟩)
        clear h1 h2 h3
        go_enter Try.func41, Try.ntmps41
        go_wp2
        go_ret
        exact ⟨ret_bool HF.out.symm, hB _ _⟩
      · have e3 : (c != c') = true := by simp [h3]
        have HF : Hid (decide (a = a' ∧ b = b' ∧ c = c') = false) := Lib.hid (decide_eq_false (fun h => h3 h.2.2))
        clear h1 h2 h3
        go_enter Try.func41, Try.ntmps41
        go_wp2
        go_ret
        exact ⟨ret_bool HF.out.symm, hB _ _⟩
    · have e2 : (b != b') = true := by simp [h2]
      have HF : Hid (decide (a = a' ∧ b = b' ∧ c = c') = false) := Lib.hid (decide_eq_false (fun h => h2 h.2.1))
      clear h1 h2
      go_enter Try.func41, Try.ntmps41
      go_wp2
      go_ret
      exact ⟨ret_bool HF.out.symm, hB _ _⟩
  · have e1 : (a != a') = true := by simp [h1]
    have HF : Hid (decide (a = a' ∧ b = b' ∧ c = c') = false) := Lib.hid (decide_eq_false (fun h => h1 h.1))
    clear h1
    go_enter Try.func41, Try.ntmps41
    go_wp2
    go_ret
    exact ⟨ret_bool HF.out.symm, hB _ _⟩
theorem szRuleS_any (A : Option Addr) (n c : Nat) (left : Int) (w : World) (h0 : 0 ≤ left) (h1 : left ≤ 1048576) (hn : n ≤ c) (hc : c ≤ maxLen) :
    Calls Try.prog 14 #[.slice A n c, .int .i64 left] w fun e w' => e = .returned (.int .i64 (if left < (n : Int) then -1 else left - n)) ∧ w = w' := by
  unfold maxLen at hc
  by_cases hl : left < (n : Int)
  · rw [if_pos hl]
    have e1 : left - (n : Int) < 0 := by omega
    go_enter Try.func14, Try.ntmps14
    go_wp2
    go_ret
    exact ⟨rfl, rfl⟩
  · rw [if_neg hl]
    have e1 : decide (left - (n : Int) < 0) = false := decide_eq_false (by omega)
    go_enter Try.func14, Try.ntmps14
    go_wp2
    go_ret
    exact ⟨rfl, rfl⟩
theorem toRuleS_any (v : Value) (l : List Int) (w : World) (h : Sl3 w v l) (hn : l.length ≤ 4000000) :
    Calls Try.prog 18 #[v] w (RetRow3 w l) := by
  obtain ⟨i0, hi0, hz0, hz1, hz2⟩ := info_parts Try.infoR
  obtain ⟨A, n, c, rfl, hlc, hcm, hr⟩ := h
  have HL := Lib.hid hr.1
  have hn3 : n * 3 ≤ 4000000 := by have := HL.out; omega
  have HR := Lib.hid hr
  clear hr
  go_enter Try.func18, Try.ntmps18
  go_wp2_with (at_make; refine wpList_make_full _ rfl _ _ 26 rfl w.heap.size 42 i0 _ 3 Try.underlying26 hi0 hz0 hz1 _ _ _ _ n rfl rfl rfl rfl (by rw [hz2]; omega) (by unfold maxLen; omega) (Nat.le_refl _) ?_; intro w1 hown hg)
  have hb1 : Below w.heap.size w w1 := (Below.refl _ _).grown hg (Nat.le_refl _) (by simp)
  have HO : Hid (Own3 w1 w.heap.size (.slice (some ⟨w.heap.size, 0, none⟩) n n) (l.take 0 ++ List.replicate (l.length - 0) 0)) := Lib.hid (by
    rw [HL.out]
    refine ⟨n, by simp, ?_⟩
    rw [made_rules] at hown
    simpa using hown)
  clear hown hg hi0 hz0 hz1 hz2
  go_loopw [4] (fun i wr => ∃ k : Nat, k ≤ n ∧ i = .int .i64 k ∧ Hid (Own3 wr w.heap.size (.slice (some ⟨w.heap.size, 0, none⟩) n n) (l.take (k * 3) ++ List.replicate (l.length - k * 3) 0)) ∧ Below w.heap.size w wr) (fun i _ => n - (intOf i).toNat)
  case atStart => exact ⟨0, Nat.zero_le _, rfl, HO, hb1⟩
  case round =>
    clear HO
    obtain ⟨k, hk, rfl, HK, hb⟩ := hrel
    by_cases hlt : k < n
    · obtain ⟨ad, rfl, hbk, hc0, hc1, hc2⟩ := HR.out.three (w' := wr) (fun p hp => hb.cell hp) hlt
      go_wp2_with fail
      refine (toRule_any _ _ _ _).mono ?_
      rintro e w2 ⟨rfl, hb2⟩
      have HK2 := Lib.hid (HK.out.next hb2)
      have hB2 := below_next hb hb2
      have hlen := HK.out.len
      have q0 := HK2.out.cellAt (j := k * 3) (by omega)
      have q1 := HK2.out.cellAt (j := k * 3 + 1) (by omega)
      have q2 := HK2.out.cellAt (j := k * 3 + 2) (by omega)
      have f0 := HK2.out.free (k * 3)
      have f1 := HK2.out.free (k * 3 + 1)
      have f2 := HK2.out.free (k * 3 + 2)
      have hst := HK2.out.stored3 (k * 3) (geti l (k * 3)) (geti l (k * 3 + 1)) (geti l (k * 3 + 2))
      have hll := HL.out
      rw [set_fill l _ (by omega), set_fill l _ (by omega), set_fill l _ (by omega), show k * 3 + 1 + 1 + 1 = (k + 1) * 3 by omega] at hst
      have HST := Lib.hid hst
      clear hc0 hc1 hc2 hlen hst hll
      go_wp2_with fail
      go_roundw
      case rel => exact ⟨k + 1, by omega, by go_num, HST.out.1, hB2.grown HST.out.2 hB2.size (by simp)⟩
      case measure => simp [intOf] <;> omega
    · obtain rfl : k = n := by omega
      have HF : Hid (Own3 wr w.heap.size (.slice (some ⟨w.heap.size, 0, none⟩) k k) l) := Lib.hid (by
        have := HK.out
        rw [← HL.out] at this
        simpa using this)
      go_wp2
      go_ret
      exact ⟨_, rfl, .inl HF.out, hb⟩
set_option maxHeartbeats 1000000 in
theorem eqRuleS_any (v1 v2 : Value) (l1 l2 : List Int) (w : World) (h1 : Sl3 w v1 l1) (h2 : Sl3 w v2 l2) :
    Calls Try.prog 26 #[v1, v2] w fun e w' => e = .returned (.bool (decide (l1 = l2))) ∧ Below w.heap.size w w' := by
  obtain ⟨A1, n1, c1, rfl, hlc1, hcm1, hr1⟩ := h1
  obtain ⟨A2, n2, c2, rfl, hlc2, hcm2, hr2⟩ := h2
  have HL1 := Lib.hid hr1.1
  have HL2 := Lib.hid hr2.1
  have HR1 := Lib.hid hr1
  have HR2 := Lib.hid hr2
  clear hr1 hr2
  unfold maxLen at hcm1 hcm2
  by_cases hl : n1 = n2
  · subst hl
    have hlb : ((n1 : Int) != (n1 : Int)) = false := by simp
    have hlb2 : (n1 != n1) = false := by simp
    go_enter Try.func26, Try.ntmps26
    go_wp2
    go_loopw [5] (fun i wr => ∃ k : Nat, k ≤ n1 ∧ i = .int .i64 k ∧ Hid (l1.take (k * 3) = l2.take (k * 3)) ∧ Below w.heap.size w wr) (fun i _ => n1 - (intOf i).toNat)
    case atStart => exact ⟨0, Nat.zero_le _, rfl, rfl, Below.refl _ _⟩
    case round =>
      obtain ⟨k, hk, rfl, HK, hb⟩ := hrel
      by_cases hlt : k < n1
      · obtain ⟨a1, rfl, hb1, p0, p1, p2⟩ := HR1.out.three (w' := wr) (fun p hp => hb.cell hp) hlt
        obtain ⟨a2, rfl, hb2, q0, q1, q2⟩ := HR2.out.three (w' := wr) (fun p hp => hb.cell hp) hlt
        have hi0 : (0 : Int) ≤ (k : Int) := by omega
        have hi1 : (k : Int) < (n1 : Int) := by omega
        have hlb1 : k * 3 + 2 < l1.length := by have := HL1.out; omega
        have hlb2 : k * 3 + 2 < l2.length := by have := HL2.out; omega
        have t1 : l1.take ((k + 1) * 3) = l1.take (k * 3) ++ [geti l1 (k * 3), geti l1 (k * 3 + 1), geti l1 (k * 3 + 2)] := take_three (by omega)
        have t2 : l2.take ((k + 1) * 3) = l2.take (k * 3) ++ [geti l2 (k * 3), geti l2 (k * 3 + 1), geti l2 (k * 3 + 2)] := take_three (by omega)
        by_cases he : geti l1 (k * 3) = geti l2 (k * 3) ∧ geti l1 (k * 3 + 1) = geti l2 (k * 3 + 1) ∧ geti l1 (k * 3 + 2) = geti l2 (k * 3 + 2)
        · have HE : Hid (decide (geti l1 (k * 3) = geti l2 (k * 3) ∧ geti l1 (k * 3 + 1) = geti l2 (k * 3 + 1) ∧ geti l1 (k * 3 + 2) = geti l2 (k * 3 + 2)) = true) := Lib.hid (decide_eq_true he)
          have HN : Hid (l1.take ((k + 1) * 3) = l2.take ((k + 1) * 3)) := Lib.hid (by rw [t1, t2, HK.out, he.1, he.2.1, he.2.2])
          clear he t1 t2
          go_wp2
          go_region_with (go_at_call 41; refine (eqRule_any _ _ _ _ _ _ _).mono ?_; rintro e w2 ⟨rfl, hb3⟩; rw [HE.out])
          all_goals have hB3 : Below w.heap.size w w2 := below_next hb.drew hb3
          all_goals go_wp2
          all_goals go_roundw
          all_goals first
            | exact ⟨k + 1, by omega, by go_num, HN, hB3⟩
            | (simp [intOf] <;> omega)
        · have HE : Hid (decide (geti l1 (k * 3) = geti l2 (k * 3) ∧ geti l1 (k * 3 + 1) = geti l2 (k * 3 + 1) ∧ geti l1 (k * 3 + 2) = geti l2 (k * 3 + 2)) = false) := Lib.hid (decide_eq_false he)
          have HN : Hid (¬ l1 = l2) := Lib.hid (fun e => he (by rw [e]; exact ⟨rfl, rfl, rfl⟩))
          clear he t1 t2
          go_wp2
          go_region_with (go_at_call 41; refine (eqRule_any _ _ _ _ _ _ _).mono ?_; rintro e w2 ⟨rfl, hb3⟩; rw [HE.out])
          all_goals have hB3 : Below w.heap.size w w2 := below_next hb.drew hb3
          all_goals go_wp2
          all_goals go_ret
          all_goals exact ⟨ret_bool (decide_eq_false HN.out).symm, hB3⟩
      · have HN : Hid (l1 = l2) := Lib.hid (by
          have := HK.out
          have e1 := HL1.out
          have e2 := HL2.out
          rw [List.take_of_length_le (by omega), List.take_of_length_le (by omega)] at this
          exact this)
        go_wp2
        go_ret
        exact ⟨ret_bool (decide_eq_true HN.out).symm, hb⟩
  · have hlb : ((n1 : Int) != (n2 : Int)) = true := by simp; omega
    have hlb2 : (n1 != n2) = true := by simpa using hl
    have HN : Hid (¬ l1 = l2) := Lib.hid (fun e => by have e1 := HL1.out; have e2 := HL2.out; rw [e] at e1; omega)
    clear hl
    go_enter Try.func26, Try.ntmps26
    go_wp2
    go_ret
    exact ⟨ret_bool (decide_eq_false HN.out).symm, Below.refl _ _⟩
theorem markRuleS_own (v : Value) (l : List Int) (base : Nat) (k0 : Int) (w : World) (h : Own3 w base v l) (hn : l.length ≤ 4000000) (h00 : 0 ≤ k0) (hk : k0 ≤ 1000000000) :
    Calls Try.prog 27 #[v, .int .i64 k0] w fun e w' => e = .returned (.int .i64 (k0 + (l.length : Int))) ∧ Own3 w' base v (marks k0 l.length) ∧ w.grownBy w' v.ownBlock := by
  by_cases h0 : l.length = 0
  · have HO := Lib.hid h
    obtain ⟨A, n, c, rfl, _, _, hr⟩ := h.sl
    obtain rfl : n = 0 := by have := hr.1; omega
    have hl : l = [] := List.eq_nil_of_length_eq_zero h0
    subst hl
    clear h h0 hr
    go_enter Try.func27, Try.ntmps27
    go_wp2
    refine wp_loop_rounds 1 ?_
    rw [rounds_succ]
    go_wp2
    go_ret
    exact ⟨by simp, HO.out, World.grownBy.refl _ _⟩
  · obtain ⟨g, n, cap, rfl, hbg, hgw, hl3⟩ := h.head (by omega)
    have HO := Lib.hid h
    have HL := Lib.hid hl3
    have hn3 : n * 3 ≤ 4000000 := by omega
    clear h h0 hl3
    go_enter Try.func27, Try.ntmps27
    go_wp2
    go_loopw [1, 5] (fun t i wr => ∃ j : Nat, j ≤ n ∧ i = .int .i64 j ∧ t = .int .i64 (k0 + ((j * 3 : Nat) : Int)) ∧ Hid (Own3 wr base (.slice (some ⟨g, 0, none⟩) n cap) (marks k0 (j * 3) ++ l.drop (j * 3))) ∧ w.grownBy wr (some g)) (fun _ i _ => n - (intOf i).toNat)
    case atStart => exact ⟨0, Nat.zero_le _, rfl, by simp, Lib.hid (by simpa [marks] using HO.out), World.grownBy.refl _ _⟩
    case round =>
      clear HO
      obtain ⟨j, hj, rfl, rfl, HJ, hg⟩ := hrel
      by_cases hlt : j < n
      · have hll := HL.out
        have hlen := HJ.out.len
        have c0 := HJ.out.cellAt (j := j * 3) (by omega)
        have c1 := HJ.out.cellAt (j := j * 3 + 1) (by omega)
        have c2 := HJ.out.cellAt (j := j * 3 + 2) (by omega)
        have f0 := HJ.out.free (j * 3)
        have f1 := HJ.out.free (j * 3 + 1)
        have f2 := HJ.out.free (j * 3 + 2)
        have hst := HJ.out.stored3 (j * 3) (k0 + ((j * 3 : Nat) : Int)) (k0 + ((j * 3 + 1 : Nat) : Int)) (k0 + ((j * 3 + 1 + 1 : Nat) : Int))
        rw [marks_set k0 _ l (by omega), marks_set k0 _ l (by omega), marks_set k0 _ l (by omega), show j * 3 + 1 + 1 + 1 = (j + 1) * 3 by omega] at hst
        rw [show k0 + ((j * 3 + 1 : Nat) : Int) = k0 + ((j * 3 : Nat) : Int) + 1 by omega, show k0 + ((j * 3 + 1 + 1 : Nat) : Int) = k0 + ((j * 3 : Nat) : Int) + 1 + 1 by omega] at hst
        have HS := Lib.hid hst
        have hkk : Hid (k0 + ((j * 3 : Nat) : Int) + 1 + 1 + 1 = k0 + (((j + 1) * 3 : Nat) : Int)) := Lib.hid (by omega)
        have hb1 : 0 ≤ k0 + ((j * 3 : Nat) : Int) := by omega
        have hb2 : k0 + ((j * 3 : Nat) : Int) ≤ 1004000000 := by omega
        generalize hK : k0 + ((j * 3 : Nat) : Int) = K at *
        clear hst hlen hll hK
        go_wp2
        go_roundw
        case rel => exact ⟨j + 1, by omega, by go_num, by rw [← hkk.out], HS.out.1, hg.trans HS.out.2⟩
        case measure => simp [intOf] <;> omega
      · obtain rfl : j = n := by omega
        have HF : Hid (Own3 wr base (.slice (some ⟨g, 0, none⟩) j cap) (marks k0 l.length)) := Lib.hid (by
          have := HJ.out
          rw [← HL.out, List.drop_eq_nil_of_le (Nat.le_refl _), List.append_nil] at this
          exact this)
        go_wp2
        go_ret
        exact ⟨ret_int (by rw [HL.out]), HF.out, hg⟩
theorem markRuleS_any (v : Value) (l : List Int) (base : Nat) (k0 : Int) (w : World) (h : Fresh3 w base v l) (hn : l.length ≤ 4000000) (h00 : 0 ≤ k0) (hk : k0 ≤ 1000000000) :
    Calls Try.prog 27 #[v, .int .i64 k0] w fun e w' => e = .returned (.int .i64 (k0 + (l.length : Int))) ∧ Fresh3 w' base v (marks k0 l.length) ∧ w.grownBy w' (blk v) := by
  have hemp : ∀ A, Calls Try.prog 27 #[.slice A 0 0, .int .i64 k0] w fun e w' => e = .returned (.int .i64 (k0 + (([] : List Int).length : Int))) ∧ Fresh3 w' base (.slice A 0 0) (marks k0 ([] : List Int).length) ∧ w.grownBy w' (blk (.slice A 0 0)) := by
    intro A
    go_enter Try.func27, Try.ntmps27
    go_wp2
    refine wp_loop_rounds 1 ?_
    rw [rounds_succ]
    go_wp2
    go_ret
    exact ⟨by simp, .inr ⟨rfl, A, rfl⟩, World.grownBy.refl _ _⟩
  rcases h with h | ⟨rfl, A, rfl⟩
  · rcases h.room with ⟨rfl, A, rfl⟩ | h0
    · exact hemp A
    · rw [h0]
      exact (markRuleS_own v l base k0 w h hn h00 hk).mono fun _ _ ⟨a, b, c⟩ => ⟨a, .inl b, c⟩
  · exact hemp A
theorem heldRuleS_any (v : Value) (m : Nat) (k0 : Int) (w : World) (h : Sl3 w v (marks k0 m)) (hn : m ≤ 4000000) (h00 : 0 ≤ k0) (hk : k0 ≤ 1000000000) :
    Calls Try.prog 28 #[v, .int .i64 k0] w fun e w' => e = .returned (.int .i64 (k0 + (m : Int))) ∧ w = w' := by
  obtain ⟨A, n, c, rfl, hlc, hcm, hr⟩ := h
  have HL : Hid (m = n * 3) := Lib.hid (by have := hr.1; rw [marks_len] at this; exact this)
  have hn3 : n * 3 ≤ 4000000 := by have := HL.out; omega
  have HR := Lib.hid hr
  clear hr
  unfold maxLen at hcm
  go_enter Try.func28, Try.ntmps28
  go_wp2
  go_loop [1, 5] (fun t i => ∃ j : Nat, j ≤ n ∧ i = .int .i64 j ∧ t = .int .i64 (k0 + ((j * 3 : Nat) : Int))) (fun _ i => n - (intOf i).toNat)
  case atStart => exact ⟨0, Nat.zero_le _, rfl, by simp⟩
  case round =>
    obtain ⟨j, hj, rfl, rfl⟩ := hrel
    by_cases hlt : j < n
    · obtain ⟨ad, rfl, hb1, p0, p1, p2⟩ := HR.out.three (w' := w) (fun p hp => rfl) hlt
      have hll := HL.out
      rw [geti_marks (by omega)] at p0 p1 p2
      rw [show k0 + ((j * 3 + 1 : Nat) : Int) = k0 + ((j * 3 : Nat) : Int) + 1 by omega] at p1
      rw [show k0 + ((j * 3 + 2 : Nat) : Int) = k0 + ((j * 3 : Nat) : Int) + 1 + 1 by omega] at p2
      have hkk : Hid (k0 + ((j * 3 : Nat) : Int) + 1 + 1 + 1 = k0 + (((j + 1) * 3 : Nat) : Int)) := Lib.hid (by omega)
      have hb1 : 0 ≤ k0 + ((j * 3 : Nat) : Int) := by omega
      have hb2 : k0 + ((j * 3 : Nat) : Int) ≤ 1004000000 := by omega
      generalize hK : k0 + ((j * 3 : Nat) : Int) = K at *
      clear hll hK
      go_wp2
      go_round
      case rel => exact ⟨j + 1, by omega, by go_num, by rw [← hkk.out]⟩
      case measure => simp [intOf] <;> omega
    · obtain rfl : j = n := by omega
      go_wp2
      go_ret
      exact ⟨ret_int (by rw [HL.out]; omega), rfl⟩
end Go.Proofs.Ythijhpkkijjlfaa
