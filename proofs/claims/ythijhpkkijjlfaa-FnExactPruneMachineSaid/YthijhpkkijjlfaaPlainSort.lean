/- Sorting by insertion: what one round leaves; a sorted permutation is the sorted list. No program here; no condition. -/
import Derived.Test.YthijhpkkijjlfaaPlain
import Derived.Test.YthijhpkkijjlfaaWords
namespace Go.Proofs.Ythijhpkkijjlfaa
/-- In ascending order. -/
def Asc (l : List Int) : Prop := l.Pairwise (fun x y => x ≤ y)
/-- The sorted list. -/
def sortL (l : List Int) : List Int := l.mergeSort fun x y => decide (x ≤ y)
theorem sortL_perm (l : List Int) : (sortL l).Perm l := List.mergeSort_perm l _
theorem sortL_len (l : List Int) : (sortL l).length = l.length := (sortL_perm l).length_eq
theorem sortL_asc (l : List Int) : Asc (sortL l) := by
  have h := List.pairwise_mergeSort (le := fun x y : Int => decide (x ≤ y)) (fun a b c h1 h2 => by simp only [decide_eq_true_eq] at h1 h2 ⊢; omega) (fun a b => by simp only [Bool.or_eq_true, decide_eq_true_eq]; omega) l
  exact h.imp (fun h => by simpa using h)
theorem asc_uniq {l m : List Int} (hl : Asc l) (hm : Asc m) (h : l.Perm m) : l = m :=
  List.Perm.eq_of_pairwise (le := fun x y => x ≤ y) (fun a b _ _ h1 h2 => by omega) hl hm h
theorem sortL_of {l m : List Int} (hm : Asc m) (h : m.Perm l) : m = sortL l := asc_uniq hm (sortL_asc l) (h.trans (sortL_perm l).symm)
/-- x stands at a. -/
def insAt (l : List Int) (a : Nat) (x : Int) : List Int := l.take a ++ x :: l.drop a
theorem insAt_perm (l : List Int) (a : Nat) (x : Int) : (insAt l a x).Perm (x :: l) := by
  unfold insAt
  refine List.perm_middle.trans (List.Perm.cons x ?_)
  rw [List.take_append_drop]
theorem asc_at {l : List Int} (h : Asc l) {i j : Nat} (hij : i ≤ j) (hj : j < l.length) : geti l i ≤ geti l j := by
  rcases Nat.lt_or_ge i j with h1 | h1
  · rw [geti_eq (by omega), geti_eq hj]
    exact List.pairwise_iff_getElem.1 h i j (by omega) hj h1
  · obtain rfl : i = j := by omega
    omega
theorem insAt_asc {l : List Int} (h : Asc l) {a : Nat} (ha : a ≤ l.length) {x : Int} (hlo : a = 0 ∨ geti l (a - 1) ≤ x) (hhi : ∀ j, a ≤ j → j < l.length → x < geti l j) : Asc (insAt l a x) := by
  unfold Asc insAt
  rw [List.pairwise_append]
  refine ⟨List.Pairwise.sublist (List.take_sublist _ _) h, ?_, ?_⟩
  · rw [List.pairwise_cons]
    refine ⟨fun y hy => ?_, List.Pairwise.sublist (List.drop_sublist _ _) h⟩
    obtain ⟨j, hj, rfl⟩ := List.getElem_of_mem hy
    rw [List.length_drop] at hj
    have := hhi (a + j) (by omega) (by omega)
    rw [geti_eq (by omega)] at this
    rw [List.getElem_drop]
    omega
  · intro y hy z hz
    obtain ⟨i, hi, rfl⟩ := List.getElem_of_mem hy
    rw [List.length_take] at hi
    have hya : l[i]'(by omega) ≤ x := by
      rcases hlo with h0 | h0
      · omega
      · have := asc_at h (i := i) (j := a - 1) (by omega) (by omega)
        rw [geti_eq (by omega)] at this
        omega
    rw [List.getElem_take]
    rcases List.mem_cons.1 hz with rfl | hz
    · exact hya
    · obtain ⟨j, hj, rfl⟩ := List.getElem_of_mem hz
      rw [List.length_drop] at hj
      have := hhi (a + j) (by omega) (by omega)
      rw [geti_eq (by omega)] at this
      rw [List.getElem_drop]
      omega
/-- The row while the elements from k on are moved up. -/
def upS (l : List Int) (k : Nat) : List Int := (l ++ [0]).take (k + 1) ++ l.drop k
theorem upS_start (l : List Int) : upS l l.length = l ++ [0] := by
  unfold upS
  rw [List.take_of_length_le (by simp), List.drop_eq_nil_of_le (Nat.le_refl _), List.append_nil]
theorem upS_len {l : List Int} {k : Nat} (hk : k ≤ l.length) : (upS l k).length = l.length + 1 := by
  unfold upS
  rw [List.length_append, List.length_take, List.length_append, List.length_drop, List.length_singleton]; omega
theorem upS_at {l : List Int} {k : Nat} (hk : k < l.length) : geti (upS l (k + 1)) k = geti l k := by
  unfold upS
  have h1 : k < ((l ++ [0]).take (k + 1 + 1) ++ l.drop (k + 1)).length := by
    rw [List.length_append, List.length_take, List.length_append, List.length_singleton, List.length_drop]; omega
  rw [geti_eq h1, geti_eq hk, List.getElem_append_left (by rw [List.length_take, List.length_append, List.length_singleton]; omega), List.getElem_take, List.getElem_append_left hk]
theorem upS_step {l : List Int} {k : Nat} (hk : k < l.length) : (upS l (k + 1)).set (k + 1) (geti l k) = upS l k := by
  unfold upS
  have e1 : ((l ++ [0]).take (k + 1 + 1)).length = k + 2 := by rw [List.length_take, List.length_append, List.length_singleton]; omega
  rw [List.set_append, if_pos (by omega), List.take_succ_eq_append_getElem (i := k + 1) (by rw [List.length_append, List.length_singleton]; omega)]
  have e2 : ((l ++ [0]).take (k + 1)).length = k + 1 := by rw [List.length_take, List.length_append, List.length_singleton]; omega
  rw [List.set_append, if_neg (by omega), e2, Nat.sub_self, List.set_cons_zero, List.drop_eq_getElem_cons hk, geti_eq hk, List.append_assoc]
  rfl
theorem upS_end {l : List Int} {a : Nat} (ha : a ≤ l.length) (x : Int) : (upS l a).set a x = insAt l a x := by
  unfold upS insAt
  have e1 : ((l ++ [0]).take (a + 1)).length = a + 1 := by rw [List.length_take, List.length_append, List.length_singleton]; omega
  rw [List.set_append, if_pos (by omega), List.take_succ_eq_append_getElem (i := a) (by rw [List.length_append, List.length_singleton]; omega)]
  have e2 : ((l ++ [0]).take a).length = a := by rw [List.length_take, List.length_append, List.length_singleton]; omega
  rw [List.set_append, if_neg (by omega), e2, Nat.sub_self, List.set_cons_zero, List.take_append_of_le_length ha, List.append_assoc]
  rfl
end Go.Proofs.Ythijhpkkijjlfaa
