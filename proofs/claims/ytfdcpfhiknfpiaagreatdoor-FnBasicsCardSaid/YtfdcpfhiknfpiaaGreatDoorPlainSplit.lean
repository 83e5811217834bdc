/- Plain mathematics: a text cut at a byte, and joined again. No program in sight. -/
import Derived.Lib.Split
import Derived.Lib.Join
namespace Go.Proofs.YtfdcpfhiknfpiaaGreatDoor
open Go.Lib

/-- The parts of a text between the byte c. -/
def splitC (c : UInt8) : List UInt8 → List (List UInt8)
  | [] => [[]]
  | x :: l => if x = c then [] :: splitC c l else match splitC c l with
    | [] => [[x]]
    | p :: ps => (x :: p) :: ps
theorem splitC_nil (c : UInt8) : splitC c [] = [[]] := rfl
theorem splitC_hit (c : UInt8) (l : List UInt8) : splitC c (c :: l) = [] :: splitC c l := by rw [splitC, if_pos rfl]
theorem splitC_ne (c : UInt8) (l : List UInt8) : ∃ p ps, splitC c l = p :: ps := by
  cases l with
  | nil => exact ⟨_, _, rfl⟩
  | cons x l =>
    rw [splitC]
    split
    · exact ⟨_, _, rfl⟩
    · split
      · exact ⟨_, _, rfl⟩
      · exact ⟨_, _, rfl⟩
theorem splitC_miss {c x : UInt8} {l p : List UInt8} {ps : List (List UInt8)} (h : x ≠ c) (e : splitC c l = p :: ps) : splitC c (x :: l) = (x :: p) :: ps := by
  rw [splitC, if_neg h, e]
theorem splitC_all (c : UInt8) (l : List UInt8) (h : ∀ x ∈ l, x ≠ c) : splitC c l = [l] := by
  induction l with
  | nil => rfl
  | cons x l ih => rw [splitC_miss (h x (by simp)) (ih (fun y hy => h y (by simp [hy])))]
theorem splitC_step (c : UInt8) (a l : List UInt8) (h : ∀ x ∈ a, x ≠ c) : splitC c (a ++ c :: l) = a :: splitC c l := by
  induction a with
  | nil => exact splitC_hit c l
  | cons x a ih => rw [List.cons_append, splitC_miss (h x (by simp)) (ih (fun y hy => h y (by simp [hy])))]
theorem index_one (x c : UInt8) (l : List UInt8) : index (x :: l) [c] = if x = c then 0 else if index l [c] == -1 then -1 else index l [c] + 1 := by
  by_cases h : x = c
  · subst h
    rw [if_pos rfl]
    exact index_first (i := 0) (by simp) (by simp [occAt, List.isPrefixOf]) (fun j hj => by omega)
  · rw [if_neg h]
    have hx : ∀ j, occAt (x :: l) [c] (j + 1) = occAt l [c] j := fun j => by simp [occAt]
    have h0 : occAt (x :: l) [c] 0 = false := by
      have : ¬ c = x := fun e => h e.symm
      simp [occAt, List.isPrefixOf, this]
    rcases index_spec l [c] with ⟨e, hn⟩ | ⟨i, e, hi, ho, hno⟩
    · rw [e, if_pos (by decide)]
      refine index_none (fun j hj => ?_)
      cases j with
      | zero => exact h0
      | succ j => rw [hx]; exact hn j (by simpa using hj)
    · rw [e, if_neg (by simp)]
      have := index_first (s := x :: l) (sub := [c]) (i := i + 1) (by simpa using hi) (by rw [hx]; exact ho) (fun j hj => by
        cases j with
        | zero => exact h0
        | succ j => rw [hx]; exact hno j (by omega))
      rw [this]; rfl
theorem splitK_C (c : UInt8) (l : List UInt8) : splitK [c] 0 (count l [c]) l = splitC c l := by
  induction l with
  | nil =>
    have e : index [] [c] = -1 := index_none (fun j _ => by simp [occAt])
    rw [count_miss e]; rfl
  | cons x l ih =>
    have hi := index_one x c l
    by_cases h : x = c
    · subst h
      rw [if_pos rfl] at hi
      rw [count_hit (i := 0) (by simp) hi, splitC_hit, Nat.add_comm, splitK, if_neg (by rw [hi]; decide), hi]
      rw [← ih]
      rfl
    · rw [if_neg h] at hi
      rcases index_spec l [c] with ⟨e, hn⟩ | ⟨i, e, hil, ho, hno⟩
      · rw [e, if_pos (by decide)] at hi
        rw [count_miss hi]
        rw [count_miss e] at ih
        rw [splitC_miss h ih.symm]; rfl
      · rw [e, if_neg (by simp)] at hi
        have hi2 : index (x :: l) [c] = ((i + 1 : Nat) : Int) := by rw [hi]; rfl
        rw [count_hit (by simp) hi2, Nat.add_comm, splitK, if_neg (by rw [hi2]; simp; omega), hi2]
        rw [count_hit (by simp) e, Nat.add_comm, splitK, if_neg (by rw [e]; simp), e] at ih
        simp only [List.length_singleton, Nat.add_zero, Int.toNat_natCast] at ih ⊢
        rw [List.drop_succ_cons, List.take_succ_cons]
        exact (splitC_miss h ih.symm).symm
theorem join_splitC (c : UInt8) (l : List UInt8) : join (splitC c l) [c] = l := by
  induction l with
  | nil => rfl
  | cons x l ih =>
    obtain ⟨p, ps, e⟩ := splitC_ne c l
    rw [e] at ih
    by_cases h : x = c
    · subst h
      rw [splitC_hit, e]
      unfold join at ih ⊢
      rw [List.intercalate_cons_cons, ih]; rfl
    · rw [splitC_miss h e]
      cases ps with
      | nil => unfold join at ih ⊢; simp [List.intercalate] at ih ⊢; exact ih
      | cons q qs =>
        unfold join at ih ⊢
        rw [List.intercalate_cons_cons] at ih ⊢
        rw [← ih]; simp
theorem splitC_len (c : UInt8) (l : List UInt8) : (splitC c l).length ≤ l.length + 1 := by
  induction l with
  | nil => simp [splitC_nil]
  | cons x l ih =>
    obtain ⟨p, ps, e⟩ := splitC_ne c l
    by_cases h : x = c
    · subst h; rw [splitC_hit]; simp; omega
    · rw [splitC_miss h e]; rw [e] at ih; simp at ih ⊢; omega
/-- The text behind 'from', where no c stands from 'from' to i, and at i one. -/
theorem splitC_at (c : UInt8) (l : List UInt8) (f i : Nat) (hf : f ≤ i) (hi : i < l.length) (hn : ∀ j, f ≤ j → j < i → l[j]? ≠ some c) (hc : l[i]? = some c) :
    splitC c (l.drop f) = (l.drop f).take (i - f) :: splitC c (l.drop (i + 1)) := by
  have e : l.drop f = (l.drop f).take (i - f) ++ c :: l.drop (i + 1) := by
    have h1 : (l.drop f).drop (i - f) = l.drop i := by rw [List.drop_drop]; congr 1; omega
    have h2 : l.drop i = c :: l.drop (i + 1) := by
      rw [List.drop_eq_getElem_cons hi]
      rw [List.getElem?_eq_getElem hi] at hc
      rw [Option.some.inj hc]
    rw [← h2, ← h1, List.take_append_drop]
  conv => lhs; rw [e]
  refine splitC_step c _ _ (fun x hx => ?_)
  obtain ⟨k, hk, rfl⟩ := List.getElem_of_mem hx
  intro hh
  have hk2 : k < i - f := by rw [List.length_take] at hk; omega
  refine hn (f + k) (by omega) (by omega) ?_
  rw [← hh, List.getElem_take, List.getElem_drop, List.getElem?_eq_getElem]
theorem splitC_end (c : UInt8) (l : List UInt8) (f : Nat) (hn : ∀ j, f ≤ j → j < l.length → l[j]? ≠ some c) : splitC c (l.drop f) = [l.drop f] := by
  refine splitC_all c _ (fun x hx => ?_)
  obtain ⟨k, hk, rfl⟩ := List.getElem_of_mem hx
  intro hh
  rw [List.length_drop] at hk
  refine hn (f + k) (by omega) (by omega) ?_
  rw [← hh, List.getElem_drop, List.getElem?_eq_getElem]
end Go.Proofs.YtfdcpfhiknfpiaaGreatDoor
