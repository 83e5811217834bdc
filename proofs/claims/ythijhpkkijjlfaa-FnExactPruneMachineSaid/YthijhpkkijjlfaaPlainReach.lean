/- States that can be reached from 0: a search in depth, a search in breadth, and the list of what they find. No program here; no condition. -/
import Derived.Test.YthijhpkkijjlfaaPlainSort
namespace Go.Proofs.Ythijhpkkijjlfaa
/-- b can be reached from a; nx k: where k leads to. -/
inductive Rch (nx : Nat → List Int) : Int → Int → Prop
  | refl (a : Int) : Rch nx a a
  | step {a b c : Int} : Rch nx a b → c ∈ nx b.toNat → Rch nx a c
theorem Rch.trans {nx : Nat → List Int} {a b c : Int} (h : Rch nx a b) (h2 : Rch nx b c) : Rch nx a c := by
  induction h2 with
  | refl => exact h
  | step _ hc ih => exact .step ih hc
theorem Rch.first {nx : Nat → List Int} {a b c : Int} (h : b ∈ nx a.toNat) (h2 : Rch nx b c) : Rch nx a c := (Rch.step (.refl a) h).trans h2
/-- The states lead to states. -/
def Leads (nx : Nat → List Int) (n : Nat) : Prop := ∀ k, k < n → ∀ t ∈ nx k, 0 ≤ t ∧ t < (n : Int)
theorem Rch.bd {nx : Nat → List Int} {n : Nat} (hn : Leads nx n) {a b : Int} (h : Rch nx a b) (ha : 0 ≤ a ∧ a < (n : Int)) : 0 ≤ b ∧ b < (n : Int) := by
  induction h with
  | refl => exact ha
  | step _ hc ih => exact hn _ (by omega) _ hc
/-- Is j marked? -/
def mkd (s : List Bool) (j : Int) : Bool := s.getD j.toNat false
theorem mkd_set {s : List Bool} {k : Nat} (hk : k < s.length) (j : Int) : mkd (s.set k true) j = (decide (j.toNat = k) || mkd s j) := by
  unfold mkd
  rw [List.getD_eq_getElem?_getD, List.getD_eq_getElem?_getD, List.getElem?_set]
  by_cases h : k = j.toNat
  · subst h; simp [hk]
  · have : ¬ j.toNat = k := fun e => h e.symm
    simp [h, this]
/-- What a visit of k leaves: s before, s' behind it. -/
structure Vis (nx : Nat → List Int) (k : Int) (s s' : List Bool) : Prop where
  len : s'.length = s.length
  more : ∀ j, mkd s j = true → mkd s' j = true
  here : mkd s' k = true
  new : ∀ j : Int, 0 ≤ j → mkd s' j = true → mkd s j = false → Rch nx k j ∧ ∀ t ∈ nx j.toNat, mkd s' t = true
theorem Vis.seen {nx : Nat → List Int} {k : Int} {s : List Bool} (h : mkd s k = true) : Vis nx k s s := ⟨rfl, fun _ h => h, h, fun j _ h1 h2 => by rw [h1] at h2; cases h2⟩
/-- .. while the states that k leads to are visited: i of them have been. -/
structure Vin (nx : Nat → List Int) (k : Int) (s s' : List Bool) (i : Nat) : Prop where
  len : s'.length = s.length
  more : ∀ j, mkd s j = true → mkd s' j = true
  here : mkd s' k = true
  done : ∀ m, m < i → mkd s' (geti (nx k.toNat) m) = true
  new : ∀ j : Int, 0 ≤ j → mkd s' j = true → mkd s j = false → j ≠ k → Rch nx k j ∧ ∀ t ∈ nx j.toNat, mkd s' t = true
theorem Vin.start {nx : Nat → List Int} {k : Int} {s : List Bool} (h0 : 0 ≤ k) (hk : k.toNat < s.length) : Vin nx k s (s.set k.toNat true) 0 := by
  refine ⟨by simp, fun j h => by rw [mkd_set hk, h]; simp, by rw [mkd_set hk]; simp, fun m hm => by omega, fun j hj h1 h2 hne => ?_⟩
  rw [mkd_set hk, h2] at h1
  simp at h1
  omega
theorem Vin.next {nx : Nat → List Int} {k : Int} {s s' s'' : List Bool} {i : Nat} (h : Vin nx k s s' i) (hi : i < (nx k.toNat).length) (hv : Vis nx (geti (nx k.toNat) i) s' s'') : Vin nx k s s'' (i + 1) := by
  refine ⟨by rw [hv.len, h.len], fun j hj => hv.more j (h.more j hj), hv.more _ h.here, fun m hm => ?_, fun j h0 h1 h2 hne => ?_⟩
  · rcases Nat.lt_or_ge m i with hl | hl
    · exact hv.more _ (h.done m hl)
    · obtain rfl : m = i := by omega
      exact hv.here
  · cases hm : mkd s' j with
    | true =>
      have := h.new j h0 hm h2 hne
      exact ⟨this.1, fun t ht => hv.more _ (this.2 t ht)⟩
    | false =>
      have := hv.new j h0 h1 hm
      exact ⟨Rch.first (geti_mem hi) this.1, this.2⟩
theorem Vin.done' {nx : Nat → List Int} {k : Int} {s s' : List Bool} (h : Vin nx k s s' (nx k.toNat).length) : Vis nx k s s' := by
  refine ⟨h.len, h.more, h.here, fun j h0 h1 h2 => ?_⟩
  by_cases e : j = k
  · subst e
    refine ⟨.refl _, fun t ht => ?_⟩
    obtain ⟨m, hm, rfl⟩ := List.getElem_of_mem ht
    have := h.done m hm
    rwa [geti_eq hm] at this
  · exact h.new j h0 h1 h2 e
/-- How many are not marked. -/
def free (s : List Bool) : Nat := s.countP (fun b => !b)
theorem free_set {s : List Bool} {k : Nat} (hk : k < s.length) (h : mkd s (k : Int) = false) : free (s.set k true) + 1 = free s := by
  have hk2 : s[k] = false := by
    unfold mkd at h
    rw [Int.toNat_natCast, List.getD_eq_getElem?_getD, List.getElem?_eq_getElem hk] at h
    simpa using h
  unfold free
  have e := List.countP_set (p := fun b => !b) (l := s) (i := k) (a := true) hk
  rw [hk2] at e
  have hpos : 0 < s.countP (fun b => !b) := List.countP_pos_iff.2 ⟨false, by rw [← hk2]; exact List.getElem_mem hk, rfl⟩
  simp at e
  omega
theorem free_le {s s' : List Bool} (hl : s'.length = s.length) (h : ∀ j, mkd s j = true → mkd s' j = true) : free s' ≤ free s := by
  unfold free
  induction s generalizing s' with
  | nil => have : s' = [] := List.eq_nil_of_length_eq_zero (by simpa using hl)
           subst this; exact Nat.le_refl _
  | cons b s ih =>
    cases s' with
    | nil => simp at hl
    | cons b' s' =>
      have h1 := ih (s' := s') (by simpa using hl) (fun j hj => by
        have e : ∀ (x : Bool) (l : List Bool), mkd (x :: l) ((j.toNat : Int) + 1) = mkd l j := fun x l => by
          unfold mkd
          rw [show ((j.toNat : Int) + 1).toNat = j.toNat + 1 by omega]
          rfl
        have := h ((j.toNat : Int) + 1)
        rw [e, e] at this
        exact this hj)
      have h2 := h 0
      rw [List.countP_cons, List.countP_cons]
      cases b <;> cases b' <;> simp [mkd] at h2 ⊢ <;> omega
/-- The list of all states that can be reached from 0. -/
structure IsRch (nx : Nat → List Int) (l : List Int) : Prop where
  asc : Asc l
  nodup : l.Nodup
  mem : ∀ t, t ∈ l ↔ Rch nx 0 t
theorem IsRch.uniq {nx : Nat → List Int} {l m : List Int} (h : IsRch nx l) (h2 : IsRch nx m) : l = m :=
  asc_uniq h.asc h2.asc ((List.perm_ext_iff_of_nodup h.nodup h2.nodup).2 (fun a => (h.mem a).trans (h2.mem a).symm))
theorem vis_mem {nx : Nat → List Int} {n : Nat} {s s' : List Bool} (hn : Leads nx n) (hs : ∀ j, mkd s j = false) (h0 : 0 < n) (hv : Vis nx 0 s s') (j : Int) (hj : 0 ≤ j) : mkd s' j = true ↔ Rch nx 0 j := by
  constructor
  · intro h; exact (hv.new j hj h (hs j)).1
  · intro h
    induction h with
    | refl => exact hv.here
    | step hr hc ih => exact (hv.new _ (hr.bd hn ⟨by omega, by omega⟩).1 (ih (hr.bd hn ⟨by omega, by omega⟩).1) (hs _)).2 _ hc
/-- The marked ones among the first k. -/
def marked (s : List Bool) (k : Nat) : List Int := ((List.range k).filter (fun j => s.getD j false)).map (fun (j : Nat) => (j : Int))
theorem marked_snoc (s : List Bool) (k : Nat) : marked s (k + 1) = marked s k ++ (if s.getD k false then [(k : Int)] else []) := by
  unfold marked
  rw [List.range_succ, List.filter_append, List.map_append]
  cases h : s.getD k false <;> simp [← List.getD_eq_getElem?_getD, h]
theorem marked_len (s : List Bool) (k : Nat) : (marked s k).length ≤ k := by
  unfold marked
  rw [List.length_map]
  exact Nat.le_trans (List.length_filter_le _ _) (by simp)
theorem marked_is {nx : Nat → List Int} {n : Nat} {s s' : List Bool} (hn : Leads nx n) (hs : ∀ j, mkd s j = false) (h0 : 0 < n) (hv : Vis nx 0 s s') : IsRch nx (marked s' n) := by
  have hr : (List.range n).Pairwise (fun a b => a < b) := List.pairwise_lt_range
  refine ⟨?_, ?_, fun t => ?_⟩
  · unfold Asc marked
    rw [List.pairwise_map]
    exact (List.Pairwise.filter _ hr).imp (fun h => by omega)
  · unfold marked
    rw [List.nodup_iff_pairwise_ne, List.pairwise_map]
    exact (List.Pairwise.filter _ hr).imp (fun h => by omega)
  · unfold marked
    rw [List.mem_map]
    constructor
    · rintro ⟨j, hj, rfl⟩
      rw [List.mem_filter] at hj
      exact (vis_mem hn hs h0 hv _ (by omega)).1 (by unfold mkd; rw [Int.toNat_natCast]; exact hj.2)
    · intro h
      have hb := h.bd hn ⟨by omega, by omega⟩
      refine ⟨t.toNat, ?_, by omega⟩
      rw [List.mem_filter]
      exact ⟨by rw [List.mem_range]; omega, by have := (vis_mem hn hs h0 hv t hb.1).2 h; unfold mkd at this; exact this⟩
/-- The search in breadth: the states of q are found; those ahead of i are done, and the first x of those that the i-th leads to. -/
structure Brd (nx : Nat → List Int) (q : List Int) (i : Nat) : Prop where
  zero : (0 : Int) ∈ q
  nodup : q.Nodup
  rch : ∀ t ∈ q, Rch nx 0 t
  done : ∀ m, m < i → ∀ t ∈ nx (geti q m).toNat, t ∈ q
theorem Brd.start (nx : Nat → List Int) : Brd nx [0] 0 := ⟨by simp, by simp, fun t ht => by rw [List.mem_singleton.1 ht]; exact .refl _, fun m hm => by omega⟩
theorem geti_append {q : List Int} {m : Nat} (hm : m < q.length) (r : List Int) : geti (q ++ r) m = geti q m := by
  unfold geti; rw [List.getD_eq_getElem?_getD, List.getD_eq_getElem?_getD, List.getElem?_append_left hm]
theorem Brd.push {nx : Nat → List Int} {q : List Int} {i : Nat} (h : Brd nx q i) (hi : i < q.length) {t : Int} (ht : t ∈ nx (geti q i).toNat) (hnew : ¬ t ∈ q) : Brd nx (q ++ [t]) i := by
  refine ⟨by simp [h.zero], ?_, fun u hu => ?_, fun m hm u hu => ?_⟩
  · rw [List.nodup_append]
    exact ⟨h.nodup, by simp, fun a ha b hb => by rw [List.mem_singleton.1 hb]; exact fun e => hnew (e ▸ ha)⟩
  · rcases List.mem_append.1 hu with hu | hu
    · exact h.rch u hu
    · rw [List.mem_singleton.1 hu]; exact .step (h.rch _ (geti_mem hi)) ht
  · rw [geti_append (by omega)] at hu
    simp [h.done m hm u hu]
theorem Brd.next {nx : Nat → List Int} {q : List Int} {i : Nat} (h : Brd nx q i) (hd : ∀ t ∈ nx (geti q i).toNat, t ∈ q) : Brd nx q (i + 1) := by
  refine ⟨h.zero, h.nodup, h.rch, fun m hm t ht => ?_⟩
  rcases Nat.lt_or_ge m i with hl | hl
  · exact h.done m hl t ht
  · obtain rfl : m = i := by omega
    exact hd t ht
theorem Brd.len {nx : Nat → List Int} {q : List Int} {i n : Nat} (h : Brd nx q i) (hn : Leads nx n) (h0 : 0 < n) : q.length ≤ n := by
  have h1 : q ⊆ (List.range n).map (fun (j : Nat) => (j : Int)) := fun t ht => by
    have hb := (h.rch t ht).bd hn ⟨by omega, by omega⟩
    exact List.mem_map.2 ⟨t.toNat, by rw [List.mem_range]; omega, by omega⟩
  have := List.Nodup.length_le_of_subset h.nodup h1
  simpa using this
theorem Brd.is {nx : Nat → List Int} {q : List Int} (h : Brd nx q q.length) : IsRch nx (sortL q) := by
  have hp := sortL_perm q
  refine ⟨sortL_asc q, hp.nodup_iff.2 h.nodup, fun t => ?_⟩
  rw [hp.mem_iff]
  constructor
  · exact h.rch t
  · intro hr
    induction hr with
    | refl => exact h.zero
    | step _ hc ih =>
      obtain ⟨m, hm, e⟩ := List.getElem_of_mem ih
      have := h.done m hm
      rw [geti_eq hm, e] at this
      exact this _ hc
end Go.Proofs.Ythijhpkkijjlfaa
