/- PruneMachine in plain terms: where the rules of a valid machine lead; the rules that stay. No program here. -/
import Derived.Test.YthijhpkkijjlfaaPlainReach
import Derived.Test.YthijhpkkijjlfaaMValid2
namespace Go.Proofs.Ythijhpkkijjlfaa
open Go.RowKit
/-- Where rule x of state k leads. -/
def toR (s : Nat) (l : List Int) (k x : Nat) : Int := geti l ((k * s + x) * 3 + 2)
/-- Where the first t rules of state k lead. -/
def nxT (s : Nat) (l : List Int) (t k : Nat) : List Int := ((List.range t).map (toR s l k)).filter (fun z => decide (0 ≤ z))
theorem nxT_yes {s : Nat} {l : List Int} {t k : Nat} (h : 0 ≤ toR s l k t) : nxT s l (t + 1) k = nxT s l t k ++ [toR s l k t] := by
  unfold nxT; rw [List.range_succ, List.map_append, List.filter_append]; simp [h]
theorem nxT_no {s : Nat} {l : List Int} {t k : Nat} (h : toR s l k t < 0) : nxT s l (t + 1) k = nxT s l t k := by
  have : ¬ 0 ≤ toR s l k t := by omega
  unfold nxT; rw [List.range_succ, List.map_append, List.filter_append]; simp [this]
theorem nxT_len (s : Nat) (l : List Int) (t k : Nat) : (nxT s l t k).length ≤ t := by
  unfold nxT; exact Nat.le_trans (List.length_filter_le _ _) (by simp)
theorem nxT_mem {s : Nat} {l : List Int} {t k : Nat} {z : Int} : z ∈ nxT s l t k ↔ ∃ x, x < t ∧ toR s l k x = z ∧ 0 ≤ z := by
  unfold nxT
  rw [List.mem_filter, List.mem_map]
  simp only [List.mem_range, decide_eq_true_eq]
  exact ⟨fun ⟨⟨x, h1, h2⟩, h3⟩ => ⟨x, h1, h2, h3⟩, fun ⟨x, h1, h2, h3⟩ => ⟨⟨x, h1, h2⟩, h3⟩⟩
theorem in_table {s st k x : Nat} (hk : k < st) (hx : x < s) : k * s + x < st * s := by
  have := Nat.mul_le_mul_right s (show k + 1 ≤ st from hk)
  rw [Nat.add_mul, Nat.one_mul] at this
  omega
/-- A rule of a valid machine. -/
theorem rule_valid {s st : Nat} {l : List Int} (hv : validB (s : Int) (st : Int) l = true) {j : Nat} (hj : j < st * s) : ruleB (s : Int) (st : Int) (geti l (j * 3)) (geti l (j * 3 + 1)) (geti l (j * 3 + 2)) = true := by
  obtain ⟨_, _, h3, h4⟩ := validB_true hv
  have hn : l.length / 3 = st * s := by
    have : l.length = 3 * (st * s) := by
      have e : ((3 : Int) * ((s : Int) * (st : Int))) = ((3 * (st * s) : Nat) : Int) := by rw [Nat.mul_comm st s]; simp
      rw [e] at h3; omega
    omega
  rw [hn] at h4
  exact List.all_eq_true.1 h4 j (List.mem_range.2 hj)
theorem valid_len {s st : Nat} {l : List Int} (hv : validB (s : Int) (st : Int) l = true) : l.length = (st * s) * 3 := by
  obtain ⟨_, _, h3, _⟩ := validB_true hv
  have e : ((3 : Int) * ((s : Int) * (st : Int))) = ((3 * (st * s) : Nat) : Int) := by rw [Nat.mul_comm st s]; simp
  rw [e] at h3; omega
theorem next_valid {s st : Nat} {l : List Int} (hv : validB (s : Int) (st : Int) l = true) {j : Nat} (hj : j < st * s) : -1 ≤ geti l (j * 3 + 2) ∧ geti l (j * 3 + 2) < (st : Int) := by
  have h := rule_valid hv hj
  unfold ruleB noneB at h
  rw [Bool.or_eq_true, decide_eq_true_eq, Bool.and_eq_true] at h
  obtain ⟨_, h2, _⟩ := validB_true hv
  rcases h with ⟨_, _, h⟩ | ⟨_, h⟩
  · omega
  · have := inB_true.1 h; omega
theorem none_valid {s st : Nat} {l : List Int} (hv : validB (s : Int) (st : Int) l = true) {j : Nat} (hj : j < st * s) : noneB (geti l (j * 3)) (geti l (j * 3 + 1)) (geti l (j * 3 + 2)) = decide (geti l (j * 3 + 2) < 0) := by
  have h := rule_valid hv hj
  unfold ruleB at h
  cases hn : noneB (geti l (j * 3)) (geti l (j * 3 + 1)) (geti l (j * 3 + 2)) with
  | true =>
    unfold noneB at hn
    rw [decide_eq_true_eq] at hn
    symm; rw [decide_eq_true_eq]; omega
  | false =>
    rw [hn, Bool.false_or, Bool.and_eq_true] at h
    have := inB_true.1 h.2
    symm; rw [decide_eq_false_iff_not]; omega
/-- Where a state of the machine leads. -/
def nxL (s : Nat) (l : List Int) (k : Nat) : List Int := nxT s l s k
theorem leads_valid {s st : Nat} {l : List Int} (hv : validB (s : Int) (st : Int) l = true) : Leads (nxL s l) st := by
  intro k hk t ht
  obtain ⟨x, hx, rfl, h0⟩ := nxT_mem.1 ht
  exact ⟨h0, (next_valid hv (in_table hk hx)).2⟩
/-- The list of the states that can be reached. -/
noncomputable def rchL (nx : Nat → List Int) : List Int := open Classical in if h : ∃ l, IsRch nx l then Classical.choose h else []
theorem IsRch.eq {nx : Nat → List Int} {l : List Int} (h : IsRch nx l) : rchL nx = l := by
  have hex : ∃ l, IsRch nx l := ⟨l, h⟩
  unfold rchL
  rw [dif_pos hex]
  exact (Classical.choose_spec hex).uniq h
theorem rch_exists {nx : Nat → List Int} {n : Nat} (hn : Leads nx n) (h0 : 0 < n) : ∃ l, IsRch nx l := by
  classical
  have hr : (List.range n).Pairwise (fun a b => a < b) := List.pairwise_lt_range
  refine ⟨((List.range n).filter (fun (j : Nat) => decide (Rch nx 0 (j : Int)))).map (fun (j : Nat) => (j : Int)), ?_, ?_, fun t => ?_⟩
  · unfold Asc
    rw [List.pairwise_map]
    exact (List.Pairwise.filter _ hr).imp (fun h => by omega)
  · rw [List.nodup_iff_pairwise_ne, List.pairwise_map]
    exact (List.Pairwise.filter _ hr).imp (fun h => by omega)
  · rw [List.mem_map]
    constructor
    · rintro ⟨j, hj, rfl⟩
      rw [List.mem_filter] at hj
      exact of_decide_eq_true hj.2
    · intro h
      have hb := h.bd hn ⟨by omega, by omega⟩
      obtain ⟨j, rfl⟩ := Int.eq_ofNat_of_zero_le hb.1
      exact ⟨j, List.mem_filter.2 ⟨List.mem_range.2 (by omega), decide_eq_true h⟩, rfl⟩
theorem rchL_is {nx : Nat → List Int} {n : Nat} (hn : Leads nx n) (h0 : 0 < n) : IsRch nx (rchL nx) := by
  obtain ⟨l, hl⟩ := rch_exists hn h0
  rw [hl.eq]; exact hl
theorem strict_at {l : List Int} (ha : Asc l) (hn : l.Nodup) {i j : Nat} (hij : i < j) (hj : j < l.length) : geti l i < geti l j := by
  have h1 := asc_at ha (i := i) (j := j) (by omega) hj
  have h2 := List.pairwise_iff_getElem.1 hn i j (by omega) hj hij
  rw [geti_eq (by omega), geti_eq hj] at h1 ⊢
  omega
/-- The place of a state among those that stay. -/
def rankI (old : List Int) (z : Int) : Int := (old.countP (fun y => decide (y < z)) : Nat)
theorem rank_at {l : List Int} (ha : Asc l) (hn : l.Nodup) {m : Nat} (hm : m < l.length) : rankI l (geti l m) = (m : Int) := by
  have e : l.countP (fun y => decide (y < geti l m)) = (l.take m).countP (fun y => decide (y < geti l m)) + (l.drop m).countP (fun y => decide (y < geti l m)) := by
    rw [← List.countP_append, List.take_append_drop]
  have e1 : (l.take m).countP (fun y => decide (y < geti l m)) = m := by
    have : (l.take m).length = m := by rw [List.length_take]; omega
    conv => rhs; rw [← this]
    rw [List.countP_eq_length]
    intro y hy
    obtain ⟨i, hi, rfl⟩ := List.getElem_of_mem hy
    rw [List.length_take] at hi
    rw [List.getElem_take, decide_eq_true_eq, ← geti_eq (show i < l.length by omega)]
    exact strict_at ha hn (by omega) hm
  have e2 : (l.drop m).countP (fun y => decide (y < geti l m)) = 0 := by
    rw [List.countP_eq_zero]
    intro y hy
    obtain ⟨i, hi, rfl⟩ := List.getElem_of_mem hy
    rw [List.length_drop] at hi
    rw [List.getElem_drop, decide_eq_true_eq, ← geti_eq (show m + i < l.length by omega)]
    have := asc_at ha (i := m) (j := m + i) (by omega) (by omega)
    omega
  unfold rankI
  rw [e, e1, e2]; omega
theorem rank_bd (l : List Int) (z : Int) : 0 ≤ rankI l z ∧ rankI l z ≤ (l.length : Int) := by
  unfold rankI
  have := List.countP_le_length (p := fun y => decide (y < z)) (l := l)
  omega
/-- A rule that stays, its state by its new name. -/
def prZ (old : List Int) (z : Int) : Int := if z < 0 then z else rankI old z
def prA (old l : List Int) (j : Nat) : List Int := [geti l (j * 3), geti l (j * 3 + 1), prZ old (geti l (j * 3 + 2))]
/-- The first t rules that stay. -/
def prT (old : List Int) (s : Nat) (l : List Int) (t : Nat) : List Int := (List.range t).flatMap (fun i => prA old l ((geti old (i / s)).toNat * s + i % s))
theorem prT_zero (old : List Int) (s : Nat) (l : List Int) : prT old s l 0 = [] := rfl
theorem prT_step {old : List Int} {s : Nat} {l : List Int} {i x : Nat} (hx : x < s) : prT old s l (i * s + (x + 1)) = prT old s l (i * s + x) ++ prA old l ((geti old i).toNat * s + x) := by
  unfold prT
  rw [← Nat.add_assoc, List.range_succ, List.flatMap_append]
  have e1 : (i * s + x) / s = i := by rw [Nat.mul_comm, Nat.mul_add_div (by omega), Nat.div_eq_of_lt hx]; omega
  have e2 : (i * s + x) % s = x := by rw [Nat.mul_comm, Nat.mul_add_mod, Nat.mod_eq_of_lt hx]
  simp [e1, e2]
theorem prT_len (old : List Int) (s : Nat) (l : List Int) (t : Nat) : (prT old s l t).length = t * 3 := by
  unfold prT
  induction t with
  | zero => rfl
  | succ t ih => rw [List.range_succ, List.flatMap_append, List.length_append, ih]; simp [prA]; omega
theorem geti_put {P : List Int} {i j : Nat} {x : Int} (hi : i < P.length) : geti (P.set i x) j = if i = j then x else geti P j := by
  unfold geti
  rw [List.getD_eq_getElem?_getD, List.getD_eq_getElem?_getD, List.getElem?_set]
  by_cases h : i = j
  · subst h; rw [if_pos rfl, if_pos hi, if_pos rfl]; rfl
  · rw [if_neg h, if_neg h]
/-- The places of the first i states are noted. -/
def Plc (old P : List Int) (i : Nat) : Prop := ∀ m, m < i → geti P (geti old m).toNat = (m : Int)
theorem Plc.step {old P : List Int} {i n : Nat} (h : Plc old P i) (ha : Asc old) (hd : old.Nodup) (hb : ∀ z ∈ old, 0 ≤ z ∧ z < (n : Int)) (hP : P.length = n) (hi : i < old.length) : Plc old (P.set (geti old i).toNat (i : Int)) (i + 1) := by
  have b := hb _ (geti_mem hi)
  intro m hm
  rw [geti_put (by omega)]
  rcases Nat.lt_or_ge m i with h1 | h1
  · have b2 := hb _ (geti_mem (show m < old.length by omega))
    have hlt := strict_at ha hd h1 hi
    rw [if_neg (by omega)]
    exact h m h1
  · obtain rfl : m = i := by omega
    rw [if_pos rfl]
theorem Plc.look {old P : List Int} (h : Plc old P old.length) (ha : Asc old) (hd : old.Nodup) {z : Int} (hz : z ∈ old) : geti P z.toNat = rankI old z := by
  obtain ⟨m, hm, rfl⟩ := List.getElem_of_mem hz
  rw [← geti_eq hm, rank_at ha hd hm]
  exact h m hm
/-- The states that stay lead to states that stay. -/
theorem IsRch.closed {nx : Nat → List Int} {l : List Int} (h : IsRch nx l) {k z : Int} (hk : k ∈ l) (hz : z ∈ nx k.toNat) : z ∈ l := (h.mem z).2 (.step ((h.mem k).1 hk) hz)
theorem IsRch.bd {nx : Nat → List Int} {l : List Int} {n : Nat} (h : IsRch nx l) (hn : Leads nx n) (h0 : 0 < n) : ∀ z ∈ l, 0 ≤ z ∧ z < (n : Int) := fun z hz => ((h.mem z).1 hz).bd hn ⟨by omega, by omega⟩
theorem IsRch.len {nx : Nat → List Int} {l : List Int} {n : Nat} (h : IsRch nx l) (hn : Leads nx n) (h0 : 0 < n) : l.length ≤ n := by
  have h1 : l ⊆ (List.range n).map (fun (j : Nat) => (j : Int)) := fun t ht => by
    have hb := h.bd hn h0 t ht
    exact List.mem_map.2 ⟨t.toNat, by rw [List.mem_range]; omega, by omega⟩
  have := List.Nodup.length_le_of_subset h.nodup h1
  simpa using this
end Go.Proofs.Ythijhpkkijjlfaa
