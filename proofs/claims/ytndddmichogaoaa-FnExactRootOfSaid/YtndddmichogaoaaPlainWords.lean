/- Plain mathematics: borders, periods, occurrences. No program in sight. -/
import Derived.Test.YtndddmichogaoaaWords
namespace Go.Proofs.Ytndddmichogaoaa
/-- k is the length of a border of the first i elements. -/
def Bord (l : List Int) (i k : Nat) : Prop := k < i ∧ ∀ j, j < k → geti l j = geti l (i - k + j)
theorem Bord.zero {l : List Int} {i : Nat} (h : 0 < i) : Bord l i 0 := ⟨h, fun j hj => by omega⟩
theorem Bord.trans {l : List Int} {i k j : Nat} (h : Bord l i k) (h2 : Bord l k j) : Bord l i j := by
  refine ⟨by have := h.1; have := h2.1; omega, fun m hm => ?_⟩
  have h1 := h.1
  have h3 := h2.1
  rw [h2.2 m hm, h.2 (k - j + m) (by omega)]
  congr 1; omega
theorem Bord.inner {l : List Int} {i k j : Nat} (h : Bord l i k) (h2 : Bord l i j) (hj : j < k) : Bord l k j := by
  refine ⟨hj, fun m hm => ?_⟩
  have h1 := h.1
  rw [h2.2 m hm, h.2 (k - j + m) (by omega)]
  congr 1; omega
theorem Bord.succ {l : List Int} {i k : Nat} (h : Bord l i k) (he : geti l k = geti l i) : Bord l (i + 1) (k + 1) := by
  have h1 := h.1
  refine ⟨by omega, fun m hm => ?_⟩
  rcases Nat.lt_or_ge m k with h2 | h2
  · rw [h.2 m h2]; congr 1; omega
  · obtain rfl : m = k := by omega
    rw [he]; congr 1; omega
theorem Bord.pred {l : List Int} {i k : Nat} (h : Bord l (i + 1) (k + 1)) : Bord l i k ∧ geti l k = geti l i := by
  have h1 := h.1
  refine ⟨⟨by omega, fun m hm => ?_⟩, ?_⟩
  · rw [h.2 m (by omega)]; congr 1; omega
  · rw [h.2 k (by omega)]; congr 1; omega
/-- k is the longest border of the first i elements. -/
def LB (l : List Int) (i k : Nat) : Prop := Bord l i k ∧ ∀ j, Bord l i j → j ≤ k
theorem LB.one (l : List Int) : LB l 1 0 := ⟨Bord.zero (by omega), fun j hj => by have := hj.1; omega⟩
theorem LB.uniq {l : List Int} {i k m : Nat} (h : LB l i k) (h2 : LB l i m) : k = m := by
  have := h.2 m h2.1; have := h2.2 k h.1; omega
/-- The inner loop of the prefix table: k is a border, all longer borders fail at the next element. -/
def Step (l : List Int) (i k : Nat) : Prop := Bord l i k ∧ ∀ j, Bord l i j → k < j → geti l j ≠ geti l i
theorem Step.start {l : List Int} {i k : Nat} (h : LB l i k) : Step l i k := ⟨h.1, fun j hj hk => by have := h.2 j hj; omega⟩
theorem Step.next {l : List Int} {i k m : Nat} (h : Step l i k) (hne : geti l k ≠ geti l i) (hm : LB l k m) : Step l i m := by
  refine ⟨h.1.trans hm.1, fun j hj hmj => ?_⟩
  rcases Nat.lt_trichotomy j k with h1 | h1 | h1
  · have := hm.2 j (h.1.inner hj h1); omega
  · subst h1; exact hne
  · exact h.2 j hj h1
theorem Step.hit {l : List Int} {i k : Nat} (h : Step l i k) (he : geti l k = geti l i) : LB l (i + 1) (k + 1) := by
  refine ⟨h.1.succ he, fun j hj => ?_⟩
  rcases j with _ | j
  · omega
  · have := hj.pred
    rcases Nat.lt_or_ge k j with h1 | h1
    · exact absurd this.2 (h.2 j this.1 h1)
    · omega
theorem Step.miss {l : List Int} {i : Nat} (h : Step l i 0) (he : geti l 0 ≠ geti l i) : LB l (i + 1) 0 := by
  refine ⟨Bord.zero (by omega), fun j hj => ?_⟩
  rcases j with _ | j
  · omega
  · have hp := hj.pred
    rcases Nat.eq_zero_or_pos j with h1 | h1
    · subst h1; exact absurd hp.2 he
    · exact absurd hp.2 (h.2 j hp.1 h1)
/-- Lists that agree element by element. -/
theorem ext_geti {l m : List Int} (hl : l.length = m.length) (h : ∀ j, j < l.length → geti l j = geti m j) : l = m := by
  apply List.ext_getElem hl
  intro j h1 h2
  have := h j h1
  rwa [geti_eq h1, geti_eq h2] at this
/-- A border, as two parts that are equal. -/
theorem bord_iff {l : List Int} {k : Nat} (hk : k < l.length) : l.take k = l.drop (l.length - k) ↔ Bord l l.length k := by
  constructor
  · intro h
    refine ⟨hk, fun j hj => ?_⟩
    have e : geti (l.take k) j = geti (l.drop (l.length - k)) j := by rw [h]
    rwa [geti_take l hj, geti_drop] at e
  · intro h
    apply ext_geti
    · rw [List.length_take, List.length_drop]; omega
    · intro j hj
      rw [List.length_take] at hj
      rw [geti_take l (by omega), geti_drop]
      exact h.2 j (by omega)
/-- A period p is a border of the rest's length. -/
theorem period_iff {l : List Int} {p : Nat} (h1 : 1 ≤ p) (hp : p < l.length) : l.drop p = l.take (l.length - p) ↔ Bord l l.length (l.length - p) := by
  rw [← bord_iff (by omega), show l.length - (l.length - p) = p by omega]
  exact eq_comm
/-- k is a border of the whole list, as a Bool. -/
def bordB (l : List Int) (k : Nat) : Bool := decide (l.take k = l.drop (l.length - k))
/-- The borders from lo on. -/
def bordsFrom (l : List Int) (lo n : Nat) : List Nat := (List.range n).filter (fun j => decide (lo ≤ j) && bordB l j)
theorem bordsFrom_top (l : List Int) (n : Nat) : bordsFrom l n n = [] := by
  unfold bordsFrom
  rw [List.filter_eq_nil_iff]
  intro j hj
  have : j < n := by simpa using hj
  simp; omega
theorem filter_split {p q : Nat → Bool} {k : Nat} (hk : p k = true) (hq : q k = false) (hlow : ∀ j, j < k → p j = false ∧ q j = false) (hhigh : ∀ j, k < j → p j = q j) :
    ∀ n, k < n → (List.range n).filter p = k :: (List.range n).filter q := by
  intro n
  induction n with
  | zero => intro h; omega
  | succ n ih =>
    intro h
    rw [List.range_succ, List.filter_append, List.filter_append]
    rcases Nat.lt_or_ge k n with h1 | h1
    · rw [ih h1, List.cons_append]
      congr 2
      simp [List.filter_cons, hhigh n h1]
    · obtain rfl : k = n := by omega
      have e1 : (List.range k).filter p = [] := by
        rw [List.filter_eq_nil_iff]; intro j hj; have : j < k := by simpa using hj
        simp [(hlow j this).1]
      have e2 : (List.range k).filter q = [] := by
        rw [List.filter_eq_nil_iff]; intro j hj; have : j < k := by simpa using hj
        simp [(hlow j this).2]
      simp [e1, e2, List.filter_cons, hk, hq]
theorem bordsFrom_step {l : List Int} {n k : Nat} (hk : k < l.length) (hkn : k < n) (hb : bordB l k = true) (hno : ∀ j, k < j → j < n → bordB l j = false) :
    bordsFrom l k l.length = k :: bordsFrom l n l.length := by
  unfold bordsFrom
  refine filter_split (by simp [hb]) (by simp; omega) (fun j hj => ⟨by simp; omega, by simp; omega⟩) (fun j hj => ?_) _ hk
  rcases Nat.lt_or_ge j n with h1 | h1
  · rw [hno j hj h1]; simp
  · have : decide (k ≤ j) = true := decide_eq_true (by omega)
    have h2 : decide (n ≤ j) = true := decide_eq_true h1
    rw [this, h2]
/-- The next shorter border. -/
theorem next_border {l : List Int} {n k : Nat} (hn : n = l.length ∨ Bord l l.length n) (hk : LB l n k) : k < l.length ∧ Bord l l.length k ∧ ∀ j, k < j → j < n → ¬ Bord l l.length j := by
  rcases hn with rfl | hn
  · exact ⟨hk.1.1, hk.1, fun j h1 _ hj => by have := hk.2 j hj; omega⟩
  · refine ⟨by have := hk.1.1; have := hn.1; omega, hn.trans hk.1, fun j h1 h2 hj => ?_⟩
    have := hk.2 j (hn.inner hj h2); omega
end Go.Proofs.Ytndddmichogaoaa
