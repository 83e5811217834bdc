/- Plain mathematics: differences, comparisons and divisions of limbs. No program in sight. -/
import Derived.Test.YtanjpkcacgjgfaaPlainMul
import Derived.Test.YtanjpkcacgjgfaaPlain
namespace Go.Proofs.Ytanjpkcacgjgfaa
/-! ### Comparing -/
/-- Naturals compared: by length, then from the greatest limb down. -/
def cmpN (a b : List Int) : Int := if a.length < b.length then -1 else if b.length < a.length then 1 else cmpL a.reverse b.reverse
theorem cmpN_len {a b : List Int} (h : a.length = b.length) : cmpN a b = cmpL a.reverse b.reverse := by unfold cmpN; rw [if_neg (by omega), if_neg (by omega)]
/-- The first k limbs, the greatest first. -/
theorem cmpR_step {a b : List Int} {k : Nat} (ha : k < a.length) (hb : k < b.length) :
    cmpL (a.take (k + 1)).reverse (b.take (k + 1)).reverse = if geti a k < geti b k then -1 else if geti b k < geti a k then 1 else cmpL (a.take k).reverse (b.take k).reverse := by
  rw [take_snoc ha, take_snoc hb, List.reverse_append, List.reverse_append]
  rfl
theorem cmpR_val {a b : List Int} (ha : Lim a) (hb : Lim b) : ∀ k, k ≤ a.length → k ≤ b.length →
    (cmpL (a.take k).reverse (b.take k).reverse = -1 ∧ val (a.take k) < val (b.take k)) ∨ (cmpL (a.take k).reverse (b.take k).reverse = 0 ∧ val (a.take k) = val (b.take k)) ∨ (cmpL (a.take k).reverse (b.take k).reverse = 1 ∧ val (b.take k) < val (a.take k))
  | 0, _, _ => .inr (.inl ⟨rfl, rfl⟩)
  | k + 1, h1, h2 => by
    have ih := cmpR_val ha hb k (by omega) (by omega)
    rw [cmpR_step (by omega) (by omega), val_take (by omega), val_take (by omega)]
    have la := val_lt_pw (ha.take k)
    have lb := val_lt_pw (hb.take k)
    have na := val_nonneg (ha.take k)
    have nb := val_nonneg (hb.take k)
    rw [List.length_take, Nat.min_eq_left (by omega)] at la lb
    rcases Int.lt_trichotomy (geti a k) (geti b k) with h | h | h
    · left
      refine ⟨by rw [if_pos h], ?_⟩
      have := Int.mul_le_mul_of_nonneg_right (show geti a k + 1 ≤ geti b k by omega) (Int.le_of_lt (pw_pos k))
      rw [Int.add_mul] at this
      omega
    · rw [if_neg (by omega), if_neg (by omega), h]
      omega
    · right; right
      refine ⟨by rw [if_neg (by omega), if_pos h], ?_⟩
      have := Int.mul_le_mul_of_nonneg_right (show geti b k + 1 ≤ geti a k by omega) (Int.le_of_lt (pw_pos k))
      rw [Int.add_mul] at this
      omega
theorem cmpN_val {a b : List Int} (ha : Lim a) (hb : Lim b) (ta : trim a = a) (tb : trim b = b) :
    (cmpN a b = -1 ∧ val a < val b) ∨ (cmpN a b = 0 ∧ val a = val b) ∨ (cmpN a b = 1 ∧ val b < val a) := by
  unfold cmpN
  have key : ∀ {c d : List Int}, Lim c → Lim d → trim d = d → c.length < d.length → val c < val d := by
    intro c d hc hd td h
    have h1 := val_lt_pw hc
    rcases Int.lt_or_le (val d) (pw c.length) with h2 | h2
    · have := (len_le hd td).2 h2; omega
    · omega
  rcases Nat.lt_trichotomy a.length b.length with h | h | h
  · left; exact ⟨by rw [if_pos h], key ha hb tb h⟩
  · have := cmpR_val ha hb a.length (Nat.le_refl _) (by omega)
    rw [List.take_length, show b.take a.length = b by rw [h, List.take_length]] at this
    rw [if_neg (by omega), if_neg (by omega)]
    exact this
  · right; right; exact ⟨by rw [if_neg (by omega), if_pos h], key hb ha ta h⟩
/-! ### Differences -/
/-- The reference's difference behind i limbs. -/
structure SubS (a b : List Int) (i : Nat) (o : List Int) (c : Int) : Prop where
  lim : Lim o
  len : o.length = i
  c0 : 0 ≤ c
  c1 : c ≤ 1
  eq : val o - c * pw i = val (a.take i) - val (b.take i)
theorem SubS.start (a b : List Int) : SubS a b 0 [] 0 := ⟨(fun x hx => by cases hx), rfl, by omega, by omega, by simp [val]⟩
theorem take_ge {l : List Int} {k : Nat} (h : l.length ≤ k) : val (l.take (k + 1)) = val (l.take k) := by rw [val_take_all h, val_take_all (by omega)]
theorem SubS.step {a b o : List Int} {i : Nat} {c : Int} (h : SubS a b i o c) (ha : Lim a) (hb : Lim b) (hi : i < a.length) {x : Int}
    (hx : x = if i < b.length then geti a i - c - geti b i else geti a i - c) :
    (x < 0 → SubS a b (i + 1) (o ++ [x + 1000000]) 1) ∧ (¬ x < 0 → SubS a b (i + 1) (o ++ [x]) 0) := by
  have h1 := ha.geti i
  have h2 := hb.geti i
  have c0 := h.c0
  have c1 := h.c1
  have heq := h.eq
  have hl := h.len
  have ht : val (a.take (i + 1)) - val (b.take (i + 1)) = val (a.take i) - val (b.take i) + (x + c) * pw i := by
    rw [val_take hi]
    by_cases hb' : i < b.length
    · rw [val_take hb', hx, if_pos hb']; grind
    · rw [take_ge (by omega), hx, if_neg hb']; grind
  have hxb : -1000000 ≤ x ∧ x ≤ 999999 := by rw [hx]; split <;> omega
  constructor
  · intro hneg
    refine ⟨h.lim.snoc (by omega) (by omega), by simp [hl], by omega, by omega, ?_⟩
    rw [ht, val_snoc, hl, pw_succ]; grind
  · intro hpos
    refine ⟨h.lim.snoc (by omega) (by omega), by simp [hl], by omega, by omega, ?_⟩
    rw [ht, val_snoc, hl, pw_succ]; grind
theorem SubS.done {a b o : List Int} {c : Int} (h : SubS a b a.length o c) (ha : Lim a) (hb : Lim b) (hlen : b.length ≤ a.length) (hle : val b ≤ val a) : trim o = nl (val a - val b) := by
  have heq := h.eq
  rw [List.take_length, val_take_all hlen] at heq
  have h1 := val_lt_pw h.lim
  rw [h.len] at h1
  have h2 := val_nonneg h.lim
  have h3 := val_lt_pw ha
  have h4 := val_nonneg hb
  have c0 := h.c0
  have c1 := h.c1
  have hc : c = 0 := by
    rcases Int.lt_or_le c 1 with h5 | h5
    · omega
    · have : c = 1 := by omega
      subst this
      omega
  subst hc
  rw [trim_nl h.lim]
  congr 1
  omega
/-- The program's difference at limb i: the limbs below are limbs, the one at i may be -1. -/
structure SubI (a b : List Int) (i : Nat) (o : List Int) : Prop where
  len : o.length = a.length
  low : ∀ j, j < i → 0 ≤ geti o j ∧ geti o j ≤ 999999
  here : -1 ≤ geti o i ∧ geti o i ≤ 999999
  high : ∀ j, i < j → geti o j = geti a j
  eq : val o = val a - val (b.take i)
theorem SubI.start {a b : List Int} (ha : Lim a) : SubI a b 0 a :=
  ⟨rfl, fun j hj => by omega, by have := ha.geti 0; omega, fun _ _ => rfl, by simp [val]⟩
theorem SubI.lim {a b o : List Int} (h : SubI a b a.length o) : Lim o := by
  intro x hx
  obtain ⟨j, hj, rfl⟩ := List.getElem_of_mem hx
  have := h.low j (by rw [← h.len]; exact hj)
  rwa [geti_eq hj] at this
theorem SubI.done {a b o : List Int} (h : SubI a b a.length o) (hlen : b.length ≤ a.length) : trim o = nl (val a - val b) := by
  rw [trim_nl h.lim, h.eq, val_take_all hlen]
/-- What stands at i once b's limb is taken away. -/
theorem SubI.step0 {a b o : List Int} {i : Nat} (h : SubI a b i o) (ha : Lim a) (hb : Lim b) (hi : i < a.length) {x : Int}
    (hx : x = if i < b.length then geti o i - geti b i else geti o i) (hpos : 0 ≤ x) : SubI a b (i + 1) (o.set i x) := by
  have h1 := hb.geti i
  have h2 := h.here
  have hio : i < o.length := by rw [h.len]; exact hi
  have heq := h.eq
  have hv := val_set o i x hio
  refine ⟨by rw [List.length_set, h.len], fun j hj => ?_, ?_, fun j hj => ?_, ?_⟩
  · rw [geti_set hio]
    split
    · rw [hx] at hpos ⊢; split at hpos <;> split <;> omega
    · exact h.low j (by omega)
  · rw [geti_set hio, if_neg (by omega), h.high _ (by omega)]; have := ha.geti (i + 1); omega
  · rw [geti_set hio, if_neg (by omega)]; exact h.high j (by omega)
  · rw [hv, heq]
    by_cases hb' : i < b.length
    · rw [val_take hb', hx, if_pos hb']; grind
    · rw [take_ge (by omega), hx, if_neg hb']; grind
theorem SubI.step1 {a b o : List Int} {i : Nat} (h : SubI a b i o) (ha : Lim a) (hb : Lim b) (hi : i + 1 < a.length) {x : Int}
    (hx : x = if i < b.length then geti o i - geti b i else geti o i) (hneg : x < 0) : SubI a b (i + 1) ((o.set i (x + 1000000)).set (i + 1) (geti o (i + 1) - 1)) := by
  have h1 := hb.geti i
  have h2 := h.here
  have hio : i < o.length := by rw [h.len]; omega
  have hio2 : i + 1 < (o.set i (x + 1000000)).length := by rw [List.length_set, h.len]; exact hi
  have heq := h.eq
  have hv := val_set o i (x + 1000000) hio
  have hv2 := val_set (o.set i (x + 1000000)) (i + 1) (geti o (i + 1) - 1) hio2
  have hg : geti (o.set i (x + 1000000)) (i + 1) = geti o (i + 1) := by rw [geti_set hio, if_neg (by omega)]
  have hxb : -1000000 ≤ x := by rw [hx]; split <;> omega
  refine ⟨by rw [List.length_set, List.length_set, h.len], fun j hj => ?_, ?_, fun j hj => ?_, ?_⟩
  · rw [geti_set hio2, if_neg (by omega), geti_set hio]
    split
    · omega
    · exact h.low j (by omega)
  · rw [geti_set hio2, if_pos rfl, h.high _ (by omega)]; have := ha.geti (i + 1); omega
  · rw [geti_set hio2, if_neg (by omega), geti_set hio, if_neg (by omega)]; exact h.high j (by omega)
  · rw [hv2, hg, hv, heq, pw_succ]
    by_cases hb' : i < b.length
    · rw [val_take hb', hx, if_pos hb']; grind
    · rw [take_ge (by omega), hx, if_neg hb']; grind
/-- At the last limb nothing is borrowed. -/
theorem SubI.top {a b o : List Int} {i : Nat} (h : SubI a b i o) (hi : i + 1 = a.length) (hlen : b.length ≤ a.length) (hle : val b ≤ val a) {x : Int}
    (hx : x = if i < b.length then geti o i - geti b i else geti o i) : 0 ≤ x := by
  have hio : i < o.length := by rw [h.len]; omega
  have heq := h.eq
  have hs := val_split o i (by omega)
  have hd := drop_cons hio
  rw [hd, List.drop_eq_nil_of_le (by rw [h.len]; omega), val, val] at hs
  have hlow : Lim (o.take i) := by
    intro y hy
    obtain ⟨j, hj, rfl⟩ := List.getElem_of_mem hy
    rw [List.length_take] at hj
    have := h.low j (by omega)
    rw [geti_eq (by omega)] at this
    simpa using this
  have h1 := val_lt_pw hlow
  rw [List.length_take, Nat.min_eq_left (by omega)] at h1
  have hbt : val (b.take i) + (geti o i - x) * pw i = val b := by
    by_cases hb' : i < b.length
    · have := val_take hb'
      rw [val_take_all (by omega)] at this
      rw [hx, if_pos hb', this]; grind
    · rw [val_take_all (by omega), hx, if_neg hb']; grind
  rcases Int.lt_or_le x 0 with h2 | h2
  · exfalso
    have h3 := Int.mul_le_mul_of_nonneg_right (show x ≤ -1 by omega) (Int.le_of_lt (pw_pos i))
    have h4 : val a - val b = val (o.take i) + x * pw i := by rw [← hbt]; grind
    omega
  · exact h2
/-! ### Division by a small number -/
/-- The quotient's limbs and the rest. -/
def dvs : List Int → Int → List Int × Int
  | [], _ => ([], 0)
  | x :: t, d => (((dvs t d).2 * 1000000 + x) / d :: (dvs t d).1, ((dvs t d).2 * 1000000 + x) % d)
theorem dvs_len : ∀ (l : List Int) (d : Int), (dvs l d).1.length = l.length
  | [], _ => rfl
  | x :: t, d => by simp [dvs, dvs_len t d]
theorem dvs_rest {d : Int} (hd : 1 ≤ d) : ∀ (l : List Int), 0 ≤ (dvs l d).2 ∧ (dvs l d).2 < d
  | [] => by simp [dvs]; omega
  | x :: t => by
    simp only [dvs]
    exact ⟨Int.emod_nonneg _ (by omega), Int.emod_lt_of_pos _ (by omega)⟩
theorem dvs_lim {d : Int} (hd : 1 ≤ d) : ∀ {l : List Int}, Lim l → Lim (dvs l d).1
  | [], _ => fun x hx => by simp [dvs] at hx
  | x :: t, h => by
    have ih := dvs_lim hd h.tail
    have hr := dvs_rest hd t
    have hx := h.head
    simp only [dvs]
    refine ih.cons (Int.ediv_nonneg (by omega) (by omega)) ?_
    have : ((dvs t d).2 * 1000000 + x) / d < 1000000 := Int.ediv_lt_of_lt_mul (by omega) (by have := Int.mul_le_mul_of_nonneg_right (show (dvs t d).2 + 1 ≤ d by omega) (show (0 : Int) ≤ 1000000 by omega); rw [Int.mul_comm 1000000]; omega)
    omega
theorem dvs_val {d : Int} (_hd : 1 ≤ d) : ∀ (l : List Int), val l = val (dvs l d).1 * d + (dvs l d).2
  | [] => by simp [dvs, val]
  | x :: t => by
    have ih := dvs_val _hd t
    simp only [dvs]
    rw [val, val, ih]
    have := Int.mul_ediv_add_emod ((dvs t d).2 * 1000000 + x) d
    generalize ((dvs t d).2 * 1000000 + x) / d = q at *
    generalize ((dvs t d).2 * 1000000 + x) % d = r at *
    grind
theorem dvs_div {d : Int} (hd : 1 ≤ d) {l : List Int} (_h : Lim l) : val (dvs l d).1 = val l / d ∧ (dvs l d).2 = val l % d := by
  have h1 := dvs_val hd l
  have h2 := dvs_rest hd l
  constructor
  · rw [h1, Int.add_ediv_of_dvd_left (Int.dvd_mul_left ..), Int.mul_ediv_cancel _ (by omega), Int.ediv_eq_zero_of_lt h2.1 h2.2]; omega
  · rw [h1, Int.add_emod, Int.mul_emod_left, Int.zero_add, Int.emod_emod, Int.emod_eq_of_lt h2.1 h2.2]
theorem dvs_trim {d : Int} (hd : 1 ≤ d) {l : List Int} (h : Lim l) : trim (dvs l d).1 = nl (val l / d) := by
  rw [trim_nl (dvs_lim hd h), (dvs_div hd h).1]
theorem dvs_step {l : List Int} {k : Nat} (h : k < l.length) (d : Int) :
    dvs (l.drop k) d = (((dvs (l.drop (k + 1)) d).2 * 1000000 + geti l k) / d :: (dvs (l.drop (k + 1)) d).1, ((dvs (l.drop (k + 1)) d).2 * 1000000 + geti l k) % d) := by
  rw [drop_cons h]; rfl
end Go.Proofs.Ytanjpkcacgjgfaa
