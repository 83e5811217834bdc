/- Plain facts for coding with a prefix code. No condition. -/
import Derived.Test.YtanjpkcacgjgfaaCode
namespace Go.Proofs.Ytanjpkcacgjgfaa
/-- The words with some indices, one after the other, behind out. -/
def encF (ls : List (List Int)) : List Int → List Int → Option (List Int)
  | [], out => some out
  | n :: t, out => if 400 < (out ++ getl ls n.toNat).length then none else encF ls t (out ++ getl ls n.toNat)
theorem encF_big {ls : List (List Int)} {l out : List Int} {k m : Nat} (h : k < l.length) (hm : geti l k = (m : Int)) (hb : 400 < (out ++ getl ls m).length) : encF ls (l.drop k) out = none := by
  rw [drop_cons h, encF, hm, Int.toNat_natCast, if_pos hb]
theorem encF_go {ls : List (List Int)} {l out : List Int} {k m : Nat} (h : k < l.length) (hm : geti l k = (m : Int)) (hb : ¬ 400 < (out ++ getl ls m).length) : encF ls (l.drop k) out = encF ls (l.drop (k + 1)) (out ++ getl ls m) := by
  rw [drop_cons h, encF, hm, Int.toNat_natCast, if_neg hb]
theorem encF_len {ls : List (List Int)} : ∀ (l out r : List Int), out.length ≤ 400 → encF ls l out = some r → r.length ≤ 400
  | [], out, r, h, he => by injection he with he; subst he; exact h
  | n :: t, out, r, h, he => by
    unfold encF at he
    split at he
    · cases he
    · exact encF_len t _ r (by omega) he
/-- A list or a code. -/
def optR (o : Option (List Int)) (c : Int) : List Int × Int := match o with | some l => (l, 0) | none => ([], c)
theorem optR_len {o : Option (List Int)} {c : Int} (h : ∀ l, o = some l → l.length ≤ 400) : (optR o c).1.length ≤ 4000000 := by
  unfold optR
  cases o with
  | none => simp
  | some l => have := h l rfl; simp; omega
theorem occB_drop {l p : List Int} {k : Nat} (h : k ≤ l.length) : occB (l.drop k) p 0 = occB l p k := by
  unfold occB; rw [List.length_drop, List.drop_zero]
  congr 1
  exact decide_eq_decide.2 (by omega)
theorem occB_len {l p : List Int} (h : occB l p 0 = true) : p.length ≤ l.length ∧ l.take p.length = p := by
  unfold occB at h
  rw [Bool.and_eq_true, decide_eq_true_eq, decide_eq_true_eq] at h
  exact ⟨by omega, h.2⟩
theorem occB_of {l p : List Int} (h : p.length ≤ l.length) (e : l.take p.length = p) : occB l p 0 = true := by
  unfold occB
  rw [Bool.and_eq_true, decide_eq_true_eq, decide_eq_true_eq]
  exact ⟨by omega, e⟩
/-- At most one word of a prefix code is at the beginning. -/
theorem PC.uniq {ls : List (List Int)} (h : PC ls) {r : List Int} {i k : Nat} (hi : i < ls.length) (hk : k < ls.length) (a : occB r (getl ls i) 0 = true) (b : occB r (getl ls k) 0 = true) : i = k := by
  rcases Nat.eq_or_lt_of_le (Nat.zero_le 0) with _ | h0
  · by_cases hne : i = k
    · exact hne
    · exfalso
      have key : ∀ {i k : Nat}, i < ls.length → k < ls.length → i ≠ k → occB r (getl ls i) 0 = true → occB r (getl ls k) 0 = true → (getl ls i).length ≤ (getl ls k).length → False := by
        intro i k hi hk hne a b hle
        obtain ⟨a1, a2⟩ := occB_len a
        obtain ⟨b1, b2⟩ := occB_len b
        have hc : occB (getl ls k) (getl ls i) 0 = true := by
          refine occB_of hle ?_
          rw [← b2, List.take_take, Nat.min_eq_left hle]
          exact a2
        rw [(h.2.2 k hk).2 i hi (fun e => hne e.symm)] at hc
        cases hc
      rcases Nat.le_total (getl ls i).length (getl ls k).length with hle | hle
      · exact key hi hk hne a b hle
      · exact key hk hi (fun e => hne e.symm) b a hle
  · omega
/-- The first of k words that is at the beginning. -/
def fndF (ls : List (List Int)) (r : List Int) : Nat → Option Nat
  | 0 => none
  | k + 1 => match fndF ls r k with
    | some j => some j
    | none => if occB r (getl ls k) 0 = true then some k else none
theorem fndF_none {ls : List (List Int)} {r : List Int} : ∀ k, (∀ j, j < k → occB r (getl ls j) 0 = false) → fndF ls r k = none
  | 0, _ => rfl
  | k + 1, h => by
    unfold fndF
    rw [fndF_none k (fun j hj => h j (by omega)), h k (by omega)]
    simp
theorem fndF_some {ls : List (List Int)} {r : List Int} {n : Nat} (hn : occB r (getl ls n) 0 = true) : ∀ k, n < k → (∀ j, j < k → occB r (getl ls j) 0 = true → j = n) → fndF ls r k = some n
  | 0, h, _ => by omega
  | k + 1, h, hu => by
    unfold fndF
    by_cases e : n = k
    · subst e
      rw [fndF_none n (fun j hj => by
        cases ho : occB r (getl ls j) 0 with
        | false => rfl
        | true => have := hu j (by omega) ho; omega)]
      simp [hn]
    · rw [fndF_some hn k (by omega) (fun j hj ho => hu j (by omega) ho)]
/-- Decoding, so many rounds at most. -/
def decF (ls : List (List Int)) : Nat → List Int → List Int → Option (List Int)
  | 0, _, out => some out
  | f + 1, r, out => if r.length = 0 then some out else match fndF ls r ls.length with
    | none => none
    | some n => decF ls f (r.drop (getl ls n).length) (out ++ [(n : Int)])
theorem decF_done {ls : List (List Int)} {r out : List Int} (f : Nat) (h : r.length = 0) : decF ls f r out = some out := by
  cases f with
  | zero => rfl
  | succ f => unfold decF; rw [if_pos h]
theorem decF_lost {ls : List (List Int)} {r out : List Int} {f : Nat} (h : 0 < r.length) (hn : ∀ j, j < ls.length → occB r (getl ls j) 0 = false) : decF ls (f + 1) r out = none := by
  unfold decF; rw [if_neg (by omega), fndF_none _ hn]
theorem decF_next {ls : List (List Int)} {r out : List Int} {f n : Nat} (hp : PC ls) (h : 0 < r.length) (hn : n < ls.length) (ho : occB r (getl ls n) 0 = true) :
    decF ls (f + 1) r out = decF ls f (r.drop (getl ls n).length) (out ++ [(n : Int)]) := by
  rw [decF, if_neg (by omega), fndF_some ho _ hn (fun j hj hoj => hp.uniq hj hn hoj ho)]
theorem decF_len {ls : List (List Int)} : ∀ (f : Nat) (r out l : List Int), decF ls f r out = some l → l.length ≤ out.length + f
  | 0, r, out, l, h => by injection h with h; subst h; omega
  | f + 1, r, out, l, h => by
    unfold decF at h
    split at h
    · injection h with h; subst h; omega
    · split at h
      · cases h
      · have := decF_len f _ _ l h
        simp at this
        omega
/-- How a search for a word stands behind b words: -1, or one that was found. -/
def FStat (ls : List (List Int)) (r : List Int) (b : Nat) (F : Int) : Prop :=
  (F = -1 ∧ ∀ j, j < b → occB r (getl ls j) 0 = false) ∨ ∃ m : Nat, m < b ∧ F = (m : Int) ∧ occB r (getl ls m) 0 = true
theorem FStat.no {ls : List (List Int)} {r : List Int} {b : Nat} {F : Int} (h : FStat ls r b F) (ho : occB r (getl ls b) 0 = false) : FStat ls r (b + 1) F := by
  rcases h with ⟨rfl, h⟩ | ⟨m, h1, h2, h3⟩
  · refine .inl ⟨rfl, fun j hj => ?_⟩
    rcases Nat.lt_or_ge j b with h1 | h1
    · exact h j h1
    · obtain rfl : j = b := by omega
      exact ho
  · exact .inr ⟨m, by omega, h2, h3⟩
theorem FStat.yes {ls : List (List Int)} {r : List Int} {b : Nat} (ho : occB r (getl ls b) 0 = true) : FStat ls r (b + 1) (b : Int) := .inr ⟨b, by omega, rfl, ho⟩
end Go.Proofs.Ytanjpkcacgjgfaa
