/- Machines and configurations as values: the contracts of szMachine, toMachine, eqMachine, markMachine, heldMachine and of the same for configurations. No condition beyond the stated bounds. -/
import Derived.Test.YthijhpkkijjlfaaRules
namespace Go.Proofs.Ythijhpkkijjlfaa
open Go.RowKit
theorem grown_set (w : World) (p : Addr) (u : Value) : w.grownBy (w.setCell p u) (some p.block) :=
  ⟨rfl, rfl, rfl, by simp [World.setCell], fun k _ hk => Below.heap_setCell _ _ _ _ (fun e => hk (by simp [e]))⟩
theorem Fresh3.set {w : World} {base : Nat} {v : Value} {l : List Int} (h : Fresh3 w base v l) {p : Addr} (hp : p.block < base) (u : Value) : Fresh3 (w.setCell p u) base v l :=
  h.kept (grown_set w p u) (fun k hk e => by injection e with e; have := (h.lt k hk).1; omega)
theorem Fresh.set {w : World} {base : Nat} {v : Value} {l : List Int} (h : Fresh w base v l) {p : Addr} (hp : p.block < base) (u : Value) : Fresh (w.setCell p u) base v l :=
  h.kept (grown_set w p u) (fun k hk e => by injection e with e; have := (h.lt k hk).1; omega)
theorem bcell {W w1 : World} (hb : Below W.heap.size W w1) : (∀ b o, b < W.heap.size → w1.cell? ⟨b, o, none⟩ = W.cell? ⟨b, o, none⟩) ∧ (∀ b o, b < W.heap.size → w1.frozen? ⟨b, o, none⟩ = W.frozen? ⟨b, o, none⟩) :=
  ⟨fun b o h => hb.cell (p := ⟨b, o, none⟩) h, fun b o h => hb.frozen (p := ⟨b, o, none⟩) h⟩
theorem below_one (w : World) (o : Obj) : Below w.heap.size w (w.alloc o) := (Below.refl _ _).alloc (Nat.le_refl _) _
theorem below_two (w : World) (o1 o2 : Obj) : Below w.heap.size w ((w.alloc o1).alloc o2) := by
  refine (below_one w o1).alloc ?_ _; simp
theorem below_three (w : World) (o1 o2 o3 : Obj) : Below w.heap.size w (((w.alloc o1).alloc o2).alloc o3) := by
  refine (below_two w o1 o2).alloc ?_ _; simp; omega
theorem below_four (w : World) (o1 o2 o3 o4 : Obj) : Below w.heap.size w ((((w.alloc o1).alloc o2).alloc o3).alloc o4) := by
  refine (below_three w o1 o2 o3).alloc ?_ _; simp; omega
/-- What is left of a budget when n is taken. -/
def szI (left : Int) (n : Nat) : Int := if left < (n : Int) then -1 else left - n
theorem szI_no {left : Int} {n : Nat} (h : left < (n : Int)) : szI left n = -1 := by unfold szI; rw [if_pos h]
theorem szI_yes {left : Int} {n : Nat} (h : ¬ left < (n : Int)) : szI left n = left - n := by unfold szI; rw [if_neg h]
theorem szI_bd {left : Int} {n : Nat} (h0 : 0 ≤ left) : -1 ≤ szI left n ∧ szI left n ≤ left := by unfold szI; split <;> omega
/-- v is a machine with the flat list of rules z.2.2. -/
def IsM (w : World) (v : Value) (z : Int × Int × List Int) : Prop :=
  ∃ rv, v = .agg #[.int .i64 z.1, .int .i64 z.2.1, rv] ∧ Sl3 w rv z.2.2 ∧ Fit z.2.2 ∧ (-9223372036854775808 ≤ z.1 ∧ z.1 ≤ 9223372036854775807) ∧ (-9223372036854775808 ≤ z.2.1 ∧ z.2.1 ≤ 9223372036854775807)
/-- v is a configuration. -/
def IsC (w : World) (v : Value) (z : Int × List Int × List Int) : Prop :=
  ∃ lv rv, v = .agg #[.int .i64 z.1, lv, rv] ∧ Sl w lv z.2.1 ∧ Sl w rv z.2.2 ∧ Fit z.2.1 ∧ Fit z.2.2 ∧ (-9223372036854775808 ≤ z.1 ∧ z.1 ≤ 9223372036854775807)
/-- v is a rule. -/
def IsR (v : Value) (z : Int × Int × Int) : Prop :=
  v = .agg #[.int .i64 z.1, .int .i64 z.2.1, .int .i64 z.2.2] ∧ (-9223372036854775808 ≤ z.1 ∧ z.1 ≤ 9223372036854775807) ∧ (-9223372036854775808 ≤ z.2.1 ∧ z.2.1 ≤ 9223372036854775807) ∧ (-9223372036854775808 ≤ z.2.2 ∧ z.2.2 ≤ 9223372036854775807)
/-- What a call leaves that returns a new machine. -/
def RetM (w : World) (sy st : Int) (l : List Int) (e : Ending) (w' : World) : Prop := ∃ r, e = .returned (.agg #[.int .i64 sy, .int .i64 st, r]) ∧ Fresh3 w' w.heap.size r l ∧ Below w.heap.size w w'
def RetMC (w : World) (sy st : Int) (l : List Int) (c : Int) (e : Ending) (w' : World) : Prop := ∃ r, e = .returned (.tuple #[.agg #[.int .i64 sy, .int .i64 st, r], .int .i64 c]) ∧ Fresh3 w' w.heap.size r l ∧ Below w.heap.size w w'
theorem szMachine_any (sy st : Int) (A : Option Addr) (n c : Nat) (left : Int) (w : World) (h0 : 0 ≤ left) (h1 : left ≤ 1048576) (hn : n ≤ c) (hc : c ≤ maxLen) :
    Calls Try.prog 4 #[.agg #[.int .i64 sy, .int .i64 st, .slice A n c], .int .i64 left] w fun e w' => e = .returned (.int .i64 (szI left n)) ∧ Below w.heap.size w w' := by
  by_cases hl : left < (n : Int)
  · have HF := Lib.hid (szI_no hl)
    go_enter Try.func4, Try.ntmps4
    go_wp2_with fail
    refine (szRuleS_any _ _ _ _ _ h0 h1 hn hc).mono ?_
    rintro e _ ⟨rfl, rfl⟩
    rw [if_pos hl]
    go_wp2_with fail
    go_ret
    exact ⟨ret_int HF.out.symm, below_one _ _⟩
  · have HF := Lib.hid (szI_yes hl)
    have e1 : decide (left - (n : Int) < 0) = false := decide_eq_false (by omega)
    go_enter Try.func4, Try.ntmps4
    go_wp2_with fail
    refine (szRuleS_any _ _ _ _ _ h0 h1 hn hc).mono ?_
    rintro e _ ⟨rfl, rfl⟩
    rw [if_neg (by omega)]
    go_wp2_with fail
    go_ret
    exact ⟨ret_int HF.out.symm, below_one _ _⟩
theorem toMachine_any (sy st : Int) (rv : Value) (l : List Int) (w : World) (h : Sl3 w rv l) (hn : l.length ≤ 4000000) :
    Calls Try.prog 6 #[.agg #[.int .i64 sy, .int .i64 st, rv]] w (RetM w sy st l) := by
  have HS := Lib.hid h
  obtain ⟨A, n, c, rfl, _, _, hr⟩ := h
  clear hr
  go_enter Try.func6, Try.ntmps6
  go_wp2_with fail
  refine (toRuleS_any _ l _ (HS.out.next (below_three _ _ _ _)) hn).mono ?_
  rintro e w1 ⟨r, rfl, hr, hb⟩
  obtain ⟨hc, hf⟩ := bcell hb
  have hz : w.heap.size + 2 < w1.heap.size := by have := hb.size; simp at this; omega
  have HR := Lib.hid hr
  have hB1 := (below_three w _ _ _).trans (hb.mono (by simp; omega))
  clear hr
  obtain ⟨A', n', c', rfl, _, _, hr'⟩ := HR.out.sl
  clear hr'
  go_wp2_with fail
  refine bodyPost_ret (v := .agg #[.int .i64 sy, .int .i64 st, .slice A' n' c']) (by simp [results, Try.results6, go_sem, hc]) rfl ⟨_, rfl, ?_, ?_⟩
  · refine Fresh3.lower (base := w.heap.size + 3) ?_ (by omega)
    have h0 : Fresh3 w1 (w.heap.size + 3) (.slice A' n' c') l := by simpa using HR.out
    repeat refine Fresh3.set ?_ (by simp) _
    exact h0
  · repeat refine Below.setCell ?_ (by first | (simp; done) | (simp; omega)) _
    exact hB1
theorem eqMachine_any (sy st sy' st' : Int) (v1 v2 : Value) (l1 l2 : List Int) (w : World) (h1 : Sl3 w v1 l1) (h2 : Sl3 w v2 l2) :
    Calls Try.prog 8 #[.agg #[.int .i64 sy, .int .i64 st, v1], .agg #[.int .i64 sy', .int .i64 st', v2]] w fun e w' => e = .returned (.bool (decide (sy = sy' ∧ st = st' ∧ l1 = l2))) ∧ Below w.heap.size w w' := by
  have HS1 := Lib.hid h1
  have HS2 := Lib.hid h2
  obtain ⟨A1, n1, c1, rfl, _, _, hr1⟩ := h1
  obtain ⟨A2, n2, c2, rfl, _, _, hr2⟩ := h2
  clear hr1 hr2
  by_cases h1 : sy = sy'
  · have e1 : (sy != sy') = false := by simp [h1]
    by_cases h2 : st = st'
    · have e2 : (st != st') = false := by simp [h2]
      have HF : Hid (decide (sy = sy' ∧ st = st' ∧ l1 = l2) = decide (l1 = l2)) := Lib.hid (by simp [h1, h2])
      clear h1 h2
      by_cases h3 : l1 = l2
      · have HE : Hid (decide (l1 = l2) = true) := Lib.hid (decide_eq_true h3)
        clear h3
        go_enter Try.func8, Try.ntmps8
        go_wp2_with fail
        refine (eqRuleS_any _ _ l1 l2 _ (HS1.out.next (below_two _ _ _)) (HS2.out.next (below_two _ _ _))).mono ?_
        rintro e w1 ⟨rfl, hb⟩
        rw [HE.out]
        go_wp2_with fail
        go_ret
        exact ⟨ret_bool (by rw [HF.out, HE.out]), (below_two w _ _).trans (hb.mono (by simp; omega))⟩
      · have HE : Hid (decide (l1 = l2) = false) := Lib.hid (decide_eq_false h3)
        clear h3
        go_enter Try.func8, Try.ntmps8
        go_wp2_with fail
        refine (eqRuleS_any _ _ l1 l2 _ (HS1.out.next (below_two _ _ _)) (HS2.out.next (below_two _ _ _))).mono ?_
        rintro e w1 ⟨rfl, hb⟩
        rw [HE.out]
        go_wp2_with fail
        go_ret
        exact ⟨ret_bool (by rw [HF.out, HE.out]), (below_two w _ _).trans (hb.mono (by simp; omega))⟩
    · have e2 : (st != st') = true := by simp [h2]
      have HF : Hid (decide (sy = sy' ∧ st = st' ∧ l1 = l2) = false) := Lib.hid (decide_eq_false (fun h => h2 h.2.1))
      clear h1 h2
      go_enter Try.func8, Try.ntmps8
      go_wp2
      go_ret
      exact ⟨ret_bool HF.out.symm, below_two _ _ _⟩
  · have e1 : (sy != sy') = true := by simp [h1]
    have HF : Hid (decide (sy = sy' ∧ st = st' ∧ l1 = l2) = false) := Lib.hid (decide_eq_false (fun h => h1 h.1))
    clear h1
    go_enter Try.func8, Try.ntmps8
    go_wp2
    go_ret
    exact ⟨ret_bool HF.out.symm, below_two _ _ _⟩
theorem markMachine_any (sy st : Int) (v : Value) (l : List Int) (base : Nat) (k0 : Int) (w : World) (h : Fresh3 w base v l) (hn : l.length ≤ 4000000) (h00 : 0 ≤ k0) (hk : k0 ≤ 1000000000) :
    Calls Try.prog 10 #[.agg #[.int .i64 sy, .int .i64 st, v], .int .i64 k0] w fun e w' => e = .returned (.int .i64 (k0 + (l.length : Int))) ∧ Fresh3 w' base v (marks k0 l.length) ∧ w.grownBy w' (blk v) := by
  have HO := Lib.hid h
  obtain ⟨A, n, c, rfl, _, _, hr⟩ := h.sl
  clear hr h
  go_enter Try.func10, Try.ntmps10
  go_wp2_with fail
  refine (markRuleS_any _ l base k0 _ (HO.out.next (below_one _ _)) hn h00 hk).mono ?_
  rintro e w1 ⟨rfl, ho, hg⟩
  have HO1 := Lib.hid ho
  clear ho
  go_wp2_with fail
  go_ret
  exact ⟨rfl, HO1.out, (World.grownBy_alloc w _ _).trans hg⟩
theorem heldMachine_any (sy st : Int) (v : Value) (m : Nat) (k0 : Int) (w : World) (h : Sl3 w v (marks k0 m)) (hn : m ≤ 4000000) (h00 : 0 ≤ k0) (hk : k0 ≤ 1000000000) :
    Calls Try.prog 12 #[.agg #[.int .i64 sy, .int .i64 st, v], .int .i64 k0] w fun e w' => e = .returned (.int .i64 (k0 + (m : Int))) ∧ Below w.heap.size w w' := by
  have HS := Lib.hid h
  obtain ⟨A, n, c, rfl, _, _, hr⟩ := h
  clear hr
  have e1 : decide (k0 + (m : Int) < 0) = false := decide_eq_false (by omega)
  go_enter Try.func12, Try.ntmps12
  go_wp2_with fail
  refine (heldRuleS_any _ m k0 _ (HS.out.next (below_one _ _)) hn h00 hk).mono ?_
  rintro e _ ⟨rfl, rfl⟩
  go_wp2_with fail
  go_ret
  exact ⟨rfl, below_one _ _⟩
end Go.Proofs.Ythijhpkkijjlfaa
