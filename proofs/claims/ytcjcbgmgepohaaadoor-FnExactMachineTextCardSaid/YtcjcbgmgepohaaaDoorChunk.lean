/- slices.Chunk over rules: the iterator's contract. No condition beyond the stated bounds. -/
import Derived.RangeFuncNested
import Derived.RangeFuncBound
import Derived.RangeFuncCalls
import Derived.RangeFuncLeaves
import Derived.Shelf.Abstract
import Derived.Shelf.RegionOpen
import Derived.WalkKit
import Derived.OwnWalkIn
import Derived.TacticsInMore
import Derived.LoopNIn
import Derived.LoopIn
import Derived.Sort.QuietIn
import Derived.Test.YtcjcbgmgepohaaaDoorRules
namespace Go.Proofs.YtcjcbgmgepohaaaDoor
open Go.RowKit Go.Shelf
attribute [local go_sem] Oper.semAt_some
theorem grownBy_drewN' (w : World) (n : Nat) : w.grownBy (w.drewN n) none := ⟨rfl, rfl, rfl, Nat.le_refl _, fun _ _ _ => rfl⟩
theorem below_drewN' {B : Nat} {w w' : World} (h : Below B w w') (n : Nat) : Below B w (w'.drewN n) := ⟨h.os, h.tape, h.output, h.size, h.block⟩
/-- The two boxes of the iterator hold what they held. -/
def Keep2 (Bs Bn : Nat) (A C : World) : Prop := C.cell? ⟨Bs, 0, none⟩ = A.cell? ⟨Bs, 0, none⟩ ∧ C.cell? ⟨Bn, 0, none⟩ = A.cell? ⟨Bn, 0, none⟩
theorem Keep2.t {Bs Bn : Nat} {A B C : World} (h : Keep2 Bs Bn A B) (k : Keep2 Bs Bn B C) : Keep2 Bs Bn A C := ⟨k.1.trans h.1, k.2.trans h.2⟩
theorem Keep2.grown {Bs Bn : Nat} {A C : World} {row : Option Nat} (h1 : Bs < A.heap.size) (h2 : Bn < A.heap.size) (hg : A.grownBy C row) (n1 : some Bs ≠ row) (n2 : some Bn ≠ row) : Keep2 Bs Bn A C := by
  constructor
  · unfold World.cell?; rw [hg.block Bs h1 n1]
  · unfold World.cell?; rw [hg.block Bn h2 n2]
theorem Keep2.b {Bs Bn : Nat} {w : World} (h1 : Bs < w.heap.size) (h2 : Bn < w.heap.size) (W : World) (l : Nat) (o o' : Obj) (hl : w.heap.size ≤ l) (h : W.heap[l]? = some o) (_ : o.isCells = false) (_ : o.isWalk = false) : Keep2 Bs Bn W (W.putObj l o') := by
  have hlt := (Array.getElem?_eq_some_iff.1 h).1
  exact Keep2.grown (by omega) (by omega) (grownBy_putObj' W l o') (by intro e; cases e; omega) (by intro e; cases e; omega)
/-- The k-th chunk of s rules. -/
def chunkV (ad : Addr) (s k : Nat) : Value := .slice (some (ad.add (k * s * 3))) s s
set_option maxRecDepth 100000 in
set_option maxHeartbeats 2000000 in
theorem chunk1_in (n : Nat) (hn : 1 ≤ n) (l Bs Bn : Nat) (ad : Addr) (s st cap : Nat) (hs0 : 0 < s) (hs : s ≤ 1000) (hst : st ≤ 1000) (hcap : st * s ≤ cap) (hcm : cap ≤ maxLen) (J Jx : List Nat → World → Prop)
    (hY : ∀ k W, k < st → J (List.range k) W → YieldAt .wide (n - 1) Tryd.prog l #[chunkV ad s k] W fun e W' =>
      (e = .returned (.bool true) ∧ J (List.range (k + 1)) W' ∧ Keep2 Bs Bn W W') ∨ (e = .returned (.bool false) ∧ Jx (List.range (k + 1)) W'))
    (W : World) (hJ : AbidesFrom W.heap.size J) (hBs : W.cell? ⟨Bs, 0, none⟩ = some (.slice (some ad) (st * s) cap)) (hBn : W.cell? ⟨Bn, 0, none⟩ = some (.int .i64 (s : Int))) (h0 : J [] W) :
    CallsIn .wide n Tryd.prog 28 #[.func (.yield l) #[] #[], .pointer (some ⟨Bs, 0, none⟩), .pointer (some ⟨Bn, 0, none⟩)] W fun e W' => (∃ v, e = .returned v) ∧
      ((∃ ys, ys = List.range st ∧ J ys W') ∨ (∃ pre, (∃ k, k ≤ st ∧ pre = List.range k) ∧ Jx pre W')) := by
  refine callsIn_of_wp Tryd.func28 rfl trivial ?_ rfl
  simp only [Tryd.ntmps28, List.size_toArray, List.length_cons, List.length_nil, Nat.reduceAdd, Nat.reduceSub, Array.replicate_succ, Array.replicate_zero, List.push_toArray, List.append_toArray, List.nil_append, List.cons_append]
  unfold maxLen at hcm
  gi_wp2
  gi_loopw [4, 5] (fun i d wr => ∃ k : Nat, k ≤ st ∧ i = .int .i64 ((k * s : Nat) : Int) ∧ J (List.range k) wr ∧ wr.cell? ⟨Bs, 0, none⟩ = some (.slice (some ad) (st * s) cap) ∧ wr.cell? ⟨Bn, 0, none⟩ = some (.int .i64 (s : Int)))
    (fun i _ _ => st * s - (intOf i).toNat)
  case atStart => exact ⟨0, Nat.zero_le _, by simp, h0, hBs, hBn⟩
  case round =>
    obtain ⟨k, hk, rfl, hJs, hc1, hc2⟩ := hrel
    have HC1 := Lib.hid hc1
    by_cases hlt : k < st
    · have hm : (k + 1) * s ≤ st * s := Nat.mul_le_mul_right s hlt
      rw [Nat.add_mul, Nat.one_mul] at hm
      obtain ⟨i, hi⟩ : ∃ i, k * s = i := ⟨_, rfl⟩
      obtain ⟨m, hmm⟩ : ∃ m, st * s = m := ⟨_, rfl⟩
      have HI := Lib.hid hi
      have HM := Lib.hid hmm
      have hmb : m ≤ 1000000 := by
        rw [← hmm]
        have := Nat.mul_le_mul hst hs
        omega
      rw [hi] at hm ⊢
      rw [hmm] at hm hc1 hcap
      clear hi hmm
      have hsi : (0 : Int) ≤ (i : Int) := by omega
      have hlti : (i : Int) < (m : Int) := by omega
      have hlei : (i : Int) ≤ (m : Int) := by omega
      gi_wp2
      gi_quiet (fail)
      have hJ2 : J (List.range k) (wr.drewN nq) := hJ _ wr (wr.drewN nq) none hJs (grownBy_drewN' wr nq) (fun r e => by cases e)
      obtain ⟨fn, tmps, assign, body, hy, hR⟩ := hY k (wr.drewN nq) hlt hJ2
      unfold chunkV at hy
      rw [HI.out] at hy
      gi_wp2
      refine hR.mono ?_
      rintro e W3 (⟨rfl, hJ3, hk3⟩ | ⟨rfl, hJx3⟩)
      · have hc3 : W3.cell? ⟨Bn, 0, none⟩ = some (.int .i64 (s : Int)) := hk3.2.trans hc2
        have HC3 : Hid (W3.cell? ⟨Bs, 0, none⟩ = some (.slice (some ad) (st * s) cap)) := Lib.hid (hk3.1.trans HC1.out)
        gi_wp2
        go_roundw
        case rel => exact ⟨k + 1, by omega, by rw [Nat.add_mul, Nat.one_mul, HI.out]; first | rfl | simp, hJ3, HC3.out, hc3⟩
        case measure => have := HM.out; simp [intOf] <;> omega
      · gi_wp2
        refine bodyPost_ret (results_none rfl _ _ _) rfl ?_
        exact ⟨⟨_, rfl⟩, .inr ⟨_, ⟨k + 1, by omega, rfl⟩, hJx3⟩⟩
    · obtain rfl : k = st := by omega
      obtain ⟨m, hmm⟩ : ∃ m, k * s = m := ⟨_, rfl⟩
      rw [hmm] at hc1 hcap ⊢
      have hd1 : decide ((m : Int) < (m : Int)) = false := decide_eq_false (by omega)
      gi_wp2
      go_end0
      exact ⟨⟨_, rfl⟩, .inl ⟨_, rfl, hJs⟩⟩
/-- A number below st. -/
abbrev Bel (st : Nat) := { k : Nat // k < st }
theorem chunk_stops (n : Nat) (hn : 1 ≤ n) (Bs Bn : Nat) (ad : Addr) (s st cap : Nat) (hs0 : 0 < s) (hs : s ≤ 1000) (hst : st ≤ 1000) (hcap : st * s ≤ cap) (hcm : cap ≤ maxLen) (w : World) (hB1 : Bs < w.heap.size) (hB2 : Bn < w.heap.size) (hBs : w.cell? ⟨Bs, 0, none⟩ = some (.slice (some ad) (st * s) cap)) (hBn : w.cell? ⟨Bn, 0, none⟩ = some (.int .i64 (s : Int))) :
    SeqStopsK .wide n Tryd.prog 28 #[.pointer (some ⟨Bs, 0, none⟩), .pointer (some ⟨Bn, 0, none⟩)] (fun x : Bel st => #[chunkV ad s x.1]) (Keep2 Bs Bn) (fun ys => ys.map (·.1) = List.range st) (fun pre => ∃ k, k ≤ st ∧ pre.map (·.1) = List.range k) st w := fun l J Jx W hW hJ _ hY h0 => by
  refine (chunk1_in n hn l Bs Bn ad s st cap hs0 hs hst hcap hcm (fun ks W => ∃ pre : List (Bel st), pre.map (·.1) = ks ∧ J pre W) (fun ks W => ∃ pre : List (Bel st), pre.map (·.1) = ks ∧ Jx pre W) ?_ W ?_ ((hW.cell (p := ⟨Bs, 0, none⟩) hB1).trans hBs) ((hW.cell (p := ⟨Bn, 0, none⟩) hB2).trans hBn) ⟨[], rfl, h0⟩).mono ?_
  · rintro k W1 hk ⟨pre, e, hj⟩
    have hl : pre.length = k := by have := congrArg List.length e; rw [List.length_map, List.length_range] at this; exact this
    refine (hY pre ⟨k, hk⟩ W1 hj (by omega)).mono ?_
    rintro e2 W2 (⟨h1, h2, h3⟩ | ⟨h1, h2⟩)
    · exact .inl ⟨h1, ⟨_, by rw [List.map_append, e, List.range_succ]; rfl, h2⟩, h3⟩
    · exact .inr ⟨h1, ⟨_, by rw [List.map_append, e, List.range_succ]; rfl, h2⟩⟩
  · rintro ks A B row ⟨pre, e, hj⟩ hg hr
    exact ⟨pre, e, hJ pre A B row hj hg hr⟩
  · rintro e W2 ⟨he, ⟨ys, rfl, pre, e2, hj⟩ | ⟨ks, ⟨k, hk, rfl⟩, pre, e2, hj⟩⟩
    · exact ⟨he, .inl ⟨pre, e2, hj⟩⟩
    · exact ⟨he, .inr ⟨pre, ⟨k, hk, e2⟩, hj⟩⟩
theorem chunk_call (A : Option Addr) (len cap s : Nat) (hs0 : 0 < s) (hs : s ≤ 1000) (w : World) :
    Calls Tryd.prog 14 #[.slice A len cap, .int .i64 (s : Int)] w fun e w' => e = .returned (.func (.func 28) #[] #[.pointer (some ⟨w.heap.size, 0, none⟩), .pointer (some ⟨w.heap.size + 1, 0, none⟩)]) ∧ w' = (w.alloc (.cells #[.slice A len cap] 27)).alloc (.cells #[.int .i64 (s : Int)] 3) := by
  have h1 : decide ((s : Int) < 1) = false := decide_eq_false (by omega)
  have h2 : (s == 0) = false := by rw [beq_eq_false_iff_ne]; omega
  have h3 : ¬ s = 0 := by omega
  go_enter Tryd.func14, Tryd.ntmps14
  go_wp2_with fail
  go_ret
  exact ⟨rfl, rfl⟩
end Go.Proofs.YtcjcbgmgepohaaaDoor
