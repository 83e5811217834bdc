/- PruneMachine: the search in depth through the closure that calls itself. No condition beyond the stated bounds. -/
import Derived.Test.YthijhpkkijjlfaaMNext
import Derived.Laws.OwnMore
import Derived.Laws.EntriesVeiled
import Derived.RangeFuncNested
namespace Go.Proofs.Ythijhpkkijjlfaa
open Go.RowKit
theorem Owns.sh {w : World} {base : Nat} {v : Value} {l : List Int} (h : Owns w base v l) :
    ∃ A c, v = .slice A l.length c ∧ l.length ≤ c ∧ c ≤ maxLen ∧ (A = none → l.length = 0) ∧ ∀ ad, A = some ad → base ≤ ad.block ∧ ad.block < w.heap.size ∧ ∀ j, j < l.length → w.cell? (ad.add j) = some (.int .i64 (geti l j)) := by
  have hlt := h.lt
  rcases h.2 with ⟨rfl, hn⟩ | ⟨g, cap, cur, rfl, hb, hg, hnc, hcm, hcs, htake⟩
  · exact ⟨none, 0, by rw [hn], by omega, Nat.zero_le _, fun _ => hn, (fun ad e => by cases e)⟩
  · refine ⟨_, cap, rfl, hnc, hcm, (fun e => by cases e), fun ad e => ?_⟩
    injection e with e
    subst e
    refine ⟨hb, (hlt g rfl).2, fun j hj => ?_⟩
    have e2 : (⟨g, 0, none⟩ : Addr).add j = ⟨g, j, none⟩ := by unfold Addr.add; by_cases h : j = 0 <;> simp [h]
    rw [e2]
    exact h.cellAt hj
theorem below_grown {W W' : World} (h : Below W.heap.size W W') (row : Option Nat) : W.grownBy W' row := ⟨h.os, h.tape, h.output, h.size, fun k hk _ => h.block k hk⟩
/-- The variables of the search: the number of states, the marks, the two closures; the marks' row in block Sb. -/
structure VW (W : World) (B0 Bm Br s st : Nat) (ad : Addr) (n c : Nat) (l : List Int) (Bn Bs Bf Bv Sb : Nat) (sb : List Bool) : Prop where
  pr : PrW W B0 Bm Br s st ad n c l
  bn : W.cell? ⟨Bn, 0, none⟩ = some (.int .i64 (st : Int))
  bs : W.cell? ⟨Bs, 0, none⟩ = some (.slice (some ⟨Sb, 0, none⟩) st st)
  bf : W.cell? ⟨Bf, 0, none⟩ = some (.func (.func 22) #[] #[.pointer (some ⟨Br, 0, none⟩)])
  bv : W.cell? ⟨Bv, 0, none⟩ = some (.func (.func 37) #[] #[.pointer (some ⟨Bn, 0, none⟩), .pointer (some ⟨Bs, 0, none⟩), .pointer (some ⟨Bf, 0, none⟩), .pointer (some ⟨Bv, 0, none⟩)])
  row : W.ownsRow B0 4 1 (.slice (some ⟨Sb, 0, none⟩) st st) st (sb.map Value.bool)
  len : sb.length = st
  nn : Bn ≠ Sb
  ns : Bs ≠ Sb
  nf : Bf ≠ Sb
  nv : Bv ≠ Sb
  b0 : B0 ≤ Sb
  ln : Bn < W.heap.size
  ls : Bs < W.heap.size
  lf : Bf < W.heap.size
  lv : Bv < W.heap.size
  lb : Sb < W.heap.size
section
variable {W W' : World} {B0 Bm Br s st n c Bn Bs Bf Bv Sb : Nat} {ad : Addr} {l : List Int} {sb sb' : List Bool}
theorem VW.grown (h : VW W B0 Bm Br s st ad n c l Bn Bs Bf Bv Sb sb) (hg : W.grownBy W' (some Sb)) (hl : sb'.length = st) (hr : W'.ownsRow B0 4 1 (.slice (some ⟨Sb, 0, none⟩) st st) st (sb'.map Value.bool)) : VW W' B0 Bm Br s st ad n c l Bn Bs Bf Bv Sb sb' := by
  have hc : ∀ b, b ≠ Sb → b < W.heap.size → W'.cell? ⟨b, 0, none⟩ = W.cell? ⟨b, 0, none⟩ := fun b hne hlt => by
    unfold World.cell?; rw [hg.block _ hlt (by intro e; injection e with e; exact hne e)]
  have hz := hg.size
  exact ⟨h.pr.grown hg h.b0, (hc _ h.nn h.ln).trans h.bn, (hc _ h.ns h.ls).trans h.bs, (hc _ h.nf h.lf).trans h.bf, (hc _ h.nv h.lv).trans h.bv, hr, hl, h.nn, h.ns, h.nf, h.nv, h.b0,
    Nat.lt_of_lt_of_le h.ln hz, Nat.lt_of_lt_of_le h.ls hz, Nat.lt_of_lt_of_le h.lf hz, Nat.lt_of_lt_of_le h.lv hz, Nat.lt_of_lt_of_le h.lb hz⟩
theorem VW.next (h : VW W B0 Bm Br s st ad n c l Bn Bs Bf Bv Sb sb) (hb : Below W.heap.size W W') : VW W' B0 Bm Br s st ad n c l Bn Bs Bf Bv Sb sb :=
  h.grown (below_grown hb _) h.len (World.ownsRow.kept (row := none) h.row (below_grown hb none) (by simp [Value.ownBlock]))
theorem VW.at_ (h : VW W B0 Bm Br s st ad n c l Bn Bs Bf Bv Sb sb) {k : Nat} (hk : k < st) : W.cell? ⟨Sb, k, none⟩ = some (.bool (mkd sb (k : Int))) ∧ W.frozen? ⟨Sb, k, none⟩ = false := by
  refine ⟨?_, World.ownsRow.frozenAt h.row k⟩
  have hkl : k < sb.length := by rw [h.len]; exact hk
  have h2 := World.ownsRow.cells h.row rfl k (.bool (mkd sb (k : Int))) (by
    rw [List.getElem?_map, List.getElem?_eq_getElem hkl]
    unfold mkd
    rw [Int.toNat_natCast, List.getD_eq_getElem?_getD, List.getElem?_eq_getElem hkl]; rfl)
  have e2 : (⟨Sb, 0, none⟩ : Addr).add k = ⟨Sb, k, none⟩ := by unfold Addr.add; by_cases h : k = 0 <;> simp [h]
  rw [e2] at h2
  exact h2
theorem VW.mark (h : VW W B0 Bm Br s st ad n c l Bn Bs Bf Bv Sb sb) (k : Nat) : VW (W.setCell ⟨Sb, k, none⟩ (.bool true)) B0 Bm Br s st ad n c l Bn Bs Bf Bv Sb (sb.set k true) ∧ W.grownBy (W.setCell ⟨Sb, k, none⟩ (.bool true)) (some Sb) := by
  have := World.ownsRow.stored h.row k (.bool true)
  exact ⟨h.grown this.2 (by rw [List.length_set]; exact h.len) (by rw [List.map_set]; exact this.1), this.2⟩
end
theorem mkd_nat {s : List Bool} {i j : Int} (h : i.toNat = j.toNat) : mkd s i = mkd s j := by unfold mkd; rw [h]
theorem Vin.fall {nx : Nat → List Int} {k : Nat} {s s' : List Bool} {i : Nat} (h : Vin nx (k : Int) s s' i) (hk : k < s.length) (h0 : mkd s (k : Int) = false) : free s' < free s := by
  have h1 := free_set hk h0
  have h2 : free s' ≤ free (s.set k true) := free_le (by rw [h.len, List.length_set]) (fun j hj => by
    rw [mkd_set hk, Bool.or_eq_true, decide_eq_true_eq] at hj
    rcases hj with hj | hj
    · rw [mkd_nat (show j.toNat = ((k : Int)).toNat by rw [hj]; simp)]; exact h.here
    · exact h.more j hj)
  omega
set_option maxHeartbeats 1000000 in
theorem visit_any {B0 Bm Br s st n c : Nat} {ad : Addr} {l : List Int} {Bn Bs Bf Bv Sb : Nat} (hn : n = st * s) (hnc : n ≤ c) (hc : c ≤ maxLen) (hs : s ≤ 1000) (hst : st ≤ 1000) (hs0 : 0 < s) (hf : Fit l) (hv : validB (s : Int) (st : Int) l = true) :
    ∀ (d : Nat) (W : World) (sb : List Bool) (k : Nat), free sb < d → k < st → VW W B0 Bm Br s st ad n c l Bn Bs Bf Bv Sb sb →
    Calls Try.prog 37 #[.int .i64 (k : Int), .pointer (some ⟨Bn, 0, none⟩), .pointer (some ⟨Bs, 0, none⟩), .pointer (some ⟨Bf, 0, none⟩), .pointer (some ⟨Bv, 0, none⟩)] W fun e w' =>
      e = .returned (.tuple #[]) ∧ ∃ sb', Vis (nxL s l) (k : Int) sb sb' ∧ VW w' B0 Bm Br s st ad n c l Bn Bs Bf Bv Sb sb' ∧ W.grownBy w' (some Sb) := by
  have HN := Lib.hid hn
  have HV := Lib.hid hv
  have HF := Lib.hid hf
  clear hn hv hf
  intro d
  induction d with
  | zero => intro W sb k h; omega
  | succ d ih =>
    intro W sb k hfr hk hw
    have IH := Lib.hid ih
    clear ih
    have HW := Lib.hid hw
    have hcn := hw.bn
    have hcs := hw.bs
    have hat := hw.at_ hk
    have hcell := hat.1
    have hfree := hat.2
    have hki : decide ((st : Int) ≤ (k : Int)) = false := decide_eq_false (by omega)
    have hki2 : (k : Int) < (st : Int) := by omega
    clear hw hat
    cases hm : mkd sb (k : Int) with
    | true =>
      rw [hm] at hcell
      have HM := Lib.hid hm
      clear hm
      go_enter Try.func37, Try.ntmps37
      go_wp2_with fail
      first | go_ret | (refine bodyPost_ret (results_none rfl _ _ _) rfl ?_)
      exact ⟨rfl, sb, Vis.seen HM.out, HW.out, ⟨rfl, rfl, rfl, Nat.le_refl _, fun _ _ _ => rfl⟩⟩
    | false =>
      rw [hm] at hcell
      have hkl : k < sb.length := by rw [HW.out.len]; exact hk
      have HM := Lib.hid hm
      clear hm
      obtain ⟨hw1, hg1⟩ := HW.out.mark k
      have hcf1 := hw1.bf
      have HW1 := Lib.hid hw1
      have HG1 := Lib.hid hg1
      clear hw1 hg1
      go_enter Try.func37, Try.ntmps37
      go_wp2_with fail
      refine (next_any HW1.out.pr k hk HN.out hnc hc hs hst hs0 HF.out HV.out).mono ?_
      rintro e w2 ⟨r, rfl, o2, hb2⟩
      obtain ⟨A, c2, rfl, hc2, hm2, hA, hS⟩ := o2.sh
      have HS := Lib.hid hS
      have HW2 := Lib.hid (HW1.out.next hb2)
      have HG2 := Lib.hid (HG1.out.trans (below_grown hb2 _))
      have HST := Lib.hid (Vin.start (nx := nxL s l) (k := (k : Int)) (s := sb) (by omega) (by simpa using hkl))
      have hsz : (W.setCell ⟨Sb, k, none⟩ (.bool true)).heap.size = W.heap.size := Nat.le_antisymm (by rw [World.size_setCell]; exact Nat.le_refl _) HG1.out.size
      have hSbl : Sb < W.heap.size := HW.out.lb
      have hlead := Lib.hid (leads_valid HV.out)
      have hml := nxT_len s l s k
      change (nxL s l k).length ≤ s at hml
      unfold maxLen at hm2
      clear hS o2 hb2 hcn hcs hcell hfree hcf1
      go_wp2_with fail
      go_loopw [24] (fun i wr => ∃ (j : Nat) (sb' : List Bool), j ≤ (nxL s l k).length ∧ i = .int .i64 j ∧ Hid (VW wr B0 Bm Br s st ad n c l Bn Bs Bf Bv Sb sb') ∧ Hid (Vin (nxL s l) (k : Int) sb sb' j) ∧ Hid (w2.grownBy wr (some Sb))) (fun i _ => (nxL s l k).length - (intOf i).toNat)
      case atStart => exact ⟨0, sb.set k true, Nat.zero_le _, rfl, HW2, by simpa using HST, Lib.hid ⟨rfl, rfl, rfl, Nat.le_refl _, fun _ _ _ => rfl⟩⟩
      case round =>
        clear HST HW2
        obtain ⟨j, sb', hj, rfl, HW3, HI3, HG3⟩ := hrel
        by_cases hlt : j < (nxL s l k).length
        · have hji : (j : Int) < ((nxL s l k).length : Int) := by omega
          have hne : A ≠ none := fun e => by have := hA e; omega
          obtain ⟨a2, rfl⟩ : ∃ a2, A = some a2 := by cases A with | none => exact absurd rfl hne | some a => exact ⟨a, rfl⟩
          obtain ⟨hs1, hs2, hs3⟩ := HS.out a2 rfl
          have hcc : wr.cell? (a2.add j) = some (.int .i64 (geti (nxL s l k) j)) := by
            refine Eq.trans ?_ (hs3 j hlt)
            unfold World.cell?
            rw [block_of_add, HG3.out.block _ hs2 (by intro e; injection e with e; omega)]
          have hbd := hlead.out k hk _ (geti_mem hlt)
          obtain ⟨t, ht⟩ := Int.eq_ofNat_of_zero_le hbd.1
          have htl : t < st := by omega
          have hfall := HI3.out.fall hkl HM.out
          have HT := Lib.hid ht
          rw [ht] at hcc
          have hcv := HW3.out.bv
          clear hs3 hs1 hs2 hbd ht
          go_wp2_with fail
          refine (IH.out wr sb' t (by omega) htl HW3.out).mono ?_
          rintro e w4 ⟨rfl, sb'', hvis, hvw, hg4⟩
          have HW4 := Lib.hid hvw
          have HI4 := Lib.hid (HI3.out.next (by simpa using hlt) (by simpa [HT.out] using hvis))
          have HG4 := Lib.hid (HG3.out.trans hg4)
          clear hvis hvw hg4 hcc hcv
          go_wp2_with fail
          go_roundw
          case rel => exact ⟨j + 1, sb'', by omega, by go_num, HW4, HI4, HG4⟩
          case measure => simp [intOf] <;> omega
        · obtain rfl : j = (nxL s l k).length := by omega
          have hd : decide (((nxL s l k).length : Int) < ((nxL s l k).length : Int)) = false := decide_eq_false (by omega)
          go_wp2_with fail
          first | go_ret | (refine bodyPost_ret (results_none rfl _ _ _) rfl ?_) | go_end0
          exact ⟨rfl, sb', Vin.done' (by simpa using HI3.out), HW3.out, HG2.out.trans HG3.out⟩
theorem Try.infoBool : (Try.prog.info? 4).map (fun i => (i.zero, i.size, i.bytes)) = some (some (.bool false), 1, 1) := by kernel_rfl
theorem made_bools (n : Nat) : (madeCells (Value.bool false).cells (n * 1)).toList = (List.replicate n false).map Value.bool := by
  rw [Nat.mul_one, List.map_replicate]
  exact toList_madeCells_one _ _
set_option maxHeartbeats 2000000 in
theorem reachable_any {W : World} {B0 Bm Br s st n c : Nat} {ad : Addr} {l : List Int} (h : PrW W B0 Bm Br s st ad n c l) (hB0 : B0 = W.heap.size) (hn : n = st * s) (hnc : n ≤ c) (hc : c ≤ maxLen) (hs : s ≤ 1000) (hst : st ≤ 1000) (hs0 : 0 < s) (hst0 : 0 < st) (hf : Fit l) (hv : validB (s : Int) (st : Int) l = true) :
    Calls Try.prog 21 #[.int .i64 (st : Int), .func (.func 22) #[] #[.pointer (some ⟨Br, 0, none⟩)]] W fun e w' => ∃ r, e = .returned r ∧ Owns w' W.heap.size r (rchL (nxL s l)) ∧ Below W.heap.size W w' := by
  subst hB0
  obtain ⟨i0, hi0, hz0, hz1, hz2⟩ := info_parts Try.infoBool
  have HH := Lib.hid h
  have HN := Lib.hid hn
  have HV := Lib.hid hv
  have HF := Lib.hid hf
  clear h hn hv hf
  have hst1 : (0 : Int) ≤ (st : Int) := by omega
  go_enter Try.func21, Try.ntmps21
  go_wp2_with (at_make; refine wpList_make_full _ rfl _ _ 63 rfl W.heap.size 4 i0 _ 1 Try.underlying63 hi0 hz0 hz1 _ _ _ _ st rfl rfl rfl rfl (by rw [hz2]; omega) (by unfold maxLen; omega) (by simp; omega) ?_; intro w1 hown hg)
  have hX := below_two W (.cells #[.int .i64 (st : Int)] 2) (.cells #[.func (.func 22) #[] #[.pointer (some ⟨Br, 0, none⟩)]] 50)
  have hb1 := hX.grown hg (by simp; omega) (by simp)
  have hbn := (Boxed.new W 2 (.int .i64 (st : Int))).alloc (.cells #[.func (.func 22) #[] #[.pointer (some ⟨Br, 0, none⟩)]] 50)
  have hbf := Boxed.new (W.alloc (.cells #[.int .i64 (st : Int)] 2)) 50 (.func (.func 22) #[] #[.pointer (some ⟨Br, 0, none⟩)])
  replace hbn := hbn.kept hg (by simp)
  replace hbf := hbf.kept hg (by simp)
  rw [World.size_alloc] at hbf
  have hz : ((W.alloc (.cells #[.int .i64 (st : Int)] 2)).alloc (.cells #[.func (.func 22) #[] #[.pointer (some ⟨Br, 0, none⟩)]] 50)).heap.size = W.heap.size + 1 + 1 := by simp
  rw [hz] at hown
  have hSb : W.heap.size + 1 + 1 < w1.heap.size := (World.ownsRow.lt hown _ rfl).2
  rw [made_bools] at hown
  clear hg hz
  have hbs := (Boxed.new w1 63 (.slice (some ⟨W.heap.size + 1 + 1, 0, none⟩) st st)).alloc (.cells #[.func (.func 37) #[] #[.pointer (some ⟨W.heap.size, 0, none⟩), .pointer (some ⟨w1.heap.size, 0, none⟩), .pointer (some ⟨W.heap.size + 1, 0, none⟩), .pointer (some ⟨w1.heap.size + 1, 0, none⟩)]] 64)
  have hbv := Boxed.new (w1.alloc (.cells #[.slice (some ⟨W.heap.size + 1 + 1, 0, none⟩) st st] 63)) 64 (.func (.func 37) #[] #[.pointer (some ⟨W.heap.size, 0, none⟩), .pointer (some ⟨w1.heap.size, 0, none⟩), .pointer (some ⟨W.heap.size + 1, 0, none⟩), .pointer (some ⟨w1.heap.size + 1, 0, none⟩)])
  rw [World.size_alloc] at hbv
  have h2 := below_two w1 (.cells #[.slice (some ⟨W.heap.size + 1 + 1, 0, none⟩) st st] 63) (.cells #[.func (.func 37) #[] #[.pointer (some ⟨W.heap.size, 0, none⟩), .pointer (some ⟨w1.heap.size, 0, none⟩), .pointer (some ⟨W.heap.size + 1, 0, none⟩), .pointer (some ⟨w1.heap.size + 1, 0, none⟩)]] 64)
  replace hbn := (hbn.alloc (.cells #[.slice (some ⟨W.heap.size + 1 + 1, 0, none⟩) st st] 63)).alloc (.cells #[.func (.func 37) #[] #[.pointer (some ⟨W.heap.size, 0, none⟩), .pointer (some ⟨w1.heap.size, 0, none⟩), .pointer (some ⟨W.heap.size + 1, 0, none⟩), .pointer (some ⟨w1.heap.size + 1, 0, none⟩)]] 64)
  replace hbf := (hbf.alloc (.cells #[.slice (some ⟨W.heap.size + 1 + 1, 0, none⟩) st st] 63)).alloc (.cells #[.func (.func 37) #[] #[.pointer (some ⟨W.heap.size, 0, none⟩), .pointer (some ⟨w1.heap.size, 0, none⟩), .pointer (some ⟨W.heap.size + 1, 0, none⟩), .pointer (some ⟨w1.heap.size + 1, 0, none⟩)]] 64)
  have hrow := World.ownsRow.kept (row := none) hown (below_grown h2 none) (by simp [Value.ownBlock])
  have hb5 := below_next hb1 h2
  have hw : VW _ W.heap.size Bm Br s st ad n c l W.heap.size w1.heap.size (W.heap.size + 1) (w1.heap.size + 1) (W.heap.size + 1 + 1) (List.replicate st false) :=
    ⟨HH.out.next hb5, hbn.cell, hbs.cell, hbf.cell, hbv.cell, hrow, by simp, by omega, by omega, by omega, by omega, by omega, hbn.lt, hbs.lt, hbf.lt, hbv.lt, Nat.lt_of_lt_of_le hSb h2.size⟩
  clear hbn hbs hbf hbv hrow hown hb1 hX
  have hvisit := visit_any HN.out hnc hc hs hst hs0 HF.out HV.out (free (List.replicate st false) + 1) _ (List.replicate st false) 0 (by omega) hst0 hw
  rw [show ((0 : Nat) : Int) = 0 from rfl] at hvisit
  generalize ((w1.alloc (.cells #[.slice (some ⟨W.heap.size + 1 + 1, 0, none⟩) st st] 63)).alloc (.cells #[.func (.func 37) #[] #[.pointer (some ⟨W.heap.size, 0, none⟩), .pointer (some ⟨w1.heap.size, 0, none⟩), .pointer (some ⟨W.heap.size + 1, 0, none⟩), .pointer (some ⟨w1.heap.size + 1, 0, none⟩)]] 64)) = w5 at *
  refine hvisit.mono ?_
  rintro e w6 ⟨rfl, sb, hvis, hvw, hg6⟩
  have hb6 := hb5.grown hg6 hb5.size (fun k hk => by injection hk with hk; omega)
  have HR : Hid (marked sb st = rchL (nxL s l)) := Lib.hid (marked_is (leads_valid HV.out) (fun j => by unfold mkd; rw [List.getD_eq_getElem?_getD, List.getElem?_replicate]; split <;> rfl) hst0 hvis).eq.symm
  have HW := Lib.hid hvw
  clear hvis hvw hg6 hvisit hw h2 hb5
  have HO0 := Lib.hid (Owns.empty w6 w6.heap.size (Nat.le_refl _))
  have hB0 : Below w6.heap.size w6 (w6.alloc (.cells #[] 2)) := (Below.refl _ _).alloc (Nat.le_refl _) _
  have hbs6 := (HW.out.next hB0).bs
  go_wp2_with fail
  clear hbs6
  go_loopw [7, 18] (fun u i wr => ∃ k : Nat, k ≤ st ∧ i = .int .i64 k ∧ Hid (Owns wr w6.heap.size u (marked sb k)) ∧ Below w6.heap.size w6 wr) (fun _ i _ => st - (intOf i).toNat)
  case atStart => exact ⟨0, Nat.zero_le _, rfl, HO0, hB0⟩
  case round =>
    clear HO0 hB0
    obtain ⟨k, hk, rfl, HO, hB⟩ := hrel
    by_cases hlt : k < st
    · have hki : (k : Int) < (st : Int) := by omega
      have hcell := ((HW.out.next hB).at_ hlt).1
      have hsn := marked_snoc sb k
      have hml := marked_len sb k
      have hll : (marked sb k).length ≤ 1000000000 := by omega
      have hmk : mkd sb (k : Int) = sb.getD k false := by unfold mkd; rw [Int.toNat_natCast]
      rw [← hmk] at hsn
      clear hmk
      cases hm : mkd sb (k : Int) with
      | true =>
        rw [hm] at hcell hsn
        have HS : Hid (marked sb (k + 1) = marked sb k ++ [(k : Int)]) := Lib.hid hsn
        clear hm hsn
        go_wp2_with (at_builtin; refine wpList_push rfl _ _ rfl w6.heap.size _ (marked sb k) rfl HO.out (k : Int) rfl hll hB.size ?_; intro v3 w4 o3 hg3 hv3; have hB4 := hB.grown hg3 hB.size (fun k hk => (HO.out.lt k hk).1); have HO4 : Hid (Owns w4 w6.heap.size v3 (marked sb (k + 1))) := Lib.hid (by rw [HS.out]; exact o3); clear o3 hg3 hv3)
        go_roundw
        case rel => exact ⟨k + 1, by omega, by go_num, HO4, hB4⟩
        case measure => simp [intOf] <;> omega
      | false =>
        rw [hm] at hcell hsn
        have HS : Hid (marked sb (k + 1) = marked sb k) := Lib.hid (by rw [hsn]; simp)
        clear hm hsn
        go_wp2_with fail
        go_roundw
        case rel => exact ⟨k + 1, by omega, by go_num, by rw [HS.out]; exact HO, hB⟩
        case measure => simp [intOf] <;> omega
    · obtain rfl : k = st := by omega
      have hd : decide ((k : Int) < (k : Int)) = false := decide_eq_false (by omega)
      go_wp2_with fail
      go_ret
      exact ⟨_, rfl, by rw [← HR.out]; exact HO.out.lower hb6.size, below_next hb6 hB⟩
end Go.Proofs.Ythijhpkkijjlfaa
