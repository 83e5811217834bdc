/- Configurations: the contracts of szConfig, toConfig, eqConfig, markConfig, heldConfig. No condition beyond the stated bounds. -/
import Derived.Test.YtbjkhnajnbmnlaaMOwn
import Derived.Deep.Cut
namespace Go.Proofs.Ytbjkhnajnbmnlaa
open Go.RowKit
theorem szInt64S_any (A : Option Addr) (n c : Nat) (left : Int) (w : World) (h0 : 0 ≤ left) (h1 : left ≤ 1048576) (hn : n ≤ c) (hc : c ≤ maxLen) :
    Calls Try.prog 27 #[.slice A n c, .int .i64 left] w fun e w' => e = .returned (.int .i64 (szI left n)) ∧ w = w' := by
  unfold maxLen at hc
  by_cases hl : left < (n : Int)
  · have HF := Lib.hid (szI_no hl)
    have e1 : left - (n : Int) < 0 := by omega
    go_enter Try.func27, Try.ntmps27
    go_wp2
    go_ret
    exact ⟨ret_int HF.out.symm, rfl⟩
  · have HF := Lib.hid (szI_yes hl)
    have e1 : decide (left - (n : Int) < 0) = false := decide_eq_false (by omega)
    go_enter Try.func27, Try.ntmps27
    go_wp2
    go_ret
    exact ⟨ret_int HF.out.symm, rfl⟩
theorem szConfig_any (st : Int) (A B : Option Addr) (n m c d : Nat) (left : Int) (w : World) (h0 : 0 ≤ left) (h1 : left ≤ 1048576) (hn : n ≤ c) (hc : c ≤ maxLen) (hm : m ≤ d) (hd : d ≤ maxLen) :
    Calls Try.prog 7 #[.agg #[.int .i64 st, .slice A n c, .slice B m d], .int .i64 left] w fun e w' => e = .returned (.int .i64 (szI left (n + m))) ∧ Below w.heap.size w w' := by
  by_cases hl : left < (n : Int)
  · have HF := Lib.hid (szI_no hl)
    have HG : Hid (szI left (n + m) = -1) := Lib.hid (szI_no (by omega))
    go_enter Try.func7, Try.ntmps7
    go_wp2_with fail
    refine (szInt64S_any _ _ _ _ _ h0 h1 hn hc).mono ?_
    rintro e _ ⟨rfl, rfl⟩
    rw [HF.out]
    go_wp2_with fail
    go_ret
    exact ⟨ret_int HG.out.symm, below_one _ _⟩
  · have HF := Lib.hid (szI_yes hl)
    have e1 : decide (left - (n : Int) < 0) = false := decide_eq_false (by omega)
    by_cases hl2 : left - (n : Int) < (m : Int)
    · have HF2 := Lib.hid (szI_no hl2)
      have HG : Hid (szI left (n + m) = -1) := Lib.hid (szI_no (by omega))
      go_enter Try.func7, Try.ntmps7
      go_wp2_with fail
      refine (szInt64S_any _ _ _ _ _ h0 h1 hn hc).mono ?_
      rintro e _ ⟨rfl, rfl⟩
      rw [HF.out]
      go_wp2_with fail
      refine (szInt64S_any _ _ _ _ _ (by omega) (by omega) hm hd).mono ?_
      rintro e _ ⟨rfl, rfl⟩
      rw [HF2.out]
      go_wp2_with fail
      go_ret
      exact ⟨ret_int HG.out.symm, below_one _ _⟩
    · have HF2 := Lib.hid (szI_yes hl2)
      have HG : Hid (szI left (n + m) = left - (n : Int) - (m : Int)) := Lib.hid (by rw [szI_yes (by omega)]; omega)
      have e2 : decide (left - (n : Int) - (m : Int) < 0) = false := decide_eq_false (by omega)
      go_enter Try.func7, Try.ntmps7
      go_wp2_with fail
      refine (szInt64S_any _ _ _ _ _ h0 h1 hn hc).mono ?_
      rintro e _ ⟨rfl, rfl⟩
      rw [HF.out]
      go_wp2_with fail
      refine (szInt64S_any _ _ _ _ _ (by omega) (by omega) hm hd).mono ?_
      rintro e _ ⟨rfl, rfl⟩
      rw [HF2.out]
      go_wp2_with fail
      go_ret
      exact ⟨ret_int HG.out.symm, below_one _ _⟩
/-- What a call leaves that returns a new configuration. -/
def RetC (w : World) (st : Int) (l r : List Int) (e : Ending) (w' : World) : Prop := ∃ a b, e = .returned (.agg #[.int .i64 st, a, b]) ∧ Fresh w' w.heap.size a l ∧ Fresh w' w.heap.size b r ∧ (∀ k, blk a = some k → blk b ≠ some k) ∧ Below w.heap.size w w'
def RetCC (w : World) (st : Int) (l r : List Int) (c : Int) (e : Ending) (w' : World) : Prop := ∃ a b, e = .returned (.tuple #[.agg #[.int .i64 st, a, b], .int .i64 c]) ∧ Fresh w' w.heap.size a l ∧ Fresh w' w.heap.size b r ∧ (∀ k, blk a = some k → blk b ≠ some k) ∧ Below w.heap.size w w'
/-- A store into a box. -/
theorem Box.put1 {w : World} {b : Nat} {x y z : Value} (h : Box w b x y z) (u : Value) : Box (w.setCell ⟨b, 1, none⟩ u) b x u z :=
  ⟨(World.cell?_setCell_other w _ _ u (by simp)).trans h.c0, World.cell?_setCell_same w _ u h.c1, (World.cell?_setCell_other w _ _ u (by simp)).trans h.c2, by rw [World.frozen?_setCell]; exact h.f0, by rw [World.frozen?_setCell]; exact h.f1, by rw [World.frozen?_setCell]; exact h.f2⟩
theorem Box.put2 {w : World} {b : Nat} {x y z : Value} (h : Box w b x y z) (u : Value) : Box (w.setCell ⟨b, 2, none⟩ u) b x y u :=
  ⟨(World.cell?_setCell_other w _ _ u (by simp)).trans h.c0, (World.cell?_setCell_other w _ _ u (by simp)).trans h.c1, World.cell?_setCell_same w _ u h.c2, by rw [World.frozen?_setCell]; exact h.f0, by rw [World.frozen?_setCell]; exact h.f1, by rw [World.frozen?_setCell]; exact h.f2⟩
theorem Box.far {w : World} {b : Nat} {x y z : Value} (h : Box w b x y z) {p : Addr} (hp : p.block ≠ b) (u : Value) : Box (w.setCell p u) b x y z :=
  ⟨(World.cell?_setCell_other w _ _ u (fun e => hp (by rw [e]))).trans h.c0, (World.cell?_setCell_other w _ _ u (fun e => hp (by rw [e]))).trans h.c1, (World.cell?_setCell_other w _ _ u (fun e => hp (by rw [e]))).trans h.c2, by rw [World.frozen?_setCell]; exact h.f0, by rw [World.frozen?_setCell]; exact h.f1, by rw [World.frozen?_setCell]; exact h.f2⟩
theorem size_set (w : World) (p : Addr) (u : Value) : (w.setCell p u).heap.size = w.heap.size := by simp [World.setCell]
set_option maxHeartbeats 1000000 in
theorem toConfig_any (st : Int) (va vb : Value) (l r : List Int) (w : World) (h1 : Sl w va l) (h2 : Sl w vb r) (hn : l.length ≤ 4000000) (hm : r.length ≤ 4000000) :
    Calls Try.prog 10 #[.agg #[.int .i64 st, va, vb]] w (RetC w st l r) := by
  have HS1 := Lib.hid h1
  have HS2 := Lib.hid h2
  obtain ⟨A, c, rfl, _, _, hr⟩ := h1
  obtain ⟨B, d, rfl, _, _, hq⟩ := h2
  clear hr hq
  go_enter Try.func10, Try.ntmps10
  go_wp2_with fail
  refine (toInt64S_any _ l _ (HS1.out.next (below_three _ _ _ _)) hn).mono ?_
  rintro e w1 ⟨ra, rfl, ha, hb⟩
  have hh := heap_three hb
  have hz : w.heap.size + 3 ≤ w1.heap.size := by have := hb.size; simp at this; omega
  have hB1 := (below_three w _ _ _).trans (hb.mono (by simp; omega))
  have ha2 := ha.lower (base' := w.heap.size + 3) (by simp)
  have hla := fun k hk => (ha.lt k hk).2
  obtain ⟨A', c', rfl, _, _, hr⟩ := ha.sl
  have hM := Box.of hh.1
  have hN := Box.of hh.2.2
  have hZ := Box.of hh.2.1
  have HA := Lib.hid (Fresh.set ha2 (p := ⟨w.heap.size + 1 + 1, 1, none⟩) (by simp) (.slice A' l.length c'))
  have HM2 := Lib.hid (Box.far hM (p := ⟨w.heap.size + 1 + 1, 1, none⟩) (by simp; omega) (.slice A' l.length c'))
  have HZ2 := Lib.hid (Box.far hZ (p := ⟨w.heap.size + 1 + 1, 1, none⟩) (by simp) (.slice A' l.length c'))
  have HN2 := Lib.hid (Box.put1 hN (.slice A' l.length c'))
  have hB2 := hB1.setCell (p := ⟨w.heap.size + 1 + 1, 1, none⟩) (by simp; omega) (.slice A' l.length c')
  have hs2 := size_set w1 ⟨w.heap.size + 1 + 1, 1, none⟩ (.slice A' l.length c')
  obtain ⟨n0, n1, n2, nf0, nf1, nf2⟩ := hN
  clear hr ha ha2 hh hM hZ
  go_upto_region 4 with fail
  clear n0 n1 n2 nf0 nf1 nf2
  have e12 : (⟨w.heap.size + 1 + 1, 1, none⟩ : Addr) = ⟨w.heap.size + 2, 1, none⟩ := rfl
  generalize w1.setCell ⟨w.heap.size + 1 + 1, 1, none⟩ (.slice A' l.length c') = W2 at *
  obtain ⟨m0, m1, m2, mf0, mf1, mf2⟩ := HM2.out
  go_wp2_with fail
  refine (toInt64S_any _ r _ (HS2.out.next hB2) hm).mono ?_
  rintro e w3 ⟨rb, rfl, hbb, hb3⟩
  have hz3 := hb3.size
  have HA3 := Lib.hid (HA.out.next hb3)
  have HB3 := Lib.hid (hbb.lower (base' := w.heap.size + 3) (by omega))
  have hap : Hid (∀ k, blk (.slice A' l.length c') = some k → blk rb ≠ some k) := Lib.hid (fun k hk e => by
    have h1 := hla k hk
    have h2 := (hbb.lt k e).1
    omega)
  obtain ⟨B', d', rfl, _, _, hr⟩ := hbb.sl
  have hB3 := below_next hB2 hb3
  obtain ⟨z0, z1, z2, zf0, zf1, zf2⟩ := HZ2.out.next hb3
  obtain ⟨n0, n1, n2, nf0, nf1, nf2⟩ := HN2.out.next hb3
  clear hr hbb m0 m1 m2 mf0 mf1 mf2
  go_wp2_with fail
  refine bodyPost_ret (v := .agg #[.int .i64 st, .slice A' l.length c', .slice B' r.length d']) (by simp [results, Try.results10, go_sem, z0, z1, z2]) rfl ⟨_, _, rfl, ?_, ?_, hap.out, ?_⟩
  · refine Fresh.lower (base := w.heap.size + 3) ?_ (by omega)
    repeat refine Fresh.set ?_ (by simp) _
    exact HA3.out
  · refine Fresh.lower (base := w.heap.size + 3) ?_ (by omega)
    repeat refine Fresh.set ?_ (by simp) _
    exact HB3.out
  · repeat refine Below.setCell ?_ (by first | (simp; done) | (simp; omega)) _
    exact hB3
set_option maxHeartbeats 1000000 in
theorem eqConfig_any (st st' : Int) (v1 v2 v3 v4 : Value) (l1 l2 l3 l4 : List Int) (w : World) (h1 : Sl w v1 l1) (h2 : Sl w v2 l2) (h3 : Sl w v3 l3) (h4 : Sl w v4 l4) :
    Calls Try.prog 12 #[.agg #[.int .i64 st, v1, v2], .agg #[.int .i64 st', v3, v4]] w fun e w' => e = .returned (.bool (decide (st = st' ∧ l1 = l3 ∧ l2 = l4))) ∧ Below w.heap.size w w' := by
  have HS1 := Lib.hid h1
  have HS2 := Lib.hid h2
  have HS3 := Lib.hid h3
  have HS4 := Lib.hid h4
  obtain ⟨A1, c1, rfl, _, _, hr1⟩ := h1
  obtain ⟨A2, c2, rfl, _, _, hr2⟩ := h2
  obtain ⟨A3, c3, rfl, _, _, hr3⟩ := h3
  obtain ⟨A4, c4, rfl, _, _, hr4⟩ := h4
  clear hr1 hr2 hr3 hr4
  by_cases q1 : st = st'
  rotate_left
  · have e1 : (st != st') = true := by simp [q1]
    have HF : Hid (decide (st = st' ∧ l1 = l3 ∧ l2 = l4) = false) := Lib.hid (decide_eq_false (fun h => q1 h.1))
    clear q1
    go_enter Try.func12, Try.ntmps12
    go_wp2
    go_ret
    exact ⟨ret_bool HF.out.symm, below_two _ _ _⟩
  have e1 : (st != st') = false := by simp [q1]
  by_cases q2 : l1 = l3
  rotate_left
  · have HE : Hid (decide (l1 = l3) = false) := Lib.hid (decide_eq_false q2)
    have HF : Hid (decide (st = st' ∧ l1 = l3 ∧ l2 = l4) = false) := Lib.hid (decide_eq_false (fun h => q2 h.2.1))
    clear q1 q2
    go_enter Try.func12, Try.ntmps12
    go_wp2_with fail
    refine (eqInt64S_any _ _ l1 l3 _ (HS1.out.next (below_two _ _ _)) (HS3.out.next (below_two _ _ _))).mono ?_
    rintro e w1 ⟨rfl, hb⟩
    rw [HE.out]
    go_wp2_with fail
    go_ret
    exact ⟨ret_bool HF.out.symm, (below_two w _ _).trans (hb.mono (by simp; omega))⟩
  have HE : Hid (decide (l1 = l3) = true) := Lib.hid (decide_eq_true q2)
  have HF : Hid (decide (st = st' ∧ l1 = l3 ∧ l2 = l4) = decide (l2 = l4)) := Lib.hid (by simp [q1, q2])
  clear q1 q2
  have go : ∀ r : Bool, decide (l2 = l4) = r → Calls Try.prog 12 #[.agg #[.int .i64 st, .slice A1 l1.length c1, .slice A2 l2.length c2], .agg #[.int .i64 st', .slice A3 l3.length c3, .slice A4 l4.length c4]] w fun e w' => e = .returned (.bool r) ∧ Below w.heap.size w w' := by
    intro r hr
    have HR := Lib.hid hr
    clear hr
    cases r
    all_goals
      go_enter Try.func12, Try.ntmps12
      go_wp2_with fail
      refine (eqInt64S_any _ _ l1 l3 _ (HS1.out.next (below_two _ _ _)) (HS3.out.next (below_two _ _ _))).mono ?_
      rintro e w1 ⟨rfl, hb⟩
      rw [HE.out]
      have hB1 := (below_two w _ _).trans (hb.mono (by simp; omega))
      have hh := heap_two hb
      obtain ⟨m0, m1, m2, _, _, _⟩ := Box.of hh.1
      obtain ⟨n0, n1, n2, _, _, _⟩ := Box.of hh.2
      clear hh
      go_wp2_with fail
      refine (eqInt64S_any _ _ l2 l4 _ (HS2.out.next hB1) (HS4.out.next hB1)).mono ?_
      rintro e w2 ⟨rfl, hb2⟩
      rw [HR.out]
      have hB2 := below_next hB1 hb2
      clear m0 m1 m2 n0 n1 n2
      go_wp2_with fail
      go_ret
      exact ⟨rfl, hB2⟩
  refine (go _ rfl).mono ?_
  rintro e w' ⟨rfl, hb⟩
  exact ⟨ret_bool HF.out.symm, hb⟩
/-- What markConfig leaves. -/
def MarkC (w : World) (base : Nat) (va vb : Value) (la lb : List Int) (k0 : Int) (e : Ending) (w' : World) : Prop :=
  e = .returned (.int .i64 (k0 + (la.length : Int) + (lb.length : Int))) ∧ ∃ wm, Fresh w' base va (marks k0 la.length) ∧ Fresh w' base vb (marks (k0 + (la.length : Int)) lb.length) ∧ w.grownBy wm (blk va) ∧ wm.grownBy w' (blk vb)
theorem markConfig_any (st : Int) (va vb : Value) (la lb : List Int) (base : Nat) (k0 : Int) (w : World) (ha : Fresh w base va la) (hb : Fresh w base vb lb) (hap : ∀ k, blk va = some k → blk vb ≠ some k) (hna : la.length ≤ 4000000) (hnb : lb.length ≤ 4000000) (h00 : 0 ≤ k0) (hk : k0 ≤ 100000000) :
    Calls Try.prog 15 #[.agg #[.int .i64 st, va, vb], .int .i64 k0] w (MarkC w base va vb la lb k0) := by
  have HA := Lib.hid ha
  have HB := Lib.hid hb
  have HP := Lib.hid hap
  obtain ⟨A1, c1, rfl, _, _, hr1⟩ := ha.sl
  obtain ⟨A2, c2, rfl, _, _, hr2⟩ := hb.sl
  clear hr1 hr2 ha hb hap
  have hlt : ∀ k, blk (.slice A1 la.length c1) = some k → k < w.heap.size := fun k hk => (HA.out.lt k hk).2
  have HLT := Lib.hid hlt
  clear hlt
  go_enter Try.func15, Try.ntmps15
  go_wp2_with fail
  refine (markInt64S_any _ la base k0 _ (HA.out.next (below_one _ _)) hna h00 (by omega)).mono ?_
  rintro e w1 ⟨rfl, oa, hg1⟩
  have HA1 := Lib.hid oa
  have HB1 := Lib.hid ((HB.out.next (below_one _ _)).kept hg1 (fun k hk e => HP.out k e hk))
  have hg1' := (World.grownBy_alloc w (.cells #[.int .i64 st, .slice A1 la.length c1, .slice A2 lb.length c2] 30) (blk (.slice A1 la.length c1))).trans hg1
  obtain ⟨m0, m1, m2⟩ := C3.kept (C3.made w (.int .i64 st) (.slice A1 la.length c1) (.slice A2 lb.length c2) 30) hg1 (fun k hk => by have := HLT.out k hk; omega)
  clear oa
  go_wp2_with fail
  refine (markInt64S_any _ lb base _ _ HB1.out hnb (by omega) (by omega)).mono ?_
  rintro e w2 ⟨rfl, ob, hg2⟩
  have HA2 := Lib.hid (HA1.out.kept hg2 (fun k hk e => HP.out k hk e))
  clear m0 m1 m2
  have HB2 := Lib.hid ob
  clear ob
  go_wp2_with fail
  go_ret
  exact ⟨rfl, w1, HA2.out, HB2.out, hg1', hg2⟩
theorem heldConfig_any (st : Int) (va vb : Value) (ma mb : Nat) (k0 : Int) (w : World) (ha : Sl w va (marks k0 ma)) (hb : Sl w vb (marks (k0 + (ma : Int)) mb)) (hna : ma ≤ 4000000) (hnb : mb ≤ 4000000) (h00 : 0 ≤ k0) (hk : k0 ≤ 100000000) :
    Calls Try.prog 16 #[.agg #[.int .i64 st, va, vb], .int .i64 k0] w fun e w' => e = .returned (.int .i64 (k0 + (ma : Int) + (mb : Int))) ∧ Below w.heap.size w w' := by
  have HA := Lib.hid ha
  have HB := Lib.hid hb
  obtain ⟨A1, c1, rfl, _, _, hr1⟩ := ha
  obtain ⟨A2, c2, rfl, _, _, hr2⟩ := hb
  clear hr1 hr2
  have e1 : decide (k0 + (ma : Int) < 0) = false := decide_eq_false (by omega)
  have e2 : decide (k0 + (ma : Int) + (mb : Int) < 0) = false := decide_eq_false (by omega)
  rw [marks_len, marks_len]
  go_enter Try.func16, Try.ntmps16
  go_wp2_with fail
  refine (heldInt64S_any _ ma k0 _ (by have h := HA.out.next (below_one w (.cells #[.int .i64 st, .slice A1 (marks k0 ma).length c1, .slice A2 (marks (k0 + (ma : Int)) mb).length c2] 30)); rw [marks_len, marks_len] at h; exact h) hna h00 (by omega)).mono ?_
  rintro e _ ⟨rfl, rfl⟩
  go_wp2_with fail
  refine (heldInt64S_any _ mb _ _ (by have h := HB.out.next (below_one w (.cells #[.int .i64 st, .slice A1 (marks k0 ma).length c1, .slice A2 (marks (k0 + (ma : Int)) mb).length c2] 30)); rw [marks_len, marks_len] at h; exact h) hnb (by omega) (by omega)).mono ?_
  rintro e _ ⟨rfl, rfl⟩
  go_wp2_with fail
  go_ret
  exact ⟨rfl, below_one _ _⟩
end Go.Proofs.Ytbjkhnajnbmnlaa
