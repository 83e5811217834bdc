/- PruneMachine of the reference. No condition beyond the stated bounds. -/
import Derived.Test.YthijhpkkijjlfaaMPruneI
import Derived.Test.YthijhpkkijjlfaaMValid2
import Derived.Test.YthijhpkkijjlfaaSortI
namespace Go.Proofs.Ythijhpkkijjlfaa
open Go.RowKit
theorem Box.drew' {w : World} {b : Nat} {x y z : Value} (h : Box w b x y z) : Box w.drew b x y z := ⟨h.c0, h.c1, h.c2, h.f0, h.f1, h.f2⟩
theorem cell_past {W : World} {o : Obj} {p : Addr} {v : Value} (h : W.cell? p = some v) : (W.alloc o).cell? p = some v :=
  ((below_one W o).cell (cell_lt h)).trans h
theorem ka6 {W : World} {o : Obj} {p1 p2 p3 p4 p5 p6 : Addr} {v1 v2 v3 v4 v5 v6 : Value}
    (h : W.cell? p1 = some v1 ∧ W.cell? p2 = some v2 ∧ W.cell? p3 = some v3 ∧ W.cell? p4 = some v4 ∧ W.cell? p5 = some v5 ∧ W.cell? p6 = some v6) :
    (W.alloc o).cell? p1 = some v1 ∧ (W.alloc o).cell? p2 = some v2 ∧ (W.alloc o).cell? p3 = some v3 ∧ (W.alloc o).cell? p4 = some v4 ∧ (W.alloc o).cell? p5 = some v5 ∧ (W.alloc o).cell? p6 = some v6 :=
  ⟨cell_past h.1, cell_past h.2.1, cell_past h.2.2.1, cell_past h.2.2.2.1, cell_past h.2.2.2.2.1, cell_past h.2.2.2.2.2⟩
/-- What a round leaves: the new machine's variable at Bo with one rule more. -/
theorem out_end2 {wc w5 w7 : World} {base Bo : Nat} {x y u v7 : Value} {L L' : List Int} {tmp : Obj} (hB : Box w5 Bo x y u) (hO : Own3 w5 base u L) (hBe : Below wc.heap.size wc w5) (h1 : wc.heap.size ≤ base) (h2 : wc.heap.size ≤ Bo) (hne : u.ownBlock ≠ some Bo)
    (o7 : Own3 w7 base v7 L') (hg7 : (w5.alloc tmp).grownBy w7 u.ownBlock) (hv7 : v7.ownBlock = u.ownBlock ∨ ∃ k, v7.ownBlock = some k ∧ (w5.alloc tmp).heap.size ≤ k) :
    Box w7 Bo x y u ∧ Box (w7.setCell ⟨Bo, 2, none⟩ v7) Bo x y v7 ∧ Own3 (w7.setCell ⟨Bo, 2, none⟩ v7) base v7 L' ∧ v7.ownBlock ≠ some Bo ∧
      Below wc.heap.size wc (w7.setCell ⟨Bo, 2, none⟩ v7) := by
  have e1 := (hB.next (below_one w5 tmp)).kept' hg7 hne
  have hz : Bo < w5.heap.size := cell_lt hB.c0
  have hz5 := hBe.size
  have hn7 : v7.ownBlock ≠ some Bo := by
    rcases hv7 with h | ⟨k, h, hk⟩
    · rw [h]; exact hne
    · rw [h, World.size_alloc] at *
      intro e; injection e with e; omega
  exact ⟨e1, e1.put2 v7, o7.kept (grown_set w7 ⟨Bo, 2, none⟩ v7) (.inr (fun e => hn7 e)), hn7,
    ((below_next hBe (below_one w5 tmp)).grown hg7 (by rw [World.size_alloc]; omega) (fun k hk => by have := (hO.lt k hk).1; omega)).setCell (p := ⟨Bo, 2, none⟩) h2 _⟩
theorem l00Has_any (v : Value) (l : List Int) (z : Int) (w : World) (h : Sl w v l) :
    Calls Try.prog 16 #[v, .int .i64 z] w fun e w' => e = .returned (.bool (decide (z ∈ l))) ∧ Below w.heap.size w w' := by
  obtain ⟨A, c, rfl, hlc, hcm, hr⟩ := h
  have HR := Lib.hid hr
  clear hr
  unfold maxLen at hcm
  go_enter Try.func16, Try.ntmps16
  go_wp2
  go_loopw [5] (fun i wr => ∃ k : Nat, k ≤ l.length ∧ i = .int .i64 k ∧ Hid (∀ j, j < k → geti l j ≠ z) ∧ Below w.heap.size w wr) (fun i _ => l.length - (intOf i).toNat)
  case atStart => exact ⟨0, Nat.zero_le _, rfl, Lib.hid (fun j hj => by omega), Below.refl _ _⟩
  case round =>
    obtain ⟨k, hk, rfl, HK, hb⟩ := hrel
    by_cases hlt : k < l.length
    · obtain ⟨a1, rfl, hb1, hc1⟩ := HR.out.at_ hlt
      have hcell1 := (hb.cell (p := a1.add k) (by rw [block_of_add]; exact hb1)).trans hc1
      clear hc1
      have hi1 : (k : Int) < (l.length : Int) := by omega
      by_cases he : geti l k = z
      · have heb : (geti l k == z) = true := by simp [he]
        have HN : Hid (z ∈ l) := Lib.hid (by rw [← he]; exact geti_mem hlt)
        clear he
        go_wp2
        go_ret
        exact ⟨ret_bool (decide_eq_true HN.out).symm, hb⟩
      · have heb : (geti l k == z) = false := by simpa using he
        have HN : Hid (∀ j, j < k + 1 → geti l j ≠ z) := Lib.hid (fun j hj => by
          rcases Nat.lt_or_ge j k with h | h
          · exact HK.out j h
          · obtain rfl : j = k := by omega
            exact he)
        clear he
        go_wp2
        go_roundw
        case rel => exact ⟨k + 1, by omega, by go_num, HN, hb⟩
        case measure => simp [intOf] <;> omega
    · have HN : Hid (¬ z ∈ l) := Lib.hid (fun hz => by
        obtain ⟨j, hj, e⟩ := List.getElem_of_mem hz
        exact HK.out j (by omega) (by rw [geti_eq hj]; exact e))
      go_wp2
      go_ret
      exact ⟨ret_bool (decide_eq_false HN.out).symm, hb⟩
set_option maxRecDepth 100000 in
set_option maxHeartbeats 4000000 in
theorem specPrune_good (s st n : Nat) (hn : n = st * s) (ad : Addr) (c : Nat) (l : List Int) (w : World) (hr : Ints w w.heap.size (some ad) (n * 3) l) (hc : c ≤ maxLen) (hnc : n ≤ c) (hf : Fit l) (hs0 : 0 < s) (hs : s ≤ 1000) (hst : st ≤ 1000) (hst0 : 0 < st) (hv : validB (s : Int) (st : Int) l = true) :
    Calls Try.prog 5 #[.agg #[.int .i64 (s : Int), .int .i64 (st : Int), .slice (some ad) n c]] w (RetMLC w (s : Int) ((rchL (nxL s l)).length : Int) (prT (rchL (nxL s l)) s l ((rchL (nxL s l)).length * s)) (rchL (nxL s l)) 0) := by
  have HR := Lib.hid hr
  have HF := Lib.hid hf
  have HV := Lib.hid hv
  have HN := Lib.hid hn
  have HLD := Lib.hid (leads_valid hv)
  have HS : Hid (Sl3 w (.slice (some ad) n c) l) := Lib.hid ⟨_, _, _, rfl, hnc, hc, hr⟩
  clear hr hf hv hn
  have hnb : n ≤ 1000000 := by rw [HN.out]; have := Nat.mul_le_mul hst hs; omega
  unfold maxLen at hc
  go_enter Try.func5, Try.ntmps5
  go_wp2_with fail
  refine (l05Is_any w.heap.size (s : Int) (st : Int) _ l _ (C3.next (C3.made _ _ _ _ _) (below_one _ _)) (HS.out.next (below_two _ _ _))).mono ?_
  rintro e w1 ⟨rfl, hb1⟩
  rw [HV.out]
  have hh := heap_two hb1
  have BM := Lib.hid (Box.of hh.1)
  have BR := Lib.hid (Box.of hh.2)
  have hB1 : Below w.heap.size w w1 := (below_two w _ _).trans (hb1.mono (by simp; omega))
  have hsz1 : w.heap.size + 2 ≤ w1.heap.size := by have := hb1.size; simpa using this
  clear hh hb1
  have HR1 : Hid (Ints w1 w1.heap.size (some ad) (n * 3) l) := Lib.hid (by
    refine ⟨HR.out.1, fun h0 => ?_⟩
    obtain ⟨a, e, hlt, hcc⟩ := HR.out.2 h0
    exact ⟨a, e, Nat.lt_of_lt_of_le hlt hB1.size, fun j hj => (hB1.cell (p := a.add j) (by rw [block_of_add]; exact hlt)).trans (hcc j hj)⟩)
  have hb2 := below_one w1 (.cells #[.int .i64 0] 2)
  have HO0 : Hid (Owns (w1.alloc (.cells #[.int .i64 0] 2)) w1.heap.size (.slice (some ⟨w1.heap.size, 0, none⟩) 1 1) [0]) := Lib.hid (World.ownsRow_lit w1 #[.int .i64 0] 1 (Nat.le_refl _) (by unfold maxLen; omega) rfl)
  clear HR HS
  go_wp2_with fail
  go_loopw [5, 6] (fun u i wr => ∃ (k : Nat) (q : List Int), k ≤ q.length ∧ i = .int .i64 k ∧ Hid (Owns wr w1.heap.size u q) ∧ Hid (Brd (nxL s l) q k) ∧ Below w1.heap.size w1 wr) (fun _ i _ => st - (intOf i).toNat)
  case atStart => exact ⟨0, [0], by simp, rfl, HO0, Lib.hid (Brd.start _), hb2⟩
  case round =>
    clear HO0 hb2
    obtain ⟨k, q, hk, rfl, HO, HBR, hB⟩ := hrel
    have hql : q.length ≤ st := HBR.out.len HLD.out hst0
    have hq0 : 0 < q.length := by
      have h0 := HBR.out.zero
      cases q with
      | nil => cases h0
      | cons a b => simp
    obtain ⟨g, cap, rfl, hg1, hg2⟩ := HO.out.head hq0
    by_cases hlt : k < q.length
    · have hki : (k : Int) < (q.length : Int) := by omega
      have hbd := (HBR.out.rch _ (geti_mem hlt)).bd HLD.out ⟨Int.le_refl _, by omega⟩
      obtain ⟨p, hp⟩ := Int.eq_ofNat_of_zero_le hbd.1
      have hpst : p < st := by omega
      have HP := Lib.hid hp
      have hq1 : q.length ≤ 1000 := by omega
      have hkst : k < st := by omega
      clear hp hbd
      obtain ⟨m0, m1, m2, _, _, _⟩ := BM.out.next hB
      go_wp2_with fail
      clear m0 m1 m2
      go_loopw [5, 7] (fun u2 i2 wx => ∃ (x : Nat) (q2 : List Int), x ≤ s ∧ i2 = .int .i64 x ∧ Hid (Owns wx w1.heap.size u2 q2) ∧ Hid (Brd (nxL s l) q2 k ∧ k < q2.length ∧ geti q2 k = (p : Int) ∧ ∀ t ∈ nxT s l x p, t ∈ q2) ∧ Below w1.heap.size w1 wx) (fun _ i _ => s - (intOf i).toNat)
      case atStart => exact ⟨0, q, Nat.zero_le _, rfl, HO, Lib.hid ⟨HBR.out, hlt, HP.out, fun t ht => by simp [nxT] at ht⟩, hB⟩
      case round =>
        clear HO HBR hB hki hql hq0 hlt hq1 HP hg1 hg2
        obtain ⟨x, q2, hx, rfl, HO, HI, hB⟩ := hrel
        have hql : q2.length ≤ st := HI.out.1.len HLD.out hst0
        have hklt : k < q2.length := HI.out.2.1
        obtain ⟨g2, cap2, rfl, hg1, hg2⟩ := HO.out.head (by omega)
        obtain ⟨m0, m1, m2, _, _, _⟩ := BM.out.next hB
        by_cases hltx : x < s
        · have hxi : (x : Int) < (s : Int) := by omega
          have hki : (k : Int) < (q2.length : Int) := by omega
          have hj := in_table (s := s) hpst hltx
          obtain ⟨ad', had, hbk, p0, p1, p2⟩ := HR1.out.three (w' := wr) (fun _ hp => hB.cell hp) (show p * s + x < n by rw [HN.out]; exact hj)
          obtain rfl : ad' = ad := by simpa using had.symm
          have hcq : wr.cell? ⟨g2, k, none⟩ = some (.int .i64 (p : Int)) := by rw [← HI.out.2.2.1]; exact HO.out.cellAt hklt
          have hto : toR s l p x = geti l ((p * s + x) * 3 + 2) := rfl
          have hnv := next_valid HV.out hj
          rw [← HN.out] at hj
          obtain ⟨i0, hi0⟩ : ∃ i0, p * s = i0 := ⟨_, rfl⟩
          have e1 : (p : Int) * (s : Int) = (i0 : Int) := by rw [← hi0]; simp
          rw [hi0] at hj p0 p1 p2 hto hnv
          have hji : (i0 : Int) + (x : Int) < (n : Int) := by omega
          have hj0 : (0 : Int) ≤ (i0 : Int) + (x : Int) := by omega
          have hj1 : ((i0 : Int) + (x : Int)).toNat = i0 + x := by omega
          have hj2 : i0 + x < n := hj
          have hj3 : (i0 : Int) ≤ 1000000 := by omega
          have hj4 : (0 : Int) ≤ (i0 : Int) := by omega
          have hw1 : IntKind.i64.wrap (i0 : Int) = (i0 : Int) := by rw [IntKind.wrap_i64]; omega
          have hw2 : IntKind.i64.wrap ((i0 : Int) + (x : Int)) = (i0 : Int) + (x : Int) := by rw [IntKind.wrap_i64]; omega
          obtain ⟨a, ha⟩ : ∃ a, geti l ((i0 + x) * 3) = a := ⟨_, rfl⟩
          obtain ⟨b, hb⟩ : ∃ b, geti l ((i0 + x) * 3 + 1) = b := ⟨_, rfl⟩
          obtain ⟨z, hz⟩ : ∃ z, geti l ((i0 + x) * 3 + 2) = z := ⟨_, rfl⟩
          rw [ha] at p0
          rw [hb] at p1
          rw [hz] at p2 hto hnv
          have HTO := Lib.hid hto
          have hbk2 : (ad'.add ((i0 + x) * 3)).block < wr.heap.size := by have := hB.size; rw [block_of_add]; omega
          clear ha hb hz hi0 hto had
          go_upto_region 10 with fail
          go_cut [8] (fun p8 w8 => p8 = .pointer (some ⟨wr.heap.size, 0, none⟩) ∧ w8 = wr.drew.alloc (.cells #[.int .i64 a, .int .i64 b, .int .i64 z] 42))
          case first =>
            go_region_held3 (fun w' => w'.cell? ⟨w.heap.size, 0, none⟩ = some (.int .i64 (s : Int)) ∧ w'.cell? ⟨w.heap.size, 2, none⟩ = some (.slice (some ad') n c) ∧ w'.cell? ⟨g2, k, none⟩ = some (.int .i64 (p : Int)) ∧ w'.cell? (ad'.add ((i0 + x) * 3)) = some (.int .i64 a) ∧ w'.cell? ⟨(ad'.add ((i0 + x) * 3)).block, (ad'.add ((i0 + x) * 3)).off + 1, none⟩ = some (.int .i64 b) ∧ w'.cell? ⟨(ad'.add ((i0 + x) * 3)).block, (ad'.add ((i0 + x) * 3)).off + 2, none⟩ = some (.int .i64 z))
              (first | (with_reducible assumption) | (with_reducible refine ka6 (by assumption)) | go_keep)
              (fail)
            go_wp2_with fail
            go_meet
            case rel => exact ⟨rfl, rfl⟩
          case rest =>
            obtain ⟨rfl, rfl⟩ := hcut
            have hb8 := below_one wr.drew (.cells #[.int .i64 a, .int .i64 b, .int .i64 z] 42)
            have hB8 : Below w1.heap.size w1 (wr.drew.alloc (.cells #[.int .i64 a, .int .i64 b, .int .i64 z] 42)) := below_next hB.drew hb8
            have HO8 := Lib.hid (HO.out.drew.next hb8)
            have bx8 : Box (wr.drew.alloc (.cells #[.int .i64 a, .int .i64 b, .int .i64 z] 42)) wr.heap.size (.int .i64 a) (.int .i64 b) (.int .i64 z) := Box.made wr.drew _ _ _ _
            have hz8 : wr.heap.size < (wr.drew.alloc (.cells #[.int .i64 a, .int .i64 b, .int .i64 z] 42)).heap.size := cell_lt bx8.c0
            generalize wr.drew.alloc (.cells #[.int .i64 a, .int .i64 b, .int .i64 z] 42) = w8 at *
            have BX8 := Lib.hid bx8
            obtain ⟨r0, r1, r2, _, _, _⟩ := bx8
            clear hb8 p0 p1 p2 m0 m1 m2 hcq hw1 hw2 e1
            by_cases hz0 : z < 0
            · have hzd : decide ((0 : Int) ≤ z) = false := decide_eq_false (by omega)
              have HX := Lib.hid (nxT_no (s := s) (l := l) (t := x) (k := p) (by rw [HTO.out]; exact hz0))
              go_wp2_with fail
              go_roundw
              case rel => exact ⟨x + 1, q2, by omega, by go_num, HO8, Lib.hid (by rw [HX.out]; exact HI.out), hB8⟩
              case measure => simp [intOf] <;> omega
            · have hzd : decide ((0 : Int) ≤ z) = true := decide_eq_true (by omega)
              have hz1 : (0 : Int) ≤ z := by omega
              have HX := Lib.hid (nxT_yes (s := s) (l := l) (t := x) (k := p) (by rw [HTO.out]; exact hz1))
              go_wp2_with fail
              refine (l00Has_any _ q2 z _ HO8.out.sl).mono ?_
              rintro e w9 ⟨rfl, hb9⟩
              have HO9 := Lib.hid (HO8.out.next hb9)
              have hB9 := below_next hB8 hb9
              obtain ⟨s0, s1, s2, _, _, _⟩ := BX8.out.next hb9
              clear r0 r1 r2
              by_cases hin : z ∈ q2
              · have HIN := Lib.hid hin
                rw [decide_eq_true hin]
                clear hin
                go_wp2_with fail
                go_roundw
                case rel => exact ⟨x + 1, q2, by omega, by go_num, HO9, Lib.hid (by
                  rw [HX.out, HTO.out]
                  refine ⟨HI.out.1, HI.out.2.1, HI.out.2.2.1, fun t ht => ?_⟩
                  rcases List.mem_append.1 ht with h | h
                  · exact HI.out.2.2.2 t h
                  · rw [List.mem_singleton.1 h]; exact HIN.out), hB9⟩
                case measure => simp [intOf] <;> omega
              · have HIN := Lib.hid hin
                rw [decide_eq_false hin]
                clear hin
                have hll : q2.length ≤ 1000000000 := by omega
                go_wp2_with (at_builtin; refine wpList_push rfl _ _ rfl w1.heap.size _ q2 rfl HO9.out z rfl hll hB9.size ?_; intro v3 w4 o3 hg3 hv3; have hB4 := hB9.grown hg3 hB9.size (fun k hk => (HO9.out.lt k hk).1); have HO4 := Lib.hid o3; clear o3 hg3 hv3)
                go_roundw
                case rel => exact ⟨x + 1, q2 ++ [z], by omega, by go_num, HO4, Lib.hid (by
                  rw [HX.out, HTO.out]
                  have hm : z ∈ nxL s l (geti q2 k).toNat := by rw [HI.out.2.2.1, Int.toNat_natCast]; exact nxT_mem.2 ⟨x, hltx, HTO.out, hz1⟩
                  refine ⟨HI.out.1.push hklt hm HIN.out, by rw [List.length_append]; omega, by rw [geti_append hklt]; exact HI.out.2.2.1, fun t ht => ?_⟩
                  rcases List.mem_append.1 ht with h | h
                  · exact List.mem_append_left _ (HI.out.2.2.2 t h)
                  · exact List.mem_append_right _ h), hB4⟩
                case measure => simp [intOf] <;> omega
        · obtain rfl : x = s := by omega
          have hd : decide ((x : Int) < (x : Int)) = false := decide_eq_false (by omega)
          go_wp2_with fail
          go_roundw
          case rel => exact ⟨k + 1, q2, by omega, by go_num, HO, Lib.hid (HI.out.1.next (fun t ht => by rw [HI.out.2.2.1, Int.toNat_natCast] at ht; exact HI.out.2.2.2 t ht)), hB⟩
          case measure => simp [intOf] <;> omega
    · obtain rfl : k = q.length := by omega
      have hkd : decide ((q.length : Int) < (q.length : Int)) = false := decide_eq_false (by omega)
      have HIS := Lib.hid HBR.out.is
      have HOLD := Lib.hid HIS.out.eq
      obtain ⟨old, hold⟩ : ∃ old, sortL q = old := ⟨_, rfl⟩
      rw [hold] at HIS HOLD
      have HBD := Lib.hid (HIS.out.bd HLD.out hst0)
      have hol : old.length ≤ st := HIS.out.len HLD.out hst0
      have hol1 : old.length ≤ 1000 := by omega
      have hpos : 0 < old.length := by
        have h0 := (HIS.out.mem 0).2 (.refl _)
        cases hold2 : old with
        | nil => rw [hold2] at h0; cases h0
        | cons a b => simp
      have HSO := Lib.hid hold
      rename World => wq
      have hltq : w.heap.size + 1 < wq.heap.size := by have := hB.size; omega
      clear hold hq0
      go_wp2_with fail
      refine (l01Sorted_any _ q _ HO.out.sl (by omega)).mono ?_
      rintro e w2 ⟨r2, rfl, o2, hb2⟩
      rw [HSO.out] at o2
      replace hB := below_next hB hb2
      obtain ⟨g2, cap2, rfl, hg2, hg2'⟩ := o2.head hpos
      have hcap : old.length ≤ cap2 ∧ cap2 ≤ maxLen := by
        obtain ⟨A, c9, e, h1, h2, _⟩ := o2.sl
        injection e with e1 e2 e3
        omega
      have HO2 := Lib.hid o2
      have HB2 := Lib.hid hB
      have hcap1 := hcap.1
      have hcap2 := hcap.2
      unfold maxLen at hcap2
      obtain ⟨m0, m1, m2, _, _, _⟩ := BM.out.next hB
      obtain ⟨i9, hi0, hz0, hz1, hz2⟩ := info_parts Try.infoI
      have hst1 : (0 : Int) ≤ (st : Int) := by omega
      clear HO HBR hb2 o2 hcap hql
      go_wp2_with (at_make; refine wpList_make_full _ rfl _ _ 29 rfl w2.heap.size 2 i9 _ 1 Try.underlying29 hi0 hz0 hz1 _ _ _ _ st rfl rfl rfl rfl (by rw [hz2]; omega) (by unfold maxLen; omega) (Nat.le_refl _) ?_; intro w3 hown hg)
      have hb3 : Below w2.heap.size w2 w3 := (Below.refl _ _).grown hg (Nat.le_refl _) (by simp)
      have HO3 : Hid (Owns w3 w2.heap.size (.slice (some ⟨w2.heap.size, 0, none⟩) st st) (List.replicate st 0)) := Lib.hid (by
        unfold Owns
        rw [made_ints] at hown
        rw [List.length_replicate]
        exact hown)
      clear hown hg hi0 hz0 hz1 hz2 m0 m1 m2 hB
      go_loopw [11] (fun i wx => ∃ (k : Nat) (P : List Int), k ≤ old.length ∧ i = .int .i64 k ∧ Hid (P.length = st) ∧ Hid (Owns wx w2.heap.size (.slice (some ⟨w2.heap.size, 0, none⟩) st st) P) ∧ Hid (Plc old P k) ∧ Below w2.heap.size w2 wx) (fun i _ => old.length - (intOf i).toNat)
      case atStart => exact ⟨0, _, Nat.zero_le _, rfl, Lib.hid (by simp), HO3, Lib.hid (fun m hm => by omega), hb3⟩
      case round =>
        clear HO3 hb3
        obtain ⟨k, P, hk, rfl, HPL, HOP, HPC, hB⟩ := hrel
        by_cases hlt : k < old.length
        · have hki : (k : Int) < (old.length : Int) := by omega
          have hbd := HBD.out _ (geti_mem hlt)
          have hcell : wr.cell? ⟨g2, k, none⟩ = some (.int .i64 (geti old k)) := (hB.cell (p := ⟨g2, k, none⟩) hg2').trans (HO2.out.cellAt hlt)
          obtain ⟨p, hp⟩ := Int.eq_ofNat_of_zero_le hbd.1
          have hpst : p < st := by omega
          have hpi : (p : Int) < (st : Int) := by omega
          have hpc := HOP.out.cellAt (j := p) (by rw [HPL.out]; exact hpst)
          have hpf := HOP.out.free p
          have HOP2 := Lib.hid (HOP.out.stored p (k : Int))
          have HP := Lib.hid hp
          rw [hp] at hcell
          clear hbd hp
          go_wp2_with fail
          go_roundw
          case rel => exact ⟨k + 1, P.set p (k : Int), by omega, by go_num, Lib.hid (by rw [List.length_set]; exact HPL.out), Lib.hid HOP2.out.1, Lib.hid (by
            have h := HPC.out.step HIS.out.asc HIS.out.nodup HBD.out HPL.out hlt
            rw [HP.out, Int.toNat_natCast] at h
            exact h), hB.grown HOP2.out.2 hB.size (fun k hk => by injection hk with hk; omega)⟩
          case measure => simp [intOf] <;> omega
        · obtain rfl : k = old.length := by omega
          have hkd2 : decide ((old.length : Int) < (old.length : Int)) = false := decide_eq_false (by omega)
          rename World => w4
          have HB4 := Lib.hid (below_next HB2.out hB)
          have BM4 := Lib.hid (BM.out.next HB4.out)
          have BR4 := Lib.hid (BR.out.next HB4.out)
          have HR4 : Hid (Ints w4 w4.heap.size (some ad) (n * 3) l) := Lib.hid (by
            refine ⟨HR1.out.1, fun h0 => ?_⟩
            obtain ⟨a, e, hlt, hcc⟩ := HR1.out.2 h0
            exact ⟨a, e, Nat.lt_of_lt_of_le hlt HB4.out.size, fun j hj => (HB4.out.cell (p := a.add j) (by rw [block_of_add]; exact hlt)).trans (hcc j hj)⟩)
          have HO4 := Lib.hid (HO2.out.next hB)
          have hg4 : g2 < w4.heap.size := Nat.lt_of_lt_of_le hg2' hB.size
          have HP4 := Lib.hid HOP.out
          have hlt4 : w.heap.size + 1 < w4.heap.size := cell_lt BR4.out.c0
          obtain ⟨m0, m1, m2, _, _, _⟩ := BM4.out
          clear hB HB2 HO2 HOP hlt hk
          go_wp2_with fail
          clear m0 m1 m2
          have hbe := below_two w4 (.cells #[] 42) (.cells #[.int .i64 (s : Int), .int .i64 (old.length : Int), .slice (some ⟨w4.heap.size, 0, none⟩) 0 0] 28)
          have hbx := Box.made (w4.alloc (.cells #[] 42)) (.int .i64 (s : Int)) (.int .i64 (old.length : Int)) (.slice (some ⟨w4.heap.size, 0, none⟩) 0 0) 28
          rw [World.size_alloc] at hbx
          have hox := (Own3.empty w4 w4.heap.size (Nat.le_refl _)).next (below_one (w4.alloc (.cells #[] 42)) (.cells #[.int .i64 (s : Int), .int .i64 (old.length : Int), .slice (some ⟨w4.heap.size, 0, none⟩) 0 0] 28))
          go_loopw [13] (fun i wx => ∃ (k : Nat) (u : Value), k ≤ old.length ∧ i = .int .i64 k ∧ Hid (Box wx (w4.heap.size + 1) (.int .i64 (s : Int)) (.int .i64 (old.length : Int)) u) ∧ Hid (Own3 wx w4.heap.size u (prT old s l (k * s))) ∧ Hid (u.ownBlock ≠ some (w4.heap.size + 1)) ∧ Hid (Below w4.heap.size w4 wx)) (fun i _ => old.length - (intOf i).toNat)
          case atStart => exact ⟨0, _, Nat.zero_le _, rfl, Lib.hid hbx, Lib.hid (by rw [Nat.zero_mul]; exact hox), Lib.hid (by simp [Value.ownBlock]), Lib.hid hbe⟩
          case round =>
            clear hbe hbx hox
            obtain ⟨k, u, hk, rfl, HB, HO, HNE, HBe⟩ := hrel
            by_cases hlt : k < old.length
            · have hki : (k : Int) < (old.length : Int) := by omega
              have hbd := HBD.out _ (geti_mem hlt)
              obtain ⟨p, hp⟩ := Int.eq_ofNat_of_zero_le hbd.1
              have hpst : p < st := by omega
              have HQ := Lib.hid hp
              have HIN := Lib.hid (geti_mem hlt)
              have hkc : wr.cell? ⟨g2, k, none⟩ = some (.int .i64 (p : Int)) := by rw [← hp]; exact (HBe.out.cell (p := ⟨g2, k, none⟩) hg4).trans (HO4.out.cellAt hlt)
              have HKC := Lib.hid (show w4.cell? ⟨g2, k, none⟩ = some (.int .i64 (p : Int)) by rw [← hp]; exact HO4.out.cellAt hlt)
              clear hbd hp
              obtain ⟨m0, m1, m2, _, _, _⟩ := BM4.out.next HBe.out
              go_wp2_with fail
              clear m0 m1 m2 hkc
              go_loopw [14] (fun i2 wx => ∃ (x : Nat) (u2 : Value), x ≤ s ∧ i2 = .int .i64 x ∧ Hid (Box wx (w4.heap.size + 1) (.int .i64 (s : Int)) (.int .i64 (old.length : Int)) u2) ∧ Hid (Own3 wx w4.heap.size u2 (prT old s l (k * s + x))) ∧ Hid (u2.ownBlock ≠ some (w4.heap.size + 1)) ∧ Hid (Below w4.heap.size w4 wx)) (fun i _ => s - (intOf i).toNat)
              case atStart => exact ⟨0, u, Nat.zero_le _, rfl, HB, HO, HNE, HBe⟩
              case round =>
                clear HB HO HBe HNE
                obtain ⟨x, u2, hx, rfl, HB, HO, HNE, HBe⟩ := hrel
                obtain ⟨m0, m1, m2, _, _, _⟩ := BM4.out.next HBe.out
                by_cases hltx : x < s
                · have hxi : (x : Int) < (s : Int) := by omega
                  have hj := in_table (s := s) hpst hltx
                  obtain ⟨ad', had, hbk, p0, p1, p2⟩ := HR4.out.three (w' := wr) (fun _ hp => HBe.out.cell hp) (show p * s + x < n by rw [HN.out]; exact hj)
                  obtain rfl : ad' = ad := by simpa using had.symm
                  have hcq : wr.cell? ⟨g2, k, none⟩ = some (.int .i64 (p : Int)) := (HBe.out.cell (p := ⟨g2, k, none⟩) hg4).trans HKC.out
                  have hnv := next_valid HV.out hj
                  have hto : toR s l p x = geti l ((p * s + x) * 3 + 2) := rfl
                  have HPA : Hid (prT old s l (k * s + (x + 1)) = prT old s l (k * s + x) ++ prA old l (p * s + x)) := Lib.hid (by rw [prT_step hltx, HQ.out, Int.toNat_natCast])
                  have hpl := prT_len old s l (k * s + x)
                  have hks : k * s + x ≤ 1000000 := by have := Nat.mul_le_mul (show k ≤ 999 by omega) hs; omega
                  unfold prA at HPA
                  rw [← HN.out] at hj
                  obtain ⟨i0, hi0⟩ : ∃ i0, p * s = i0 := ⟨_, rfl⟩
                  have e1 : (p : Int) * (s : Int) = (i0 : Int) := by rw [← hi0]; simp
                  rw [hi0] at hj p0 p1 p2 hto hnv HPA
                  have hji : (i0 : Int) + (x : Int) < (n : Int) := by omega
                  have hj0 : (0 : Int) ≤ (i0 : Int) + (x : Int) := by omega
                  have hj1 : ((i0 : Int) + (x : Int)).toNat = i0 + x := by omega
                  have hj2 : i0 + x < n := hj
                  have hj3 : (i0 : Int) ≤ 1000000 := by omega
                  have hj4 : (0 : Int) ≤ (i0 : Int) := by omega
                  have hw1 : IntKind.i64.wrap (i0 : Int) = (i0 : Int) := by rw [IntKind.wrap_i64]; omega
                  have hw2 : IntKind.i64.wrap ((i0 : Int) + (x : Int)) = (i0 : Int) + (x : Int) := by rw [IntKind.wrap_i64]; omega
                  obtain ⟨a, ha⟩ : ∃ a, geti l ((i0 + x) * 3) = a := ⟨_, rfl⟩
                  obtain ⟨b, hb⟩ : ∃ b, geti l ((i0 + x) * 3 + 1) = b := ⟨_, rfl⟩
                  obtain ⟨z, hz⟩ : ∃ z, geti l ((i0 + x) * 3 + 2) = z := ⟨_, rfl⟩
                  rw [ha] at p0
                  rw [hb] at p1
                  rw [hz] at p2 hto hnv
                  rw [ha, hb, hz] at HPA
                  have HTO := Lib.hid hto
                  obtain ⟨L, hL⟩ : ∃ L, prT old s l (k * s + x) = L := ⟨_, rfl⟩
                  rw [hL] at HPA HO hpl
                  have hll : L.length ≤ 4000000 := by omega
                  have hbk2 : (ad'.add ((i0 + x) * 3)).block < wr.heap.size := by have := HBe.out.size; rw [block_of_add]; omega
                  clear ha hb hz hi0 hto had hL hpl hks
                  go_upto_region 26 with fail
                  go_cut [15] (fun p8 w8 => p8 = .pointer (some ⟨wr.heap.size, 0, none⟩) ∧ w8 = wr.drew.alloc (.cells #[.int .i64 a, .int .i64 b, .int .i64 z] 42))
                  case first =>
                    go_region_held3 (fun w' => w'.cell? ⟨w.heap.size, 0, none⟩ = some (.int .i64 (s : Int)) ∧ w'.cell? ⟨w.heap.size, 2, none⟩ = some (.slice (some ad') n c) ∧ w'.cell? ⟨g2, k, none⟩ = some (.int .i64 (p : Int)) ∧ w'.cell? (ad'.add ((i0 + x) * 3)) = some (.int .i64 a) ∧ w'.cell? ⟨(ad'.add ((i0 + x) * 3)).block, (ad'.add ((i0 + x) * 3)).off + 1, none⟩ = some (.int .i64 b) ∧ w'.cell? ⟨(ad'.add ((i0 + x) * 3)).block, (ad'.add ((i0 + x) * 3)).off + 2, none⟩ = some (.int .i64 z))
                      (first | (with_reducible assumption) | (with_reducible refine ka6 (by assumption)) | go_keep)
                      (fail)
                    go_wp2_with fail
                    go_meet
                    case rel => exact ⟨rfl, rfl⟩
                  case rest =>
                    obtain ⟨rfl, rfl⟩ := hcut
                    have hb8 := below_one wr.drew (.cells #[.int .i64 a, .int .i64 b, .int .i64 z] 42)
                    have HBe8 : Hid (Below w4.heap.size w4 (wr.drew.alloc (.cells #[.int .i64 a, .int .i64 b, .int .i64 z] 42))) := Lib.hid (below_next HBe.out.drew hb8)
                    have HO8 := Lib.hid (HO.out.drew.next hb8)
                    have HB8 := Lib.hid (HB.out.drew'.next hb8)
                    have bx8 : Box (wr.drew.alloc (.cells #[.int .i64 a, .int .i64 b, .int .i64 z] 42)) wr.heap.size (.int .i64 a) (.int .i64 b) (.int .i64 z) := Box.made wr.drew _ _ _ _
                    have hz8 : wr.heap.size < (wr.drew.alloc (.cells #[.int .i64 a, .int .i64 b, .int .i64 z] 42)).heap.size := cell_lt bx8.c0
                    have hz7 : w4.heap.size + 1 < wr.heap.size := cell_lt HB.out.c0
                    have hown := HO.out.lt
                    generalize wr.drew.alloc (.cells #[.int .i64 a, .int .i64 b, .int .i64 z] 42) = w8 at *
                    have BX8 := Lib.hid bx8
                    clear hb8 p0 p1 p2 m0 m1 m2 hcq hw1 hw2 e1
                    by_cases hz0 : z < 0
                    · have hzd : decide ((0 : Int) ≤ z) = false := decide_eq_false (by omega)
                      have HZ : Hid (prZ old z = z) := Lib.hid (by unfold prZ; rw [if_pos hz0])
                      obtain ⟨r0, r1, r2, _, _, _⟩ := bx8
                      obtain ⟨e0, e1, e2, f0, f1, f2⟩ := HB8.out
                      clear hown
                      go_wp2_with (at_builtin; refine wpList_cat3 rfl _ _ rfl w4.heap.size u2 L rfl (HO8.out.next (below_one w8 _)) _ [a, b, z] rfl (sl3_one w8 a b z) (by simp; omega) (by rw [World.size_alloc]; omega) ?_; intro v7 w7 o7 hg7 hv7; obtain ⟨g7, n7, cap7, rfl, _, _, _⟩ := o7.head (by simp); obtain ⟨E1, E2, E3, E4, E5⟩ := out_end2 HB8.out HO8.out HBe8.out (Nat.le_refl _) (by omega) HNE.out o7 hg7 hv7; have E2 := Lib.hid E2; have E3 := Lib.hid E3; have E4 := Lib.hid E4; have E5 := Lib.hid E5; obtain ⟨_, _, c7, _, _, f7⟩ := E1; clear o7 hg7 hv7)
                      go_roundw
                      case rel => exact ⟨x + 1, _, by omega, by go_num, E2, Lib.hid (by rw [HPA.out, HZ.out]; exact E3.out), E4, E5⟩
                      case measure => simp [intOf] <;> omega
                    · have hzd : decide ((0 : Int) ≤ z) = true := decide_eq_true (by omega)
                      have hz1 : (0 : Int) ≤ z := by omega
                      have HZ : Hid (prZ old z = rankI old z) := Lib.hid (by unfold prZ; rw [if_neg hz0])
                      have hzin : z ∈ old := HIS.out.closed HIN.out (by rw [HQ.out, Int.toNat_natCast]; exact nxT_mem.2 ⟨x, hltx, HTO.out, hz1⟩)
                      have HLK := Lib.hid (HPC.out.look HIS.out.asc HIS.out.nodup hzin)
                      obtain ⟨zn, rfl⟩ := Int.eq_ofNat_of_zero_le hz1
                      have hzst : zn < st := by omega
                      have hzi : (zn : Int) < (st : Int) := by omega
                      have hpc : w8.cell? ⟨w2.heap.size, zn, none⟩ = some (.int .i64 (rankI old (zn : Int))) := by
                        have h := HP4.out.cellAt (j := zn) (by rw [HPL.out]; exact hzst)
                        have h2 := HLK.out
                        rw [Int.toNat_natCast] at h2
                        rw [h2] at h
                        exact (HBe8.out.cell (p := ⟨w2.heap.size, zn, none⟩) (cell_lt h)).trans h
                      have hrk := rank_bd old (zn : Int)
                      have hrk0 := hrk.1
                      have hrk1 : rankI old (zn : Int) ≤ 1000 := by omega
                      have HB7 := HB8.out.far (p := ⟨wr.heap.size, 2, none⟩) (by simp; omega) (.int .i64 (rankI old (zn : Int)))
                      have HO7 : Own3 (w8.setCell ⟨wr.heap.size, 2, none⟩ (.int .i64 (rankI old (zn : Int)))) w4.heap.size u2 L := HO8.out.kept (grown_set w8 ⟨wr.heap.size, 2, none⟩ _) (.inr (fun e => by have := (hown _ e).2; simp at this))
                      have HBe7 : Below w4.heap.size w4 (w8.setCell ⟨wr.heap.size, 2, none⟩ (.int .i64 (rankI old (zn : Int)))) := HBe8.out.setCell (p := ⟨wr.heap.size, 2, none⟩) (by simp; omega) _
                      obtain ⟨R0, R1, R2, _, _, _⟩ := bx8.put2 (.int .i64 (rankI old (zn : Int)))
                      obtain ⟨r0, r1, r2, g0, g1, g2'⟩ := bx8
                      obtain ⟨e0, e1, e2, f0, f1, f2⟩ := HB7
                      have HB7 := Lib.hid (HB8.out.far (p := ⟨wr.heap.size, 2, none⟩) (by simp; omega) (.int .i64 (rankI old (zn : Int))))
                      have HO7 := Lib.hid HO7
                      have HBe7 := Lib.hid HBe7
                      have HSL := Lib.hid (show Sl3 ((w8.setCell ⟨wr.heap.size, 2, none⟩ (.int .i64 (rankI old (zn : Int)))).alloc (.cells #[.int .i64 a, .int .i64 b, .int .i64 (rankI old (zn : Int))] 42)) (.slice (some ⟨w8.heap.size, 0, none⟩) 1 1) [a, b, rankI old (zn : Int)] from by
                        have h := sl3_one (w8.setCell ⟨wr.heap.size, 2, none⟩ (.int .i64 (rankI old (zn : Int)))) a b (rankI old (zn : Int))
                        rw [size_set] at h
                        exact h)
                      clear hrk hown hzin
                      go_wp2_with (at_builtin; refine wpList_cat3 rfl _ _ rfl w4.heap.size u2 L rfl (HO7.out.next (below_one _ _)) _ [a, b, rankI old (zn : Int)] rfl HSL.out (by simp; omega) (by rw [World.size_alloc, size_set]; omega) ?_; intro v7 w7 o7 hg7 hv7; obtain ⟨g7, n7, cap7, rfl, _, _, _⟩ := o7.head (by simp); obtain ⟨E1, E2, E3, E4, E5⟩ := out_end2 HB7.out HO7.out HBe7.out (Nat.le_refl _) (by omega) HNE.out o7 hg7 hv7; have E2 := Lib.hid E2; have E3 := Lib.hid E3; have E4 := Lib.hid E4; have E5 := Lib.hid E5; obtain ⟨_, _, c7, _, _, f7⟩ := E1; clear o7 hg7 hv7)
                      go_roundw
                      case rel => exact ⟨x + 1, _, by omega, by go_num, E2, Lib.hid (by rw [HPA.out, HZ.out]; exact E3.out), E4, E5⟩
                      case measure => simp [intOf] <;> omega
                · obtain rfl : x = s := by omega
                  have hd : decide ((x : Int) < (x : Int)) = false := decide_eq_false (by omega)
                  go_wp2_with fail
                  go_roundw
                  case rel => exact ⟨k + 1, u2, by omega, by go_num, HB, by rw [Nat.succ_mul]; exact HO, HNE, HBe⟩
                  case measure => simp [intOf] <;> omega
            · obtain rfl : k = old.length := by omega
              have hd : decide ((old.length : Int) < (old.length : Int)) = false := decide_eq_false (by omega)
              obtain ⟨e0, e1, e2, f0, f1, f2⟩ := HB.out
              obtain ⟨h0, h1, h2, k0, k1, k2⟩ := BR4.out.next HBe.out
              obtain ⟨A9, n9, c9, rfl, _, _, hr9⟩ := HO.out.sl
              clear hr9
              go_wp2_with fail
              rw [HOLD.out]
              refine bodyPost_ret (v := .tuple #[.agg #[.int .i64 (s : Int), .int .i64 (old.length : Int), .slice A9 n9 c9], .slice (some ⟨g2, 0, none⟩) old.length cap2, .int .i64 0]) (by simp [results, Try.results5, go_sem, h0, h1, h2]) rfl ?_
              have F1 : Fresh3 wr w4.heap.size (.slice A9 n9 c9) (prT old s l (old.length * s)) := .inl HO.out
              have F2 : Fresh wr wq.heap.size (.slice (some ⟨g2, 0, none⟩) old.length cap2) old := .inl (HO4.out.next HBe.out)
              have F3 : Fresh w4 wq.heap.size (.slice (some ⟨g2, 0, none⟩) old.length cap2) old := .inl HO4.out
              refine ⟨_, _, rfl, Fresh3.lower (((F1.set (p := ⟨w.heap.size + 1, 0, none⟩) (by simp; omega) _).set (p := ⟨w.heap.size + 1, 1, none⟩) (by simp; omega) _).set (p := ⟨w.heap.size + 1, 2, none⟩) (by simp; omega) _) (by omega), Fresh.lower (((F2.set (p := ⟨w.heap.size + 1, 0, none⟩) (by simp; omega) _).set (p := ⟨w.heap.size + 1, 1, none⟩) (by simp; omega) _).set (p := ⟨w.heap.size + 1, 2, none⟩) (by simp; omega) _) (by omega), fun k hk h2 => ?_, ?_⟩
              · have e1 := (F1.lt k hk).1
                have e2 := (F3.lt k h2).2
                omega
              · exact (((below_next (below_next hB1 HB4.out) HBe.out).setCell (p := ⟨w.heap.size + 1, 0, none⟩) (by simp) _).setCell (p := ⟨w.heap.size + 1, 1, none⟩) (by simp) _).setCell (p := ⟨w.heap.size + 1, 2, none⟩) (by simp) _
end Go.Proofs.Ythijhpkkijjlfaa
