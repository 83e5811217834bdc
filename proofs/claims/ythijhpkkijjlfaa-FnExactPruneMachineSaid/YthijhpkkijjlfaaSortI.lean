/- The reference's insertion sort and the program's slices.Sort give the sorted list. No condition beyond the stated bounds. -/
import Derived.Test.YthijhpkkijjlfaaCat
import Derived.Test.YthijhpkkijjlfaaPlainSort
import Derived.Test.YthijhpkkijjlfaaNat1
namespace Go.Proofs.Ythijhpkkijjlfaa
open Go.RowKit
set_option maxHeartbeats 2000000 in
set_option maxRecDepth 100000 in
theorem l01Sorted_any (v : Value) (l : List Int) (w : World) (h : Sl w v l) (hn : l.length ≤ 1048576) :
    Calls Try.prog 17 #[v] w (RetOwn w (sortL l)) := by
  obtain ⟨A, c, rfl, hlc, hcm, hr⟩ := h
  have HR := Lib.hid hr
  clear hr
  unfold maxLen at hcm
  have HO := Lib.hid (Owns.empty w w.heap.size (Nat.le_refl _))
  have hB0 : Below w.heap.size w (w.alloc (.cells #[] 2)) := (Below.refl _ _).alloc (Nat.le_refl _) _
  go_enter Try.func17, Try.ntmps17
  go_wp2
  go_loopw [3, 4] (fun v i wr => ∃ (j : Nat) (o : List Int), j ≤ l.length ∧ i = .int .i64 j ∧ Hid (o.length = j) ∧ Hid (Asc o) ∧ Hid (o.Perm (l.take j)) ∧ Hid (Owns wr w.heap.size v o) ∧ Below w.heap.size w wr) (fun _ i _ => l.length - (intOf i).toNat)
  case atStart => exact ⟨0, [], Nat.zero_le _, rfl, Lib.hid rfl, Lib.hid List.Pairwise.nil, Lib.hid (List.Perm.refl _), HO, hB0⟩
  case round =>
    clear HO hB0
    obtain ⟨j, o, hj, rfl, HJ, HA, HP, HO, hB⟩ := hrel
    by_cases hlt : j < l.length
    · have hji : (j : Int) < (l.length : Int) := by omega
      have hol : o.length ≤ 1048576 := by have := HJ.out; omega
      obtain ⟨ad, rfl, hbk, hc⟩ := HR.out.at_ hlt
      have HC := Lib.hid hc
      clear hc
      obtain ⟨A2, c2, rfl, hlc2, hcm2, hr2⟩ := HO.out.sl
      unfold maxLen at hcm2
      clear hr2
      obtain ⟨wo, rfl⟩ : ∃ wo : World, wo = wr := ⟨_, rfl⟩
      go_wp2_with fail
      go_loopw [5] (fun t wr => ∃ a : Nat, a ≤ o.length ∧ t = .int .i64 a ∧ Hid (∀ m, a ≤ m → m < o.length → geti l j < geti o m) ∧ ∃ n, wr = wo.drewN n) (fun t _ => (intOf t).toNat)
      case atStart => exact ⟨o.length, Nat.le_refl _, rfl, Lib.hid (fun m h1 h2 => by omega), 0, rfl⟩
      case round =>
        obtain ⟨a, ha, rfl, HI, nd, rfl⟩ := hrel
        have hcl : wo.cell? (ad.add j) = some (.int .i64 (geti l j)) := (hB.cell (p := ad.add j) (by rw [block_of_add]; exact hbk)).trans HC.out
        by_cases hgo : 0 < a ∧ geti l j < geti o (a - 1)
        · obtain ⟨ha0, hgt⟩ := hgo
          obtain ⟨g, cap, e, hbg, hgw⟩ := HO.out.head (by omega)
          simp only [Value.slice.injEq] at e
          obtain ⟨rfl, _, rfl⟩ := e
          have hco : wo.cell? ⟨g, a - 1, none⟩ = some (.int .i64 (geti o (a - 1))) := HO.out.cellAt (j := a - 1) (by omega)
          have hai : (0 : Int) < (a : Int) := by omega
          have hd1 : decide ((0 : Int) < (a : Int)) = true := decide_eq_true hai
          have hd2 : decide (geti l j < geti o (a - 1)) = true := decide_eq_true hgt
          have hd3 : decide (geti o (a - 1) > geti l j) = true := decide_eq_true hgt
          have HI2 : Hid (∀ m, a - 1 ≤ m → m < o.length → geti l j < geti o m) := Lib.hid (fun m h1 h2 => by
            rcases Nat.lt_or_ge m a with h | h
            · obtain rfl : m = a - 1 := by omega
              exact hgt
            · exact HI.out m h h2)
          have hsub : ((a : Int) - 1) = ((a - 1 : Nat) : Int) := by omega
          have HSB := Lib.hid hsub
          clear hsub
          have q1 : IntKind.i64.wrap ((a : Int) - 1) = (a : Int) - 1 := IntWalk.i64_in _ (by omega)
          have q2 : (1 : Int) ≤ (a : Int) := by omega
          have q4 : (a : Int) - 1 < (o.length : Int) := by omega
          have q3 : ((a : Int) - 1).toNat = a - 1 := by omega
          go_wp2_with fail
          go_quiet (fail)
          clear q1 q3
          go_wp2_with fail
          go_roundw
          case rel => exact ⟨a - 1, by omega, by rw [← HSB.out], HI2, by first | exact ⟨_, rfl⟩ | exact ⟨_, World.drewN_drewN _ _ _⟩⟩
          case measure => simp [intOf] <;> omega
        · have HLO : Hid (a = 0 ∨ geti o (a - 1) ≤ geti l j) := Lib.hid (by
            by_cases h0 : a = 0
            · exact .inl h0
            · right
              have := fun h => hgo ⟨by omega, h⟩
              omega)
          have HN1 : Hid (Asc (insAt o a (geti l j))) := Lib.hid (insAt_asc HA.out ha HLO.out HI.out)
          have HN2 : Hid ((insAt o a (geti l j)).Perm (l.take (j + 1))) := Lib.hid (by
            rw [take_snoc hlt]
            exact (insAt_perm o a _).trans ((List.Perm.cons _ HP.out).trans (List.perm_append_singleton _ _).symm))
          have HNL : Hid ((insAt o a (geti l j)).length = j + 1) := Lib.hid (by
            have := (insAt_perm o a (geti l j)).length_eq
            rw [this, List.length_cons, HJ.out])
          have HOn := Lib.hid (HO.out.drewN nd)
          by_cases ha0 : 0 < a
          · obtain ⟨g, cap, e, hbg, hgw⟩ := HO.out.head (by omega)
            simp only [Value.slice.injEq] at e
            obtain ⟨rfl, _, rfl⟩ := e
            have hco : wo.cell? ⟨g, a - 1, none⟩ = some (.int .i64 (geti o (a - 1))) := HO.out.cellAt (j := a - 1) (by omega)
            have hai : (0 : Int) < (a : Int) := by omega
            have hd1 : decide ((0 : Int) < (a : Int)) = true := decide_eq_true hai
            have hd2 : decide (geti l j < geti o (a - 1)) = false := decide_eq_false (fun h => hgo ⟨ha0, h⟩)
            clear hgo
            have q1 : IntKind.i64.wrap ((a : Int) - 1) = (a : Int) - 1 := IntWalk.i64_in _ (by omega)
            have q2 : (1 : Int) ≤ (a : Int) := by omega
            have q4 : (a : Int) - 1 < (o.length : Int) := by omega
            have q3 : ((a : Int) - 1).toNat = a - 1 := by omega
            go_wp2_with fail
            go_quiet (fail)
            clear q1 q3
            go_wp2_with (at_builtin; refine wpList_push rfl _ _ rfl w.heap.size _ o rfl (HO.out.drewN _) _ rfl (by omega) hB.size ?_; intro v1 w1 o1 hg1 _; have hB1 : Below w.heap.size w w1 := (below_drewN hB _).grown hg1 hB.size (fun k hk => (HO.out.lt k hk).1); obtain ⟨g1, cap1, rfl, hbg1, hgw1⟩ := o1.head (by simp); rw [show (o ++ [(0 : Int)]).length = o.length + 1 by simp] at o1 ⊢; have HO1 : Hid (Owns w1 w.heap.size (.slice (some ⟨g1, 0, none⟩) (o.length + 1) cap1) (upS o o.length)) := Lib.hid (by rw [upS_start]; exact o1); clear o1 hg1 HOn; have hl9 : o.length + 1 ≤ 1048577 := (by omega))
            go_loopw [6] (fun t wr => ∃ b : Nat, a ≤ b ∧ b ≤ o.length ∧ t = .int .i64 b ∧ Hid (Owns wr w.heap.size (.slice (some ⟨g1, 0, none⟩) (o.length + 1) cap1) (upS o b)) ∧ Below w.heap.size w wr) (fun t _ => (intOf t).toNat)
            case atStart => exact ⟨o.length, ha, Nat.le_refl _, by first | rfl | go_num, HO1, hB1⟩
            case round =>
              clear HO1 hB1
              obtain ⟨b, hab, hbo, rfl, HO2, hB2⟩ := hrel
              have hulen := upS_len hbo
              by_cases hgt : a < b
              · obtain ⟨b', rfl⟩ : ∃ b', b = b' + 1 := ⟨b - 1, by omega⟩
                have hc1 := HO2.out.cellAt (j := b') (by omega)
                rw [upS_at (by omega)] at hc1
                have hfr := HO2.out.free (b' + 1)
                have hcw := HO2.out.cellAt (j := b' + 1) (by omega)
                have hst := HO2.out.stored (b' + 1) (geti o b')
                rw [upS_step (by omega)] at hst
                have HST := Lib.hid hst
                have hgt2 : (a : Int) < ((b' + 1 : Nat) : Int) := by omega
                clear hst hulen
                go_wp2
                go_roundw
                case rel => exact ⟨b', by omega, by omega, by go_num, HST.out.1, hB2.grown HST.out.2 hB2.size (by simp; omega)⟩
                case measure => simp [intOf] <;> omega
              · obtain rfl : b = a := by omega
                have hcl2 := (hB2.cell (p := ad.add j) (by rw [block_of_add]; exact hbk)).trans HC.out
                have hfr := HO2.out.free b
                have hcw := HO2.out.cellAt (j := b) (by omega)
                have hst := HO2.out.stored b (geti l j)
                rw [upS_end ha] at hst
                have HST := Lib.hid hst
                have hd9 : decide ((b : Int) < (b : Int)) = false := by simp
                clear hst hulen
                go_wp2
                go_roundw
                case rel => exact ⟨j + 1, _, by omega, by go_num, HNL, HN1, HN2, HST.out.1, hB2.grown HST.out.2 hB2.size (by simp; omega)⟩
                case measure => simp [intOf] <;> omega
          · have hd1 : decide ((0 : Int) < (a : Int)) = false := decide_eq_false (by omega)
            have hd2 : decide (0 < a) = false := decide_eq_false ha0
            clear hgo ha0
            go_wp2_with fail
            go_quiet (fail)
            go_wp2_with (at_builtin; refine wpList_push rfl _ _ rfl w.heap.size _ o rfl (HO.out.drewN _) _ rfl (by omega) hB.size ?_; intro v1 w1 o1 hg1 _; have hB1 : Below w.heap.size w w1 := (below_drewN hB _).grown hg1 hB.size (fun k hk => (HO.out.lt k hk).1); obtain ⟨g1, cap1, rfl, hbg1, hgw1⟩ := o1.head (by simp); rw [show (o ++ [(0 : Int)]).length = o.length + 1 by simp] at o1 ⊢; have HO1 : Hid (Owns w1 w.heap.size (.slice (some ⟨g1, 0, none⟩) (o.length + 1) cap1) (upS o o.length)) := Lib.hid (by rw [upS_start]; exact o1); clear o1 hg1 HOn; have hl9 : o.length + 1 ≤ 1048577 := (by omega))
            go_loopw [6] (fun t wr => ∃ b : Nat, a ≤ b ∧ b ≤ o.length ∧ t = .int .i64 b ∧ Hid (Owns wr w.heap.size (.slice (some ⟨g1, 0, none⟩) (o.length + 1) cap1) (upS o b)) ∧ Below w.heap.size w wr) (fun t _ => (intOf t).toNat)
            case atStart => exact ⟨o.length, ha, Nat.le_refl _, by first | rfl | go_num, HO1, hB1⟩
            case round =>
              clear HO1 hB1
              obtain ⟨b, hab, hbo, rfl, HO2, hB2⟩ := hrel
              have hulen := upS_len hbo
              by_cases hgt : a < b
              · obtain ⟨b', rfl⟩ : ∃ b', b = b' + 1 := ⟨b - 1, by omega⟩
                have hc1 := HO2.out.cellAt (j := b') (by omega)
                rw [upS_at (by omega)] at hc1
                have hfr := HO2.out.free (b' + 1)
                have hcw := HO2.out.cellAt (j := b' + 1) (by omega)
                have hst := HO2.out.stored (b' + 1) (geti o b')
                rw [upS_step (by omega)] at hst
                have HST := Lib.hid hst
                have hgt2 : (a : Int) < ((b' + 1 : Nat) : Int) := by omega
                clear hst hulen
                go_wp2
                go_roundw
                case rel => exact ⟨b', by omega, by omega, by go_num, HST.out.1, hB2.grown HST.out.2 hB2.size (by simp; omega)⟩
                case measure => simp [intOf] <;> omega
              · obtain rfl : b = a := by omega
                have hcl2 := (hB2.cell (p := ad.add j) (by rw [block_of_add]; exact hbk)).trans HC.out
                have hfr := HO2.out.free b
                have hcw := HO2.out.cellAt (j := b) (by omega)
                have hst := HO2.out.stored b (geti l j)
                rw [upS_end ha] at hst
                have HST := Lib.hid hst
                have hd9 : decide ((b : Int) < (b : Int)) = false := by simp
                clear hst hulen
                go_wp2
                go_roundw
                case rel => exact ⟨j + 1, _, by omega, by go_num, HNL, HN1, HN2, HST.out.1, hB2.grown HST.out.2 hB2.size (by simp; omega)⟩
                case measure => simp [intOf] <;> omega
    · obtain rfl : j = l.length := by omega
      have HF : Hid (o = sortL l) := Lib.hid (sortL_of HA.out (by have := HP.out; rwa [List.take_length] at this))
      go_wp2_with fail
      go_ret
      exact ⟨_, rfl, by rw [← HF.out]; exact HO.out, hB⟩
end Go.Proofs.Ythijhpkkijjlfaa
