/- BordersOf: what the law needs. No condition beyond the stated bounds. -/
import Derived.Test.YtndddmichogaoaaBorders
namespace Go.Proofs.Ytndddmichogaoaa
open Go.RowKit
/-- All borders below n, as numbers. -/
def bordsI (l : List Int) (n : Nat) : List Int := ((List.range n).filter (bordB l)).map (fun (k : Nat) => (k : Int))
theorem bordsI_len (l : List Int) (n : Nat) : (bordsI l n).length ≤ n := by
  unfold bordsI
  rw [List.length_map]
  have := List.length_filter_le (bordB l) (List.range n)
  simpa using this
theorem bordsI_yes {l : List Int} {n : Nat} (h : bordB l n = true) : bordsI l (n + 1) = bordsI l n ++ [(n : Int)] := by
  unfold bordsI; rw [List.range_succ, List.filter_append, List.map_append]; simp [h]
theorem bordsI_no {l : List Int} {n : Nat} (h : bordB l n = false) : bordsI l (n + 1) = bordsI l n := by
  unfold bordsI; rw [List.range_succ, List.filter_append, List.map_append]; simp [h]
theorem bordsFrom_zero (l : List Int) (n : Nat) : (bordsFrom l 0 n).map (fun (k : Nat) => (k : Int)) = bordsI l n := by
  unfold bordsFrom bordsI
  congr 2
theorem bordB_iff {l : List Int} {k : Nat} (hk : k < l.length) : bordB l k = true ↔ Bord l l.length k := by
  unfold bordB; rw [decide_eq_true_eq]; exact bord_iff hk
theorem Sl.empty_any (w : World) (A : Option Addr) (c : Nat) (hc : c ≤ maxLen) : Sl w (.slice A 0 c) [] := ⟨A, c, rfl, Nat.zero_le _, hc, Ints.none_⟩
theorem specBordersOf_yes (v : Value) (l : List Int) (w : World) (h : Sl w v l) (hw : wordB l = true) :
    Calls Try.prog 31 #[v] w (RetRowC w (bordsI l l.length) 0) := by
  have hl := (wordB_true.1 hw).2
  have HS := Lib.hid h
  obtain ⟨A, c, rfl, hlc, hcm, hr⟩ := h
  have HR := Lib.hid hr
  have HCM := Lib.hid hcm
  unfold maxLen at hcm
  clear hr
  have HO := Lib.hid (Owns.empty w w.heap.size (Nat.le_refl _))
  have hB0 : Below w.heap.size w (w.alloc (.cells #[] 2)) := (Below.refl _ _).alloc (Nat.le_refl _) _
  go_enter Try.func31, Try.ntmps31
  go_wp2_with (go_at_call 48; refine (l03Is_any _ _ _ HS.out).mono ?_; rintro e w' ⟨rfl, rfl⟩)
  go_loopw [4, 5] (fun u i wr => ∃ k : Nat, k ≤ l.length ∧ i = .int .i64 k ∧ Hid (Owns wr w.heap.size u (bordsI l k)) ∧ Below w.heap.size w wr) (fun _ i _ => l.length - (intOf i).toNat)
  case atStart => exact ⟨0, Nat.zero_le _, rfl, HO, hB0⟩
  case round =>
    clear HO hB0
    obtain ⟨k, hk, rfl, HO, hB⟩ := hrel
    by_cases hlt : k < l.length
    · have e1 : (0 : Int) ≤ (k : Int) := by omega
      have e2 : (k : Int) ≤ (l.length : Int) := by omega
      have e3 : IntKind.i64.wrap ((l.length : Int) - (k : Int)) = ((l.length - k : Nat) : Int) := by rw [IntWalk.i64_in _ (by omega)]; omega
      have hbl := bordsI_len l k
      have HRr := HR.out.next hB hB.size
      have S1 := Lib.hid (Sl.upto HRr hlc HCM.out (show k ≤ l.length by omega))
      have HBB : Hid (bordB l k = decide (l.take k = l.drop (l.length - k))) := Lib.hid rfl
      by_cases hc0 : c = l.length - k
      · obtain rfl : k = 0 := by omega
        obtain rfl : c = l.length := by omega
        have hbb : bordB l 0 = true := by unfold bordB; simp
        have HN : Hid (bordsI l 1 = bordsI l 0 ++ [(0 : Int)]) := Lib.hid (bordsI_yes hbb)
        have S3 := Lib.hid (Sl.empty_any wr A l.length HCM.out)
        have S4 := Lib.hid (Sl.empty_any wr A 0 (Nat.zero_le _))
        clear hc0 hbb HRr
        go_wp2_with fail
        go_quiet ((go_at_call 60; exact Calls.quiet_of (l00Same_q _ _ [] [] _ (S3.out.drewN _) (S4.out.drewN _))))
        rw [show decide (([] : List Int) = []) = true from rfl]
        clear e3
        go_wp2_with (at_builtin; refine wpList_push rfl _ _ rfl w.heap.size _ (bordsI l 0) rfl (HO.out.drewN _) _ rfl (by omega) hB.size ?_; intro v1 w1 o1 hg1 _)
        have hB1 := (below_drewN hB _).grown hg1 hB.size (fun k hk => (HO.out.lt k hk).1)
        rw [← HN.out] at o1
        have HO1 := Lib.hid o1
        clear o1 hg1
        go_roundw
        case rel => exact ⟨1, by omega, rfl, HO1, hB1⟩
        case measure => simp [intOf] <;> omega
      · have S2 := Lib.hid (Sl.from_ HRr hlc HCM.out (show l.length - k ≤ l.length by omega) hc0)
        clear HRr
        cases hbb : bordB l k with
        | true =>
          have heb : decide (l.take k = l.drop (l.length - k)) = true := by rw [← HBB.out]; exact hbb
          have HN := Lib.hid (bordsI_yes hbb)
          go_wp2_with fail
          go_quiet ((go_at_call 60; exact Calls.quiet_of (l00Same_q _ _ _ _ _ (S1.out.drewN _) (S2.out.drewN _))))
          rw [heb]
          clear e3
          go_wp2_with (at_builtin; refine wpList_push rfl _ _ rfl w.heap.size _ (bordsI l k) rfl (HO.out.drewN _) _ rfl (by omega) hB.size ?_; intro v1 w1 o1 hg1 _)
          have hB1 := (below_drewN hB _).grown hg1 hB.size (fun k hk => (HO.out.lt k hk).1)
          rw [← HN.out] at o1
          have HO1 := Lib.hid o1
          clear o1 hg1
          go_wp2_with fail
          go_roundw
          case rel => exact ⟨k + 1, by omega, by go_num, HO1, hB1⟩
          case measure => simp [intOf] <;> omega
        | false =>
          have heb : decide (l.take k = l.drop (l.length - k)) = false := by rw [← HBB.out]; exact hbb
          have HN := Lib.hid (bordsI_no hbb)
          go_wp2_with fail
          go_quiet ((go_at_call 60; exact Calls.quiet_of (l00Same_q _ _ _ _ _ (S1.out.drewN _) (S2.out.drewN _))))
          rw [heb]
          clear e3
          go_wp2_with fail
          go_roundw
          case rel => exact ⟨k + 1, by omega, by go_num, Lib.hid (by rw [HN.out]; exact HO.out.drewN _), below_drewN hB _⟩
          case measure => simp [intOf] <;> omega
    · obtain rfl : k = l.length := by omega
      go_wp2_with fail
      go_ret2
      exact ⟨_, rfl, .inl HO.out, hB⟩
theorem implBordersOf_yes (v : Value) (l : List Int) (w : World) (h : Sl w v l) (hw : wordB l = true) :
    Calls Try.prog 32 #[v] w (RetRowC w (bordsI l l.length) 0) := by
  have hl := (wordB_true.1 hw).2
  have HS := Lib.hid h
  obtain ⟨A, c, rfl, hlc, hcm, _⟩ := h
  unfold maxLen at hcm
  have HO := Lib.hid (Owns.empty w w.heap.size (Nat.le_refl _))
  have hB0 : Below w.heap.size w (w.alloc (.cells #[] 2)) := (Below.refl _ _).alloc (Nat.le_refl _) _
  go_enter Try.func32, Try.ntmps32
  go_wp2_with fail
  refine (implIsWord_any _ _ _ HS.out).mono ?_
  rintro e w' ⟨rfl, rfl⟩
  go_wp2_with fail
  refine (prefixTable_any _ _ _ (HS.out.next hB0) (by omega)).mono ?_
  rintro e w1 ⟨g, tb, rfl, hg, hT, hok, hb⟩
  have hg2 : w.heap.size < g := by simp at hg; omega
  have hg3 : g < w1.heap.size := (World.ownsRow.lt hT g rfl).2
  have hB1 := below_next hB0 hb
  have HO1 := Lib.hid (HO.out.next hb)
  have HT := Lib.hid hok
  have HC : Hid (∀ j, j < l.length → w1.cell? ⟨g, j, none⟩ = some (.int .i64 (geti tb j))) := Lib.hid (fun j hj => hT.cellAt (by rw [hok.1]; exact hj))
  clear hT hok hg HO
  go_wp2_with fail
  go_loopw [4, 6] (fun u i wr => ∃ (n : Nat) (pre : List Int), n ≤ l.length ∧ i = .int .i64 n ∧ Hid (n = l.length ∨ Bord l l.length n) ∧ Hid (pre.reverse = (bordsFrom l n l.length).map (fun (k : Nat) => (k : Int))) ∧ pre.length ≤ l.length - n ∧ Hid (Owns wr w.heap.size u pre) ∧ Hid (∀ k, u.ownBlock = some k → k ≠ g) ∧ g < wr.heap.size ∧ Hid (∀ j, j < l.length → wr.cell? ⟨g, j, none⟩ = some (.int .i64 (geti tb j))) ∧ Below w.heap.size w wr) (fun _ i _ => (intOf i).toNat)
  case atStart => exact ⟨l.length, [], Nat.le_refl _, rfl, Lib.hid (.inl rfl), Lib.hid (by rw [bordsFrom_top]; rfl), by simp, HO1, Lib.hid (fun k hk => by simp [Value.ownBlock] at hk; omega), hg3, HC, hB1⟩
  case round =>
    clear HO1 HC hB1 hg3
    obtain ⟨n, pre, hn, rfl, HN, HP, hpl, HO, HU, hgs, HC, hB⟩ := hrel
    by_cases h0 : 0 < n
    · obtain ⟨t, ht, hLB⟩ := HT.out.2 (n - 1) (by omega)
      rw [show n - 1 + 1 = n by omega] at hLB
      have hc := HC.out (n - 1) (by omega)
      rw [ht] at hc
      have hnx := next_border HN.out hLB
      have htn := hLB.1.1
      have HN2 := Lib.hid (show t = l.length ∨ Bord l l.length t from .inr hnx.2.1)
      have HP2 : Hid ((pre ++ [(t : Int)]).reverse = (bordsFrom l t l.length).map (fun (k : Nat) => (k : Int))) := Lib.hid (by
        rw [bordsFrom_step hnx.1 htn ((bordB_iff hnx.1).2 hnx.2.1) (fun j h1 h2 => by
          have hj : j < l.length := by omega
          cases hb : bordB l j with
          | false => rfl
          | true => exact absurd ((bordB_iff hj).1 hb) (hnx.2.2 j h1 h2))]
        rw [List.reverse_append, HP.out]; rfl)
      have htl : t ≤ l.length := by omega
      clear ht hLB hnx
      go_wp2_with (at_builtin; refine wpList_push rfl _ _ rfl w.heap.size _ pre rfl HO.out _ rfl (by omega) hB.size ?_; intro v2 w2 o2 hg2' hat2)
      have hB2 := hB.grown hg2' hB.size (fun k hk => (HO.out.lt k hk).1)
      have HC2 : Hid (∀ j, j < l.length → w2.cell? ⟨g, j, none⟩ = some (.int .i64 (geti tb j))) := Lib.hid (fun j hj => hg2'.cell (HC.out j hj) (fun e => HU.out g e.symm rfl))
      have HU2 : Hid (∀ k, v2.ownBlock = some k → k ≠ g) := Lib.hid (fun k hk => by
        rcases hat2 with e | ⟨k', e, hk'⟩
        · exact HU.out k (e.symm.trans hk)
        · rw [hk] at e; injection e with e; subst e; omega)
      have hgs2 : g < w2.heap.size := by have := hg2'.size; omega
      have HO2 := Lib.hid o2
      clear o2 hg2' hat2 hc
      go_wp2_with fail
      go_roundw
      case rel => exact ⟨t, pre ++ [(t : Int)], htl, rfl, HN2, HP2, by simp; omega, HO2, HU2, hgs2, HC2, hB2⟩
      case measure => simp [intOf] <;> omega
    · obtain rfl : n = 0 := by omega
      have HF : Hid (pre.reverse = bordsI l l.length) := Lib.hid (by rw [HP.out, bordsFrom_zero])
      have hd : decide ((0 : Int) < ((0 : Nat) : Int)) = false := by simp
      go_wp2_with fail
      refine (reverse_own _ _ _ _ HO.out (by omega)).mono ?_
      rintro e w2 ⟨rfl, o2, hg2'⟩
      have hB2 := hB.grown hg2' hB.size (fun k hk => (HO.out.lt k hk).1)
      go_wp2_with fail
      go_ret2
      exact ⟨_, rfl, by rw [← HF.out]; exact .inl o2, hB2⟩
theorem bothBordersOf (l : List Int) (_f : Fit l) (hn : l.length ≤ 1048576) : ∃ (R : List Int) (C : Int), R.length ≤ 4000000 ∧
    (∀ (w : World) (v : Value), Sl w v l → Calls Try.prog 31 #[v] w (RetRowC w R C)) ∧
    (∀ (w : World) (v : Value), Sl w v l → Calls Try.prog 32 #[v] w (RetRowC w R C)) := by
  cases hw : wordB l with
  | true => exact ⟨bordsI l l.length, 0, by have := bordsI_len l l.length; omega, fun w v h => specBordersOf_yes v l w h hw, fun w v h => implBordersOf_yes v l w h hw⟩
  | false =>
    refine ⟨[], 1, by simp, fun w v h => ?_, fun w v h => ?_⟩
    · go_enter Try.func31, Try.ntmps31
      go_wp2_with (go_at_call 48; refine (l03Is_any _ _ _ h).mono ?_; rintro e w' ⟨rfl, rfl⟩)
      go_ret2
      exact ⟨_, rfl, Fresh.nil_ _ _, Below.refl _ _⟩
    · go_enter Try.func32, Try.ntmps32
      go_wp2_with (go_at_call 51; refine (implIsWord_any _ _ _ h).mono ?_; rintro e w' ⟨rfl, rfl⟩)
      go_ret2
      exact ⟨_, rfl, Fresh.nil_ _ _, Below.refl _ _⟩
end Go.Proofs.Ytndddmichogaoaa
