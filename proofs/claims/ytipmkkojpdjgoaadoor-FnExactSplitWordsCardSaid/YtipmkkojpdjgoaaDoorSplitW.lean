/- SplitWords of the reference and of the program: the parts between blanks. Where bytealg's bound holds some number. -/
import Derived.Test.YtipmkkojpdjgoaaDoorSplit
import Derived.Sort.OwnSorted
import Derived.Shelf.SlicesE.DeleteFunc
namespace Go.Proofs.YtipmkkojpdjgoaaDoor
open Go.RowKit Go.Joins Go.Sort
/-- The parts that are not empty. -/
def wordsL (l : List UInt8) : List (List UInt8) := (splitC 32 l).filter (fun x => !x.isEmpty)
theorem OwnsS.cut {w : World} {base g n c k : Nat} {l : List (List UInt8)} (h : OwnsS w base (.slice (some ⟨g, 0, none⟩) n c) l) (hk : k ≤ l.length) : OwnsS w base (.slice (some ⟨g, 0, none⟩) k c) (l.take k) := by
  have hl : (l.take k).length = k := by rw [List.length_take]; omega
  rcases h with ⟨hn, h | ⟨g', cap, cur, e, hb, hg, hnc, hcm, hcs, htake⟩⟩
  · exact absurd h.1 (by simp)
  · simp only [Value.slice.injEq] at e
    obtain ⟨e1, e2, rfl⟩ := e
    injection e1 with e1
    injection e1 with e1
    subst e1
    refine ⟨by rw [List.length_map, hl, Nat.mul_one], .inr ⟨_, _, cur, by rw [hl], hb, hg, by omega, hcm, hcs, ?_⟩⟩
    rw [hl, Nat.mul_one, List.map_take, ← htake, List.take_take, Nat.mul_one, Nat.min_eq_left hk]
theorem str_isEmpty {l : List UInt8} (h : l ≠ []) : (str l).toList ≠ [] := by
  rw [ByteArray.toList_eq]; exact h
set_option maxHeartbeats 400000 in
theorem specSplitWords_any (s : ByteArray) (w : World) (hs : s.size ≤ 100000000) :
    Calls Tryd.prog 13 #[.string s] w (RetStrs w (wordsL s.data.toList)) := by
  obtain ⟨L, hL⟩ : ∃ L, L = splitC 32 s.data.toList := ⟨_, rfl⟩
  have hLl : L.length ≤ 100000001 := by rw [hL]; have := splitC_len 32 s.data.toList; have : s.data.toList.length = s.size := rfl; omega
  have HL : Hid (wordsL s.data.toList = L.filter (fun x => !x.isEmpty)) := Lib.hid (by unfold wordsL; rw [hL])
  have HL2 := Lib.hid hL
  clear hL
  go_enter Tryd.func13, Tryd.ntmps13
  go_wp2_with (go_at_call 39; refine (l01Split_any s 32 32 _ rfl hs).mono ?_; rintro e w1 ⟨r1, rfl, o1, hb1⟩; rw [← HL2.out] at o1; obtain ⟨A1, c1, rfl, hlc1, hcm1, h1⟩ := o1.sl; unfold maxLen at hcm1; have H1 := Lib.hid h1; clear h1 o1)
  have HO := Lib.hid (OwnsS.empty w1 w1.heap.size (Nat.le_refl _))
  have hB0 : Below w1.heap.size w1 (w1.alloc (.cells #[] 9)) := (Below.refl _ _).alloc (Nat.le_refl _) _
  go_loopw [4, 5] (fun u i wr => ∃ k : Nat, k ≤ L.length ∧ i = .int .i64 k ∧ Hid (OwnsS wr w1.heap.size u ((L.take k).filter (fun x => !x.isEmpty))) ∧ Below w1.heap.size w1 wr) (fun _ i _ => L.length - (intOf i).toNat)
  case atStart => exact ⟨0, Nat.zero_le _, rfl, HO, hB0⟩
  case round =>
    clear HO hB0
    obtain ⟨k, hk, rfl, HO, hB⟩ := hrel
    by_cases hlt : k < L.length
    · obtain ⟨ad, rfl, hbk, hc⟩ := H1.out (by omega)
      have hcell := (hB.cell (p := ad.add k) (by rw [block_of_add]; exact hbk)).trans (hc k hlt)
      have hfl : ((L.take k).filter (fun x => !x.isEmpty)).length ≤ 1000000000 := by
        have := List.length_filter_le (fun x : List UInt8 => !x.isEmpty) (L.take k)
        rw [List.length_take] at this; omega
      unfold strV at hcell
      clear hc
      by_cases he : gets L k = []
      · have HN : Hid ((L.take k).filter (fun x => !x.isEmpty) = (L.take (k + 1)).filter (fun x => !x.isEmpty)) := Lib.hid (by
          rw [takes_snoc hlt, List.filter_append, he]; simp)
        have e0 : str (gets L k) = ⟨#[]⟩ := by rw [he]; rfl
        rw [e0] at hcell
        clear he e0
        go_wp2_with fail
        go_roundw
        case rel => exact ⟨k + 1, by omega, by go_num, Lib.hid (by rw [← HN.out]; exact HO.out), hB⟩
        case measure => simp [intOf] <;> omega
      · have HN : Hid ((L.take k).filter (fun x => !x.isEmpty) ++ [gets L k] = (L.take (k + 1)).filter (fun x => !x.isEmpty)) := Lib.hid (by
          rw [takes_snoc hlt, List.filter_append]
          cases hg : gets L k with
          | nil => exact absurd hg he
          | cons a t => simp)
        have e0 := str_isEmpty he
        obtain ⟨q, hq⟩ : ∃ q, str (gets L k) = q := ⟨_, rfl⟩
        rw [hq] at hcell e0
        have HQ : Hid (q.data.toList = gets L k) := Lib.hid (by rw [← hq]; rfl)
        have e1 : q.toList.isEmpty = false := by rw [List.isEmpty_eq_false_iff]; exact e0
        clear he hq
        go_wp2_with (at_builtin; refine wpList_pushS rfl _ _ rfl w1.heap.size _ ((L.take k).filter (fun x => !x.isEmpty)) rfl HO.out _ rfl hfl hB.size ?_; intro v2 w2 o2 hg2 _; have hB2 := hB.grown hg2 hB.size (fun k hk => (HO.out.lt k hk).1); have HO2 : Hid (OwnsS w2 w1.heap.size v2 ((L.take (k + 1)).filter (fun x => !x.isEmpty))) := Lib.hid (by rw [← HN.out, ← HQ.out]; exact o2); clear o2 hg2)
        go_roundw
        case rel => exact ⟨k + 1, by omega, by go_num, HO2, hB2⟩
        case measure => simp [intOf] <;> omega
    · have hd : decide (k < L.length) = false := decide_eq_false hlt
      have HE : Hid ((L.take k).filter (fun x => !x.isEmpty) = wordsL s.data.toList) := Lib.hid (by rw [HL.out, List.take_of_length_le (by omega)])
      go_wp2_with fail
      go_ret
      exact ⟨_, rfl, by rw [← HE.out]; exact HO.out.lower hb1.size, below_next hb1 hB⟩
theorem wordClo_any (x : List UInt8) (W : World) : FnGives Tryd.prog 42 #[] #[strV x] (.bool x.isEmpty) W := by
  show Calls Tryd.prog 42 #[strV x] W _
  unfold strV
  by_cases hx : x = []
  · subst hx
    show Calls Tryd.prog 42 #[.string ⟨#[]⟩] W _
    go_enter Tryd.func42, Tryd.ntmps42
    go_wp2
    go_ret
    exact ⟨rfl, 0, rfl⟩
  · have e0 := str_isEmpty hx
    have HX : Hid (x.isEmpty = false) := Lib.hid (by rw [List.isEmpty_eq_false_iff]; exact hx)
    generalize str x = q at e0 ⊢
    have e1 : q.toList.isEmpty = false := by rw [List.isEmpty_eq_false_iff]; exact e0
    clear hx
    go_enter Tryd.func42, Tryd.ntmps42
    go_wp2
    go_ret
    exact ⟨ret_bool HX.out.symm, 0, rfl⟩
theorem implSplitWords_any (s : ByteArray) (w : World) (hm : MaxL w) (hs : s.size ≤ 100000000) :
    Calls Tryd.prog 14 #[.string s] w (RetStrs w (wordsL s.data.toList)) := by
  obtain ⟨L, hL⟩ : ∃ L, L = splitC 32 s.data.toList := ⟨_, rfl⟩
  have hLl : L.length ≤ 100000001 := by rw [hL]; have := splitC_len 32 s.data.toList; have : s.data.toList.length = s.size := rfl; omega
  have HL : Hid (wordsL s.data.toList = L.filter (fun x => !x.isEmpty)) := Lib.hid (by unfold wordsL; rw [hL])
  have hne : ∃ p ps, L = p :: ps := by rw [hL]; exact splitC_ne 32 _
  have hLp : 0 < L.length := by obtain ⟨p, ps, e⟩ := hne; rw [e]; simp
  have HL2 := Lib.hid hL
  clear hL hne
  go_enter Tryd.func14, Tryd.ntmps14
  go_wp2_with fail
  refine (split_any s 32 _ hm hs).mono ?_
  rintro e w1 ⟨r1, rfl, o1, hb1⟩
  rw [← HL2.out] at o1
  rcases o1.2 with ⟨_, h0⟩ | ⟨g, cap, cur, rfl, hbg, hg, hnc, hcm, hcs, htake⟩
  · omega
  have hH : Sort.Holds strV w1 g 0 L.toArray := holds_of_block (ss := L) hg (by rw [Nat.mul_one] at htake; exact htake)
  have eg : ∀ args w, (callFunc 42 args).run Tryd.prog w = .ok (.enter 42 args) w := enters_of Tryd.func42 (by kernel_rfl) rfl
  have hcon := Tryd.slices_DeleteFunc strV (fun _ => rfl) (fun x => x.isEmpty) 42 #[] eg [] Tryd.zeroValue9 g 0 cap L.toArray w1 (fun W x _ => wordClo_any x W) (fun n os dk x _ => wordClo_any x _) hH (by simp; omega) (by simpa using hnc)
  have HC := Lib.hid hcon
  have HGG := Lib.hid (And.intro hg (And.intro hcs hcm))
  have hgl : g < w1.heap.size := (o1.lt g rfl).2
  have hsz : L.toArray.size = L.length := by simp
  clear hcon hH hg hcs htake hcm
  rw [hsz] at HC
  clear o1 hsz
  go_wp2_with fail
  refine HC.out.mono ?_
  rintro e w2 ⟨rfl, q, hw2⟩
  have hfl : ((L.toArray.toList).filter (fun x => !x.isEmpty)).length ≤ L.length := by simpa using List.length_filter_le (fun x : List UInt8 => !x.isEmpty) L
  have HO2 : Hid (OwnsS w2 w.heap.size (.slice (some ⟨g, 0, none⟩) ((L.toArray.toList).filter (fun x => !x.isEmpty)).length cap) (wordsL s.data.toList)) := Lib.hid (by
    obtain ⟨F, hF⟩ : ∃ F, F = (L.toArray.toList).filter (fun x => !x.isEmpty) := ⟨_, rfl⟩
    rw [← hF] at hfl hw2 ⊢
    have hlen : (F ++ List.replicate (L.length - F.length) ([] : List UInt8)).length = L.length := by rw [List.length_append, List.length_replicate]; omega
    have h := ownsRow_sorted (n := q) (os := #[]) (ss := L) (ts := F ++ List.replicate (L.length - F.length) []) hlen hbg HGG.out.1 hnc HGG.out.2.2 HGG.out.2.1
    rw [Sort.grow_empty] at h
    have h2 : OwnsS w2 w.heap.size (.slice (some ⟨g, 0, none⟩) L.length cap) (F ++ List.replicate (L.length - F.length) []) := by
      unfold OwnsS
      rw [hw2, hlen]
      exact h
    have h3 := h2.cut (k := F.length) (by rw [hlen]; exact hfl)
    rw [List.take_left'] at h3
    · have e : F = wordsL s.data.toList := by rw [HL.out, hF]
      rw [e] at h3 ⊢; exact h3
    · rfl)
  have hg2 : w1.grownBy w2 (some g) := by
    rw [hw2]
    generalize (List.toArray (_ ++ _) : Array (List UInt8)) = D
    have h := grownBy_sorted (w := w1) (g := g) (n := q) (os := #[]) D
    rw [Sort.grow_empty] at h
    exact h
  have hB2 := hb1.grown hg2 hb1.size (fun k hk => by injection hk with hk; omega)
  clear hw2
  go_wp2_with fail
  go_ret
  exact ⟨_, rfl, HO2.out, hB2⟩
end Go.Proofs.YtipmkkojpdjgoaaDoor
