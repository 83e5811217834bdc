/- The contracts of eqStringS, markText, markStringS, heldStringS. No condition beyond the stated bounds. -/
import Derived.Test.YtipmkkojpdjgoaaDoorStrs
import Derived.Deep.RegionHeld3
namespace Go.Proofs.YtipmkkojpdjgoaaDoor
open Go.RowKit
/-- The text of a mark. -/
def mtxt (k : Int) : List UInt8 := if k ≤ 0 then [109, 48] else 109 :: Lib.decDigits k.toNat
/-- The marks from k on, n of them. -/
def mtxts (k : Int) (n : Nat) : List (List UInt8) := (List.range n).map (fun (j : Nat) => mtxt (k + (j : Int)))
theorem mtxts_len (k : Int) (n : Nat) : (mtxts k n).length = n := by simp [mtxts]
theorem gets_mtxts {k : Int} {n j : Nat} (h : j < n) : gets (mtxts k n) j = mtxt (k + (j : Int)) := by
  rw [gets_eq (by rw [mtxts_len]; exact h)]; simp [mtxts]
theorem mtxts_set (k : Int) (j : Nat) (l : List (List UInt8)) (h : j < l.length) : (mtxts k j ++ l.drop j).set j (mtxt (k + (j : Int))) = mtxts k (j + 1) ++ l.drop (j + 1) := by
  rw [List.set_append, if_neg (by rw [mtxts_len]; omega), mtxts_len, Nat.sub_self, List.drop_eq_getElem_cons h, List.set_cons_zero]
  simp [mtxts, List.range_succ]
theorem OwnsS.len {w : World} {base g n cap : Nat} {l : List (List UInt8)} (h : OwnsS w base (.slice (some ⟨g, 0, none⟩) n cap) l) : l.length = n := by
  rcases h.2 with ⟨h', _⟩ | ⟨g', cap', cur, h', _⟩
  · simp at h'
  · simp only [Value.slice.injEq] at h'
    exact h'.2.1.symm
theorem OwnsS.stored {w : World} {base g n cap : Nat} {l : List (List UInt8)} (h : OwnsS w base (.slice (some ⟨g, 0, none⟩) n cap) l) (j : Nat) (x : List UInt8) :
    OwnsS (w.setCell ⟨g, j, none⟩ (strV x)) base (.slice (some ⟨g, 0, none⟩) n cap) (l.set j x) ∧ w.grownBy (w.setCell ⟨g, j, none⟩ (strV x)) (some g) := by
  obtain rfl := h.len
  have := World.ownsRow.stored h j (strV x)
  refine ⟨?_, this.2⟩
  unfold OwnsS
  rw [List.length_set, List.map_set]
  exact this.1
theorem OwnsS.cellAt {w : World} {base g n cap : Nat} {l : List (List UInt8)} (h : OwnsS w base (.slice (some ⟨g, 0, none⟩) n cap) l) {j : Nat} (hj : j < l.length) :
    w.cell? ⟨g, j, none⟩ = some (strV (gets l j)) := by
  obtain rfl := h.len
  rw [World.ownsRow.cellAt h j (by omega), strV_at hj]
theorem OwnsS.free {w : World} {base g n cap : Nat} {l : List (List UInt8)} (h : OwnsS w base (.slice (some ⟨g, 0, none⟩) n cap) l) (j : Nat) : w.frozen? ⟨g, j, none⟩ = false := by
  obtain rfl := h.len
  exact World.ownsRow.frozenAt h j
theorem eqStringS_same (v1 v2 : Value) (l : List (List UInt8)) (w : World) (h1 : SlS w v1 l) (h2 : SlS w v2 l) :
    Calls Tryd.prog 15 #[v1, v2] w fun e w' => e = .returned (.bool true) ∧ Below w.heap.size w w' := by
  obtain ⟨A1, c1, rfl, hlc1, hcm1, hr1⟩ := h1
  obtain ⟨A2, c2, rfl, hlc2, hcm2, hr2⟩ := h2
  have HR1 := Lib.hid hr1
  have HR2 := Lib.hid hr2
  clear hr1 hr2
  unfold maxLen at hcm1 hcm2
  go_enter Tryd.func15, Tryd.ntmps15
  go_wp2
  go_loopw [5] (fun i wr => ∃ k : Nat, k ≤ l.length ∧ i = .int .i64 k ∧ Below w.heap.size w wr) (fun i _ => l.length - (intOf i).toNat)
  case atStart => exact ⟨0, Nat.zero_le _, rfl, Below.refl _ _⟩
  case round =>
    obtain ⟨k, hk, rfl, hb⟩ := hrel
    by_cases hlt : k < l.length
    · obtain ⟨a1, rfl, hb1, hc1⟩ := HR1.out (by omega)
      obtain ⟨a2, rfl, hb2, hc2⟩ := HR2.out (by omega)
      have hcell1 := (hb.cell (p := a1.add k) (by rw [block_of_add]; exact hb1)).trans (hc1 k hlt)
      have hcell2 := (hb.cell (p := a2.add k) (by rw [block_of_add]; exact hb2)).trans (hc2 k hlt)
      clear hc1 hc2
      have hi1 : (k : Int) < (l.length : Int) := by omega
      unfold strV at hcell1 hcell2
      generalize str (gets l k) = q at hcell1 hcell2
      go_wp2
      go_quiet (fail)
      go_wp2
      go_roundw
      case rel => exact ⟨k + 1, by omega, by go_num, by first | exact hb | exact hb.drew | exact below_drewN hb _⟩
      case measure => simp [intOf] <;> omega
    · go_wp2
      go_ret
      exact ⟨rfl, hb⟩
theorem one_byte (w : World) (y : Int) (b : UInt8) (hy : y = (b.toNat : Int)) :
    (convert 59 9 (.slice (some ⟨w.heap.size, 0, none⟩) 1 1)).run Tryd.prog (w.alloc (.cells #[.int .u8 y] 5)) = .ok (.string ⟨#[b]⟩) (w.alloc (.cells #[.int .u8 y] 5)) := by
  subst hy
  have h : OwnsB (w.alloc (.cells #[.int .u8 (b.toNat : Int)] 5)) w.heap.size (.slice (some ⟨w.heap.size, 0, none⟩) 1 1) [b] :=
    World.ownsRow_lit w #[.int .u8 (b.toNat : Int)] 1 (Nat.le_refl _) (by simp [maxLen]) rfl
  exact conv_back (l := [b]) h
set_option maxHeartbeats 400000 in
theorem markText_any (k : Int) (w : World) (h1 : k ≤ 1000000000000) :
    Calls Tryd.prog 43 #[.int .i64 k] w fun e w' => e = .returned (.string (str (mtxt k))) ∧ Below w.heap.size w w' := by
  by_cases h0 : k ≤ 0
  · have HF : Hid (str (mtxt k) = ⟨#[109, 48]⟩) := Lib.hid (by unfold mtxt; rw [if_pos h0]; rfl)
    go_enter Tryd.func43, Tryd.ntmps43
    go_wp2
    go_ret
    exact ⟨ret_str HF.out.symm, Below.refl _ _⟩
  · have HF : Hid (mtxt k = 109 :: (digs k.toNat).reverse) := Lib.hid (by unfold mtxt; rw [if_neg h0, decDigits_digs _ (by omega)])
    have hd : decide (k ≤ 0) = false := decide_eq_false h0
    have hkp : 0 < k := by omega
    have HK : Hid ((digs k.toNat).length ≤ 13) := Lib.hid (digs_len _ 13 (by have : (10 : Nat) ^ 13 = 10000000000000 := by decide
                                                                             omega))
    clear h0
    go_enter Tryd.func43, Tryd.ntmps43
    go_wp2_with fail
    go_loopw [0, 3] (fun t sv wr => ∃ (u : Nat) (s : ByteArray), (u : Int) ≤ 1000000000000 ∧ t = .int .i64 (u : Int) ∧ sv = .string s ∧ Hid ((digs u).reverse ++ s.data.toList = (digs k.toNat).reverse) ∧ s.size ≤ 13 ∧ Below w.heap.size w wr) (fun t _ _ => (intOf t).toNat)
    case atStart => exact ⟨k.toNat, ⟨#[]⟩, by omega, by congr 1; omega, rfl, Lib.hid (by simp), by decide, Below.refl _ _⟩
    case round =>
      obtain ⟨u, s, hu, rfl, rfl, HU, hsz, hB⟩ := hrel
      by_cases hu0 : 0 < u
      · obtain ⟨x, hx⟩ : ∃ x : Nat, x = u % 10 := ⟨_, rfl⟩
        obtain ⟨y, hy⟩ : ∃ y : Nat, y = u / 10 := ⟨_, rfl⟩
        have hx9 : x < 10 := by omega
        have e1 : (u : Int) % 10 = (x : Int) := by omega
        have e2 : (u : Int) / 10 = (y : Int) := by omega
        have hyu : y < u := by omega
        have hup : (0 : Int) < (u : Int) := by omega
        have hcv := one_byte wr (48 + (x : Int)) (dchr x) (dchr_int hx9)
        have HN : Hid ((digs y).reverse ++ ((⟨#[dchr x]⟩ : ByteArray) ++ s).data.toList = (digs k.toNat).reverse) := Lib.hid (by
          rw [← HU.out, digs_pos (show u ≠ 0 by omega), List.reverse_cons, ← hx, ← hy, List.append_assoc]
          congr 1)
        have hsz2 : ((⟨#[dchr x]⟩ : ByteArray) ++ s).size ≤ 13 := by
          have h := congrArg List.length HN.out
          rw [List.length_append, List.length_reverse, List.length_reverse] at h
          have h2 := HK.out
          have h3 : ((⟨#[dchr x]⟩ : ByteArray) ++ s).data.toList.length = ((⟨#[dchr x]⟩ : ByteArray) ++ s).size := rfl
          omega
        clear hx hy
        go_wp2
        go_roundw
        case rel => exact ⟨y, _, by omega, by go_num, rfl, HN, hsz2, hB.alloc hB.size _⟩
        case measure => simp [intOf] <;> omega
      · obtain rfl : u = 0 := by omega
        have HE : Hid ((⟨#[109]⟩ : ByteArray) ++ s = str (mtxt k)) := Lib.hid (by
          have h := HU.out
          rw [digs_zero, List.reverse_nil, List.nil_append] at h
          rw [HF.out, ← h]
          apply ByteArray.ext
          simp [str])
        have hd0 : decide ((0 : Int) < ((0 : Nat) : Int)) = false := by simp
        go_wp2
        go_ret
        exact ⟨ret_str HE.out, hB⟩
set_option maxHeartbeats 400000 in
theorem markStringS_any (v : Value) (l : List (List UInt8)) (base : Nat) (k0 : Int) (w : World) (h : OwnsS w base v l) (hbw : base ≤ w.heap.size) (hn : l.length ≤ 200000000) (h00 : 0 ≤ k0) (hk : k0 ≤ 1000000000) :
    Calls Tryd.prog 16 #[v, .int .i64 k0] w fun e w' => e = .returned (.int .i64 (k0 + (l.length : Int))) ∧ OwnsS w' base v (mtxts k0 l.length) ∧ w.grownBy w' v.ownBlock := by
  rcases h.shape with ⟨rfl, rfl⟩ | ⟨g, cap, rfl, hbg, hgw, hnc, hcm, _⟩
  · have HO := Lib.hid h
    clear h
    go_enter Tryd.func16, Tryd.ntmps16
    go_wp2
    refine wp_loop_rounds 1 ?_
    rw [rounds_succ]
    go_wp2
    go_ret
    exact ⟨by simp, HO.out, World.grownBy.refl _ _⟩
  · have HO := Lib.hid h
    unfold maxLen at hcm
    clear h
    go_enter Tryd.func16, Tryd.ntmps16
    go_wp2
    go_loopw [1, 5] (fun t i wr => ∃ j : Nat, j ≤ l.length ∧ i = .int .i64 j ∧ t = .int .i64 (k0 + (j : Int)) ∧ Hid (OwnsS wr base (.slice (some ⟨g, 0, none⟩) l.length cap) (mtxts k0 j ++ l.drop j)) ∧ w.grownBy wr (some g)) (fun _ i _ => l.length - (intOf i).toNat)
    case atStart => exact ⟨0, Nat.zero_le _, rfl, by simp, Lib.hid (by simpa [mtxts] using HO.out), World.grownBy.refl _ _⟩
    case round =>
      clear HO
      obtain ⟨j, hj, rfl, rfl, HJ, hg⟩ := hrel
      by_cases hlt : j < l.length
      · have hlen : (mtxts k0 j ++ l.drop j).length = l.length := by rw [List.length_append, mtxts_len, List.length_drop]; omega
        have HS := Lib.hid (mtxts_set k0 j l hlt)
        have HLEN := Lib.hid hlen
        obtain ⟨q, hq⟩ : ∃ q, str (mtxt (k0 + (j : Int))) = q := ⟨_, rfl⟩
        have HQ := Lib.hid hq
        clear hlen hq
        go_wp2_with (go_at_call 43; refine (markText_any _ _ (by omega)).mono ?_; rintro e w1 ⟨rfl, hb1⟩; rw [HQ.out]; have HJ1 := Lib.hid (HJ.out.next hb1); have hcell := HJ1.out.cellAt (j := j) (by rw [HLEN.out]; exact hlt); have hfree := HJ1.out.free j; have hst := HJ1.out.stored j (mtxt (k0 + (j : Int))); rw [HS.out] at hst; unfold strV at hst hcell; rw [HQ.out] at hst; have HST := Lib.hid hst; clear hst)
        go_roundw
        case rel => exact ⟨j + 1, by omega, by go_num, by go_num, Lib.hid HST.out.1, (hg.trans ⟨hb1.os, hb1.tape, hb1.output, hb1.size, fun k hk _ => hb1.block k hk⟩).trans HST.out.2⟩
        case measure => simp [intOf] <;> omega
      · obtain rfl : j = l.length := by omega
        go_wp2
        go_ret
        refine ⟨rfl, ?_, hg⟩
        have := HJ.out
        rwa [List.drop_eq_nil_of_le (Nat.le_refl _), List.append_nil] at this
set_option maxHeartbeats 400000 in
theorem heldStringS_any (v : Value) (n : Nat) (k0 : Int) (w : World) (h : SlS w v (mtxts k0 n)) (hn : n ≤ 200000000) (h00 : 0 ≤ k0) (hk : k0 ≤ 1000000000) :
    Calls Tryd.prog 17 #[v, .int .i64 k0] w fun e w' => e = .returned (.int .i64 (k0 + (n : Int))) ∧ Below w.heap.size w w' := by
  obtain ⟨A, c, rfl, hlc, hcm, hr⟩ := h
  rw [mtxts_len] at hlc hr ⊢
  have HR := Lib.hid hr
  clear hr
  unfold maxLen at hcm
  go_enter Tryd.func17, Tryd.ntmps17
  go_wp2
  go_loopw [1, 5] (fun t i wr => ∃ j : Nat, j ≤ n ∧ i = .int .i64 j ∧ t = .int .i64 (k0 + (j : Int)) ∧ Below w.heap.size w wr) (fun _ i _ => n - (intOf i).toNat)
  case atStart => exact ⟨0, Nat.zero_le _, rfl, by simp, Below.refl _ _⟩
  case round =>
    obtain ⟨j, hj, rfl, rfl, hB⟩ := hrel
    by_cases hlt : j < n
    · obtain ⟨ad, rfl, hbk, hc⟩ := HR.out (by omega)
      have hcell0 := (hB.cell (p := ad.add j) (by rw [block_of_add]; exact hbk)).trans (hc j hlt)
      rw [gets_mtxts hlt] at hcell0
      unfold strV at hcell0
      obtain ⟨q, hq⟩ : ∃ q, str (mtxt (k0 + (j : Int))) = q := ⟨_, rfl⟩
      rw [hq] at hcell0
      have HQ := Lib.hid hq
      have hbl : (ad.add j).block < wr.heap.size := by rw [block_of_add]; have := hB.size; omega
      have hcell : wr.cell? (ad.add j) = some (.string q) := hcell0
      have hji : (j : Int) < (n : Int) := by omega
      clear hc hq hcell0
      go_wp2_with fail
      go_region_held3 (fun w' => w'.cell? (ad.add j) = some (.string q)) (first | go_keep | exact (hb1.cell hbl).trans hcell) (first | (go_at_call 43; refine (markText_any _ _ (by omega)).mono ?_; rintro e w1 ⟨rfl, hb1⟩; rw [HQ.out]))
      all_goals (
        go_wp2_with fail
        go_roundw)
      case rel => exact ⟨j + 1, by omega, by go_num, by go_num, by first | exact below_next hB hb1 | exact below_next hB ⟨hb1.os, hb1.tape, hb1.output, hb1.size, hb1.block⟩⟩
      case measure => simp [intOf] <;> omega
    · obtain rfl : j = n := by omega
      go_wp2
      go_ret
      exact ⟨rfl, hB⟩
end Go.Proofs.YtipmkkojpdjgoaaDoor
