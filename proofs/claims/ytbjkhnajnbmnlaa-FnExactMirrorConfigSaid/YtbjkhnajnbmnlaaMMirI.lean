/- MirrorConfig of the program. No condition beyond the stated bounds. -/
import Derived.Test.YtbjkhnajnbmnlaaMMirC
namespace Go.Proofs.Ytbjkhnajnbmnlaa
open Go.RowKit
theorem Box.kept {w w' : World} {b : Nat} {x y z : Value} {row : Option Nat} (h : Box w b x y z) (hg : w.grownBy w' row) (hne : row ≠ some b) : Box w' b x y z := by
  have hlt : b < w.heap.size := cell_lt h.c0
  have e := hg.block b hlt (fun h => hne h.symm)
  have hc : ∀ o, w'.cell? ⟨b, o, none⟩ = w.cell? ⟨b, o, none⟩ := fun o => by unfold World.cell?; rw [e]
  have hf : ∀ o, w'.frozen? ⟨b, o, none⟩ = w.frozen? ⟨b, o, none⟩ := fun o => by unfold World.frozen?; rw [e]
  exact ⟨(hc 0).trans h.c0, (hc 1).trans h.c1, (hc 2).trans h.c2, (hf 0).trans h.f0, (hf 1).trans h.f1, (hf 2).trans h.f2⟩
theorem Box.drew {w : World} {b : Nat} {x y z : Value} (h : Box w b x y z) : Box w.drew b x y z := ⟨h.c0, h.c1, h.c2, h.f0, h.f1, h.f2⟩
/-- The new configuration while it is filled: its block bx, its left side, the one cell of its right side in the block g. -/
structure MirI (w wx : World) (bx g : Nat) (s : Int) (vl : Value) (l' : List Int) (h : Int) : Prop where
  box : Box wx bx (.int .i64 s) vl (.slice (some ⟨g, 0, none⟩) 1 1)
  left : Fresh wx (w.heap.size + 3) vl l'
  cell : Owns wx (w.heap.size + 3) (.slice (some ⟨g, 0, none⟩) 1 1) [h]
  ap : ∀ k, blk vl = some k → k ≠ g ∧ k ≠ bx
  below : Below w.heap.size w wx
  zero : Box wx (w.heap.size + 2) (.int .i64 0) (.slice none 0 0) (.slice none 0 0)
  lo : w.heap.size + 3 ≤ g
  lt : g < bx
  hi : bx < wx.heap.size
/-- What MirrorConfig leaves. -/
def RetMir (w : World) (s : Int) (l r : List Int) (e : Ending) (w' : World) : Prop :=
  if 200 < (mirR l r).length then RetCC w 0 [] [] 5 e w' else RetCC w s (r.drop 1) (mirR l r) 0 e w'
theorem RetMir.full {w w' : World} {s : Int} {l r : List Int} {e : Ending} (h : 200 < (mirR l r).length) (h2 : RetCC w 0 [] [] 5 e w') : RetMir w s l r e w' := by unfold RetMir; rw [if_pos h]; exact h2
theorem RetMir.ok {w w' : World} {s : Int} {l r : List Int} {e : Ending} (h : ¬ 200 < (mirR l r).length) (h2 : RetCC w s (r.drop 1) (mirR l r) 0 e w') : RetMir w s l r e w' := by unfold RetMir; rw [if_neg h]; exact h2
set_option maxHeartbeats 1000000 in
theorem implMirror_bad (sy st s : Int) (mv va vb : Value) (ml l r : List Int) (w : World) (hm : Sl3 w mv ml) (ha : Sl w va l) (hb : Sl w vb r) (hv : vconfB sy st ml s l r = false) :
    Calls Try.prog 11 #[.agg #[.int .i64 sy, .int .i64 st, mv], .agg #[.int .i64 s, va, vb]] w (RetCC w 0 [] [] 1) := by
  have HM := Lib.hid hm
  have HA := Lib.hid ha
  have HB := Lib.hid hb
  have HV := Lib.hid hv
  obtain ⟨A0, n0, c0, rfl, _, _, hr0⟩ := hm
  obtain ⟨A1, c1, rfl, _, _, hr1⟩ := ha
  obtain ⟨A2, c2, rfl, _, _, hr2⟩ := hb
  clear hr0 hr1 hr2 hv
  go_enter Try.func11, Try.ntmps11
  go_wp2_with fail
  refine (implValidConfig_any sy st s _ _ _ ml l r _ (HM.out.next (below_three _ _ _ _)) (HA.out.next (below_three _ _ _ _)) (HB.out.next (below_three _ _ _ _))).mono ?_
  rintro e w1 ⟨rfl, hb⟩
  have hB1 := (below_three w _ _ _).trans (hb.mono (by simp; omega))
  have hh := heap_three hb
  obtain ⟨z0, z1, z2, zf0, zf1, zf2⟩ := Box.of hh.2.2
  clear hh
  rw [HV.out]
  go_wp2_with fail
  refine bodyPost_ret (v := .tuple #[.agg #[.int .i64 0, .slice none 0 0, .slice none 0 0], .int .i64 1]) (by simp [results, Try.results11, go_sem, z0, z1, z2]) rfl ⟨_, _, rfl, Fresh.nil_ _ _, Fresh.nil_ _ _, (fun k hk => by cases hk), ?_⟩
  repeat refine Below.setCell ?_ (by first | (simp; done) | (simp; omega)) _
  exact hB1
set_option maxHeartbeats 2000000 in
theorem implMirror_any (sy st s : Int) (mv va vb : Value) (ml l r : List Int) (w : World) (hm : Sl3 w mv ml) (ha : Sl w va l) (hb : Sl w vb r) (hv : vconfB sy st ml s l r = true) (hl : l.length ≤ 200) (hr : r.length ≤ 200) :
    Calls Try.prog 11 #[.agg #[.int .i64 sy, .int .i64 st, mv], .agg #[.int .i64 s, va, vb]] w (RetMir w s l r) := by
  have HM := Lib.hid hm
  have HA := Lib.hid ha
  have HB := Lib.hid hb
  have HV := Lib.hid hv
  obtain ⟨A0, n0, c0, rfl, _, _, hr0⟩ := hm
  obtain ⟨A1, c1, rfl, hlc1, hcm1, hr1⟩ := ha
  obtain ⟨A2, c2, rfl, hlc2, hcm2, hr2⟩ := hb
  have HR2 := Lib.hid hr2
  unfold maxLen at hcm2
  clear hr0 hr1 hr2 hv hcm1
  go_enter Try.func11, Try.ntmps11
  go_wp2_with fail
  refine (implValidConfig_any sy st s _ _ _ ml l r _ (HM.out.next (below_three _ _ _ _)) (HA.out.next (below_three _ _ _ _)) (HB.out.next (below_three _ _ _ _))).mono ?_
  rintro e w1 ⟨rfl, hb⟩
  have hB1 := (below_three w _ _ _).trans (hb.mono (by simp; omega))
  have hz : w.heap.size + 3 ≤ w1.heap.size := by have := hb.size; simp at this; omega
  have hh := heap_three hb
  have HBC := Lib.hid (Box.of hh.2.1)
  have HBZ := Lib.hid (Box.of hh.2.2)
  clear hh
  rw [HV.out]
  obtain ⟨k0, k1, k2, kf0, kf1, kf2⟩ := HBC.out
  go_upto_region 4 with fail
  have hb2 := below_two w1 (.cells #[.int .i64 0] 2) (.cells #[.int .i64 s, .slice none 0 0, .slice (some ⟨w1.heap.size, 0, none⟩) 1 1] 30)
  have HBC3 := Lib.hid (HBC.out.next hb2)
  have HMI : Hid (MirI w ((w1.alloc (.cells #[.int .i64 0] 2)).alloc (.cells #[.int .i64 s, .slice none 0 0, .slice (some ⟨w1.heap.size, 0, none⟩) 1 1] 30)) (w1.heap.size + 1) w1.heap.size s (.slice none 0 0) [] 0) := Lib.hid
    ⟨by have h := Box.of (heap_alloc_new (w1.alloc (.cells #[.int .i64 0] 2)) (.cells #[.int .i64 s, .slice none 0 0, .slice (some ⟨w1.heap.size, 0, none⟩) 1 1] 30)); simpa using h,
      Fresh.nil_ _ _, ((own_lit9 w1 0).alloc _).lower hz, (fun k hk => by cases hk), hB1.trans (hb2.mono hB1.size), HBZ.out.next hb2, hz, by omega, by simp⟩
  clear hb2 k0 k1 k2 kf0 kf1 kf2
  generalize ((w1.alloc (.cells #[.int .i64 0] 2)).alloc (.cells #[.int .i64 s, .slice none 0 0, .slice (some ⟨w1.heap.size, 0, none⟩) 1 1] 30)) = w3 at *
  generalize w1.heap.size = g at *
  generalize hbx : g + 1 = bx at *
  have ne1 : ¬ g = bx := by omega
  have ne2 : ¬ bx = g := by omega
  have ne3 : ¬ w.heap.size + 1 = bx := by omega
  have ne4 : ¬ w.heap.size + 1 = g := by omega
  clear hbx
  obtain ⟨k0, k1, k2, kf0, kf1, kf2⟩ := HBC3.out
  go_upto_if 19 with fail
  go_cut [] (fun wx => ∃ (Al : Option Addr) (nl cl : Nat), Hid (MirI w wx bx g s (.slice Al nl cl) (r.drop 1) (headI r)) ∧ Hid (Box wx (w.heap.size + 1) (.int .i64 s) (.slice A1 l.length c1) (.slice A2 r.length c2)))
  case first =>
    by_cases h0 : r.length = 0
    · have e1 : decide ((0 : Int) < (r.length : Int)) = false := decide_eq_false (by omega)
      have e2 : decide (0 < r.length) = false := decide_eq_false (by omega)
      have HF : Hid (r.drop 1 = [] ∧ headI r = 0) := Lib.hid ⟨List.drop_eq_nil_of_le (by omega), by unfold headI; rw [if_pos h0]⟩
      clear h0
      rw [e2]
      go_wp2_with fail
      go_meet
      exact ⟨none, 0, 0, Lib.hid (by rw [HF.out.1, HF.out.2]; exact HMI.out), HBC3⟩
    · have e1 : decide ((0 : Int) < (r.length : Int)) = true := decide_eq_true (by omega)
      have e2 : (0 : Int) < (r.length : Int) := by omega
      have e3 : 0 < r.length := by omega
      have e4 : (1 : Int) ≤ (r.length : Int) := by omega
      have e5 : (1 : Int) ≤ (c2 : Int) := by omega
      have e6 : 1 ≤ c2 := by omega
      have e7 : 1 ≤ r.length := by omega
      have HF : Hid (headI r = geti r 0) := Lib.hid (by unfold headI; rw [if_neg h0])
      obtain ⟨ad, rfl, hbk, hc⟩ := HR2.out.at_ (k := 0) (by omega)
      have hcell : w3.cell? ad = some (.int .i64 (geti r 0)) := (HMI.out.below.cell (p := ad) hbk).trans hc
      have hgc := HMI.out.cell.cellAt (j := 0) (by simp)
      have hgf := HMI.out.cell.free 0
      obtain ⟨x0, x1, x2, xf0, xf1, xf2⟩ := HMI.out.box
      have HT := Lib.hid (sl_tail HB.out e7)
      have hst := HMI.out.cell.stored 0 (geti r 0)
      have HST := Lib.hid hst
      have hlt2 := HMI.out.lt
      have hhi2 := HMI.out.hi
      have hlo2 := HMI.out.lo
      have e8 : decide (0 < r.length) = true := decide_eq_true e3
      rw [e8]
      clear hc h0 hst e8
      have HM5 : Hid (MirI w (w3.setCell ⟨g, 0, none⟩ (.int .i64 (geti r 0))).drew bx g s (.slice none 0 0) [] (geti r 0)) := Lib.hid
        ⟨(HMI.out.box.far (p := ⟨g, 0, none⟩) (by simpa using ne1) _).drew, Fresh.nil_ _ _, HST.out.1, (fun k hk => by cases hk), below_drewN (Below.setCell (p := ⟨g, 0, none⟩) HMI.out.below (by simp; omega) _) 1, (HMI.out.zero.far (p := ⟨g, 0, none⟩) (by simp; omega) _).drew, hlo2, hlt2, by rw [show ∀ W : World, W.drew.heap.size = W.heap.size from fun _ => rfl, size_set]; exact hhi2⟩
      have HC5 : Hid (Box (w3.setCell ⟨g, 0, none⟩ (.int .i64 (geti r 0))).drew (w.heap.size + 1) (.int .i64 s) (.slice A1 l.length c1) (.slice (some ad) r.length c2)) := Lib.hid (HBC3.out.far (p := ⟨g, 0, none⟩) (by simp; omega) _).drew
      go_wp2_with fail
      go_region
      all_goals (
        go_upto_region 6 with fail
        clear k0 k1 k2 kf0 kf1 kf2 x0 x1 x2 xf0 xf1 xf2 hgc hgf hcell HBC3 HMI HST
        generalize (w3.setCell ⟨g, 0, none⟩ (.int .i64 (geti r 0))).drew = w5 at *
        obtain ⟨k0, k1, k2, kf0, kf1, kf2⟩ := HC5.out)
      by_cases hc2 : c2 = 1
      · have HT0 := HT.out
        rw [if_pos hc2] at HT0
        have hl1 : r.length = 1 := by omega
        have HT1 : Hid (Sl w (.slice (some ad) (r.length - 1) 0) (r.drop 1)) := Lib.hid (by rwa [hc2] at HT0)
        have HT2 : Hid (Sl w (.slice (some ad) 0 0) (r.drop 1)) := Lib.hid (by have := HT1.out; rwa [hl1] at this)
        clear HT0 HT hl1
        subst hc2
        go_wp2_with fail
        refine (clone_own _ _ _ ((by first | exact HT1.out | exact HT2.out : Sl w _ (r.drop 1)).next HM5.out.below) (by simp; omega)).mono ?_
        rintro e w6 ⟨r1, rfl, o6, hb6⟩
        have hB6 := below_next HM5.out.below hb6
        have hbx6 : bx < w6.heap.size := Nat.lt_of_lt_of_le HM5.out.hi hb6.size
        obtain ⟨A6, c6, rfl, _, _, hq6⟩ := o6.sl
        clear hq6
        have hld : (r.drop 1).length = 0 := by simp; omega
        rw [hld] at o6 ⊢
        clear hld
        obtain ⟨x0, x1, x2, xf0, xf1, xf2⟩ := HM5.out.box.next hb6
        obtain ⟨k0, k1, k2, kf0, kf1, kf2⟩ := HC5.out.next hb6
        have HC6 := Lib.hid (HC5.out.next hb6)
        have HF6 : Hid (MirI w (w6.setCell ⟨bx, 1, none⟩ (.slice A6 0 c6)) bx g s (.slice A6 0 c6) (r.drop 1) (headI r)) := Lib.hid (by
          have hhi := HM5.out.hi
          have hlo := HM5.out.lo
          have hlt := HM5.out.lt
          refine ⟨(HM5.out.box.next hb6).put1 _, Fresh.lower (Fresh.set (.inl o6) hhi _) (by omega), ?_, fun k hk => ?_, Below.setCell (p := ⟨bx, 1, none⟩) hB6 (by simp; omega) _, (HM5.out.zero.next hb6).far (p := ⟨bx, 1, none⟩) (by simp; omega) _, hlo, hlt, by rw [size_set]; exact hbx6⟩
          · rw [HF.out]; exact (HM5.out.cell.next hb6).kept (grown_set _ _ _) (.inr (by simp [Value.ownBlock]; omega))
          · have := (Fresh.lt (.inl o6) k hk).1; omega)
        have HC7 : Hid (Box (w6.setCell ⟨bx, 1, none⟩ (.slice A6 0 c6)) (w.heap.size + 1) (.int .i64 s) (.slice A1 l.length c1) (.slice (some ad) r.length _)) := Lib.hid (HC6.out.far (p := ⟨bx, 1, none⟩) (by simp; omega) _)
        clear o6 hb6
        go_wp2_with fail
        go_meet
        exact ⟨A6, _, c6, HF6, HC7⟩
      · have HT0 := HT.out
        rw [if_neg hc2] at HT0
        have HT1 := Lib.hid HT0
        clear HT0 HT
        go_wp2_with fail
        refine (clone_own _ _ _ (HT1.out.next HM5.out.below) (by simp; omega)).mono ?_
        rintro e w6 ⟨r1, rfl, o6, hb6⟩
        have hB6 := below_next HM5.out.below hb6
        have hbx6 : bx < w6.heap.size := Nat.lt_of_lt_of_le HM5.out.hi hb6.size
        obtain ⟨A6, c6, rfl, _, _, hq6⟩ := o6.sl
        clear hq6
        have hld : (r.drop 1).length = r.length - 1 := by simp
        rw [hld] at o6 ⊢
        clear hld
        obtain ⟨x0, x1, x2, xf0, xf1, xf2⟩ := HM5.out.box.next hb6
        obtain ⟨k0, k1, k2, kf0, kf1, kf2⟩ := HC5.out.next hb6
        have HC6 := Lib.hid (HC5.out.next hb6)
        have HF6 : Hid (MirI w (w6.setCell ⟨bx, 1, none⟩ (.slice A6 (r.length - 1) c6)) bx g s (.slice A6 (r.length - 1) c6) (r.drop 1) (headI r)) := Lib.hid (by
          have hhi := HM5.out.hi
          have hlo := HM5.out.lo
          have hlt := HM5.out.lt
          refine ⟨(HM5.out.box.next hb6).put1 _, Fresh.lower (Fresh.set (.inl o6) hhi _) (by omega), ?_, fun k hk => ?_, Below.setCell (p := ⟨bx, 1, none⟩) hB6 (by simp; omega) _, (HM5.out.zero.next hb6).far (p := ⟨bx, 1, none⟩) (by simp; omega) _, hlo, hlt, by rw [size_set]; exact hbx6⟩
          · rw [HF.out]; exact (HM5.out.cell.next hb6).kept (grown_set _ _ _) (.inr (by simp [Value.ownBlock]; omega))
          · have := (Fresh.lt (.inl o6) k hk).1; omega)
        have HC7 : Hid (Box (w6.setCell ⟨bx, 1, none⟩ (.slice A6 (r.length - 1) c6)) (w.heap.size + 1) (.int .i64 s) (.slice A1 l.length c1) (.slice (some ad) r.length _)) := Lib.hid (HC6.out.far (p := ⟨bx, 1, none⟩) (by simp; omega) _)
        clear o6 hb6
        go_wp2_with fail
        go_meet
        exact ⟨A6, _, c6, HF6, HC7⟩
  case rest =>
    obtain ⟨Al, nl, cl, HI, HC⟩ := hcut
    rename World => w7
    obtain ⟨k0, k1, k2, kf0, kf1, kf2⟩ := HC.out
    obtain ⟨x0, x1, x2, xf0, xf1, xf2⟩ := HI.out.box
    have hlo := HI.out.lo
    have hlt := HI.out.lt
    have hml := mirR_len l r
    have hsz7 : w.heap.size + 3 ≤ w7.heap.size := by have := HI.out.hi; omega
    have HAL : Hid (Sl w7 (.slice A1 l.length c1) l) := Lib.hid (HA.out.next HI.out.below)
    have hne8 : ∀ k, (Value.slice (some ⟨g, 0, none⟩) 1 1).ownBlock = some k → k = g := fun k hk => by simpa [Value.ownBlock] using hk.symm
    obtain ⟨zb, hzb⟩ : ∃ zb, zb = w.heap.size + 2 := ⟨_, rfl⟩
    rw [show w.heap.size + 1 + 1 = zb by omega]
    have ne5 : ¬ zb = bx := by omega
    have ne6 : ¬ bx = zb := by omega
    have HZ7 : Hid (Box w7 zb (.int .i64 0) (.slice none 0 0) (.slice none 0 0)) := Lib.hid (by rw [hzb]; exact HI.out.zero)
    have HZB := Lib.hid hzb
    clear hzb
    by_cases ht : 200 < (mirR l r).length
    · have HT := Lib.hid ht
      have t1 : (200 : Int) < ((trim (headI r :: l)).length : Int) := by have : (mirR l r).length = (trim (headI r :: l)).length := rfl; omega
      clear ht
      go_wp2_with (first
        | (at_builtin; refine wpList_cat rfl _ _ rfl (w.heap.size + 3) _ [headI r] rfl HI.out.cell _ l rfl HAL.out (by simp; omega) hsz7 ?_; intro v8 w8 o8 hg8 hv8; clear k0 k1 k2 kf0 kf1 kf2 x0 x1 x2 xf0 xf1 xf2)
        | (go_at_call 36; refine (trimmed_own _ _ _ _ o8).mono ?_; rintro e w' ⟨⟨r9, rfl, o9, hv9⟩, rfl⟩; have HX8 := Lib.hid (HI.out.box.kept hg8 (fun e => by have := hne8 _ e; omega)); have HZ8 := Lib.hid (HZ7.out.kept hg8 (fun e => by have h1 := hne8 _ e; have h2 := HZB.out; omega)); have hB8 := HI.out.below.grown hg8 (by omega) (fun k hk => by have := hne8 k hk; omega); have HL8 := Lib.hid (HI.out.left.kept hg8 (fun k hk e => by have h1 := hne8 _ e; have h2 := (HI.out.ap k hk).1; omega)); have hne9 : ∀ k, r9.ownBlock = some k → k = g ∨ w7.heap.size ≤ k := (fun k hk => by rw [hv9] at hk; rcases hv8 with h | ⟨k', h, h'⟩; (· rw [h] at hk; exact .inl (hne8 k hk)); (· rw [h] at hk; injection hk with hk; omega)); have hg7 := HI.out.hi; obtain ⟨A9, c9, rfl, _, hc9, hq9⟩ := o9.sl; clear hq9; have HO9 := Lib.hid o9; clear o9 o8 hg8; obtain ⟨x0, x1, x2, xf0, xf1, xf2⟩ := HX8.out; obtain ⟨z0, z1, z2, zf0, zf1, zf2⟩ := HZ8.out))
      refine bodyPost_ret (v := .tuple #[.agg #[.int .i64 0, .slice none 0 0, .slice none 0 0], .int .i64 5]) (by simp [results, Try.results11, go_sem, z0, z1, z2]) rfl (RetMir.full HT.out ⟨_, _, rfl, Fresh.nil_ _ _, Fresh.nil_ _ _, (fun k hk => by cases hk), ?_⟩)
      have h2 := HZB.out
      repeat refine Below.setCell ?_ (by simp; omega) _
      exact hB8
    · have HT := Lib.hid ht
      have t1 : decide ((200 : Int) < ((trim (headI r :: l)).length : Int)) = false := decide_eq_false (by have : (mirR l r).length = (trim (headI r :: l)).length := rfl; omega)
      have t2 : decide (200 < (trim (headI r :: l)).length) = false := decide_eq_false ht
      clear ht
      go_wp2_with (first
        | (at_builtin; refine wpList_cat rfl _ _ rfl (w.heap.size + 3) _ [headI r] rfl HI.out.cell _ l rfl HAL.out (by simp; omega) hsz7 ?_; intro v8 w8 o8 hg8 hv8; clear k0 k1 k2 kf0 kf1 kf2 x0 x1 x2 xf0 xf1 xf2)
        | (go_at_call 36; refine (trimmed_own _ _ _ _ o8).mono ?_; rintro e w' ⟨⟨r9, rfl, o9, hv9⟩, rfl⟩; have HX8 := Lib.hid (HI.out.box.kept hg8 (fun e => by have := hne8 _ e; omega)); have HZ8 := Lib.hid (HZ7.out.kept hg8 (fun e => by have h1 := hne8 _ e; have h2 := HZB.out; omega)); have hB8 := HI.out.below.grown hg8 (by omega) (fun k hk => by have := hne8 k hk; omega); have HL8 := Lib.hid (HI.out.left.kept hg8 (fun k hk e => by have h1 := hne8 _ e; have h2 := (HI.out.ap k hk).1; omega)); have hne9 : ∀ k, r9.ownBlock = some k → k = g ∨ w7.heap.size ≤ k := (fun k hk => by rw [hv9] at hk; rcases hv8 with h | ⟨k', h, h'⟩; (· rw [h] at hk; exact .inl (hne8 k hk)); (· rw [h] at hk; injection hk with hk; omega)); have hg7 := HI.out.hi; obtain ⟨A9, c9, rfl, _, hc9, hq9⟩ := o9.sl; clear hq9; have HO9 := Lib.hid o9; clear o9 o8 hg8; obtain ⟨x0, x1, x2, xf0, xf1, xf2⟩ := HX8.out; obtain ⟨z0, z1, z2, zf0, zf1, zf2⟩ := HZ8.out))
      refine bodyPost_ret (v := .tuple #[.agg #[.int .i64 s, .slice Al nl cl, .slice A9 (trim (headI r :: l)).length c9], .int .i64 0]) (by simp [results, Try.results11, go_sem, z0, z1, z2]) rfl (RetMir.ok HT.out ⟨_, _, rfl, ?_, ?_, ?_, ?_⟩)
      · have h2 := HZB.out
        have hlo3 := HI.out.lo
        refine Fresh.lower (base := w.heap.size + 3) ?_ (by omega)
        refine Fresh.set (Fresh.set (Fresh.set ?_ (by simp; omega) _) (by simp; omega) _) (by simp; omega) _
        refine Fresh.kept HL8.out (grown_set _ _ _) (fun k hk e => ?_)
        have h3 := (HI.out.ap k hk).2
        injection e with e
        simp at e; omega
      · have h2 := HZB.out
        refine Fresh.lower (base := w.heap.size + 3) ?_ (by omega)
        refine Fresh.set (Fresh.set (Fresh.set ?_ (by simp; omega) _) (by simp; omega) _) (by simp; omega) _
        refine Fresh.kept (.inl HO9.out) (grown_set _ _ _) (fun k hk e => ?_)
        injection e with e
        have h3 := hne9 k (blk_own hk)
        simp at e; omega
      · intro k hk e
        have h3 := hne9 k (blk_own e)
        have h4 := HI.out.ap k hk
        have h5 := (Fresh.lt HI.out.left k hk).2
        omega
      · have h2 := HZB.out
        repeat refine Below.setCell ?_ (by simp; omega) _
        exact hB8
end Go.Proofs.Ytbjkhnajnbmnlaa
