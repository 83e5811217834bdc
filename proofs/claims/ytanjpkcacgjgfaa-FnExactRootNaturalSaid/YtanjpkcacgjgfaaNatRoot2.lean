/- RootNatural: the program's half, and both together. No condition beyond the stated bounds. -/
import Derived.Test.YtanjpkcacgjgfaaNatRoot
namespace Go.Proofs.Ytanjpkcacgjgfaa
open Go.RowKit
/-- How the program's root stands: its variables and its row. -/
structure RootS (w wx : World) (pR pI : Nat) (nv : Value) (L : Nat) (o : List Int) (i : Int) : Prop where
  nvar : Var1 wx w.heap.size nv
  rvar : Var1 wx pR (.slice (some ⟨w.heap.size + 1, 0, none⟩) L L)
  ivar : Var1 wx pI (.int .i64 i)
  row : Owns wx (w.heap.size + 1) (.slice (some ⟨w.heap.size + 1, 0, none⟩) L L) o
  below : Below w.heap.size w wx
  bigR : w.heap.size + 2 ≤ pR
  bigI : w.heap.size + 2 ≤ pI
section
variable {w wx wy : World} {pR pI L : Nat} {nv : Value} {o : List Int} {i : Int}
theorem RootS.next (D : RootS w wx pR pI nv L o i) (hb : Below wx.heap.size wx wy) : RootS w wy pR pI nv L o i :=
  ⟨D.nvar.next hb, D.rvar.next hb, D.ivar.next hb, D.row.next hb, below_next D.below hb, D.bigR, D.bigI⟩
theorem RootS.drew (D : RootS w wx pR pI nv L o i) : RootS w wx.drew pR pI nv L o i := ⟨D.nvar, D.rvar, D.ivar, D.row, D.below.drew, D.bigR, D.bigI⟩
theorem RootS.digit (D : RootS w wx pR pI nv L o i) (j : Nat) (x : Int) : RootS w (wx.setCell ⟨w.heap.size + 1, j, none⟩ (.int .i64 x)) pR pI nv L (o.set j x) i :=
  ⟨D.nvar.set (by simp) _, D.rvar.set (by have := D.bigR; simp; omega) _, D.ivar.set (by have := D.bigI; simp; omega) _, (D.row.stored j x).1, D.below.setCell (by simp) _, D.bigR, D.bigI⟩
theorem RootS.var (D : RootS w wx pR pI nv L o i) (i' : Int) (T : TypeId) : RootS w (wx.alloc (.cells #[.int .i64 i'] T)) pR wx.heap.size nv L o i' := by
  have hb : Below wx.heap.size wx (wx.alloc (.cells #[.int .i64 i'] T)) := (Below.refl _ _).alloc (Nat.le_refl _) _
  have h1 : pR < wx.heap.size := cell_lt D.rvar.1
  have h2 := D.bigR
  exact ⟨D.nvar.next hb, D.rvar.next hb, ⟨by rw [World.cell?_alloc_at _ _ _ _ rfl]; rfl, by simp⟩, D.row.next hb, below_next D.below hb, h2, by omega⟩
end
set_option maxHeartbeats 4000000 in
set_option maxRecDepth 100000 in
theorem rootOf_any (v : Value) (N : Int) (w : World) (h : Sl w v (nl N)) (hN : 0 ≤ N) (hl : (nl N).length ≤ 40) :
    Calls Try.prog 108 #[v] w (RetOwn w (trim (rts N (((nl N).length + 1) / 2) (List.replicate (((nl N).length + 1) / 2) 0)))) := by
  obtain ⟨i0, hi0, hz0, hz1, hz2⟩ := info_parts Try.infoI
  have HV := Lib.hid h
  obtain ⟨A1, c1, rfl, hlc1, hcm1, hr1⟩ := h
  have HH := Lib.hid (half_int (nl N).length)
  have hL : ((nl N).length + 1) / 2 ≤ 40 := by omega
  have hB0 : Below w.heap.size w (w.alloc (.cells #[.slice A1 (nl N).length c1] 39)) := (Below.refl _ _).alloc (Nat.le_refl _) _
  have hV0 : Var1 (w.alloc (.cells #[.slice A1 (nl N).length c1] 39)) w.heap.size (.slice A1 (nl N).length c1) := ⟨by rw [World.cell?_alloc_at _ _ _ _ rfl]; rfl, by simp⟩
  clear hr1
  go_enter Try.func108, Try.ntmps108
  go_wp2_with (at_make; go_loud (refine wpList_make_full _ rfl _ _ 39 rfl (w.heap.size + 1) 2 i0 _ 1 Try.underlying39 hi0 hz0 hz1 _ _ _ _ (((nl N).length + 1) / 2) rfl rfl HH.out HH.out (by rw [hz2]; omega) (by unfold maxLen; omega) (by simp) ?_); intro w1 hown hg)
  have hO1 : Owns w1 (w.heap.size + 1) (.slice (some ⟨w.heap.size + 1, 0, none⟩) (((nl N).length + 1) / 2) (((nl N).length + 1) / 2)) (List.replicate (((nl N).length + 1) / 2) 0) := by
    unfold Owns
    rw [made_ints] at hown
    simpa using hown
  have hs1 : w.heap.size + 2 ≤ w1.heap.size := by have := (hO1.lt (w.heap.size + 1) rfl).2; omega
  have HS0 : Hid (RootS w ((w1.alloc (.cells #[.slice (some ⟨w.heap.size + 1, 0, none⟩) (((nl N).length + 1) / 2) (((nl N).length + 1) / 2)] 39)).alloc (.cells #[.int .i64 (((((nl N).length + 1) / 2 : Nat) : Int) - 1)] 3)) w1.heap.size (w1.heap.size + 1) (.slice A1 (nl N).length c1) (((nl N).length + 1) / 2) (List.replicate (((nl N).length + 1) / 2) 0) (((((nl N).length + 1) / 2 : Nat) : Int) - 1)) := Lib.hid (by
    generalize ((nl N).length + 1) / 2 = L at *
    have b1 : Below w1.heap.size w1 (w1.alloc (.cells #[.slice (some ⟨w.heap.size + 1, 0, none⟩) L L] 39)) := (Below.refl _ _).alloc (Nat.le_refl _) _
    have bw : Below w.heap.size w w1 := hB0.grown hg (by simp) (by simp)
    have hr : Var1 (w1.alloc (.cells #[.slice (some ⟨w.heap.size + 1, 0, none⟩) L L] 39)) w1.heap.size (.slice (some ⟨w.heap.size + 1, 0, none⟩) L L) := ⟨by rw [World.cell?_alloc_at _ _ _ _ rfl]; rfl, by simp⟩
    have b2 : Below (w1.alloc (.cells #[.slice (some ⟨w.heap.size + 1, 0, none⟩) L L] 39)).heap.size (w1.alloc (.cells #[.slice (some ⟨w.heap.size + 1, 0, none⟩) L L] 39)) ((w1.alloc (.cells #[.slice (some ⟨w.heap.size + 1, 0, none⟩) L L] 39)).alloc (.cells #[.int .i64 ((L : Int) - 1)] 3)) := (Below.refl _ _).alloc (Nat.le_refl _) _
    refine ⟨((hV0.kept hg (by simp)).next b1).next b2, hr.next b2, ⟨?_, by simp⟩, (hO1.next b1).next b2, below_next (below_next bw b1) b2, hs1, by omega⟩
    have : (w1.alloc (.cells #[.slice (some ⟨w.heap.size + 1, 0, none⟩) L L] 39)).heap.size = w1.heap.size + 1 := by simp
    rw [← this, World.cell?_alloc_at _ _ _ _ rfl]; rfl)
  clear hown hg hi0 hz0 hz1 hz2 hO1 hV0 hB0
  generalize ((nl N).length + 1) / 2 = L at *
  generalize w1.heap.size = P at *
  go_wp2_with fail
  rw [HH.out]
  go_loopg [4] L (fun k p wr => ∃ (o : List Int) (pI : Nat), k ≤ L ∧ p = .pointer (some ⟨pI, 0, none⟩) ∧ Hid (RootI N L k o) ∧ Hid (rts N k o = rts N L (List.replicate L 0)) ∧ Hid (RootS w wr P pI (.slice A1 (nl N).length c1) L o ((k : Int) - 1)))
  case atStart => exact ⟨_, _, Nat.le_refl _, rfl, Lib.hid (RootI.start hN L), Lib.hid rfl, HS0⟩
  case round =>
    clear HS0
    obtain ⟨o, pI, hk, rfl, HI, HE, HS⟩ := hrel
    have cR := HS.out.rvar.1
    have cI := HS.out.ivar.1
    have hlen := HI.out.len
    by_cases h0 : 0 < gk
    · obtain ⟨k, rfl⟩ : ∃ j, gk = j + 1 := ⟨gk - 1, by omega⟩
      rw [show (((k + 1 : Nat) : Int) - 1) = (k : Int) by omega] at cI HS
      have hkL : k < L := by omega
      have hkI : (k : Int) < (L : Int) := by omega
      have HZ := Lib.hid (HI.out.zero hkL)
      go_upto_region 5 with fail
      go_region_law (first
        | (go_simp; go_at_call 143; refine (greatest_root P pI w.heap.size k _ _ o N _ HS.out.drew.rvar HS.out.drew.ivar HS.out.drew.nvar HS.out.drew.row.sl (HV.out.next HS.out.drew.below) HI.out.lim (by omega) (by omega) hN HZ.out).mono ?_; rintro e w2 ⟨⟨x, rfl, hbest⟩, hb2⟩; have HS2 := Lib.hid (HS.out.drew.next hb2); have HB := Lib.hid hbest; have cR2 := HS2.out.rvar.1; have cI2 := HS2.out.ivar.1; have cQ2 := HS2.out.row.cellAt (j := k) (by omega); have fQ2 := HS2.out.row.free k; have HS3 := Lib.hid (HS2.out.digit k x); have cI3 := HS3.out.ivar.1; clear hbest))
      all_goals (
        have hst := HI.out.step hkL HB.out
        have HI2 := Lib.hid hst.1
        have HE2 : Hid (rts N k (o.set k x) = rts N L (List.replicate L 0)) := Lib.hid (by rw [← HE.out, ← hst.2]; rfl)
        have HS4 := Lib.hid (HS3.out.var ((k : Int) - 1) 3)
        have hsz : (w2.setCell ⟨w.heap.size + 1, k, none⟩ (.int .i64 x)).heap.size = w2.heap.size := by simp [World.setCell]
        rw [hsz] at HS4
        clear hst hsz
        go_wp2_with fail
        go_roundg k
        case measure => omega
        case rel => exact ⟨_, _, by omega, rfl, HI2, HE2, HS4⟩)
    · obtain rfl : gk = 0 := by omega
      rw [show (((0 : Nat) : Int) - 1) = (-1 : Int) by omega] at cI
      have HE2 : Hid (o = rts N L (List.replicate L 0)) := HE
      go_wp2_with fail
      refine (trimmed_own _ _ _ _ HS.out.row).mono ?_
      rintro e w' ⟨⟨v3, rfl, o3, _⟩, rfl⟩
      go_wp2_with fail
      go_ret
      exact ⟨_, rfl, by rw [← HE2.out]; exact o3.lower (by omega), HS.out.below⟩
theorem root_len {N : Int} {L : Nat} (h : L ≤ 40) : (trim (rts N L (List.replicate L 0))).length ≤ 4000000 := by
  have h1 := trim_len (rts N L (List.replicate L 0))
  have h2 := rts_lim L (N := N) (L := L) (o := List.replicate L 0) (Lim.replicate L) (by simp) (Nat.le_refl _)
  omega
theorem bothRootNatural (l : List Int) (_f : Fit l) (_hn : l.length ≤ 1048576) : ∃ (R : List Int) (C : Int), R.length ≤ 4000000 ∧
    (∀ (w : World) (v : Value), Sl w v l → Calls Try.prog 44 #[v] w (RetRowC w R C)) ∧
    (∀ (w : World) (v : Value), Sl w v l → Calls Try.prog 45 #[v] w (RetRowC w R C)) := by
  cases hn : natB l with
  | false =>
    refine ⟨[], 1, by simp, fun w v h => ?_, fun w v h => ?_⟩
    · go_enter Try.func44, Try.ntmps44
      go_wp2_with (go_at_call 93; refine (l02Is_any _ _ _ h).mono ?_; rintro e w' ⟨rfl, rfl⟩)
      go_ret2
      exact ⟨_, rfl, Fresh.nil_ _ _, Below.refl _ _⟩
    · go_enter Try.func45, Try.ntmps45
      go_wp2_with (go_at_call 97; refine (implIsNatural_any _ _ _ h).mono ?_; rintro e w' ⟨rfl, rfl⟩)
      go_ret2
      exact ⟨_, rfl, Fresh.nil_ _ _, Below.refl _ _⟩
  | true =>
    have hv := nat_val hn
    have hf := (nat_facts hn).2.2
    have hv1 := hv.1
    have hv2 := hv.2.1
    have hl40 : (nl (val l)).length ≤ 40 := by rw [hv1]; exact hf
    refine ⟨trim (rts (val l) (((nl (val l)).length + 1) / 2) (List.replicate (((nl (val l)).length + 1) / 2) 0)), 0, root_len (by omega), fun w v h => ?_, fun w v h => ?_⟩
    · have HD := Lib.hid (l02Root_any v (val l) w (by rw [hv1]; exact h) hv2 hl40)
      clear hv hf hv1 hv2 hl40
      go_enter Try.func44, Try.ntmps44
      go_wp2_with fail
      refine (l02Is_any _ _ _ h).mono ?_
      rintro e w' ⟨rfl, rfl⟩
      rw [hn]
      go_wp2_with fail
      refine HD.out.mono ?_
      rintro e w1 ⟨r, rfl, o1, hb1⟩
      go_wp2_with fail
      go_ret2
      exact ⟨r, rfl, .inl o1, hb1⟩
    · have HD := Lib.hid (rootOf_any v (val l) w (by rw [hv1]; exact h) hv2 hl40)
      clear hv hf hv1 hv2 hl40
      go_enter Try.func45, Try.ntmps45
      go_wp2_with fail
      refine (implIsNatural_any _ _ _ h).mono ?_
      rintro e w' ⟨rfl, rfl⟩
      rw [hn]
      go_wp2_with fail
      refine HD.out.mono ?_
      rintro e w1 ⟨r, rfl, o1, hb1⟩
      go_wp2_with fail
      go_ret2
      exact ⟨r, rfl, .inl o1, hb1⟩
end Go.Proofs.Ytanjpkcacgjgfaa
