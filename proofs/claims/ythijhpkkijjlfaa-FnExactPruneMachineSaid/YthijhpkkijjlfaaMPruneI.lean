/- PruneMachine of the program: the rules that stay. No condition beyond the stated bounds. -/
import Derived.Test.YthijhpkkijjlfaaMReach
import Derived.Test.YthijhpkkijjlfaaMOwn
import Derived.Test.YthijhpkkijjlfaaMConf
import Derived.Test.YthijhpkkijjlfaaMValid3
import Derived.Test.YthijhpkkijjlfaaShelf
import Derived.Deep.Cut
import Derived.Deep.RegionHeld3
import Derived.Deep.DeepCutAuto
namespace Go.Proofs.Ythijhpkkijjlfaa
open Go.RowKit
theorem Box.kept' {w w' : World} {b : Nat} {x y z : Value} {row : Option Nat} (h : Box w b x y z) (hg : w.grownBy w' row) (hne : row ≠ some b) : Box w' b x y z := by
  have hlt : b < w.heap.size := cell_lt h.c0
  have e := hg.block b hlt (fun h => hne h.symm)
  have hc : ∀ o, w'.cell? ⟨b, o, none⟩ = w.cell? ⟨b, o, none⟩ := fun o => by unfold World.cell?; rw [e]
  have hf : ∀ o, w'.frozen? ⟨b, o, none⟩ = w.frozen? ⟨b, o, none⟩ := fun o => by unfold World.frozen?; rw [e]
  exact ⟨(hc 0).trans h.c0, (hc 1).trans h.c1, (hc 2).trans h.c2, (hf 0).trans h.f0, (hf 1).trans h.f1, (hf 2).trans h.f2⟩
theorem Box.made (w : World) (x y z : Value) (t : TypeId) : Box (w.alloc (.cells #[x, y, z] t)) w.heap.size x y z := Box.of (World.alloc_heap_new w _)
theorem Box.drewN {w : World} {b : Nat} {x y z : Value} (h : Box w b x y z) (n : Nat) : Box (w.drewN n) b x y z := ⟨h.c0, h.c1, h.c2, h.f0, h.f1, h.f2⟩
/-- A slice of one rule in a new block. -/
theorem sl3_one (w : World) (a b z : Int) : Sl3 (w.alloc (.cells #[.int .i64 a, .int .i64 b, .int .i64 z] 42)) (.slice (some ⟨w.heap.size, 0, none⟩) 1 1) [a, b, z] := by
  obtain ⟨h0, h1, h2⟩ := C3.made w (.int .i64 a) (.int .i64 b) (.int .i64 z) 42
  refine ⟨_, 1, 1, rfl, Nat.le_refl _, by unfold maxLen; omega, rfl, fun _ => ⟨_, rfl, by simp, fun j hj => ?_⟩⟩
  have e : (⟨w.heap.size, 0, none⟩ : Addr).add j = ⟨w.heap.size, j, none⟩ := by unfold Addr.add; by_cases h : j = 0 <;> simp [h]
  rw [e]
  obtain rfl | rfl | rfl : j = 0 ∨ j = 1 ∨ j = 2 := by omega
  · exact h0
  · exact h1
  · exact h2
/-- A machine, a list and a code as the result. -/
def RetMLC (w : World) (sy st : Int) (l l2 : List Int) (c : Int) (e : Ending) (w' : World) : Prop :=
  ∃ r r2, e = .returned (.tuple #[.agg #[.int .i64 sy, .int .i64 st, r], r2, .int .i64 c]) ∧ Fresh3 w' w.heap.size r l ∧ Fresh w' w.heap.size r2 l2 ∧ (∀ k, blk r = some k → blk r2 ≠ some k) ∧ Below w.heap.size w w'
/-- What a round leaves: the new machine's variable with one rule more. -/
theorem out_end {w3 w5 w7 : World} {x y u v7 : Value} {L L' : List Int} {tmp : Obj} (hB : Box w5 w3.heap.size x y u) (hO : Own3 w5 (w3.heap.size + 1) u L) (hBe : Below w3.heap.size w3 w5)
    (o7 : Own3 w7 (w3.heap.size + 1) v7 L') (hg7 : (w5.alloc tmp).grownBy w7 u.ownBlock) :
    Box w7 w3.heap.size x y u ∧ Box (w7.setCell ⟨w3.heap.size, 2, none⟩ v7) w3.heap.size x y v7 ∧ Own3 (w7.setCell ⟨w3.heap.size, 2, none⟩ v7) (w3.heap.size + 1) v7 L' ∧
      Below w3.heap.size w3 (w7.setCell ⟨w3.heap.size, 2, none⟩ v7) ∧ w3.heap.size + 1 ≤ (w7.setCell ⟨w3.heap.size, 2, none⟩ v7).heap.size := by
  have hne : u.ownBlock ≠ some w3.heap.size := fun e => by have := (hO.lt _ e).1; omega
  have h1 := (hB.next (below_one w5 tmp)).kept' hg7 hne
  have hz : w3.heap.size < w5.heap.size := cell_lt hB.c0
  have hz7 := hg7.size
  rw [World.size_alloc] at hz7
  refine ⟨h1, h1.put2 v7, o7.set_ (by simp) _, ((below_next hBe (below_one w5 tmp)).grown hg7 (by rw [World.size_alloc]; omega) (fun k hk => by have := (hO.lt k hk).1; omega)).setCell (p := ⟨w3.heap.size, 2, none⟩) (Nat.le_refl _) _, by rw [size_set]; omega⟩
theorem sizeI_any (A : Option Addr) (n c : Nat) (w : World) (hnc : n ≤ c) (hcm : c ≤ maxLen) :
    Calls Try.prog 24 #[.slice A n c] w fun e w' => e = .returned (.int .i64 (n : Int)) ∧ w = w' := by
  unfold maxLen at hcm
  go_enter Try.func24, Try.ntmps24
  go_wp2
  go_ret
  exact ⟨rfl, rfl⟩
/-- The new machine's variable, just made. -/
structure Pst (wc wx : World) (s k : Int) : Prop where
  box : Box wx wc.heap.size (.int .i64 s) (.int .i64 k) (.slice none 0 0)
  below : Below wc.heap.size wc wx
  size : wx.heap.size = wc.heap.size + 1
theorem pst_made (w : World) (s k : Int) (T : TypeId) : Pst w (w.drew.alloc (.cells #[.int .i64 s, .int .i64 k, .slice none 0 0] T)) s k :=
  ⟨Box.made w.drew _ _ _ T, ⟨(below_one w.drew _).os, (below_one w.drew _).tape, (below_one w.drew _).output, (below_one w.drew _).size, (below_one w.drew _).block⟩, by rw [World.size_alloc]; rfl⟩
set_option maxRecDepth 100000 in
set_option maxHeartbeats 4000000 in
theorem implPrune_good (s st n : Nat) (hn : n = st * s) (ad : Addr) (c : Nat) (l : List Int) (w : World) (hr : Ints w w.heap.size (some ad) (n * 3) l) (hc : c ≤ maxLen) (hnc : n ≤ c) (hf : Fit l) (hs0 : 0 < s) (hs : s ≤ 1000) (hst : st ≤ 1000) (hst0 : 0 < st) (hv : validB (s : Int) (st : Int) l = true) :
    Calls Try.prog 7 #[.agg #[.int .i64 (s : Int), .int .i64 (st : Int), .slice (some ad) n c]] w (RetMLC w (s : Int) ((rchL (nxL s l)).length : Int) (prT (rchL (nxL s l)) s l ((rchL (nxL s l)).length * s)) (rchL (nxL s l)) 0) := by
  have HR := Lib.hid hr
  have HF := Lib.hid hf
  have HV := Lib.hid hv
  have HN := Lib.hid hn
  have HS : Hid (Sl3 w (.slice (some ad) n c) l) := Lib.hid ⟨_, _, _, rfl, hnc, hc, hr⟩
  clear hr hf hv hn
  go_enter Try.func7, Try.ntmps7
  go_wp2_with fail
  refine (implValidMachine_any (s : Int) (st : Int) _ l _ (HS.out.next (below_two _ _ _))).mono ?_
  rintro e w1 ⟨rfl, hb1⟩
  rw [HV.out]
  have hh := heap_two hb1
  have bM := Box.of hh.1
  have bR := Box.of hh.2
  have hB1 : Below w.heap.size w w1 := (below_two w _ _).trans (hb1.mono (by simp; omega))
  have hsz1 : w.heap.size + 2 ≤ w1.heap.size := by have := hb1.size; simpa using this
  clear hh hb1
  have hb2 := below_one w1 (.cells #[.func (.func 20) #[] #[.pointer (some ⟨w.heap.size, 0, none⟩)]] 47)
  have hrf : (w1.alloc (.cells #[.func (.func 20) #[] #[.pointer (some ⟨w.heap.size, 0, none⟩)]] 47)).cell? ⟨w1.heap.size, 0, none⟩ = some (.func (.func 20) #[] #[.pointer (some ⟨w.heap.size, 0, none⟩)]) := (Boxed.new w1 _ _).cell
  have bM2 := bM.next hb2
  have bR2 := bR.next hb2
  have hB2 := below_next hB1 hb2
  have hpr : PrW (w1.alloc (.cells #[.func (.func 20) #[] #[.pointer (some ⟨w.heap.size, 0, none⟩)]] 47)) (w1.alloc (.cells #[.func (.func 20) #[] #[.pointer (some ⟨w.heap.size, 0, none⟩)]] 47)).heap.size w.heap.size w1.heap.size s st ad n c l := by
    refine ⟨⟨bM2.c0, bM2.c1, bM2.c2⟩, hrf, ?_, by simp; omega, by simp, Nat.le_refl _⟩
    refine ⟨HR.out.1, fun h0 => ?_⟩
    obtain ⟨a, e, hlt, hcc⟩ := HR.out.2 h0
    exact ⟨a, e, Nat.lt_of_lt_of_le hlt hB2.size, fun j hj => (hB2.cell (p := a.add j) (by rw [block_of_add]; exact hlt)).trans (hcc j hj)⟩
  have HPR := Lib.hid hpr
  have BM2 := Lib.hid bM2
  have BR2 := Lib.hid bR2
  obtain ⟨m0, m1, m2, _, _, _⟩ := bM2
  clear hpr hrf bR bR2 hb2 bM
  go_wp2_with fail
  have hlt2 : w.heap.size + 1 < (w1.alloc (.cells #[.func (.func 20) #[] #[.pointer (some ⟨w.heap.size, 0, none⟩)]] 47)).heap.size := by simp; omega
  generalize (w1.alloc (.cells #[.func (.func 20) #[] #[.pointer (some ⟨w.heap.size, 0, none⟩)]] 47)) = w2 at *
  refine (reachable_any HPR.out rfl HN.out hnc hc hs hst hs0 hst0 HF.out HV.out).mono ?_
  rintro e w3 ⟨r3, rfl, o3, hb3⟩
  have HI := Lib.hid (rchL_is (leads_valid HV.out) hst0)
  have HLE := Lib.hid (HI.out.len (leads_valid HV.out) hst0)
  have HBD := Lib.hid (HI.out.bd (leads_valid HV.out) hst0)
  obtain ⟨old, hold⟩ : ∃ old, rchL (nxL s l) = old := ⟨_, rfl⟩
  rw [hold] at HI HLE HBD o3
  have HOLD := Lib.hid hold
  clear hold
  have hpos : 0 < old.length := by
    have h0 := (HI.out.mem 0).2 (.refl _)
    cases hold : old with
    | nil => rw [hold] at h0; cases h0
    | cons a b => simp
  have hlen : old.length ≤ 1000 := Nat.le_trans HLE.out hst
  obtain ⟨g3, cap3, rfl, hg3, hg3'⟩ := o3.head hpos
  have hncap : old.length ≤ cap3 ∧ cap3 ≤ maxLen := by
    obtain ⟨A, c9, e, h1, h2, _⟩ := o3.sl
    injection e with e1 e2 e3
    omega
  have HO3 := Lib.hid o3
  have HB3 := Lib.hid (below_next hB2 hb3)
  have HM3 := Lib.hid (BM2.out.next hb3)
  have HRB3 := Lib.hid (BR2.out.next hb3)
  have HP3 := Lib.hid (HPR.out.next hb3)
  have hz3 := hb3.size
  obtain ⟨m0, m1, m2, _, _, _⟩ := HM3.out
  clear o3 hB2 hb3 BM2 BR2 HPR hB1 HR
  go_upto_region 5 with fail
  go_cut [7] (fun p wx => p = .pointer (some ⟨w3.heap.size, 0, none⟩) ∧ Hid (Pst w3 wx (s : Int) (old.length : Int)))
  case first =>
    go_region_held3 (fun w' => w'.cell? ⟨w.heap.size, 0, none⟩ = some (.int .i64 (s : Int)))
      (first | go_keep | (with_reducible assumption))
      (first | (go_at_call 24; (with_reducible refine (sizeI_any _ _ _ _ hncap.1 hncap.2).mono ?_); rintro e w' ⟨rfl, rfl⟩))
    all_goals (
      go_wp2_with fail
      go_meet
      case rel => exact ⟨rfl, Lib.hid (pst_made w3 _ _ _)⟩)
  case rest =>
    clear m0 m1 m2
    obtain ⟨rfl, HPS⟩ := hcut
    rename World => w4
    have HPR4 := Lib.hid (HP3.out.next HPS.out.below)
    have hrf4 := HPR4.out.r
    have hz4 := HPS.out.size
    have hs1000 : (s : Int) ≤ 1000 := by omega
    have hol : (old.length : Int) ≤ 1000 := by omega
    go_wp2_with fail
    go_loopw [30] (fun i wr => ∃ (k : Nat) (u : Value), k ≤ old.length ∧ i = .int .i64 k ∧ Hid (Box wr w3.heap.size (.int .i64 (s : Int)) (.int .i64 (old.length : Int)) u) ∧ Hid (Own3 wr (w3.heap.size + 1) u (prT old s l (k * s))) ∧ Hid (Below w3.heap.size w3 wr) ∧ w3.heap.size + 1 ≤ wr.heap.size) (fun i _ => old.length - (intOf i).toNat)
    case atStart => exact ⟨0, .slice none 0 0, Nat.zero_le _, rfl, Lib.hid HPS.out.box, Lib.hid (by rw [Nat.zero_mul]; exact Own3.nil_ _ _), Lib.hid HPS.out.below, by omega⟩
    case round =>
      clear hrf4 HPR4 HPS hz4
      obtain ⟨k, u, hk, rfl, HB, HO, HBe, hzr⟩ := hrel
      by_cases hlt : k < old.length
      · have hki : (k : Int) < (old.length : Int) := by omega
        have hbd := HBD.out _ (geti_mem hlt)
        have hcell : wr.cell? ⟨g3, k, none⟩ = some (.int .i64 (geti old k)) := (HBe.out.cell (p := ⟨g3, k, none⟩) hg3').trans (HO3.out.cellAt hlt)
        obtain ⟨q, hq⟩ := Int.eq_ofNat_of_zero_le hbd.1
        have hqst : q < st := by omega
        have HQ := Lib.hid hq
        rw [hq] at hcell
        have HPW := Lib.hid (HP3.out.next HBe.out)
        have hrf := HPW.out.r
        clear hbd hq
        go_wp2_with fail
        refine (rulesOf_any HPW.out q hqst HN.out hnc hc hs hst hs0).mono ?_
        rintro e w' ⟨rfl, rfl⟩
        obtain ⟨i0, hi0⟩ : ∃ i0, q * s = i0 := ⟨_, rfl⟩
        have HI0 := Lib.hid hi0
        have him : i0 + s ≤ n := by rw [← hi0, HN.out]; have := Nat.mul_le_mul_right s hqst; rw [Nat.succ_mul] at this; exact this
        rw [hi0]
        clear hi0 hcell hrf
        go_wp2_with fail
        go_loopw [38] (fun i wx => ∃ (x : Nat) (u2 : Value), x ≤ s ∧ i = .int .i64 x ∧ Hid (Box wx w3.heap.size (.int .i64 (s : Int)) (.int .i64 (old.length : Int)) u2) ∧ Hid (Own3 wx (w3.heap.size + 1) u2 (prT old s l (k * s + x))) ∧ Hid (Below w3.heap.size w3 wx) ∧ w3.heap.size + 1 ≤ wx.heap.size) (fun i _ => s - (intOf i).toNat)
        case atStart => exact ⟨0, u, Nat.zero_le _, rfl, HB, HO, HBe, hzr⟩
        case round =>
          clear HB HO HBe hzr HPW
          obtain ⟨x, u2, hx, rfl, HB, HO, HBe, hzr⟩ := hrel
          by_cases hltx : x < s
          · have HPW := Lib.hid (HP3.out.next HBe.out)
            obtain ⟨ad', had, hbk, p0, p1, p2⟩ := HPW.out.rows.three (w' := wr) (fun _ _ => rfl) (show i0 + x < n by omega)
            obtain rfl : ad' = ad := by simpa using had.symm
            have hxi : (x : Int) < (s : Int) := by omega
            have hadd : ad'.add ((i0 + x) * 3) = (ad'.add (i0 * 3)).add (x * 3) := by rw [Nat.add_mul]; exact (add_add2 ad' _ _).symm
            rw [hadd] at p0 p1 p2
            clear hadd
            have hbk2 : ((ad'.add (i0 * 3)).add (x * 3)).block < wr.heap.size := by have := HPW.out.le; rw [block_of_add, block_of_add]; omega
            have hj : i0 + x < st * s := by rw [← HN.out]; omega
            have hnone := none_valid HV.out hj
            have HPA : Hid (prT old s l (k * s + (x + 1)) = prT old s l (k * s + x) ++ prA old l (i0 + x)) := Lib.hid (by rw [prT_step hltx, HQ.out, Int.toNat_natCast, HI0.out])
            have hpl := prT_len old s l (k * s + x)
            have hks : k * s + x ≤ 1000000 := by have := Nat.mul_le_mul (show k ≤ 999 by omega) hs; omega
            unfold prA at HPA
            obtain ⟨a, ha⟩ : ∃ a, geti l ((i0 + x) * 3) = a := ⟨_, rfl⟩
            obtain ⟨b, hb⟩ : ∃ b, geti l ((i0 + x) * 3 + 1) = b := ⟨_, rfl⟩
            obtain ⟨z, hz⟩ : ∃ z, geti l ((i0 + x) * 3 + 2) = z := ⟨_, rfl⟩
            rw [ha] at p0
            rw [hb] at p1
            rw [hz] at p2
            rw [ha, hb, hz] at hnone HPA
            obtain ⟨L, hL⟩ : ∃ L, prT old s l (k * s + x) = L := ⟨_, rfl⟩
            rw [hL] at HPA HO hpl
            have hll : L.length ≤ 4000000 := by omega
            clear ha hb hz had hj hL hpl hks
            have hbx := below_one wr (.cells #[.int .i64 a, .int .i64 b, .int .i64 z] 42)
            obtain ⟨q0, q1, q2⟩ := C3.made wr (.int .i64 a) (.int .i64 b) (.int .i64 z) 42
            go_wp2_with fail
            refine (isRule_any a b z _).mono ?_
            rintro e w5 ⟨rfl, hb5⟩
            have bx5 := Box.of (heap_one hb5)
            have hb5' := below_next hbx hb5
            have HO5 := Lib.hid (HO.out.next hb5')
            have HB5 := Lib.hid (HB.out.next hb5')
            have HBe5 := Lib.hid (below_next HBe.out hb5')
            have hz5 : wr.heap.size + 1 ≤ w5.heap.size := by have := hb5.size; simpa using this
            obtain ⟨e0, e1, e2, f0, f1, f2⟩ := HB5.out
            clear q0 q1 q2 hbx hb5 hb5' p0 p1 p2
            by_cases hz0 : z < 0
            · have HT : Hid (noneB a b z = true) := Lib.hid (by rw [hnone]; exact decide_eq_true hz0)
              have HZ : Hid (prZ old z = z) := Lib.hid (by unfold prZ; rw [if_pos hz0])
              rw [HT.out]
              clear hnone
              obtain ⟨r0, r1, r2, _, _, _⟩ := bx5
              go_wp2_with (at_builtin; refine wpList_cat3 rfl _ _ rfl (w3.heap.size + 1) u2 L rfl (HO5.out.next (below_one w5 _)) _ [a, b, z] rfl (sl3_one w5 a b z) (by simp; omega) (by simp; omega) ?_; intro v7 w7 o7 hg7 hv7; obtain ⟨g7, n7, cap7, rfl, _, _, _⟩ := o7.head (by simp); obtain ⟨E1, E2, E3, E4, E5⟩ := out_end HB5.out HO5.out HBe5.out o7 hg7; have E2 := Lib.hid E2; have E3 := Lib.hid E3; have E4 := Lib.hid E4; have E5 := Lib.hid E5; obtain ⟨_, _, c7, _, _, f7⟩ := E1; clear o7 hg7 hv7)
              go_roundw
              case rel => exact ⟨x + 1, _, by omega, by go_num, E2, Lib.hid (by rw [HPA.out, HZ.out]; exact E3.out), E4, E5.out⟩
              case measure => simp [intOf] <;> omega
            · have HT : Hid (noneB a b z = false) := Lib.hid (by rw [hnone]; exact decide_eq_false hz0)
              have HZ : Hid (prZ old z = rankI old z) := Lib.hid (by unfold prZ; rw [if_neg hz0])
              rw [HT.out]
              clear hnone
              have BX5 := Lib.hid bx5
              obtain ⟨r0, r1, r2, g0, g1, g2⟩ := bx5
              go_wp2_with fail
              refine (Try.slices_BinarySearch_int g3 0 old.length cap3 old z _ (Nat.le_refl _) (by omega) (fun j hj => by rw [Nat.zero_add]; exact (HBe5.out.cell (p := ⟨g3, j, none⟩) hg3').trans (HO3.out.cellAt hj)) (by rw [List.take_length]; exact HI.out.asc)).mono ?_
              rintro e w6 ⟨rfl, qn, hw6⟩
              rw [List.take_length, show ((old.countP (fun y => decide (y < z)) : Nat) : Int) = rankI old z from rfl]
              have hrk := rank_bd old z
              have hrk0 := hrk.1
              have hrk1 : rankI old z ≤ 1000 := by omega
              have BX6 : Box w6 wr.heap.size (.int .i64 a) (.int .i64 b) (.int .i64 z) := by rw [hw6]; exact BX5.out.drewN qn
              have HB6 : Box w6 w3.heap.size (.int .i64 (s : Int)) (.int .i64 (old.length : Int)) u2 := by rw [hw6]; exact HB5.out.drewN qn
              have HO6 : Own3 w6 (w3.heap.size + 1) u2 L := by rw [hw6]; exact HO5.out.drewN qn
              have HBe6 : Below w3.heap.size w3 w6 := by rw [hw6]; exact below_drewN HBe5.out qn
              have hz6 : wr.heap.size + 1 ≤ w6.heap.size := by rw [hw6]; exact hz5
              have HB7 := HB6.far (p := ⟨wr.heap.size, 2, none⟩) (by simp; omega) (.int .i64 (rankI old z))
              have HO7 : Own3 (w6.setCell ⟨wr.heap.size, 2, none⟩ (.int .i64 (rankI old z))) (w3.heap.size + 1) u2 L := HO6.kept (grown_set w6 ⟨wr.heap.size, 2, none⟩ _) (.inr (fun e => by have := (HO.out.lt _ e).2; simp at this))
              have HBe7 : Below w3.heap.size w3 (w6.setCell ⟨wr.heap.size, 2, none⟩ (.int .i64 (rankI old z))) := HBe6.setCell (p := ⟨wr.heap.size, 2, none⟩) (by simp; omega) _
              obtain ⟨R0, R1, R2, _, _, _⟩ := BX6.put2 (.int .i64 (rankI old z))
              obtain ⟨r0, r1, r2, g0, g1, g2⟩ := BX6
              obtain ⟨e0, e1, e2, f0, f1, f2⟩ := HB7
              have HB7 := Lib.hid (HB6.far (p := ⟨wr.heap.size, 2, none⟩) (by simp; omega) (.int .i64 (rankI old z)))
              have HO7 := Lib.hid HO7
              have HBe7 := Lib.hid HBe7
              have hz7 : w3.heap.size + 1 ≤ (w6.setCell ⟨wr.heap.size, 2, none⟩ (.int .i64 (rankI old z))).heap.size := by rw [size_set]; omega
              have HSL := Lib.hid (show Sl3 ((w6.setCell ⟨wr.heap.size, 2, none⟩ (.int .i64 (rankI old z))).alloc (.cells #[.int .i64 a, .int .i64 b, .int .i64 (rankI old z)] 42)) (.slice (some ⟨w6.heap.size, 0, none⟩) 1 1) [a, b, rankI old z] from by
                have h := sl3_one (w6.setCell ⟨wr.heap.size, 2, none⟩ (.int .i64 (rankI old z))) a b (rankI old z)
                rw [size_set] at h
                exact h)
              clear hw6 HB6 HO6 HBe6 hrk
              go_wp2_with (at_builtin; refine wpList_cat3 rfl _ _ rfl (w3.heap.size + 1) u2 L rfl (HO7.out.next (below_one _ _)) _ [a, b, rankI old z] rfl HSL.out (by simp; omega) (by rw [World.size_alloc]; omega) ?_; intro v7 w7 o7 hg7 hv7; obtain ⟨g7, n7, cap7, rfl, _, _, _⟩ := o7.head (by simp); obtain ⟨E1, E2, E3, E4, E5⟩ := out_end HB7.out HO7.out HBe7.out o7 hg7; have E2 := Lib.hid E2; have E3 := Lib.hid E3; have E4 := Lib.hid E4; have E5 := Lib.hid E5; obtain ⟨_, _, c7, _, _, f7⟩ := E1; clear o7 hg7 hv7)
              go_roundw
              case rel => exact ⟨x + 1, _, by omega, by go_num, E2, Lib.hid (by rw [HPA.out, HZ.out]; exact E3.out), E4, E5.out⟩
              case measure => simp [intOf] <;> omega
          · obtain rfl : x = s := by omega
            have hd : decide ((x : Int) < (x : Int)) = false := decide_eq_false (by omega)
            go_wp2_with fail
            go_roundw
            case rel => exact ⟨k + 1, u2, by omega, by go_num, HB, by rw [Nat.succ_mul]; exact HO, HBe, hzr⟩
            case measure => simp [intOf] <;> omega
      · obtain rfl : k = old.length := by omega
        have hd : decide ((old.length : Int) < (old.length : Int)) = false := decide_eq_false (by omega)
        have HRB := HRB3.out.next HBe.out
        obtain ⟨e0, e1, e2, f0, f1, f2⟩ := HB.out
        obtain ⟨h0, h1, h2, k0, k1, k2⟩ := HRB
        obtain ⟨A9, n9, c9, rfl, _, _, hr9⟩ := HO.out.sl
        clear hr9
        go_wp2_with fail
        have hlt3 : w.heap.size + 1 < w3.heap.size := cell_lt HRB3.out.c0
        rw [HOLD.out]
        refine bodyPost_ret (v := .tuple #[.agg #[.int .i64 (s : Int), .int .i64 (old.length : Int), .slice A9 n9 c9], .slice (some ⟨g3, 0, none⟩) old.length cap3, .int .i64 0]) (by simp [results, Try.results7, go_sem, h0, h1, h2]) rfl ?_
        have F1 : Fresh3 wr (w3.heap.size + 1) (.slice A9 n9 c9) (prT old s l (old.length * s)) := .inl HO.out
        have F2 : Fresh wr w2.heap.size (.slice (some ⟨g3, 0, none⟩) old.length cap3) old := .inl (HO3.out.next HBe.out)
        have F3 : Fresh w3 w2.heap.size (.slice (some ⟨g3, 0, none⟩) old.length cap3) old := .inl HO3.out
        refine ⟨_, _, rfl, Fresh3.lower (((F1.set (p := ⟨w.heap.size + 1, 0, none⟩) (by simp; omega) _).set (p := ⟨w.heap.size + 1, 1, none⟩) (by simp; omega) _).set (p := ⟨w.heap.size + 1, 2, none⟩) (by simp; omega) _) (by omega), Fresh.lower (((F2.set (p := ⟨w.heap.size + 1, 0, none⟩) (by simp; omega) _).set (p := ⟨w.heap.size + 1, 1, none⟩) (by simp; omega) _).set (p := ⟨w.heap.size + 1, 2, none⟩) (by simp; omega) _) (by omega), fun k hk h2 => ?_, ?_⟩
        · have e1 := (F1.lt k hk).1
          have e2 := (F3.lt k h2).2
          omega
        · exact (((below_next HB3.out HBe.out).setCell (p := ⟨w.heap.size + 1, 0, none⟩) (by simp) _).setCell (p := ⟨w.heap.size + 1, 1, none⟩) (by simp) _).setCell (p := ⟨w.heap.size + 1, 2, none⟩) (by simp) _
end Go.Proofs.Ythijhpkkijjlfaa
