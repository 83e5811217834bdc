/- PruneMachine: the closures that hand out a state's rules and where they lead. No condition beyond the stated bounds. -/
import Derived.Test.YthijhpkkijjlfaaPlainPrune
import Derived.Test.YthijhpkkijjlfaaMach
import Derived.Test.YthijhpkkijjlfaaMValid
namespace Go.Proofs.Ythijhpkkijjlfaa
open Go.RowKit
/-- What the closures of PruneMachine read: the machine's variable, the variable of the first closure, the rules; all in blocks below B0. -/
structure PrW (W : World) (B0 Bm Br : Nat) (s st : Nat) (ad : Addr) (n c : Nat) (l : List Int) : Prop where
  m : C3 W Bm (.int .i64 (s : Int)) (.int .i64 (st : Int)) (.slice (some ad) n c)
  r : W.cell? ⟨Br, 0, none⟩ = some (.func (.func 20) #[] #[.pointer (some ⟨Bm, 0, none⟩)])
  rows : Ints W B0 (some ad) (n * 3) l
  mlt : Bm < B0
  rlt : Br < B0
  le : B0 ≤ W.heap.size
theorem add_add2 (ad : Addr) (a b : Nat) : (ad.add a).add b = ad.add (a + b) := by
  unfold Addr.add
  by_cases h1 : a = 0 <;> by_cases h2 : b = 0 <;> simp [h1, h2, Nat.add_assoc]
section
variable {W W' : World} {B0 Bm Br s st n c : Nat} {ad : Addr} {l : List Int}
theorem PrW.of_cells (h : PrW W B0 Bm Br s st ad n c l) (hz : W.heap.size ≤ W'.heap.size) (hc : ∀ p : Addr, p.block < B0 → W'.cell? p = W.cell? p) : PrW W' B0 Bm Br s st ad n c l := by
  refine ⟨⟨(hc ⟨Bm, 0, none⟩ h.mlt).trans h.m.1, (hc ⟨Bm, 1, none⟩ h.mlt).trans h.m.2.1, (hc ⟨Bm, 2, none⟩ h.mlt).trans h.m.2.2⟩, (hc ⟨Br, 0, none⟩ h.rlt).trans h.r, ⟨h.rows.1, fun h0 => ?_⟩, h.mlt, h.rlt, Nat.le_trans h.le hz⟩
  obtain ⟨a, e, hb, hcc⟩ := h.rows.2 h0
  exact ⟨a, e, hb, fun j hj => (hc (a.add j) (by rw [block_of_add]; exact hb)).trans (hcc j hj)⟩
theorem PrW.next (h : PrW W B0 Bm Br s st ad n c l) (hb : Below W.heap.size W W') : PrW W' B0 Bm Br s st ad n c l :=
  h.of_cells hb.size (fun p hp => hb.cell (Nat.lt_of_lt_of_le hp h.le))
theorem PrW.grown {Sb : Nat} (h : PrW W B0 Bm Br s st ad n c l) (hg : W.grownBy W' (some Sb)) (hS : B0 ≤ Sb) : PrW W' B0 Bm Br s st ad n c l :=
  h.of_cells hg.size (fun _ hp => by unfold World.cell?; rw [hg.block _ (Nat.lt_of_lt_of_le hp h.le) (by intro e; injection e with e; omega)])
end
theorem rulesOf_any {W : World} {B0 Bm Br s st n c : Nat} {ad : Addr} {l : List Int} (h : PrW W B0 Bm Br s st ad n c l) (k : Nat) (hk : k < st) (hn : n = st * s) (hnc : n ≤ c) (hc : c ≤ maxLen) (hs : s ≤ 1000) (hst : st ≤ 1000) (hs0 : 0 < s) :
    Calls Try.prog 20 #[.int .i64 (k : Int), .pointer (some ⟨Bm, 0, none⟩)] W fun e w' => e = .returned (.slice (some (ad.add (k * s * 3))) s (c - k * s)) ∧ W = w' := by
  obtain ⟨p0, p1, p2⟩ := h.m
  unfold maxLen at hc
  have hm : (k + 1) * s ≤ st * s := Nat.mul_le_mul_right s hk
  rw [Nat.add_mul, Nat.one_mul, ← hn] at hm
  have hnb : n ≤ 1000000 := by rw [hn]; have := Nat.mul_le_mul hst hs; omega
  obtain ⟨i, hi⟩ : ∃ i, k * s = i := ⟨_, rfl⟩
  have e1 : (k : Int) * (s : Int) = (i : Int) := by rw [← hi]; simp
  have e2 : ((k : Int) + 1) * (s : Int) = (i : Int) + (s : Int) := by rw [Int.add_mul, e1, Int.one_mul]
  rw [hi] at hm ⊢
  clear hi hn h
  have a1 : (i : Int) + (s : Int) ≤ (n : Int) := by omega
  have a2 : (n : Int) ≤ (c : Int) := by omega
  have a3 : (k : Int) < 1000 := by omega
  go_enter Try.func20, Try.ntmps20
  go_wp2_with fail
  go_ret
  exact ⟨by simp, rfl⟩
set_option maxHeartbeats 1000000 in
theorem next_any {W : World} {B0 Bm Br s st n c : Nat} {ad : Addr} {l : List Int} (h : PrW W B0 Bm Br s st ad n c l) (k : Nat) (hk : k < st) (hn : n = st * s) (hnc : n ≤ c) (hc : c ≤ maxLen) (hs : s ≤ 1000) (hst : st ≤ 1000) (hs0 : 0 < s) (hf : Fit l) (hv : validB (s : Int) (st : Int) l = true) :
    Calls Try.prog 22 #[.int .i64 (k : Int), .pointer (some ⟨Br, 0, none⟩)] W fun e w' => ∃ r, e = .returned r ∧ Owns w' W.heap.size r (nxL s l k) ∧ Below W.heap.size W w' := by
  have HH := Lib.hid h
  have HV := Lib.hid hv
  have HF := Lib.hid hf
  have HN := Lib.hid hn
  have hcr := h.r
  have HO0 := Lib.hid (Owns.empty W W.heap.size (Nat.le_refl _))
  have hB0 : Below W.heap.size W (W.alloc (.cells #[] 2)) := (Below.refl _ _).alloc (Nat.le_refl _) _
  have HH1 := Lib.hid (h.next hB0)
  have hcr1 := HH1.out.r
  clear hv hf h
  have hkm : k * s + s ≤ n := by rw [HN.out]; have := Nat.mul_le_mul_right s hk; rw [Nat.succ_mul] at this; exact this
  go_enter Try.func22, Try.ntmps22
  clear hn
  obtain ⟨i0, hi0⟩ : ∃ i0, k * s = i0 := ⟨_, rfl⟩
  have HI0 := Lib.hid hi0
  go_wp2_with (go_at_call 20; refine (rulesOf_any HH1.out k hk HN.out hnc hc hs hst hs0).mono ?_; rintro e w' ⟨rfl, rfl⟩; rw [hi0])
  rw [hi0] at hkm
  clear hi0 hcr hcr1
  go_loopw [4, 12] (fun u i wr => ∃ x : Nat, x ≤ s ∧ i = .int .i64 x ∧ Hid (Owns wr W.heap.size u (nxT s l x k)) ∧ Below W.heap.size W wr) (fun _ i _ => s - (intOf i).toNat)
  case atStart => exact ⟨0, Nat.zero_le _, rfl, HO0, hB0⟩
  case round =>
    clear HO0 hB0 HH1
    obtain ⟨x, hx, rfl, HO, hB⟩ := hrel
    by_cases hlt : x < s
    · obtain ⟨ad', had, hbk, p0, p1, p2⟩ := HH.out.rows.three (w' := wr) (fun p hp => hB.cell (Nat.lt_of_lt_of_le hp HH.out.le)) (show i0 + x < n by omega)
      obtain rfl : ad' = ad := by simpa using had.symm
      have hxi : (x : Int) < (s : Int) := by omega
      have hadd : ad'.add ((i0 + x) * 3) = (ad'.add (i0 * 3)).add (x * 3) := by rw [Nat.add_mul]; exact (add_add2 ad' _ _).symm
      rw [hadd] at p0 p1 p2
      clear hadd
      have hbk2 : ((ad'.add (i0 * 3)).add (x * 3)).block < wr.heap.size := by have := hB.size; have := HH.out.le; rw [block_of_add, block_of_add]; omega
      have hnone := none_valid HV.out (j := i0 + x) (by rw [← HN.out]; omega)
      have hto : toR s l k x = geti l ((i0 + x) * 3 + 2) := by unfold toR; rw [HI0.out]
      obtain ⟨a, ha⟩ : ∃ a, geti l ((i0 + x) * 3) = a := ⟨_, rfl⟩
      obtain ⟨b, hb⟩ : ∃ b, geti l ((i0 + x) * 3 + 1) = b := ⟨_, rfl⟩
      obtain ⟨z, hz⟩ : ∃ z, geti l ((i0 + x) * 3 + 2) = z := ⟨_, rfl⟩
      rw [ha] at p0
      rw [hb] at p1
      rw [hz] at p2 hto
      rw [ha, hb, hz] at hnone
      obtain ⟨q0, q1, q2⟩ := C3.made wr (.int .i64 a) (.int .i64 b) (.int .i64 z) 42
      have hBq := hB.trans ((below_one wr (.cells #[.int .i64 a, .int .i64 b, .int .i64 z] 42)).mono hB.size)
      have HO2 := Lib.hid (HO.out.next (below_one wr (.cells #[.int .i64 a, .int .i64 b, .int .i64 z] 42)))
      have hle := nxT_len s l x k
      have hll : (nxT s l x k).length ≤ 1000000000 := by omega
      clear ha hb hz had
      by_cases hz0 : z < 0
      · have HS : Hid (nxT s l (x + 1) k = nxT s l x k) := Lib.hid (nxT_no (by rw [hto]; exact hz0))
        have HT : Hid (noneB a b z = true) := Lib.hid (by rw [hnone]; exact decide_eq_true hz0)
        clear hto hnone
        go_wp2_with (go_at_call 23; refine (isRule_any a b z _).mono ?_; rintro e w3 ⟨rfl, hb3⟩; rw [HT.out]; have hB3 := below_next hBq hb3; have HO3 := Lib.hid (HO2.out.next hb3))
        go_roundw
        case rel => exact ⟨x + 1, by omega, by go_num, by rw [HS.out]; exact HO3, hB3⟩
        case measure => simp [intOf] <;> omega
      · have HS : Hid (nxT s l (x + 1) k = nxT s l x k ++ [z]) := Lib.hid (by rw [← hto]; exact nxT_yes (by rw [hto]; omega))
        have HT : Hid (noneB a b z = false) := Lib.hid (by rw [hnone]; exact decide_eq_false hz0)
        clear hto hnone
        go_wp2_with (first
          | (go_at_call 23; refine (isRule_any a b z _).mono ?_; rintro e w3 ⟨rfl, hb3⟩; rw [HT.out]; have hB3 := below_next hBq hb3; have HO3 := Lib.hid (HO2.out.next hb3); obtain ⟨r0, r1, r2⟩ := C3.next ⟨q0, q1, q2⟩ hb3)
          | (at_builtin; refine wpList_push rfl _ _ rfl W.heap.size _ (nxT s l x k) rfl HO3.out z rfl hll hB3.size ?_; intro v3 w4 o3 hg3 hv3; have hB4 := hB3.grown hg3 hB3.size (fun k hk => (HO3.out.lt k hk).1); have HO4 : Hid (Owns w4 W.heap.size v3 (nxT s l (x + 1) k)) := Lib.hid (by rw [HS.out]; exact o3); clear o3 hg3 hv3))
        go_roundw
        case rel => exact ⟨x + 1, by omega, by go_num, HO4, hB4⟩
        case measure => simp [intOf] <;> omega
    · obtain rfl : x = s := by omega
      have hd : decide ((x : Int) < (x : Int)) = false := decide_eq_false (by omega)
      go_wp2_with fail
      go_ret
      exact ⟨_, rfl, HO.out, hB⟩
end Go.Proofs.Ythijhpkkijjlfaa
