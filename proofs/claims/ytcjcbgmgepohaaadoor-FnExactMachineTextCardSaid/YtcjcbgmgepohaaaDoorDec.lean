/- Decimal of the reference and of the program: the decimal numeral. No condition beyond the stated bounds. -/
import Derived.Test.YtcjcbgmgepohaaaDoorBytes
import Derived.Test.YtcjcbgmgepohaaaDoorPlainDec
import Derived.Lib.SmallJoins
import Derived.Test.YtcjcbgmgepohaaaDoorShelf
namespace Go.Proofs.YtcjcbgmgepohaaaDoor
open Go.RowKit Go.Joins
theorem ret_str {a b : ByteArray} (h : a = b) : Ending.returned (.string a) = .returned (.string b) := by rw [h]
/-- A text of bytes. -/
def str (l : List UInt8) : ByteArray := ⟨l.toArray⟩
theorem str_toList (l : List UInt8) : (str l).data.toList = l := rfl
theorem str_data (s : ByteArray) : str s.data.toList = s := rfl
/-- The digits that a loop collects, the last ahead, the sign behind them. -/
def decR (n : Int) : List UInt8 := digs n.natAbs ++ (if n < 0 then [45] else [])
theorem itoa_decR {n : Int} (h : n ≠ 0) : Lib.itoa n = (decR n).reverse := by
  unfold decR Lib.itoa
  by_cases hn : n < 0
  · rw [if_pos hn, if_pos hn, List.reverse_append, decDigits_digs _ (by omega)]; rfl
  · rw [if_neg hn, if_neg hn, List.append_nil, show n.toNat = n.natAbs by omega, decDigits_digs _ (by omega)]
theorem rev_snocB {l : List UInt8} {j : Nat} (hj : j < l.length) : (l.drop (j + 1)).reverse ++ [l[j]] = (l.drop j).reverse := by
  rw [List.drop_eq_getElem_cons hj, List.reverse_cons]
theorem dchr_int {x : Nat} (h : x < 10) : (48 : Int) + (x : Int) = ((dchr x).toNat : Int) := by rw [dchr_toNat h]; omega
theorem digs_bd {n : Int} (h0 : -9223372036854775808 ≤ n) (h1 : n ≤ 9223372036854775807) : (digs n.natAbs).length ≤ 21 := by
  have := digs_len n.natAbs 20 (by have : (10 : Nat) ^ 20 = 100000000000000000000 := by decide
                                   omega)
  omega
theorem decR_len {n : Int} (h0 : -9223372036854775808 ≤ n) (h1 : n ≤ 9223372036854775807) : (decR n).length ≤ 21 := by
  unfold decR
  have := digs_len n.natAbs 20 (by have : (10 : Nat) ^ 20 = 100000000000000000000 := by decide
                                   omega)
  rw [List.length_append]
  split <;> simp <;> omega
set_option maxHeartbeats 1000000 in
set_option maxRecDepth 100000 in
theorem l01Dec_any (n : Int) (w : World) (h0 : -9223372036854775808 ≤ n) (h1 : n ≤ 9223372036854775807) :
    Calls Tryd.prog 21 #[.int .i64 n] w fun e w' => e = .returned (.string (str (Lib.itoa n))) ∧ Below w.heap.size w w' := by
  by_cases hz : n = 0
  · subst hz
    have HF : Hid (str (Lib.itoa 0) = ⟨#[48]⟩) := Lib.hid (by unfold Lib.itoa; rw [if_neg (by decide)]; rw [show (0 : Int).toNat = 0 from rfl, decDigits_one 0 (by decide)]; rfl)
    go_enter Tryd.func21, Tryd.ntmps21
    go_wp2
    go_ret
    exact ⟨ret_str HF.out.symm, Below.refl _ _⟩
  · have HZ : Hid (str (Lib.itoa n) = str (decR n).reverse) := Lib.hid (by rw [itoa_decR hz])
    have hlen := decR_len h0 h1
    have HO := Lib.hid (OwnsB.empty w w.heap.size (Nat.le_refl _))
    have hB0 : Below w.heap.size w (w.alloc (.cells #[] 5)) := (Below.refl _ _).alloc (Nat.le_refl _) _
    have hz1 : (n == 0) = false := by simpa using hz
    have hz2 : (n != 0) = true := by simpa using hz
    have HNZ : Hid (n ≠ 0) := Lib.hid hz
    clear hz
    go_enter Tryd.func21, Tryd.ntmps21
    go_wp2_with fail
    go_loopw [3, 4] (fun v t wr => ∃ (m : Int) (pre : List UInt8), t = .int .i64 m ∧ Hid (pre ++ digs m.natAbs = digs n.natAbs) ∧ (0 < n ∧ 0 ≤ m ∧ m ≤ n ∨ n < 0 ∧ m ≤ 0 ∧ n ≤ m) ∧ pre.length ≤ 21 ∧ Hid (OwnsB wr w.heap.size v pre) ∧ Below w.heap.size w wr) (fun _ t _ => (intOf t).natAbs)
    case atStart => exact ⟨n, [], rfl, Lib.hid rfl, by have := HNZ.out; omega, by simp, HO, hB0⟩
    case round =>
      clear HO hB0
      obtain ⟨m, pre, rfl, HP, hm, hpl, HO, hB⟩ := hrel
      obtain ⟨u, hu⟩ : ∃ u : Nat, u = m.natAbs := ⟨_, rfl⟩
      by_cases hu0 : u = 0
      · obtain rfl : m = 0 := by omega
        have HL : Hid (pre = digs n.natAbs) := Lib.hid (by rw [← HP.out, Int.natAbs_zero, digs_zero, List.append_nil])
        have hz0 : ((0 : Int) != 0) = false := rfl
        obtain ⟨R, hR⟩ : ∃ R : List UInt8, R = decR n := ⟨_, rfl⟩
        have HS : Hid (str (Lib.itoa n) = str R.reverse) := Lib.hid (by rw [HZ.out, hR])
        have hRL : R.length ≤ 22 := by rw [hR]; omega
        have hRpos : 0 < R.length := by
          have h := congrArg List.length (itoa_decR HNZ.out)
          rw [List.length_reverse] at h
          rw [hR, ← h]
          unfold Lib.itoa
          split
          · simp
          · obtain ⟨_, _, c, l, e, _⟩ := dec_facts n.toNat
            rw [e]; simp
        by_cases hneg : n < 0
        · have HR : Hid (pre ++ [45] = R) := Lib.hid (by rw [hR, HL.out]; unfold decR; rw [if_pos hneg])
          have HC45 : Hid ((45 : Int) = ((45 : UInt8).toNat : Int)) := Lib.hid rfl
          clear hR
          go_wp2_with (at_builtin; refine wpList_pushB rfl (.tmp 30) (.tmp 31) rfl w.heap.size _ pre rfl HO.out _ 45 HC45.out rfl (by omega) hB.size ?_; intro v1 w1 o1 hg1 _; rw [HR.out] at o1; have hB1 := hB.grown hg1 hB.size (fun k hk => (HO.out.lt k hk).1); (rcases o1.shape with ⟨_, e⟩ | ⟨gR, cR, rfl, _, hgR, hncR, hcmR, hclR⟩; (· have h9 := congrArg List.length e; rw [List.length_nil] at h9; omega)); unfold maxLen at hcmR; have HCL := Lib.hid hclR; clear hclR; have HO1 := Lib.hid o1; clear o1 hg1)
          have hlen1 : R.length ≤ 22 := hRL
          go_loopw [6, 7] (fun v i wr => ∃ k : Nat, k ≤ R.length ∧ i = .int .i64 ((k : Int) - 1) ∧ Hid (OwnsB wr w1.heap.size v (R.drop k).reverse) ∧ Below w1.heap.size w1 wr) (fun _ i _ => (intOf i + 1).toNat)
          case atStart => exact ⟨R.length, Nat.le_refl _, by first | rfl | go_num, Lib.hid (by rw [List.drop_length]; exact OwnsB.empty w1 _ (Nat.le_refl _)), (Below.refl _ _).alloc (Nat.le_refl _) _⟩
          case round =>
            obtain ⟨k, hk, rfl, HOO, hBB⟩ := hrel
            by_cases hk0 : 0 < k
            · obtain ⟨j, rfl⟩ : ∃ j, k = j + 1 := ⟨k - 1, by omega⟩
              rw [show (((j + 1 : Nat) : Int) - 1) = (j : Int) by omega]
              have hj : j < R.length := by omega
              have hcell := (hBB.cell (p := (⟨gR, 0, none⟩ : Addr).add j) (by rw [block_of_add]; exact hgR)).trans (HCL.out j hj)
              have hl2 : (R.drop (j + 1)).reverse.length ≤ 1000000000 := by simp; omega
              have HD := Lib.hid (rev_snocB hj)
              have HY : Hid (((R[j]).toNat : Int) = ((R[j]).toNat : Int)) := Lib.hid rfl
              have hji : (j : Int) < (R.length : Int) := by omega
              rw [show (⟨gR, 0, none⟩ : Addr).add j = ⟨gR, j, none⟩ by unfold Addr.add; by_cases h : j = 0 <;> simp [h]] at hcell
              generalize hrj : R[j] = rj at *
              have rj0 : (0 : Int) ≤ (rj.toNat : Int) := by omega
              have rj1 : (rj.toNat : Int) ≤ 255 := by have := rj.toNat_lt; omega
              clear hrj
              go_wp2_with (at_builtin; refine wpList_pushB rfl _ _ rfl w1.heap.size _ (R.drop (j + 1)).reverse rfl HOO.out _ rj HY.out rfl hl2 hBB.size ?_; intro v3 w3 o3 hg3 _)
              have hB3 := hBB.grown hg3 hBB.size (fun k hk => (HOO.out.lt k hk).1)
              rw [HD.out] at o3
              have HO3 := Lib.hid o3
              clear o3 hg3
              go_wp2_with fail
              go_roundw
              case rel => exact ⟨j, by omega, rfl, HO3, hB3⟩
              case measure => simp [intOf] <;> omega
            · obtain rfl : k = 0 := by omega
              rw [show (((0 : Nat) : Int) - 1) = (-1 : Int) by omega]
              have ho := HOO.out
              rw [List.drop_zero] at ho
              obtain ⟨Q, hQ⟩ : ∃ Q, Q = R.reverse := ⟨_, rfl⟩
              have HQ : Hid (str (Lib.itoa n) = str Q ∧ 0 < Q.length) := Lib.hid ⟨by rw [HS.out, hQ], by rw [hQ, List.length_reverse]; exact hRpos⟩
              rw [← hQ] at ho
              clear hQ
              rcases ho.shape with ⟨_, e⟩ | ⟨g9, c9, rfl, _⟩
              · have := congrArg List.length e
                rw [List.length_nil] at this
                have := HQ.out.2
                omega
              have hcv := conv_back ho
              clear ho HOO HS
              go_wp2_with fail
              go_ret
              exact ⟨ret_str HQ.out.1.symm, hB1.trans (hBB.mono (by have := hB1.size; omega))⟩
        · have HR : Hid (pre = R) := Lib.hid (by rw [hR, HL.out]; unfold decR; rw [if_neg hneg, List.append_nil])
          have HO1 := Lib.hid (show OwnsB wr w.heap.size _ R by rw [← HR.out]; exact HO.out)
          have hB1 := hB
          clear hR
          obtain ⟨w1, rfl⟩ : ∃ w1 : World, w1 = wr := ⟨_, rfl⟩
          rcases HO1.out.shape with ⟨_, e⟩ | ⟨gR, cR, rfl, _, hgR, hncR, hcmR, hclR⟩
          · have := congrArg List.length e
            rw [List.length_nil] at this
            omega
          unfold maxLen at hcmR
          have HCL := Lib.hid hclR
          clear hclR
          have hlen1 : R.length ≤ 22 := hRL
          go_wp2_with fail
          go_loopw [6, 7] (fun v i wr => ∃ k : Nat, k ≤ R.length ∧ i = .int .i64 ((k : Int) - 1) ∧ Hid (OwnsB wr w1.heap.size v (R.drop k).reverse) ∧ Below w1.heap.size w1 wr) (fun _ i _ => (intOf i + 1).toNat)
          case atStart => exact ⟨R.length, Nat.le_refl _, by first | rfl | go_num, Lib.hid (by rw [List.drop_length]; exact OwnsB.empty w1 _ (Nat.le_refl _)), (Below.refl _ _).alloc (Nat.le_refl _) _⟩
          case round =>
            obtain ⟨k, hk, rfl, HOO, hBB⟩ := hrel
            by_cases hk0 : 0 < k
            · obtain ⟨j, rfl⟩ : ∃ j, k = j + 1 := ⟨k - 1, by omega⟩
              rw [show (((j + 1 : Nat) : Int) - 1) = (j : Int) by omega]
              have hj : j < R.length := by omega
              have hcell := (hBB.cell (p := (⟨gR, 0, none⟩ : Addr).add j) (by rw [block_of_add]; exact hgR)).trans (HCL.out j hj)
              have hl2 : (R.drop (j + 1)).reverse.length ≤ 1000000000 := by simp; omega
              have HD := Lib.hid (rev_snocB hj)
              have HY : Hid (((R[j]).toNat : Int) = ((R[j]).toNat : Int)) := Lib.hid rfl
              have hji : (j : Int) < (R.length : Int) := by omega
              rw [show (⟨gR, 0, none⟩ : Addr).add j = ⟨gR, j, none⟩ by unfold Addr.add; by_cases h : j = 0 <;> simp [h]] at hcell
              generalize hrj : R[j] = rj at *
              have rj0 : (0 : Int) ≤ (rj.toNat : Int) := by omega
              have rj1 : (rj.toNat : Int) ≤ 255 := by have := rj.toNat_lt; omega
              clear hrj
              go_wp2_with (at_builtin; refine wpList_pushB rfl _ _ rfl w1.heap.size _ (R.drop (j + 1)).reverse rfl HOO.out _ rj HY.out rfl hl2 hBB.size ?_; intro v3 w3 o3 hg3 _)
              have hB3 := hBB.grown hg3 hBB.size (fun k hk => (HOO.out.lt k hk).1)
              rw [HD.out] at o3
              have HO3 := Lib.hid o3
              clear o3 hg3
              go_wp2_with fail
              go_roundw
              case rel => exact ⟨j, by omega, rfl, HO3, hB3⟩
              case measure => simp [intOf] <;> omega
            · obtain rfl : k = 0 := by omega
              rw [show (((0 : Nat) : Int) - 1) = (-1 : Int) by omega]
              have ho := HOO.out
              rw [List.drop_zero] at ho
              obtain ⟨Q, hQ⟩ : ∃ Q, Q = R.reverse := ⟨_, rfl⟩
              have HQ : Hid (str (Lib.itoa n) = str Q ∧ 0 < Q.length) := Lib.hid ⟨by rw [HS.out, hQ], by rw [hQ, List.length_reverse]; exact hRpos⟩
              rw [← hQ] at ho
              clear hQ
              rcases ho.shape with ⟨_, e⟩ | ⟨g9, c9, rfl, _⟩
              · have := congrArg List.length e
                rw [List.length_nil] at this
                have := HQ.out.2
                omega
              have hcv := conv_back ho
              clear ho HOO HS
              go_wp2_with fail
              go_ret
              exact ⟨ret_str HQ.out.1.symm, hB1.trans (hBB.mono (by have := hB1.size; omega))⟩
      · obtain ⟨x, hx⟩ : ∃ x : Nat, x = u % 10 := ⟨_, rfl⟩
        obtain ⟨y, hy⟩ : ∃ y : Nat, y = u / 10 := ⟨_, rfl⟩
        have hx9 : x < 10 := by omega
        have HPN : Hid ((pre ++ [dchr x]) ++ digs y = digs n.natAbs) := Lib.hid (by rw [← HP.out, ← hu, digs_pos hu0, hx, hy, List.append_assoc]; rfl)
        have HDC := Lib.hid (dchr_int hx9)
        have hyl : y ≤ u := by omega
        have hylt : y < u := by omega
        have HPL : Hid (pre.length + (digs u).length = (digs n.natAbs).length ∧ (digs n.natAbs).length ≤ 21 ∧ 0 < (digs u).length) := Lib.hid (by
          exact ⟨by rw [← HP.out, ← hu, List.length_append], digs_bd h0 h1, by rw [digs_pos hu0]; simp⟩)
        have hmn : (m != 0) = true := by rw [bne_iff_ne]; omega
        have hmn2 : (m == 0) = false := by rw [beq_eq_false_iff_ne]; omega
        rcases hm with hm | hm
        · obtain rfl : m = (u : Int) := by omega
          have e1 : (u : Int) % 10 = (x : Int) := by omega
          have e2 : (u : Int) / 10 = (y : Int) := by omega
          have e3 : decide ((x : Int) < 0) = false := decide_eq_false (by omega)
          clear hx hy hu
          go_wp2_with (at_builtin; refine wpList_pushB rfl (.tmp 22) (.tmp 26) rfl w.heap.size _ pre rfl HO.out _ (dchr x) (by have := dchr_int hx9; omega) rfl (by omega) hB.size ?_; intro v1 w1 o1 hg1 _; have hB1 := hB.grown hg1 hB.size (fun k hk => (HO.out.lt k hk).1); have HO1 := Lib.hid o1; clear o1 hg1)
          go_roundw
          case rel => exact ⟨(y : Int), pre ++ [dchr x], by first | rfl | go_num, Lib.hid (by rw [show ((y : Int) : Int).natAbs = y by omega]; exact HPN.out), by omega, by have := HPL.out; simp; omega, HO1, hB1⟩
          case measure => simp [intOf] <;> omega
        · obtain rfl : m = -(u : Int) := by omega
          have e1 : (-(u : Int)).tmod 10 = -(x : Int) := by
            rw [Int.neg_tmod, Int.tmod_eq_emod_of_nonneg (by omega)]; omega
          have e2 : (-(u : Int)).tdiv 10 = -(y : Int) := by
            rw [Int.neg_tdiv, Int.tdiv_eq_ediv_of_nonneg (by omega)]; omega
          clear hx hy hu
          by_cases hx0 : 0 < x
          · have e3 : decide (-(x : Int) < 0) = true := decide_eq_true (by omega)
            have e4 : (0 : Int) < (x : Int) := by omega
            go_wp2_with (at_builtin; refine wpList_pushB rfl (.tmp 22) (.tmp 26) rfl w.heap.size _ pre rfl HO.out _ (dchr x) (by have := dchr_int hx9; omega) rfl (by omega) hB.size ?_; intro v1 w1 o1 hg1 _; have hB1 := hB.grown hg1 hB.size (fun k hk => (HO.out.lt k hk).1); have HO1 := Lib.hid o1; clear o1 hg1)
            go_roundw
            case rel => exact ⟨-(y : Int), pre ++ [dchr x], by first | rfl | go_num, Lib.hid (by rw [show (-(y : Int) : Int).natAbs = y by omega]; exact HPN.out), by omega, by have := HPL.out; simp; omega, HO1, hB1⟩
            case measure => simp [intOf] <;> omega
          · have e3 : decide (-(x : Int) < 0) = false := decide_eq_false (by omega)
            have e4 : decide ((0 : Int) < (x : Int)) = false := decide_eq_false (by omega)
            have e5 : decide (0 < x) = false := decide_eq_false hx0
            have HX0 : Hid (x = 0) := Lib.hid (by omega)
            clear hx0
            go_wp2_with (at_builtin; refine wpList_pushB rfl (.tmp 22) (.tmp 26) rfl w.heap.size _ pre rfl HO.out _ (dchr x) (by have h8 := dchr_int hx9; have h7 := HX0.out; omega) rfl (by omega) hB.size ?_; intro v1 w1 o1 hg1 _; have hB1 := hB.grown hg1 hB.size (fun k hk => (HO.out.lt k hk).1); have HO1 := Lib.hid o1; clear o1 hg1)
            go_roundw
            case rel => exact ⟨-(y : Int), pre ++ [dchr x], by first | rfl | go_num, Lib.hid (by rw [show (-(y : Int) : Int).natAbs = y by omega]; exact HPN.out), by omega, by have := HPL.out; simp; omega, HO1, hB1⟩
            case measure => simp [intOf] <;> omega
theorem below_grow (w : World) (os : Array Obj) : Below w.heap.size w (Sort.grow w os) :=
  ⟨rfl, rfl, rfl, by simp [Sort.grow], fun k hk => by unfold Sort.grow; simp [Array.getElem?_append_left hk]⟩
/-- The table of powers. -/
def Pow (w : World) : Prop := Lib.TabIs Tryd.prog w "internal/strconv.uint64pow10" .u64 Lib.pow10Tab
theorem gPow : Tryd.prog.globalNamed "internal/strconv.uint64pow10" = some 1 := by kernel_rfl
theorem Pow.next {w w' : World} (h : Pow w) (hb : Below w.heap.size w w') : Pow w' := tab_stays gPow h hb (Nat.le_refl _)
theorem implDecimal_any (n : Int) (w : World) (hp : Pow w) (h0 : -9223372036854775808 ≤ n) (h1 : n ≤ 9223372036854775807) :
    Calls Tryd.prog 30 #[.int .i64 n] w fun e w' => e = .returned (.string (str (Lib.itoa n))) ∧ Below w.heap.size w w' := by
  go_enter Tryd.func30, Tryd.ntmps30
  go_wp2_with (go_at_call 37; refine (Tryd.strconv_FormatInt_10 n h0 h1 _ hp).mono ?_; rintro e w' ⟨rfl, k, os, rfl⟩)
  go_ret
  refine ⟨rfl, ?_⟩
  exact (below_drewN (Below.refl _ _) k).trans ((below_grow (w.drewN k) os).mono (by simp))
end Go.Proofs.YtcjcbgmgepohaaaDoor
