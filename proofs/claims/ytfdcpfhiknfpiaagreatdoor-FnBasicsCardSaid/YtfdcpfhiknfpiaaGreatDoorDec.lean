/- Decimal of the reference and of the program: the decimal numeral. No condition beyond the stated bounds. -/
import Derived.Test.YtfdcpfhiknfpiaaGreatDoorBytes
import Derived.Test.YtfdcpfhiknfpiaaGreatDoorPlainDec
import Derived.Lib.SmallJoins
import Derived.Test.YtfdcpfhiknfpiaaGreatDoorShelf
namespace Go.Proofs.YtfdcpfhiknfpiaaGreatDoor
open Go.RowKit Go.Joins
theorem ret_str {a b : ByteArray} (h : a = b) : Ending.returned (.string a) = .returned (.string b) := by rw [h]
/-- A text of bytes. -/
def str (l : List UInt8) : ByteArray := ⟨l.toArray⟩
theorem str_toList (l : List UInt8) : (str l).data.toList = l := rfl
theorem str_data (s : ByteArray) : str s.data.toList = s := rfl
/-- The digits that a loop collects, the last ahead, the sign behind them. -/
def decR (n : Int) : List UInt8 := digs n.natAbs ++ (if n < 0 then [45] else [])
theorem itoa_decR {n : Int} (h : n ≠ 0) : Lib.itoa n = (decR n).reverse := by
  unfold decR Lib.itoa
  by_cases hn : n < 0
  · rw [if_pos hn, if_pos hn, List.reverse_append, decDigits_digs _ (by omega)]; rfl
  · rw [if_neg hn, if_neg hn, List.append_nil, show n.toNat = n.natAbs by omega, decDigits_digs _ (by omega)]
theorem rev_snocB {l : List UInt8} {j : Nat} (hj : j < l.length) : (l.drop (j + 1)).reverse ++ [l[j]] = (l.drop j).reverse := by
  rw [List.drop_eq_getElem_cons hj, List.reverse_cons]
theorem dchr_int {x : Nat} (h : x < 10) : (48 : Int) + (x : Int) = ((dchr x).toNat : Int) := by rw [dchr_toNat h]; omega
theorem digs_bd {n : Int} (h0 : -9223372036854775808 ≤ n) (h1 : n ≤ 9223372036854775807) : (digs n.natAbs).length ≤ 21 := by
  have := digs_len n.natAbs 20 (by have : (10 : Nat) ^ 20 = 100000000000000000000 := by decide
                                   omega)
  omega
theorem decR_len {n : Int} (h0 : -9223372036854775808 ≤ n) (h1 : n ≤ 9223372036854775807) : (decR n).length ≤ 21 := by
  unfold decR
  have := digs_len n.natAbs 20 (by have : (10 : Nat) ^ 20 = 100000000000000000000 := by decide
                                   omega)
  rw [List.length_append]
  split <;> simp <;> omega
theorem below_grow (w : World) (os : Array Obj) : Below w.heap.size w (Sort.grow w os) :=
  ⟨rfl, rfl, rfl, by simp [Sort.grow], fun k hk => by unfold Sort.grow; simp [Array.getElem?_append_left hk]⟩
/-- The table of powers. -/
def Pow (w : World) : Prop := Lib.TabIs Tryz.prog w "internal/strconv.uint64pow10" .u64 Lib.pow10Tab
theorem gPow : Tryz.prog.globalNamed "internal/strconv.uint64pow10" = some 2 := by kernel_rfl
theorem Pow.next {w w' : World} (h : Pow w) (hb : Below w.heap.size w w') : Pow w' := tab_stays gPow h hb (Nat.le_refl _)
theorem implDecimal_any (n : Int) (w : World) (hp : Pow w) (h0 : -9223372036854775808 ≤ n) (h1 : n ≤ 9223372036854775807) :
    Calls Tryz.prog 7 #[.int .i64 n] w fun e w' => e = .returned (.string (str (Lib.itoa n))) ∧ Below w.heap.size w w' := by
  go_enter Tryz.func7, Tryz.ntmps7
  go_wp2_with (go_at_call 20; refine (Tryz.strconv_FormatInt_10 n h0 h1 _ hp).mono ?_; rintro e w' ⟨rfl, k, os, rfl⟩)
  go_ret
  refine ⟨rfl, ?_⟩
  exact (below_drewN (Below.refl _ _) k).trans ((below_grow (w.drewN k) os).mono (by simp))
end Go.Proofs.YtfdcpfhiknfpiaaGreatDoor
