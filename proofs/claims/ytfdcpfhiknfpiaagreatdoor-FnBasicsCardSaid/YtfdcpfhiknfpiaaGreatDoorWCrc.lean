/- The walks of FnExactCrc16 and of what it calls. No condition. -/
import Derived.Test.YtfdcpfhiknfpiaaGreatDoorWStr
import Derived.Laws.BitsAllLaws
import Derived.Laws.BitsLemmas
namespace Go.Proofs.YtfdcpfhiknfpiaaGreatDoor
open Go.RowKit
theorem ofInt_i64 (a : Nat) (ha : a < 9223372036854775808) : (BitVec.ofInt 64 (a : Int)).toNat = a := by
  rw [BitVec.ofInt_natCast, BitVec.toNat_ofNat]; exact Nat.mod_eq_of_lt (by omega)
theorem i64_and_nat (a b : Nat) (ha : a < 9223372036854775808) (hb : b < 9223372036854775808) : bits .and .i64 (a : Int) (b : Int) = ((a &&& b : Nat) : Int) := by
  have hx : a &&& b < 2 ^ 63 := Nat.and_lt_two_pow _ (by omega)
  show IntKind.i64.wrap ((BitVec.ofInt 64 (a : Int) &&& BitVec.ofInt 64 (b : Int)).toNat : Int) = _
  rw [BitVec.toNat_and, ofInt_i64 a ha, ofInt_i64 b hb, IntKind.wrap_i64]
  omega
theorem i64_xor_nat (a b : Nat) (ha : a < 9223372036854775808) (hb : b < 9223372036854775808) : bits .xor .i64 (a : Int) (b : Int) = ((a ^^^ b : Nat) : Int) := by
  have hx : a ^^^ b < 2 ^ 63 := Nat.xor_lt_two_pow (by omega) (by omega)
  show IntKind.i64.wrap ((BitVec.ofInt 64 (a : Int) ^^^ BitVec.ofInt 64 (b : Int)).toNat : Int) = _
  rw [BitVec.toNat_xor, ofInt_i64 a ha, ofInt_i64 b hb, IntKind.wrap_i64]
  omega
theorem xor16 {x y : Int} (h0 : 0 ≤ x) (h1 : x ≤ 65535) (h2 : 0 ≤ y) (h3 : y ≤ 65535) : 0 ≤ bits .xor .i64 x y ∧ bits .xor .i64 x y ≤ 65535 := by
  obtain ⟨a, rfl⟩ := Int.eq_ofNat_of_zero_le h0
  obtain ⟨b, rfl⟩ := Int.eq_ofNat_of_zero_le h2
  rw [i64_xor_nat a b (by omega) (by omega)]
  have : a ^^^ b < 2 ^ 16 := Nat.xor_lt_two_pow (by omega) (by omega)
  omega
theorem and16 {x : Int} (h0 : 0 ≤ x) (h1 : x ≤ 131070) : 0 ≤ bits .and .i64 x 65535 ∧ bits .and .i64 x 65535 ≤ 65535 := by
  obtain ⟨a, rfl⟩ := Int.eq_ofNat_of_zero_le h0
  have e := i64_and_nat a 65535 (by omega) (by omega)
  have : a &&& 65535 ≤ 65535 := Nat.and_le_right
  rw [show ((65535 : Nat) : Int) = 65535 from rfl] at e
  rw [e]
  omega
/-- A byte comes into the check value. -/
def crcX (c b : Int) : Int := bits .xor .i64 c (b * 256)
/-- One bit of the check value. -/
def crcBit (x : Int) : Int := if 65535 < x * 2 then bits .xor .i64 (bits .and .i64 (x * 2) 65535) 4129 else x * 2
def crcBits : Nat → Int → Int
  | 0, x => x
  | n + 1, x => crcBits n (crcBit x)
/-- The check value of bytes. -/
def crcL (l : List UInt8) (c : Int) : Int := l.foldl (fun c b => crcBits 8 (crcX c (b.toNat : Int))) c
theorem crcX_bd {c b : Int} (h0 : 0 ≤ c) (h1 : c ≤ 65535) (h2 : 0 ≤ b) (h3 : b ≤ 255) : 0 ≤ crcX c b ∧ crcX c b ≤ 65535 := xor16 h0 h1 (by omega) (by omega)
theorem crcBit_bd {x : Int} (h0 : 0 ≤ x) (h1 : x ≤ 65535) : 0 ≤ crcBit x ∧ crcBit x ≤ 65535 := by
  unfold crcBit
  by_cases h : 65535 < x * 2
  · rw [if_pos h]
    have := and16 (x := x * 2) (by omega) (by omega)
    exact xor16 this.1 this.2 (by omega) (by omega)
  · rw [if_neg h]; omega
theorem crcBits_bd : ∀ (n : Nat) {x : Int}, 0 ≤ x → x ≤ 65535 → 0 ≤ crcBits n x ∧ crcBits n x ≤ 65535
  | 0, _, h0, h1 => ⟨h0, h1⟩
  | n + 1, _, h0, h1 => crcBits_bd n (crcBit_bd h0 h1).1 (crcBit_bd h0 h1).2
theorem crcL_snoc (s : ByteArray) (k : Nat) (h : k < s.size) (c : Int) : crcL (s.data.toList.take (k + 1)) c = crcBits 8 (crcX (crcL (s.data.toList.take k) c) (s[k].toNat : Int)) := by
  rw [List.take_succ_eq_append_getElem (by simpa using h)]
  unfold crcL
  rw [List.foldl_append]
  rfl
theorem crcL_bd (l : List UInt8) : ∀ {c : Int}, 0 ≤ c → c ≤ 65535 → 0 ≤ crcL l c ∧ crcL l c ≤ 65535 := by
  induction l with
  | nil => intro c h0 h1; exact ⟨h0, h1⟩
  | cons b l ih =>
    intro c h0 h1
    have hb := UInt8.toNat_lt b
    have h2 := crcX_bd (b := (b.toNat : Int)) h0 h1 (by omega) (by omega)
    have h3 := crcBits_bd 8 h2.1 h2.2
    exact ih h3.1 h3.2
theorem implCrc16_yes (s : ByteArray) (c0 : Int) (w : World) (hs : s.size ≤ maxLen) (hin : inB c0 0 65535 = true) :
    Calls Tryz.prog 12 #[.string s, .int .i64 c0] w fun e w' => e = .returned (.int .i64 (crcL s.data.toList c0)) ∧ w = w' := by
  unfold maxLen at hs
  obtain ⟨hc0, hc⟩ := inB_true.1 hin
  go_enter Tryz.func12, Tryz.ntmps12
  go_wp2_with (go_at_call 25; refine (within_any _ _ _ _).mono ?_; rintro e w' ⟨rfl, rfl⟩)
  go_loop [5, 6] (fun t i => ∃ (k : Nat) (c : Int), k ≤ s.size ∧ 0 ≤ c ∧ c ≤ 65535 ∧ Hid (c = crcL (s.data.toList.take k) c0) ∧ i = .int .i64 k ∧ t = .int .i64 c) (fun _ i => s.size - (intOf i).toNat)
  case atStart => exact ⟨0, c0, Nat.zero_le _, hc0, hc, rfl, rfl, rfl⟩
  case round =>
    obtain ⟨k, c, hk, hc1, hc2, H, rfl, rfl⟩ := hrel
    by_cases hlt : k < s.size
    · have hb : (s[k].toNat : Int) ≤ 255 := by have := UInt8.toNat_lt s[k]; omega
      have HS : Hid (crcL (s.data.toList.take (k + 1)) c0 = crcBits 8 (bits .xor .i64 c ((s[k].toNat : Int) * 256))) := Lib.hid (by rw [crcL_snoc s k hlt, ← H.out]; rfl)
      have hX := Lib.hid (crcX_bd hc1 hc2 (show (0 : Int) ≤ (s[k].toNat : Int) by omega) hb)
      go_wp2
      go_loop [5, 24] (fun t i => ∃ (j : Nat) (x : Int), j ≤ 8 ∧ 0 ≤ x ∧ x ≤ 65535 ∧ Hid (crcBits (8 - j) x = crcL (s.data.toList.take (k + 1)) c0) ∧ i = .int .i64 j ∧ t = .int .i64 x) (fun _ i => 8 - (intOf i).toNat)
      case atStart => exact ⟨0, _, Nat.zero_le _, hX.out.1, hX.out.2, HS.out.symm, rfl, rfl⟩
      case round =>
        obtain ⟨j, x, hj, hx1, hx2, HJ, rfl, rfl⟩ := hrel
        clear HS hX
        by_cases hj8 : j < 8
        · have HB := Lib.hid (crcBit_bd hx1 hx2)
          have HN : Hid (crcBits (8 - (j + 1)) (crcBit x) = crcL (s.data.toList.take (k + 1)) c0) := Lib.hid (by
            rw [← HJ.out, show 8 - j = (8 - (j + 1)) + 1 by omega]; rfl)
          by_cases hbig : 65535 < x * 2
          · have HE : Hid (crcBit x = bits .xor .i64 (bits .and .i64 (x * 2) 65535) 4129) := Lib.hid (by unfold crcBit; rw [if_pos hbig])
            go_wp2
            go_round
            case rel => exact ⟨j + 1, _, by omega, by rw [← HE.out]; exact HB.out.1, by rw [← HE.out]; exact HB.out.2, by rw [← HE.out]; exact HN.out, by go_num, rfl⟩
            case measure => simp [intOf] <;> omega
          · have HE : Hid (crcBit x = x * 2) := Lib.hid (by unfold crcBit; rw [if_neg hbig])
            go_wp2
            go_round
            case rel => exact ⟨j + 1, _, by omega, by rw [← HE.out]; exact HB.out.1, by rw [← HE.out]; exact HB.out.2, by rw [← HE.out]; exact HN.out, by go_num, rfl⟩
            case measure => simp [intOf] <;> omega
        · obtain rfl : j = 8 := by omega
          go_wp2
          go_round
          case rel => exact ⟨k + 1, x, by omega, hx1, hx2, HJ.out, by go_num, rfl⟩
          case measure => simp [intOf] <;> omega
    · have HR : Hid (c = crcL s.data.toList c0) := Lib.hid (by rw [H.out, List.take_of_length_le (by simp; omega)])
      go_wp2
      go_ret
      exact ⟨ret_int HR.out, rfl⟩
theorem implCrc16_no (s : ByteArray) (c0 : Int) (w : World) (hin : inB c0 0 65535 = false) :
    Calls Tryz.prog 12 #[.string s, .int .i64 c0] w fun e w' => e = .returned (.int .i64 0) ∧ w = w' := by
  go_enter Tryz.func12, Tryz.ntmps12
  go_wp2_with (go_at_call 25; refine (within_any _ _ _ _).mono ?_; rintro e w' ⟨rfl, rfl⟩)
  go_ret
  exact ⟨rfl, rfl⟩
end Go.Proofs.YtfdcpfhiknfpiaaGreatDoor
