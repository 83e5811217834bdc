/- FnBasics: the statement's own helpers. No condition. -/
import Derived.Test.YtfdcpfhiknfpiaaGreatDoorOpenB
import Derived.Test.YtfdcpfhiknfpiaaGreatDoorNums
namespace Go.Proofs.YtfdcpfhiknfpiaaGreatDoor
open Go.RowKit
theorem r8Long_any (A B : Option Addr) (n m c d : Nat) (w : World) :
    Calls Tryz.prog 4 #[.slice A n c, .slice B m d] w fun e w' => e = .returned (.bool (decide ((1048576 : Int) < (n : Int)) || decide ((1048576 : Int) < (m : Int)))) ∧ w = w' := by
  by_cases h : (1048576 : Int) < (n : Int)
  · have h1 : decide ((1048576 : Int) < (n : Int)) = true := decide_eq_true h
    go_enter Tryz.func4, Tryz.ntmps4
    go_wp2
    go_ret
    exact ⟨by simp [h], rfl⟩
  · have h1 : decide ((1048576 : Int) < (n : Int)) = false := decide_eq_false h
    go_enter Tryz.func4, Tryz.ntmps4
    go_wp2
    go_ret
    exact ⟨by simp [h], rfl⟩
/-- A number below m that bytes choose: what is known of it. -/
def R8 (m r : Int) : Prop := 0 ≤ r ∧ (r < m ∨ r = 0)
theorem r8At_any (A : Option Addr) (n c : Nat) (l : List Int) (k : Nat) (m : Int) (w : World) (h : BytesAt w w.heap.size A n l) (hf : FitB l) :
    Calls Tryz.prog 5 #[.slice A n c, .int .i64 (k : Int), .int .i64 m] w fun e w' => (∃ r, e = .returned (.int .i64 r) ∧ R8 m r) ∧ w = w' := by
  have HS := Lib.hid h
  have HF := Lib.hid hf
  clear h hf
  by_cases h1 : m ≤ 1
  · have h2 : decide (m ≤ 1) = true := decide_eq_true h1
    go_enter Tryz.func5, Tryz.ntmps5
    go_wp2
    go_ret
    exact ⟨⟨0, rfl, by omega, .inr rfl⟩, rfl⟩
  · have h2 : decide (m ≤ 1) = false := decide_eq_false h1
    by_cases h3 : (n : Int) ≤ (k : Int)
    · have h4 : decide ((n : Int) ≤ (k : Int)) = true := decide_eq_true h3
      go_enter Tryz.func5, Tryz.ntmps5
      go_wp2
      go_ret
      exact ⟨⟨0, rfl, by omega, .inr rfl⟩, rfl⟩
    · have h4 : decide ((n : Int) ≤ (k : Int)) = false := decide_eq_false h3
      have hk : k < n := by omega
      obtain ⟨ad, rfl, hbk, hc⟩ := HS.out.at_ hk
      obtain ⟨x0, x1⟩ := HF.out _ (geti_mem (show k < l.length by rw [HS.out.1]; exact hk))
      obtain ⟨x, hx⟩ : ∃ x, geti l k = x := ⟨_, rfl⟩
      rw [hx] at hc x0 x1
      have hm0 : m ≠ 0 := by omega
      have hmb : (m == 0) = false := by rw [beq_eq_false_iff_ne]; exact hm0
      have hki : (k : Int) < (n : Int) := by omega
      have hk0 : (0 : Int) ≤ (k : Int) := by omega
      clear hx
      have HR : Hid (R8 m (x % m)) := Lib.hid ⟨Int.emod_nonneg x hm0, .inl (Int.emod_lt_of_pos x (by omega))⟩
      go_enter Tryz.func5, Tryz.ntmps5
      go_wp2
      go_ret
      exact ⟨⟨_, rfl, by first | exact HR.out | (rw [Int.tmod_eq_emod_of_nonneg (by omega)]; exact HR.out)⟩, rfl⟩
theorem r8Same_any (v1 v2 : Value) (l1 l2 : List Int) (w : World) (h1 : Sl w v1 l1) (h2 : Sl w v2 l2) :
    Calls Tryz.prog 10 #[v1, v2] w fun e w' => e = .returned (.bool (decide (l1 = l2))) ∧ Below w.heap.size w w' := by
  obtain ⟨A1, c1, rfl, hlc1, hcm1, hr1⟩ := h1
  obtain ⟨A2, c2, rfl, hlc2, hcm2, hr2⟩ := h2
  have HR1 := Lib.hid hr1
  have HR2 := Lib.hid hr2
  clear hr1 hr2
  unfold maxLen at hcm1 hcm2
  by_cases hl : l1.length = l2.length
  · have hlb : ((l1.length : Int) != (l2.length : Int)) = false := by simp [hl]
    have hlb2 : (l1.length != l2.length) = false := by simp [hl]
    have HL := Lib.hid hl
    have hle : l1.length ≤ l2.length := by omega
    clear hl
    go_enter Tryz.func10, Tryz.ntmps10
    go_wp2
    go_loopw [5] (fun i wr => ∃ k : Nat, k ≤ l1.length ∧ i = .int .i64 k ∧ Hid (l1.take k = l2.take k) ∧ Below w.heap.size w wr) (fun i _ => l1.length - (intOf i).toNat)
    case atStart => exact ⟨0, Nat.zero_le _, rfl, rfl, Below.refl _ _⟩
    case round =>
      obtain ⟨k, hk, rfl, HK, hb⟩ := hrel
      by_cases hlt : k < l1.length
      · have hlt2 : k < l2.length := by omega
        obtain ⟨a1, rfl, hb1, hc1⟩ := HR1.out.at_ hlt
        obtain ⟨a2, rfl, hb2, hc2⟩ := HR2.out.at_ hlt2
        have hcell1 := (hb.cell (p := a1.add k) (by rw [block_of_add]; exact hb1)).trans hc1
        have hcell2 := (hb.cell (p := a2.add k) (by rw [block_of_add]; exact hb2)).trans hc2
        clear hc1 hc2
        have hi1 : (k : Int) < (l1.length : Int) := by omega
        have hi2 : (k : Int) < (l2.length : Int) := by omega
        by_cases he : geti l1 k = geti l2 k
        · have heb : (geti l1 k != geti l2 k) = false := by simp [he]
          have HN : Hid (l1.take (k + 1) = l2.take (k + 1)) := Lib.hid (by
            rw [take_snoc hlt, take_snoc hlt2, HK.out, he])
          clear he
          go_wp2
          go_quiet (fail)
          go_wp2
          go_roundw
          case rel => exact ⟨k + 1, by omega, by go_num, HN, by first | exact hb | exact hb.drew | exact below_drewN hb _⟩
          case measure => simp [intOf] <;> omega
        · have heb : (geti l1 k != geti l2 k) = true := by simpa using he
          have HN : Hid (¬ l1 = l2) := Lib.hid (fun e => he (by rw [e]))
          clear he
          go_wp2
          go_quiet (fail)
          go_wp2
          go_ret
          exact ⟨ret_bool (decide_eq_false HN.out).symm, by first | exact hb | exact hb.drew | exact below_drewN hb _⟩
      · have HN : Hid (l1 = l2) := Lib.hid (by
          have := HK.out
          have e1 := HL.out
          rw [List.take_of_length_le (by omega), List.take_of_length_le (by omega)] at this
          exact this)
        go_wp2
        go_ret
        exact ⟨ret_bool (decide_eq_true HN.out).symm, hb⟩
  · have hlb : ((l1.length : Int) != (l2.length : Int)) = true := by simp; omega
    have hlb2 : (l1.length != l2.length) = true := by simpa using hl
    have HN : Hid (¬ l1 = l2) := Lib.hid (fun e => hl (by rw [e]))
    clear hl
    go_enter Tryz.func10, Tryz.ntmps10
    go_wp2
    go_ret
    exact ⟨ret_bool (decide_eq_false HN.out).symm, Below.refl _ _⟩
end Go.Proofs.YtfdcpfhiknfpiaaGreatDoor
