/- Shortlex order, reversing, ranks: contracts and what the laws need. No condition beyond the stated bounds. -/
import Derived.Test.YtlkmboolgfkcdaaLists
namespace Go.Proofs.Ytlkmboolgfkcdaa
open Go.RowKit
theorem reversed_any (v : Value) (l : List Int) (w : World) (h : Sl w v l) (hn : l.length ≤ 4000000) :
    Calls Try.prog 92 #[v] w (RetRow w l.reverse) := by
  go_enter Try.func92, Try.ntmps92
  go_wp2_with fail
  refine (clone_own _ _ _ h hn).mono ?_
  rintro e w1 ⟨r, rfl, o1, hb1⟩
  go_wp2_with fail
  refine (reverse_own _ _ _ _ o1 (by omega)).mono ?_
  rintro e w2 ⟨rfl, o2, hg2⟩
  have hB := (hb1.grown hg2 hb1.size (fun k hk => (o1.lt k hk).1))
  go_wp2_with fail
  go_ret
  exact ⟨_, rfl, .inl o2, hB⟩
theorem l03Reverse_own (v : Value) (l : List Int) (w : World) (h : Sl w v l) (hn : l.length ≤ 4000000) :
    Calls Try.prog 90 #[v] w (RetOwn w l.reverse) := by
  obtain ⟨A, c, rfl, hlc, hcm, hr⟩ := h
  have HR := Lib.hid hr
  clear hr
  have HO := Lib.hid (Owns.empty w w.heap.size (Nat.le_refl _))
  have hB0 : Below w.heap.size w (w.alloc (.cells #[] 2)) := (Below.refl _ _).alloc (Nat.le_refl _) _
  go_enter Try.func90, Try.ntmps90
  go_wp2
  go_loopw [3, 4] (fun u i wr => ∃ k : Nat, k ≤ l.length ∧ i = .int .i64 ((k : Int) - 1) ∧ Hid (Owns wr w.heap.size u (l.drop k).reverse) ∧ Below w.heap.size w wr) (fun _ i _ => (intOf i + 1).toNat)
  case atStart => exact ⟨l.length, Nat.le_refl _, rfl, Lib.hid (by rw [List.drop_length]; exact HO.out), hB0⟩
  case round =>
    clear HO hB0
    obtain ⟨k, hk, rfl, HO, hB⟩ := hrel
    by_cases h0 : 0 < k
    · obtain ⟨j, rfl⟩ : ∃ j, k = j + 1 := ⟨k - 1, by omega⟩
      rw [show (((j + 1 : Nat) : Int) - 1) = (j : Int) by omega]
      have hj : j < l.length := by omega
      obtain ⟨ad, rfl, hb1, hc1⟩ := HR.out.at_ hj
      have hcell := (hB.cell (p := ad.add j) (by rw [block_of_add]; exact hb1)).trans hc1
      have hl2 : (l.drop (j + 1)).reverse.length ≤ 1000000000 := by simp; omega
      have HD := Lib.hid (reverse_snoc hj)
      clear hc1
      go_wp2_with (at_builtin; refine wpList_push rfl _ _ rfl w.heap.size _ (l.drop (j + 1)).reverse rfl HO.out _ rfl hl2 hB.size ?_; intro v1 w1 o1 hg1 _)
      have hB1 := hB.grown hg1 hB.size (fun k hk => (HO.out.lt k hk).1)
      rw [HD.out] at o1
      have HO1 := Lib.hid o1
      clear o1 hg1
      go_wp2
      go_roundw
      case rel => exact ⟨j, by omega, rfl, HO1, hB1⟩
      case measure => simp [intOf] <;> omega
    · obtain rfl : k = 0 := by omega
      rw [show (((0 : Nat) : Int) - 1) = (-1 : Int) by omega]
      go_wp2
      go_ret
      exact ⟨_, rfl, HO.out, hB⟩
theorem l03Reverse_any (v : Value) (l : List Int) (w : World) (h : Sl w v l) (hn : l.length ≤ 4000000) :
    Calls Try.prog 90 #[v] w (RetRow w l.reverse) := (l03Reverse_own v l w h hn).mono fun _ _ ⟨r, a, b, c⟩ => ⟨r, a, .inl b, c⟩
end Go.Proofs.Ytlkmboolgfkcdaa
