/- Naturals: the contracts of l02Of, l02Trim, trimmed, carried, naturalOf, NaturalOf. No condition beyond the stated bounds. -/
import Derived.Test.YtipmkkojpdjgoaaDoorValid
import Derived.Test.YtipmkkojpdjgoaaDoorPlainNat
namespace Go.Proofs.YtipmkkojpdjgoaaDoor
open Go.RowKit
/-- A row cut at its end. -/
theorem Owns.cut {w : World} {base c : Nat} {A : Option Addr} {l : List Int} (h : Owns w base (.slice A l.length c) l) {k : Nat} (hk : k ≤ l.length) : Owns w base (.slice A k c) (l.take k) := by
  have hl : (l.take k).length = k := by rw [List.length_take]; omega
  refine ⟨by simp, ?_⟩
  rcases h.2 with ⟨e, hn⟩ | ⟨g, cap, cur, e, hb, hg, hnc, hcm, hcs, htake⟩
  · simp only [Value.slice.injEq] at e
    obtain ⟨rfl, _, rfl⟩ := e
    exact .inl ⟨by congr 1; omega, by omega⟩
  · simp only [Value.slice.injEq] at e
    obtain ⟨rfl, _, rfl⟩ := e
    refine .inr ⟨g, c, cur, by rw [hl], hb, hg, by omega, hcm, hcs, ?_⟩
    rw [hl, Nat.mul_one, List.map_take, ← htake, List.take_take, Nat.mul_one, Nat.min_eq_left hk]
theorem Owns.len' {w : World} {base n c : Nat} {A : Option Addr} {l : List Int} (h : Owns w base (.slice A n c) l) : l.length = n := by
  obtain ⟨A', c', e, _⟩ := h.shape
  simp only [Value.slice.injEq] at e
  exact e.2.1.symm

theorem trimmed_any (A : Option Addr) (c : Nat) (l : List Int) (w : World) (hr : Ints w w.heap.size A l.length l) (hlc : l.length ≤ c) (hcm : c ≤ maxLen) :
    Calls Tryd.prog 59 #[.slice A l.length c] w fun e w' => e = .returned (.slice A (trim l).length c) ∧ w = w' := by
  have HR := Lib.hid hr
  clear hr
  unfold maxLen at hcm
  go_enter Tryd.func59, Tryd.ntmps59
  go_wp2
  go_loop [0] (fun t => ∃ k : Nat, k ≤ l.length ∧ Hid (trim (l.take k) = trim l) ∧ t = .slice A k c) (fun t => match t with | .slice _ k _ => k | _ => 0)
  case atStart => exact ⟨l.length, Nat.le_refl _, by rw [List.take_length]; exact Lib.hid rfl, rfl⟩
  case round =>
    obtain ⟨k, hk, H, rfl⟩ := hrel
    by_cases h0 : 0 < k
    · obtain ⟨j, rfl⟩ : ∃ j, k = j + 1 := ⟨k - 1, by omega⟩
      have hj : j < l.length := by omega
      obtain ⟨ad, rfl, hb1, hc1⟩ := HR.out.at_ hj
      by_cases hz : geti l j = 0
      · have hzb : (geti l j == 0) = true := by simpa using hz
        have HN : Hid (trim (l.take j) = trim l) := Lib.hid (by rw [← H.out, trim_step hj hz])
        clear hz
        go_wp2
        go_round
        case rel => exact ⟨j, by omega, HN, rfl⟩
        case measure => simp
      · have hzb : (geti l j == 0) = false := by simpa using hz
        have HN : Hid ((trim l).length = j + 1) := Lib.hid (by rw [← H.out, trim_stop hj hz, List.length_take]; omega)
        clear hz
        go_wp2
        go_ret
        exact ⟨by rw [HN.out]; rfl, rfl⟩
    · obtain rfl : k = 0 := by omega
      have HN : Hid ((trim l).length = 0) := Lib.hid (by rw [← H.out]; rfl)
      go_wp2
      go_ret
      exact ⟨by rw [HN.out]; rfl, rfl⟩
theorem trimmed_own (v : Value) (base : Nat) (l : List Int) (w : World) (h : Owns w base v l) :
    Calls Tryd.prog 59 #[v] w fun e w' => (∃ r, e = .returned r ∧ Owns w base r (trim l) ∧ r.ownBlock = v.ownBlock) ∧ w = w' := by
  obtain ⟨A, c, rfl, h1, h2, h3⟩ := h.shape
  refine (trimmed_any A c l w h3 h1 h2).mono ?_
  rintro e w' ⟨rfl, rfl⟩
  refine ⟨⟨_, rfl, ?_, by cases A <;> rfl⟩, rfl⟩
  have := h.cut (trim_len l)
  rwa [← trim_take] at this
end Go.Proofs.YtipmkkojpdjgoaaDoor
