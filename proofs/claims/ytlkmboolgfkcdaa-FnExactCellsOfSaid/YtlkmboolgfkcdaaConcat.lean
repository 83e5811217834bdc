/- slices.Grow at nil, slices.Concat, joined. No condition beyond the stated bounds. -/
import Derived.Test.YtlkmboolgfkcdaaCat
import Derived.Test.YtlkmboolgfkcdaaMany
import Derived.Lib.AppendZerosOnto
namespace Go.Proofs.Ytlkmboolgfkcdaa
open Go.RowKit
set_option maxHeartbeats 1000000 in
set_option maxRecDepth 100000 in
theorem growNil_any (n : Nat) (w : World) (hn : n ≤ 1000000) :
    Calls Try.prog 109 #[.slice none 0 0, .int .i64 (n : Int)] w (RetOwn w []) := by
  obtain ⟨i0, hi0, hz0, hz1, hz2⟩ := info_parts Try.infoI
  have h1 : decide ((n : Int) < 0) = false := decide_eq_false (by omega)
  by_cases h0 : n = 0
  · subst h0
    go_enter Try.func109, Try.ntmps109
    go_wp2
    go_ret
    exact ⟨_, rfl, Owns.nil_ _ _, Below.refl _ _⟩
  · have h4 : (0 : Int) < (n : Int) := by omega
    have hrz : ∀ ty, (Builtin.append_ #[34, 3] ty #[.slice none 0 0, .int .i64 (n : Int)]).run Try.prog w =
        .ok (.slice (some ⟨w.heap.size, 0, none⟩) n (grownCap w n 0 2)) (w.drew.alloc (.cells (([] : List Value).toArray ++ Builtin.zeroCells (Value.int .i64 0).cells n ++ Builtin.zeroCells (Value.int .i64 0).cells (grownCap w n 0 2 - n)) 2)) := fun ty => by
      have h := Lib.run_append_grow_zeros (P := Try.prog) w 34 3 ty 2 i0 (.int .i64 0) .i64 .i64 Try.underlying34 Try.underlying3 hi0 hz0 none 0 0 [] (run_firstCells_none w.drew i0.size 0 0 0) n (by omega) (by omega) (by omega) (by omega) (by rw [hz2]; omega) (by rw [Nat.zero_add]; exact growslice_fits (by omega) (by rw [hz2]; omega))
      rw [Nat.zero_add] at h
      exact h
    have hGn : n ≤ grownCap w n 0 2 := grownCap_ge w _ _ _
    have hGm := grownCap_le_maxLen w n 0 2 (by unfold maxLen; omega)
    generalize grownCap w n 0 2 = G at *
    have hG63 : G ≤ 9223372036854775807 := by unfold maxLen at hGm; omega
    go_enter Try.func109, Try.ntmps109
    go_wp2_with (at_builtin; refine Lib.wpList_append_run _ rfl _ _ _ _ rfl _ _ rfl rfl _ _ (hrz _) ?_)
    go_ret
    refine ⟨_, rfl, ?_, ((Below.refl _ _).drew).alloc (by simp) _⟩
    exact World.ownsRow_made w.drew _ G (Nat.le_refl _) hGm (by
      simp [size_zeroCells]; omega)
/-- The first k lists, one after the other. -/
def catL (ls : List (List Int)) (k : Nat) : List Int := (ls.take k).flatten
def catN (ls : List (List Int)) (k : Nat) : Nat := (catL ls k).length
theorem catL_zero (ls : List (List Int)) : catL ls 0 = [] := rfl
theorem catL_all (ls : List (List Int)) : catL ls ls.length = ls.flatten := by unfold catL; rw [List.take_length]
theorem flat_take {ls : List (List Int)} {k : Nat} (h : k < ls.length) : catL ls (k + 1) = catL ls k ++ getl ls k := by
  unfold catL
  rw [List.take_succ_eq_append_getElem h, List.flatten_append]
  unfold getl
  rw [List.getD_eq_getElem?_getD, List.getElem?_eq_getElem h]
  simp
theorem flat_le {ls : List (List Int)} (k : Nat) : catN ls k ≤ ls.flatten.length := by
  unfold catN catL
  conv => rhs; rw [← List.take_append_drop k ls]
  rw [List.flatten_append, List.length_append]
  omega
set_option maxHeartbeats 1000000 in
theorem concat_any (v : Value) (ls : List (List Int)) (w : World) (h : SlL w v ls) (hlen : ls.flatten.length ≤ 1000000) :
    Calls Try.prog 106 #[v] w (RetOwn w ls.flatten) := by
  generalize hT : ls.flatten = T at *
  have HT := Lib.hid hT
  clear hT
  have HS := Lib.hid h
  obtain ⟨A, c, vs, rfl, hlc, hcm, h3, h4⟩ := h
  have H3 := Lib.hid h3
  have H4 := Lib.hid h4
  clear h3 h4
  unfold maxLen at hcm
  go_enter Try.func106, Try.ntmps106
  go_wp2_with fail
  go_loop [3, 11] (fun t i => ∃ k : Nat, k ≤ ls.length ∧ i = .int .i64 k ∧ t = .int .i64 (catN ls k : Int)) (fun _ i => ls.length - (intOf i).toNat)
  case atStart => exact ⟨0, Nat.zero_le _, rfl, rfl⟩
  case round =>
    obtain ⟨k, hk, rfl, rfl⟩ := hrel
    by_cases hlt : k < ls.length
    · obtain ⟨ad, rfl, hb1, hc⟩ := H3.out (by omega)
      have hck := hc k hlt
      obtain ⟨Ak, ck, ek, _, _, hrk⟩ := H4.out k hlt
      rw [ek] at hck
      have hfl : catN ls k ≤ 1000000 := by have := flat_le (ls := ls) k; rw [HT.out] at this; omega
      have hfl2 : catN ls (k + 1) ≤ 1000000 := by have := flat_le (ls := ls) (k + 1); rw [HT.out] at this; omega
      have HF : Hid (catN ls (k + 1) = catN ls k + (getl ls k).length) := Lib.hid (by unfold catN; rw [flat_take hlt, List.length_append])
      have hgl : (getl ls k).length ≤ 1000000 := by have := HF.out; omega
      have hd : decide ((catN ls k : Int) + ((getl ls k).length : Int) < 0) = false := decide_eq_false (by omega)
      clear hc hrk ek
      go_wp2_with fail
      go_round
      case rel => exact ⟨k + 1, by omega, by go_num, by rw [HF.out]; go_num⟩
      case measure => simp [intOf] <;> omega
    · obtain rfl : k = ls.length := by omega
      have HL : Hid (catN ls ls.length = T.length) := Lib.hid (by unfold catN; rw [catL_all, HT.out])
      have hlen2 : catN ls ls.length ≤ 1000000 := by rw [HL.out]; exact hlen
      go_wp2_with fail
      refine (growNil_any _ _ hlen2).mono ?_
      rintro e w1 ⟨r, rfl, ho, hb⟩
      have HO := Lib.hid ho
      clear ho
      go_wp2_with fail
      go_loopw [6, 27] (fun u i wr => ∃ k : Nat, k ≤ ls.length ∧ i = .int .i64 k ∧ Hid (Owns wr w.heap.size u (catL ls k)) ∧ Below w.heap.size w wr) (fun _ i _ => ls.length - (intOf i).toNat)
      case atStart => exact ⟨0, Nat.zero_le _, rfl, HO, hb⟩
      case round =>
        clear HO hb
        obtain ⟨k, hk, rfl, HO, hB⟩ := hrel
        by_cases hlt : k < ls.length
        · obtain ⟨ad, rfl, hb1, hc⟩ := H3.out (by omega)
          have hck := (hB.cell (p := ad.add k) (by rw [block_of_add]; exact hb1)).trans (hc k hlt)
          have HSk := Lib.hid ((H4.out k hlt).next hB)
          have hfl2 : catN ls (k + 1) ≤ 1000000 := by have := flat_le (ls := ls) (k + 1); rw [HT.out] at this; omega
          have HF := Lib.hid (flat_take hlt)
          have hfl3 : (catL ls k).length + (getl ls k).length ≤ 1000000000 := by rw [← List.length_append, ← HF.out]; unfold catN at hfl2; omega
          clear hc
          go_wp2_with (at_builtin; refine wpList_cat rfl _ _ rfl w.heap.size _ (catL ls k) rfl HO.out _ (getl ls k) rfl HSk.out hfl3 hB.size ?_; intro v1 w1 o1 hg1 _)
          have hB1 := hB.grown hg1 hB.size (fun k hk => (HO.out.lt k hk).1)
          rw [← HF.out] at o1
          have HO1 := Lib.hid o1
          clear o1 hg1 hck
          go_wp2_with fail
          go_roundw
          case rel => exact ⟨k + 1, by omega, by go_num, HO1, hB1⟩
          case measure => simp [intOf] <;> omega
        · obtain rfl : k = ls.length := by omega
          have ho := HO.out
          rw [catL_all, HT.out] at ho
          have HO1 := Lib.hid ho
          clear ho
          go_wp2_with fail
          go_ret
          exact ⟨_, rfl, HO1.out, hB⟩
theorem joined_any (v : Value) (ls : List (List Int)) (w : World) (h : SlL w v ls) (hlen : ls.flatten.length ≤ 1000000) :
    Calls Try.prog 91 #[v] w (RetOwn w ls.flatten) := by
  go_enter Try.func91, Try.ntmps91
  go_wp2_with fail
  refine (concat_any _ _ _ h hlen).mono ?_
  rintro e w1 ⟨r, rfl, ho, hb⟩
  go_wp2_with fail
  go_ret
  exact ⟨_, rfl, ho, hb⟩
end Go.Proofs.Ytlkmboolgfkcdaa
