/- DecodeWith: both together. No condition beyond the stated bounds. -/
import Derived.Test.YtanjpkcacgjgfaaDecode2
namespace Go.Proofs.Ytanjpkcacgjgfaa
open Go.RowKit
theorem specDecode_inv (v1 v2 : Value) (ls : List (List Int)) (l : List Int) (w : World) (h1 : SlL w v1 ls) (h2 : Sl w v2 l) (hf : areWords_all ls = false ∨ (areWords_all ls = true ∧ wordB l = false)) :
    Calls Try.prog 51 #[v1, v2] w (RetRowC w [] 1) := by
  rcases hf with hw | ⟨hw, hl⟩
  · go_enter Try.func51, Try.ntmps51
    go_wp2_with fail
    refine (l03All_any _ _ _ h1).mono ?_
    rintro e w' ⟨rfl, rfl⟩
    rw [hw]
    go_wp2_with fail
    go_ret2
    exact ⟨_, rfl, Fresh.nil_ _ _, Below.refl _ _⟩
  · go_enter Try.func51, Try.ntmps51
    go_wp2_with fail
    refine (l03All_any _ _ _ h1).mono ?_
    rintro e w' ⟨rfl, rfl⟩
    rw [hw]
    go_wp2_with fail
    refine (l03Is_any _ _ _ h2).mono ?_
    rintro e w' ⟨rfl, rfl⟩
    rw [hl]
    go_wp2_with fail
    go_ret2
    exact ⟨_, rfl, Fresh.nil_ _ _, Below.refl _ _⟩
theorem specDecode_order (v1 v2 : Value) (ls : List (List Int)) (l : List Int) (w : World) (h1 : SlL w v1 ls) (h2 : Sl w v2 l) (hn : ls.length + totL ls ≤ 1048576) (hw : areWords_all ls = true) (hl : wordB l = true) (hp : ¬ PCW ls) :
    Calls Try.prog 51 #[v1, v2] w (RetRowC w [] 7) := by
  have HNP := Lib.hid hp
  clear hp
  go_enter Try.func51, Try.ntmps51
  go_wp2_with fail
  refine (l03All_any _ _ _ h1).mono ?_
  rintro e w' ⟨rfl, rfl⟩
  rw [hw]
  go_wp2_with fail
  refine (l03Is_any _ _ _ h2).mono ?_
  rintro e w' ⟨rfl, rfl⟩
  rw [hl]
  go_wp2_with fail
  refine (l03Code_any _ _ _ h1 hn).mono ?_
  rintro e w1 ⟨b, rfl, hb, hB1⟩
  obtain rfl : b = false := by
    cases b with
    | false => rfl
    | true => exact absurd (hb.1 rfl) HNP.out
  clear hb
  go_wp2_with fail
  go_ret2
  exact ⟨_, rfl, Fresh.nil_ _ _, hB1⟩
theorem implDecode_inv (v1 v2 : Value) (ls : List (List Int)) (l : List Int) (w : World) (h1 : SlL w v1 ls) (h2 : Sl w v2 l) (hf : areWords_all ls = false ∨ (areWords_all ls = true ∧ wordB l = false)) :
    Calls Try.prog 52 #[v1, v2] w (RetRowC w [] 1) := by
  have HS2 := Lib.hid h2
  obtain ⟨A2, c2, rfl, hlc2, hcm2, hr⟩ := h2
  have hB0 : Below w.heap.size w (w.alloc (.cells #[.slice A2 l.length c2] 39)) := (Below.refl _ _).alloc (Nat.le_refl _) _
  clear hr
  rcases hf with hw | ⟨hw, hl⟩
  · go_enter Try.func52, Try.ntmps52
    go_wp2_with fail
    refine (areWords_any _ _ _ (h1.next hB0)).mono ?_
    rintro e w' ⟨rfl, rfl⟩
    rw [hw]
    go_wp2_with fail
    go_ret2
    exact ⟨_, rfl, Fresh.nil_ _ _, hB0⟩
  · go_enter Try.func52, Try.ntmps52
    go_wp2_with fail
    refine (areWords_any _ _ _ (h1.next hB0)).mono ?_
    rintro e w' ⟨rfl, rfl⟩
    rw [hw]
    go_wp2_with fail
    refine (implIsWord_any _ _ _ (HS2.out.next hB0)).mono ?_
    rintro e w' ⟨rfl, rfl⟩
    rw [hl]
    go_wp2_with fail
    go_ret2
    exact ⟨_, rfl, Fresh.nil_ _ _, hB0⟩
theorem implDecode_order (v1 v2 : Value) (ls : List (List Int)) (l : List Int) (w : World) (h1 : SlL w v1 ls) (h2 : Sl w v2 l) (hn : ls.length + totL ls ≤ 1048576) (hw : areWords_all ls = true) (hl : wordB l = true) (hp : ¬ PCW ls) :
    Calls Try.prog 52 #[v1, v2] w (RetRowC w [] 7) := by
  have HNP : Hid (¬ PC ls) := Lib.hid (fun h => hp ⟨hw, h⟩)
  clear hp
  have HS2 := Lib.hid h2
  obtain ⟨A2, c2, rfl, hlc2, hcm2, hr⟩ := h2
  have hB0 : Below w.heap.size w (w.alloc (.cells #[.slice A2 l.length c2] 39)) := (Below.refl _ _).alloc (Nat.le_refl _) _
  clear hr
  go_enter Try.func52, Try.ntmps52
  go_wp2_with fail
  refine (areWords_any _ _ _ (h1.next hB0)).mono ?_
  rintro e w' ⟨rfl, rfl⟩
  rw [hw]
  go_wp2_with fail
  refine (implIsWord_any _ _ _ (HS2.out.next hB0)).mono ?_
  rintro e w' ⟨rfl, rfl⟩
  rw [hl]
  go_wp2_with fail
  refine (isPrefixCode_any _ _ _ (h1.next hB0) hn).mono ?_
  rintro e w1 ⟨b, rfl, hb, hB1⟩
  obtain rfl : b = false := by
    cases b with
    | false => rfl
    | true => exact absurd (hb.1 rfl) HNP.out
  clear hb
  go_wp2_with fail
  go_ret2
  exact ⟨_, rfl, Fresh.nil_ _ _, below_next hB0 hB1⟩
theorem bothDecodeWith (ls : List (List Int)) (l : List Int) (_f : ∀ l ∈ ls, Fit l) (hn : ls.length + totL ls ≤ 1048576) (_g : Fit l) (_hm : l.length ≤ 1048576) : ∃ (R : List Int) (C : Int), R.length ≤ 4000000 ∧
    (∀ (w : World) (v1 v2 : Value), SlL w v1 ls → Sl w v2 l → Calls Try.prog 51 #[v1, v2] w (RetRowC w R C)) ∧
    (∀ (w : World) (v1 v2 : Value), SlL w v1 ls → Sl w v2 l → Calls Try.prog 52 #[v1, v2] w (RetRowC w R C)) := by
  cases hw : areWords_all ls with
  | false => exact ⟨[], 1, by simp, fun w v1 v2 h1 h2 => specDecode_inv v1 v2 ls l w h1 h2 (.inl hw), fun w v1 v2 h1 h2 => implDecode_inv v1 v2 ls l w h1 h2 (.inl hw)⟩
  | true =>
    cases hl : wordB l with
    | false => exact ⟨[], 1, by simp, fun w v1 v2 h1 h2 => specDecode_inv v1 v2 ls l w h1 h2 (.inr ⟨hw, hl⟩), fun w v1 v2 h1 h2 => implDecode_inv v1 v2 ls l w h1 h2 (.inr ⟨hw, hl⟩)⟩
    | true =>
      by_cases hp : PCW ls
      · have hl4 := (wordB_true.1 hl).2
        refine ⟨_, _, optR_len (fun r hr => ?_), fun w v1 v2 h1 h2 => specDecodeWith_yes v1 v2 ls l w h1 h2 hn hp hl hl4, fun w v1 v2 h1 h2 => implDecodeWith_yes v1 v2 ls l w h1 h2 hn hp hl hl4⟩
        have := decF_len l.length l [] r hr
        simp at this
        omega
      · exact ⟨[], 7, by simp, fun w v1 v2 h1 h2 => specDecode_order v1 v2 ls l w h1 h2 hn hw hl hp, fun w v1 v2 h1 h2 => implDecode_order v1 v2 ls l w h1 h2 hn hw hl hp⟩
end Go.Proofs.Ytanjpkcacgjgfaa
