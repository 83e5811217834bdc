/- Slices of slices; slices.IndexFunc and ContainsFunc at the closures of naturals and areWords. No condition. -/
import Derived.Test.YtanjpkcacgjgfaaValid
namespace Go.Proofs.Ytanjpkcacgjgfaa
open Go.RowKit
def getv (vs : List Value) (j : Nat) : Value := vs.getD j (.bool false)
def getl (ls : List (List Int)) (j : Nat) : List Int := ls.getD j []
theorem getl_mem {ls : List (List Int)} {j : Nat} (h : j < ls.length) : getl ls j ∈ ls := by
  unfold getl; rw [List.getD_eq_getElem?_getD, List.getElem?_eq_getElem h]; exact List.getElem_mem h
theorem mem_getl {ls : List (List Int)} {l : List Int} (h : l ∈ ls) : ∃ j, j < ls.length ∧ getl ls j = l := by
  obtain ⟨j, hj, rfl⟩ := List.getElem_of_mem h
  exact ⟨j, hj, by unfold getl; rw [List.getD_eq_getElem?_getD, List.getElem?_eq_getElem hj]; rfl⟩
/-- The slice value v holds slices that read as the lists ls. -/
def SlL (w : World) (v : Value) (ls : List (List Int)) : Prop :=
  ∃ A c vs, v = .slice A ls.length c ∧ ls.length ≤ c ∧ c ≤ maxLen ∧
    (0 < ls.length → ∃ ad, A = some ad ∧ ad.block < w.heap.size ∧ ∀ j, j < ls.length → w.cell? (ad.add j) = some (getv vs j)) ∧ ∀ j, j < ls.length → Sl w (getv vs j) (getl ls j)
theorem SlL.next {w w' : World} {v : Value} {ls : List (List Int)} (h : SlL w v ls) (hb : Below w.heap.size w w') : SlL w' v ls := by
  obtain ⟨A, c, vs, e, h1, h2, h3, h4⟩ := h
  refine ⟨A, c, vs, e, h1, h2, fun hn => ?_, fun j hj => (h4 j hj).next hb⟩
  obtain ⟨ad, e, hb1, hc⟩ := h3 hn
  exact ⟨ad, e, Nat.lt_of_lt_of_le hb1 hb.size, fun j hj => (hb.cell (p := ad.add j) (by rw [block_of_add]; exact hb1)).trans (hc j hj)⟩
/-- What IndexFunc answers: an index, if not all is well. -/
def IdxPost (b : Bool) (w : World) (e : Ending) (w' : World) : Prop := ∃ n : Int, e = .returned (.int .i64 n) ∧ (0 ≤ n ↔ b = false) ∧ -1 ≤ n ∧ w = w'
/-- Two slices in a new block: the arguments of a variadic call. -/
theorem SlL.two {w : World} {va vb : Value} {a b : List Int} (ha : Sl w va a) (hb : Sl w vb b) :
    SlL (w.alloc (.cells #[va, vb] 39)) (.slice (some ⟨w.heap.size, 0, none⟩) 2 2) [a, b] := by
  have hB : Below w.heap.size w (w.alloc (.cells #[va, vb] 39)) := (Below.refl _ _).alloc (Nat.le_refl _) _
  refine ⟨_, _, [va, vb], rfl, Nat.le_refl _, by simp [maxLen], fun _ => ⟨_, rfl, by simp, fun j hj => ?_⟩, fun j hj => ?_⟩
  · have hj2 : j = 0 ∨ j = 1 := by simp at hj; omega
    rcases hj2 with rfl | rfl
    · rw [show (⟨w.heap.size, 0, none⟩ : Addr).add 0 = ⟨w.heap.size, 0, none⟩ from rfl, World.cell?_alloc_at _ _ _ _ rfl]; rfl
    · rw [show (⟨w.heap.size, 0, none⟩ : Addr).add 1 = ⟨w.heap.size, 1, none⟩ from rfl, World.cell?_alloc_at _ _ _ _ rfl]; rfl
  · have hj2 : j = 0 ∨ j = 1 := by simp at hj; omega
    rcases hj2 with rfl | rfl
    · exact ha.next hB
    · exact hb.next hB
theorem naturals_clo (v : Value) (l : List Int) (w : World) (h : Sl w v l) :
    Calls Try.prog 141 #[v] w fun e w' => e = .returned (.bool (!natB l)) ∧ w = w' := by
  go_enter Try.func141, Try.ntmps141
  go_wp2_with (go_at_call 97; refine (implIsNatural_any _ _ _ h).mono ?_; rintro e w' ⟨rfl, rfl⟩)
  go_ret
  exact ⟨rfl, rfl⟩
def naturals_all (ls : List (List Int)) : Bool := ls.all natB
theorem naturals_index (v : Value) (ls : List (List Int)) (w : World) (h : SlL w v ls) :
    Calls Try.prog 114 #[v, .func (.func 141) #[] #[]] w (IdxPost (naturals_all ls) w) := by
  obtain ⟨A, c, vs, rfl, hlc, hcm, h3, h4⟩ := h
  have H3 := Lib.hid h3
  have H4 := Lib.hid h4
  clear h3 h4
  unfold maxLen at hcm
  go_enter Try.func114, Try.ntmps114
  go_wp2_with fail
  go_loop [8] (fun i => ∃ k : Nat, k ≤ ls.length ∧ i = .int .i64 k ∧ Hid (∀ j, j < k → natB (getl ls j) = true)) (fun i => ls.length - (intOf i).toNat)
  case atStart => exact ⟨0, Nat.zero_le _, rfl, fun j hj => by omega⟩
  case round =>
    obtain ⟨k, hk, rfl, H⟩ := hrel
    by_cases hlt : k < ls.length
    · obtain ⟨ad, rfl, hb1, hc⟩ := H3.out (by omega)
      have hck := hc k hlt
      have HS := Lib.hid (H4.out k hlt)
      clear hc
      cases hp : natB (getl ls k) with
      | true =>
        have HN : Hid (∀ j, j < k + 1 → natB (getl ls j) = true) := Lib.hid (fun j hj => by
          rcases Nat.lt_or_ge j k with h | h
          · exact H.out j h
          · obtain rfl : j = k := by omega
            exact hp)
        have HP := Lib.hid hp
        clear hp
        go_wp2_with fail
        refine (naturals_clo _ _ _ HS.out).mono ?_
        rintro e w' ⟨rfl, rfl⟩
        rw [HP.out]
        go_wp2_with fail
        go_round
        case rel => exact ⟨k + 1, by omega, by go_num, HN⟩
        case measure => simp [intOf] <;> omega
      | false =>
        have HF : Hid (naturals_all ls = false) := Lib.hid (by unfold naturals_all; rw [List.all_eq_false]; exact ⟨_, getl_mem hlt, by simp [hp]⟩)
        have HP := Lib.hid hp
        clear hp
        go_wp2_with fail
        refine (naturals_clo _ _ _ HS.out).mono ?_
        rintro e w' ⟨rfl, rfl⟩
        rw [HP.out]
        go_wp2_with fail
        go_ret
        exact ⟨_, rfl, ⟨fun _ => HF.out, fun _ => by omega⟩, by omega, rfl⟩
    · have HF : Hid (naturals_all ls = true) := Lib.hid (by
        unfold naturals_all
        rw [List.all_eq_true]; intro l hl
        obtain ⟨j, hj, rfl⟩ := mem_getl hl
        exact H.out j (by omega))
      go_wp2_with fail
      go_ret
      exact ⟨_, rfl, ⟨fun h => by omega, fun h => by rw [HF.out] at h; cases h⟩, by omega, rfl⟩
theorem naturals_any (v : Value) (ls : List (List Int)) (w : World) (h : SlL w v ls) :
    Calls Try.prog 104 #[v] w fun e w' => e = .returned (.bool (naturals_all ls)) ∧ w = w' := by
  go_enter Try.func104, Try.ntmps104
  go_wp2_with (first
    | (go_at_call 114; refine (naturals_index _ _ _ h).mono ?_; rintro e w' ⟨n, rfl, hn1, hn2, rfl⟩; have HN := Lib.hid hn1; clear hn1)
    | (go_at_call 140; go_in))
  go_ret
  refine ⟨ret_bool ?_, rfl⟩
  have hn := HN.out
  cases hb : naturals_all ls with
  | true =>
    have : ¬ 0 ≤ n := fun h => by have := hn.1 h; rw [hb] at this; cases this
    simp [this]
  | false =>
    have : 0 ≤ n := hn.2 hb
    simp [this]
theorem areWords_clo (v : Value) (l : List Int) (w : World) (h : Sl w v l) :
    Calls Try.prog 148 #[v] w fun e w' => e = .returned (.bool (!wordB l)) ∧ w = w' := by
  go_enter Try.func148, Try.ntmps148
  go_wp2_with (go_at_call 75; refine (implIsWord_any _ _ _ h).mono ?_; rintro e w' ⟨rfl, rfl⟩)
  go_ret
  exact ⟨rfl, rfl⟩
def areWords_all (ls : List (List Int)) : Bool := ls.all wordB
theorem areWords_index (v : Value) (ls : List (List Int)) (w : World) (h : SlL w v ls) :
    Calls Try.prog 114 #[v, .func (.func 148) #[] #[]] w (IdxPost (areWords_all ls) w) := by
  obtain ⟨A, c, vs, rfl, hlc, hcm, h3, h4⟩ := h
  have H3 := Lib.hid h3
  have H4 := Lib.hid h4
  clear h3 h4
  unfold maxLen at hcm
  go_enter Try.func114, Try.ntmps114
  go_wp2_with fail
  go_loop [8] (fun i => ∃ k : Nat, k ≤ ls.length ∧ i = .int .i64 k ∧ Hid (∀ j, j < k → wordB (getl ls j) = true)) (fun i => ls.length - (intOf i).toNat)
  case atStart => exact ⟨0, Nat.zero_le _, rfl, fun j hj => by omega⟩
  case round =>
    obtain ⟨k, hk, rfl, H⟩ := hrel
    by_cases hlt : k < ls.length
    · obtain ⟨ad, rfl, hb1, hc⟩ := H3.out (by omega)
      have hck := hc k hlt
      have HS := Lib.hid (H4.out k hlt)
      clear hc
      cases hp : wordB (getl ls k) with
      | true =>
        have HN : Hid (∀ j, j < k + 1 → wordB (getl ls j) = true) := Lib.hid (fun j hj => by
          rcases Nat.lt_or_ge j k with h | h
          · exact H.out j h
          · obtain rfl : j = k := by omega
            exact hp)
        have HP := Lib.hid hp
        clear hp
        go_wp2_with fail
        refine (areWords_clo _ _ _ HS.out).mono ?_
        rintro e w' ⟨rfl, rfl⟩
        rw [HP.out]
        go_wp2_with fail
        go_round
        case rel => exact ⟨k + 1, by omega, by go_num, HN⟩
        case measure => simp [intOf] <;> omega
      | false =>
        have HF : Hid (areWords_all ls = false) := Lib.hid (by unfold areWords_all; rw [List.all_eq_false]; exact ⟨_, getl_mem hlt, by simp [hp]⟩)
        have HP := Lib.hid hp
        clear hp
        go_wp2_with fail
        refine (areWords_clo _ _ _ HS.out).mono ?_
        rintro e w' ⟨rfl, rfl⟩
        rw [HP.out]
        go_wp2_with fail
        go_ret
        exact ⟨_, rfl, ⟨fun _ => HF.out, fun _ => by omega⟩, by omega, rfl⟩
    · have HF : Hid (areWords_all ls = true) := Lib.hid (by
        unfold areWords_all
        rw [List.all_eq_true]; intro l hl
        obtain ⟨j, hj, rfl⟩ := mem_getl hl
        exact H.out j (by omega))
      go_wp2_with fail
      go_ret
      exact ⟨_, rfl, ⟨fun h => by omega, fun h => by rw [HF.out] at h; cases h⟩, by omega, rfl⟩
theorem areWords_any (v : Value) (ls : List (List Int)) (w : World) (h : SlL w v ls) :
    Calls Try.prog 110 #[v] w fun e w' => e = .returned (.bool (areWords_all ls)) ∧ w = w' := by
  go_enter Try.func110, Try.ntmps110
  go_wp2_with (first
    | (go_at_call 114; refine (areWords_index _ _ _ h).mono ?_; rintro e w' ⟨n, rfl, hn1, hn2, rfl⟩; have HN := Lib.hid hn1; clear hn1)
    | (go_at_call 140; go_in))
  go_ret
  refine ⟨ret_bool ?_, rfl⟩
  have hn := HN.out
  cases hb : areWords_all ls with
  | true =>
    have : ¬ 0 ≤ n := fun h => by have := hn.1 h; rw [hb] at this; cases this
    simp [this]
  | false =>
    have : 0 ≤ n := hn.2 hb
    simp [this]
end Go.Proofs.Ytanjpkcacgjgfaa
