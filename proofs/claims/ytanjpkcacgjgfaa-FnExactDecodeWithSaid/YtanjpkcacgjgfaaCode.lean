/- IsPrefixCode: the reference and the program give the same results. No condition beyond the stated bounds. -/
import Derived.Test.YtanjpkcacgjgfaaLL
import Derived.Test.YtanjpkcacgjgfaaOcc
namespace Go.Proofs.Ytanjpkcacgjgfaa
open Go.RowKit
/-- The list ls is a prefix code. -/
def PC (ls : List (List Int)) : Prop := 1 ≤ ls.length ∧ ls.length ≤ 40 ∧ ∀ i, i < ls.length → (getl ls i).length ≠ 0 ∧ ∀ k, k < ls.length → i ≠ k → occB (getl ls i) (getl ls k) 0 = false
/-- .. of words. -/
def PCW (ls : List (List Int)) : Prop := areWords_all ls = true ∧ PC ls
/-- What a call leaves that says whether P holds. -/
def BPost (P : Prop) (w : World) (e : Ending) (w' : World) : Prop := ∃ b : Bool, e = .returned (.bool b) ∧ (b = true ↔ P) ∧ Below w.heap.size w w'
theorem BPost.no {P : Prop} {w w' : World} (h : ¬ P) (hb : Below w.heap.size w w') : BPost P w (.returned (.bool false)) w' := ⟨false, rfl, ⟨(fun e => by cases e), fun p => absurd p h⟩, hb⟩
theorem BPost.yes {P : Prop} {w w' : World} (h : P) (hb : Below w.heap.size w w') : BPost P w (.returned (.bool true)) w' := ⟨true, rfl, ⟨fun _ => h, fun _ => rfl⟩, hb⟩
theorem below_dr {B : Nat} {w w' : World} (h : Below B w w') (n : Nat) : Below B w (w'.drewN n) := below_drewN h n
theorem l03All_any (v : Value) (ls : List (List Int)) (w : World) (h : SlL w v ls) :
    Calls Try.prog 112 #[v] w fun e w' => e = .returned (.bool (areWords_all ls)) ∧ w = w' := by
  obtain ⟨A, c, vs, rfl, hlc, hcm, h3, h4⟩ := h
  have H3 := Lib.hid h3
  have H4 := Lib.hid h4
  clear h3 h4
  unfold maxLen at hcm
  go_enter Try.func112, Try.ntmps112
  go_wp2_with fail
  go_loop [3] (fun i => ∃ k : Nat, k ≤ ls.length ∧ i = .int .i64 k ∧ Hid (∀ j, j < k → wordB (getl ls j) = true)) (fun i => ls.length - (intOf i).toNat)
  case atStart => exact ⟨0, Nat.zero_le _, rfl, fun j hj => by omega⟩
  case round =>
    obtain ⟨k, hk, rfl, H⟩ := hrel
    by_cases hlt : k < ls.length
    · obtain ⟨ad, rfl, hb1, hc⟩ := H3.out (by omega)
      have hck := hc k hlt
      have HS := Lib.hid (H4.out k hlt)
      clear hc
      cases hp : wordB (getl ls k) with
      | true =>
        have HN : Hid (∀ j, j < k + 1 → wordB (getl ls j) = true) := Lib.hid (fun j hj => by
          rcases Nat.lt_or_ge j k with h | h
          · exact H.out j h
          · obtain rfl : j = k := by omega
            exact hp)
        have HP := Lib.hid hp
        clear hp
        go_wp2_with fail
        refine (l03Is_any _ _ _ HS.out).mono ?_
        rintro e w' ⟨rfl, rfl⟩
        rw [HP.out]
        go_wp2_with fail
        go_round
        case rel => exact ⟨k + 1, by omega, by go_num, HN⟩
        case measure => simp [intOf] <;> omega
      | false =>
        have HF : Hid (areWords_all ls = false) := Lib.hid (by unfold areWords_all; rw [List.all_eq_false]; exact ⟨_, getl_mem hlt, by simp [hp]⟩)
        have HP := Lib.hid hp
        clear hp
        go_wp2_with fail
        refine (l03Is_any _ _ _ HS.out).mono ?_
        rintro e w' ⟨rfl, rfl⟩
        rw [HP.out]
        go_wp2_with fail
        go_ret
        exact ⟨ret_bool HF.out.symm, rfl⟩
    · have HF : Hid (areWords_all ls = true) := Lib.hid (by
        unfold areWords_all
        rw [List.all_eq_true]; intro l hl
        obtain ⟨j, hj, rfl⟩ := mem_getl hl
        exact H.out j (by omega))
      go_wp2_with fail
      go_ret
      exact ⟨ret_bool HF.out.symm, rfl⟩
theorem l03At0_q (v1 v2 : Value) (l p : List Int) (w : World) (h1 : Sl w v1 l) (h2 : Sl w v2 p) (hp : p.length ≤ 1000000000) :
    Calls Try.prog 113 #[v1, .int .i64 0, v2] w fun e w' => e = .returned (.bool (occB l p 0)) ∧ ∃ n, w' = w.drewN n :=
  l03At_q v1 v2 l p 0 w h1 h2 (by omega) hp
set_option maxHeartbeats 1000000 in
theorem l03Code_any (v : Value) (ls : List (List Int)) (w : World) (h : SlL w v ls) (hn : ls.length + totL ls ≤ 1048576) :
    Calls Try.prog 109 #[v] w (BPost (PCW ls) w) := by
  have HSL := Lib.hid h
  obtain ⟨A, c, vs, rfl, hlc, hcm, h3, h4⟩ := h
  have H3 := Lib.hid h3
  have H4 := Lib.hid h4
  clear h3 h4
  unfold maxLen at hcm
  by_cases hz : ls.length = 0
  · have e1 : ((ls.length : Int) == 0) = true := by rw [beq_iff_eq]; omega
    have e2 : (ls.length == 0) = true := by rw [beq_iff_eq]; omega
    have HN : Hid (¬ PCW ls) := Lib.hid (fun h => by have := h.2.1; omega)
    clear hz
    go_enter Try.func109, Try.ntmps109
    go_wp2_with fail
    go_ret
    exact BPost.no HN.out (Below.refl _ _)
  have e1 : ((ls.length : Int) == 0) = false := by rw [beq_eq_false_iff_ne]; omega
  have e2 : (ls.length == 0) = false := by rw [beq_eq_false_iff_ne]; omega
  by_cases hbig : 40 < ls.length
  · have e3 : (40 : Int) < (ls.length : Int) := by omega
    have HN : Hid (¬ PCW ls) := Lib.hid (fun h => by have := h.2.2.1; omega)
    clear hz
    go_enter Try.func109, Try.ntmps109
    go_wp2_with fail
    go_ret
    exact BPost.no HN.out (Below.refl _ _)
  have e3 : decide ((40 : Int) < (ls.length : Int)) = false := decide_eq_false (by omega)
  have e4 : decide (40 < ls.length) = false := decide_eq_false (by omega)
  cases hw : areWords_all ls with
  | false =>
    have HN : Hid (¬ PCW ls) := Lib.hid (fun h => by have := h.1; rw [hw] at this; cases this)
    clear hz
    go_enter Try.func109, Try.ntmps109
    go_wp2_with fail
    refine (l03All_any _ _ _ HSL.out).mono ?_
    rintro e w' ⟨rfl, rfl⟩
    rw [hw]
    go_wp2_with fail
    go_ret
    exact BPost.no HN.out (Below.refl _ _)
  | true =>
    have hn1 : 1 ≤ ls.length := by omega
    have hn40 : ls.length ≤ 40 := by omega
    clear hz hbig
    go_enter Try.func109, Try.ntmps109
    go_wp2_with fail
    refine (l03All_any _ _ _ HSL.out).mono ?_
    rintro e w' ⟨rfl, rfl⟩
    rw [hw]
    have HWW := Lib.hid hw
    clear hw
    go_wp2_with fail
    go_loopw [3] (fun i wr => ∃ a : Nat, a ≤ ls.length ∧ i = .int .i64 a ∧ Hid (∀ i, i < a → (getl ls i).length ≠ 0 ∧ ∀ k, k < ls.length → i ≠ k → occB (getl ls i) (getl ls k) 0 = false) ∧ Below w.heap.size w wr) (fun i _ => ls.length - (intOf i).toNat)
    case atStart => exact ⟨0, Nat.zero_le _, rfl, Lib.hid (fun i hi => by omega), Below.refl _ _⟩
    case round =>
      obtain ⟨a, ha, rfl, HA, hB⟩ := hrel
      by_cases hlt : a < ls.length
      · obtain ⟨ad, rfl, hb1, hc⟩ := H3.out (by omega)
        have HC := Lib.hid hc
        clear hc
        obtain ⟨wo, rfl⟩ : ∃ wo : World, wo = wr := ⟨_, rfl⟩
        go_wp2_with fail
        go_loopw [4] (fun i wr => ∃ b : Nat, b ≤ ls.length ∧ i = .int .i64 b ∧ Hid (∀ k, k < b → a ≠ k → occB (getl ls a) (getl ls k) 0 = false) ∧ Below w.heap.size w wr) (fun i _ => ls.length - (intOf i).toNat)
        case atStart => exact ⟨0, Nat.zero_le _, rfl, Lib.hid (fun k hk => by omega), hB⟩
        case round =>
          clear hB
          obtain ⟨b, hb, rfl, HBK, hB⟩ := hrel
          have hca := (hB.cell (p := ad.add a) (by rw [block_of_add]; exact hb1)).trans (HC.out a hlt)
          have HSA := Lib.hid ((H4.out a hlt).next hB)
          have hai : (a : Int) < (ls.length : Int) := by omega
          by_cases hltb : b < ls.length
          · have hcb := (hB.cell (p := ad.add b) (by rw [block_of_add]; exact hb1)).trans (HC.out b hltb)
            have HSB := Lib.hid ((H4.out b hltb).next hB)
            have hbi : (b : Int) < (ls.length : Int) := by omega
            have hmb := totL_mem hltb
            by_cases hab : a = b
            · have q1 : ((a : Int) != (b : Int)) = false := by simp [hab]
              have q2 : (a != b) = false := by simp [hab]
              have HN : Hid (∀ k, k < b + 1 → a ≠ k → occB (getl ls a) (getl ls k) 0 = false) := Lib.hid (fun k hk hne => HBK.out k (by omega) hne)
              clear hab
              go_wp2_with fail
              go_quiet (fail)
              go_wp2_with fail
              go_roundw
              case rel => exact ⟨b + 1, by omega, by go_num, HN, by first | exact hB | exact hB.drew | exact below_drewN hB _⟩
              case measure => simp [intOf] <;> omega
            · have q1 : ((a : Int) != (b : Int)) = true := by rw [bne_iff_ne]; omega
              have q2 : (a != b) = true := by rw [bne_iff_ne]; exact hab
              cases ho : occB (getl ls a) (getl ls b) 0 with
              | false =>
                have HN : Hid (∀ k, k < b + 1 → a ≠ k → occB (getl ls a) (getl ls k) 0 = false) := Lib.hid (fun k hk hne => by
                  rcases Nat.lt_or_ge k b with h | h
                  · exact HBK.out k h hne
                  · obtain rfl : k = b := by omega
                    exact ho)
                have HOF := Lib.hid ho
                clear ho hab
                go_wp2_with fail
                go_quiet ((go_at_call 113; refine Calls.quiet_of (l03At0_q _ _ _ _ _ (HSA.out.drewN _) (HSB.out.drewN _) (by omega))))
                rw [HOF.out]
                go_wp2_with fail
                go_roundw
                case rel => exact ⟨b + 1, by omega, by go_num, HN, by first | exact hB | exact hB.drew | exact below_drewN hB _⟩
                case measure => simp [intOf] <;> omega
              | true =>
                have HN : Hid (¬ PCW ls) := Lib.hid (fun h => by have := (h.2.2.2 a hlt).2 b hltb hab; rw [ho] at this; cases this)
                have HOF := Lib.hid ho
                clear ho hab
                go_wp2_with fail
                go_quiet ((go_at_call 113; refine Calls.quiet_of (l03At0_q _ _ _ _ _ (HSA.out.drewN _) (HSB.out.drewN _) (by omega))))
                rw [HOF.out]
                go_wp2_with fail
                go_ret
                exact BPost.no HN.out (by first | exact hB | exact hB.drew | exact below_drewN hB _)
          · obtain ⟨A2, c2, he, hl2, hc2, _⟩ := HSA.out
            rw [he] at hca
            unfold maxLen at hc2
            by_cases h0 : (getl ls a).length = 0
            · have q1 : (((getl ls a).length : Int) == 0) = true := by rw [beq_iff_eq]; omega
              have q2 : ((getl ls a).length == 0) = true := by rw [beq_iff_eq]; exact h0
              have HN : Hid (¬ PCW ls) := Lib.hid (fun h => (h.2.2.2 a hlt).1 h0)
              clear h0 he
              go_wp2_with fail
              go_ret
              exact BPost.no HN.out hB
            · have q1 : (((getl ls a).length : Int) == 0) = false := by rw [beq_eq_false_iff_ne]; omega
              have q2 : ((getl ls a).length == 0) = false := by rw [beq_eq_false_iff_ne]; exact h0
              have HN : Hid (∀ i, i < a + 1 → (getl ls i).length ≠ 0 ∧ ∀ k, k < ls.length → i ≠ k → occB (getl ls i) (getl ls k) 0 = false) := Lib.hid (fun i hi => by
                rcases Nat.lt_or_ge i a with h | h
                · exact HA.out i h
                · obtain rfl : i = a := by omega
                  exact ⟨h0, fun k hk hne => HBK.out k (by omega) hne⟩)
              clear h0 he
              go_wp2_with fail
              go_roundw
              case rel => exact ⟨a + 1, by omega, by go_num, HN, hB⟩
              case measure => simp [intOf] <;> omega
      · have HN : Hid (PCW ls) := Lib.hid ⟨HWW.out, hn1, hn40, fun i hi => HA.out i (by omega)⟩
        go_wp2_with fail
        go_ret
        exact BPost.yes HN.out hB
set_option maxHeartbeats 1000000 in
theorem isPrefixCode_any (v : Value) (ls : List (List Int)) (w : World) (h : SlL w v ls) (hn : ls.length + totL ls ≤ 1048576) :
    Calls Try.prog 111 #[v] w (BPost (PC ls) w) := by
  obtain ⟨A, c, vs, rfl, hlc, hcm, h3, h4⟩ := h
  have H3 := Lib.hid h3
  have H4 := Lib.hid h4
  clear h3 h4
  unfold maxLen at hcm
  by_cases hz : ls.length < 1
  · have e1 : (ls.length : Int) < 1 := by omega
    have HN : Hid (¬ PC ls) := Lib.hid (fun h => by have := h.1; omega)
    go_enter Try.func111, Try.ntmps111
    go_wp2_with fail
    go_ret
    exact BPost.no HN.out (Below.refl _ _)
  have e1 : decide ((ls.length : Int) < 1) = false := decide_eq_false (by omega)
  have e2 : decide (ls.length < 1) = false := decide_eq_false hz
  by_cases hbig : 40 < ls.length
  · have e3 : (40 : Int) < (ls.length : Int) := by omega
    have HN : Hid (¬ PC ls) := Lib.hid (fun h => by have := h.2.1; omega)
    clear hz
    go_enter Try.func111, Try.ntmps111
    go_wp2_with fail
    go_ret
    exact BPost.no HN.out (Below.refl _ _)
  have e3 : decide ((40 : Int) < (ls.length : Int)) = false := decide_eq_false (by omega)
  have e4 : decide (40 < ls.length) = false := decide_eq_false (by omega)
  have hn1 : 1 ≤ ls.length := by omega
  have hn40 : ls.length ≤ 40 := by omega
  clear hz hbig
  go_enter Try.func111, Try.ntmps111
  go_wp2_with fail
  go_loopw [17] (fun i wr => ∃ a : Nat, a ≤ ls.length ∧ i = .int .i64 a ∧ Hid (∀ i, i < a → (getl ls i).length ≠ 0 ∧ ∀ k, k < ls.length → i ≠ k → occB (getl ls k) (getl ls i) 0 = false) ∧ Below w.heap.size w wr) (fun i _ => ls.length - (intOf i).toNat)
  case atStart => exact ⟨0, Nat.zero_le _, rfl, Lib.hid (fun i hi => by omega), Below.refl _ _⟩
  case round =>
    obtain ⟨a, ha, rfl, HA, hB⟩ := hrel
    by_cases hlt : a < ls.length
    · obtain ⟨ad, rfl, hb1, hc⟩ := H3.out (by omega)
      have HC := Lib.hid hc
      have hca := (hB.cell (p := ad.add a) (by rw [block_of_add]; exact hb1)).trans (hc a hlt)
      have HSA0 := Lib.hid (H4.out a hlt)
      have hai : (a : Int) < (ls.length : Int) := by omega
      obtain ⟨A2, c2, he, hl2, hc2, hq2⟩ := H4.out a hlt
      rw [he] at hca HSA0
      unfold maxLen at hc2
      clear hc he hq2
      obtain ⟨wo, rfl⟩ : ∃ wo : World, wo = wr := ⟨_, rfl⟩
      go_wp2_with fail
      go_loopw [24] (fun i wr => ∃ b : Nat, b ≤ ls.length ∧ i = .int .i64 b ∧ Hid ((0 < b → (getl ls a).length ≠ 0) ∧ ∀ k, k < b → a ≠ k → occB (getl ls k) (getl ls a) 0 = false) ∧ Below w.heap.size w wr) (fun i _ => ls.length - (intOf i).toNat)
      case atStart => exact ⟨0, Nat.zero_le _, rfl, Lib.hid ⟨fun h => by omega, fun k hk => by omega⟩, hB⟩
      case round =>
        clear hB hca
        obtain ⟨b, hb, rfl, HBK, hB⟩ := hrel
        by_cases hltb : b < ls.length
        · have hcb := (hB.cell (p := ad.add b) (by rw [block_of_add]; exact hb1)).trans (HC.out b hltb)
          have HSA := Lib.hid (HSA0.out.next hB)
          have HSB := Lib.hid ((H4.out b hltb).next hB)
          have hbi : (b : Int) < (ls.length : Int) := by omega
          by_cases h0 : (getl ls a).length = 0
          · have q1 : (((getl ls a).length : Int) == 0) = true := by rw [beq_iff_eq]; omega
            have q2 : ((getl ls a).length == 0) = true := by rw [beq_iff_eq]; exact h0
            have HN : Hid (¬ PC ls) := Lib.hid (fun h => (h.2.2 a hlt).1 h0)
            clear h0
            go_wp2_with fail
            go_ret
            exact BPost.no HN.out hB
          have q1 : (((getl ls a).length : Int) == 0) = false := by rw [beq_eq_false_iff_ne]; omega
          have q2 : ((getl ls a).length == 0) = false := by rw [beq_eq_false_iff_ne]; exact h0
          by_cases hab : a = b
          · have q3 : ((a : Int) != (b : Int)) = false := by simp [hab]
            have q4 : (a != b) = false := by simp [hab]
            have HN : Hid ((0 < b + 1 → (getl ls a).length ≠ 0) ∧ ∀ k, k < b + 1 → a ≠ k → occB (getl ls k) (getl ls a) 0 = false) := Lib.hid ⟨fun _ => h0, fun k hk hne => HBK.out.2 k (by omega) hne⟩
            clear hab h0
            go_wp2_with fail
            go_roundw
            case rel => exact ⟨b + 1, by omega, by go_num, HN, hB⟩
            case measure => simp [intOf] <;> omega
          · have q3 : ((a : Int) != (b : Int)) = true := by rw [bne_iff_ne]; omega
            have q4 : (a != b) = true := by rw [bne_iff_ne]; exact hab
            cases ho : occB (getl ls b) (getl ls a) 0 with
            | false =>
              have HN : Hid ((0 < b + 1 → (getl ls a).length ≠ 0) ∧ ∀ k, k < b + 1 → a ≠ k → occB (getl ls k) (getl ls a) 0 = false) := Lib.hid ⟨fun _ => h0, fun k hk hne => by
                rcases Nat.lt_or_ge k b with h | h
                · exact HBK.out.2 k h hne
                · obtain rfl : k = b := by omega
                  exact ho⟩
              have HOF := Lib.hid ho
              clear ho hab h0
              go_wp2_with fail
              refine (begins_q _ _ _ _ _ HSB.out HSA.out).mono ?_
              rintro e w' ⟨rfl, n, rfl⟩
              rw [HOF.out]
              go_wp2_with fail
              go_roundw
              case rel => exact ⟨b + 1, by omega, by go_num, HN, below_drewN hB _⟩
              case measure => simp [intOf] <;> omega
            | true =>
              have HN : Hid (¬ PC ls) := Lib.hid (fun h => by have := (h.2.2 b hltb).2 a hlt (fun e => hab e.symm); rw [ho] at this; cases this)
              have HOF := Lib.hid ho
              clear ho hab h0
              go_wp2_with fail
              refine (begins_q _ _ _ _ _ HSB.out HSA.out).mono ?_
              rintro e w' ⟨rfl, n, rfl⟩
              rw [HOF.out]
              go_wp2_with fail
              go_ret
              exact BPost.no HN.out (below_drewN hB _)
        · have HN : Hid (∀ i, i < a + 1 → (getl ls i).length ≠ 0 ∧ ∀ k, k < ls.length → i ≠ k → occB (getl ls k) (getl ls i) 0 = false) := Lib.hid (fun i hi => by
            rcases Nat.lt_or_ge i a with h | h
            · exact HA.out i h
            · obtain rfl : i = a := by omega
              exact ⟨HBK.out.1 (by omega), fun k hk hne => HBK.out.2 k (by omega) hne⟩)
          go_wp2_with fail
          go_roundw
          case rel => exact ⟨a + 1, by omega, by go_num, HN, hB⟩
          case measure => simp [intOf] <;> omega
    · have HN : Hid (PC ls) := Lib.hid ⟨hn1, hn40, fun i hi => ⟨(HA.out i (by omega)).1, fun k hk hne => (HA.out k (by omega)).2 i hi (fun e => hne e.symm)⟩⟩
      go_wp2_with fail
      go_ret
      exact BPost.yes HN.out hB
set_option maxHeartbeats 1000000 in
theorem bothIsPrefixCode (ls : List (List Int)) (_f : ∀ l ∈ ls, Fit l) (hn : ls.length + totL ls ≤ 1048576) : ∃ R : Bool,
    (∀ (w : World) (v : Value), SlL w v ls → Calls Try.prog 47 #[v] w fun e w' => e = .returned (.bool R) ∧ Below w.heap.size w w') ∧
    (∀ (w : World) (v : Value), SlL w v ls → Calls Try.prog 49 #[v] w fun e w' => e = .returned (.bool R) ∧ Below w.heap.size w w') := by
  have key : ∀ R : Bool, (R = true ↔ PCW ls) →
      (∀ (w : World) (v : Value), SlL w v ls → Calls Try.prog 47 #[v] w fun e w' => e = .returned (.bool R) ∧ Below w.heap.size w w') ∧
      (∀ (w : World) (v : Value), SlL w v ls → Calls Try.prog 49 #[v] w fun e w' => e = .returned (.bool R) ∧ Below w.heap.size w w') := by
    intro R hR
    have HR := Lib.hid hR
    clear hR
    refine ⟨fun w v h => ?_, fun w v h => ?_⟩
    · go_enter Try.func47, Try.ntmps47
      go_wp2_with fail
      refine (l03Code_any _ _ _ h hn).mono ?_
      rintro e w1 ⟨b, rfl, hb, hb1⟩
      have HB := Lib.hid hb
      clear hb
      go_wp2_with fail
      go_ret
      refine ⟨ret_bool ?_, hb1⟩
      rw [Bool.eq_iff_iff, HB.out, HR.out]
    · cases hw : areWords_all ls with
      | false =>
        have HRF : Hid (R = false) := Lib.hid (by
          cases R with
          | false => rfl
          | true => have := (HR.out.1 rfl).1; rw [hw] at this; cases this)
        go_enter Try.func49, Try.ntmps49
        go_wp2_with fail
        refine (areWords_any _ _ _ h).mono ?_
        rintro e w' ⟨rfl, rfl⟩
        rw [hw]
        go_wp2_with fail
        go_ret
        exact ⟨ret_bool HRF.out.symm, Below.refl _ _⟩
      | true =>
        have HW := Lib.hid hw
        go_enter Try.func49, Try.ntmps49
        go_wp2_with fail
        refine (areWords_any _ _ _ h).mono ?_
        rintro e w' ⟨rfl, rfl⟩
        rw [hw]
        clear hw
        go_wp2_with fail
        refine (isPrefixCode_any _ _ _ h hn).mono ?_
        rintro e w1 ⟨b, rfl, hb, hb1⟩
        have HB := Lib.hid hb
        clear hb
        go_wp2_with fail
        go_ret
        refine ⟨ret_bool ?_, hb1⟩
        rw [Bool.eq_iff_iff, HB.out, HR.out]
        exact ⟨fun h => ⟨HW.out, h⟩, fun h => h.2⟩
  by_cases h : PCW ls
  · exact ⟨true, key true ⟨fun _ => h, fun _ => rfl⟩⟩
  · exact ⟨false, key false ⟨(fun e => by cases e), fun p => absurd p h⟩⟩
end Go.Proofs.Ytanjpkcacgjgfaa
