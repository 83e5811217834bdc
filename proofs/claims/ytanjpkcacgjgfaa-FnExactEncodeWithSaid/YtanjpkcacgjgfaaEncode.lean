/- EncodeWith: the reference and the program give the same results. No condition beyond the stated bounds. -/
import Derived.Test.YtanjpkcacgjgfaaPlainCode
namespace Go.Proofs.Ytanjpkcacgjgfaa
open Go.RowKit
set_option maxHeartbeats 2000000 in
set_option maxRecDepth 100000 in
theorem specEncodeWith_out (v1 v2 : Value) (ls : List (List Int)) (l : List Int) (w : World) (h1 : SlL w v1 ls) (h2 : Sl w v2 l) (hn : ls.length + totL ls ≤ 1048576) (hp : PCW ls) (hin : allIn l 0 ((ls.length : Int) - 1) = false) :
    Calls Try.prog 54 #[v1, v2] w (RetRowC w [] 2) := by
  have HSL := Lib.hid h1
  have HP := Lib.hid hp
  have HIN := Lib.hid hin
  have HW := Lib.hid hp.1
  obtain ⟨A1, c1, vs, rfl, hlc, hcm, h3, h4⟩ := h1
  obtain ⟨A2, c2, rfl, hlc2, hcm2, hr⟩ := h2
  have HR := Lib.hid hr
  unfold maxLen at hcm hcm2
  clear h3 h4 hr hp hin
  go_enter Try.func54, Try.ntmps54
  go_wp2_with fail
  refine (l03All_any _ _ _ HSL.out).mono ?_
  rintro e w' ⟨rfl, rfl⟩
  rw [HW.out]
  go_wp2_with fail
  refine (l03Code_any _ _ _ HSL.out hn).mono ?_
  rintro e w1 ⟨b, rfl, hb, hB1⟩
  obtain rfl : b = true := hb.2 HP.out
  clear hb
  go_wp2_with fail
  go_loop [6] (fun i => ∃ k : Nat, k ≤ l.length ∧ i = .int .i64 k ∧ Hid (∀ j, j < k → inB (geti l j) 0 ((ls.length : Int) - 1) = true)) (fun i => l.length - (intOf i).toNat)
  case atStart => exact ⟨0, Nat.zero_le _, rfl, Lib.hid (fun j hj => by omega)⟩
  case round =>
    obtain ⟨k, hk, rfl, H⟩ := hrel
    by_cases hlt : k < l.length
    · obtain ⟨ad, rfl, hbk, hc⟩ := HR.out.at_ hlt
      have hck := (hB1.cell (p := ad.add k) (by rw [block_of_add]; exact hbk)).trans hc
      clear hc
      cases hi : inB (geti l k) 0 ((ls.length : Int) - 1) with
      | true =>
        have HN : Hid (∀ j, j < k + 1 → inB (geti l j) 0 ((ls.length : Int) - 1) = true) := Lib.hid (fun j hj => by
          rcases Nat.lt_or_ge j k with h | h
          · exact H.out j h
          · obtain rfl : j = k := by omega
            exact hi)
        go_wp2_with (go_at_call 60; refine (l00In_any _ _ _ _).mono ?_; rintro e w' ⟨rfl, rfl⟩)
        go_round
        case rel => exact ⟨k + 1, by omega, by go_num, HN⟩
        case measure => simp [intOf] <;> omega
      | false =>
        go_wp2_with (go_at_call 60; refine (l00In_any _ _ _ _).mono ?_; rintro e w' ⟨rfl, rfl⟩)
        go_ret2
        exact ⟨_, rfl, Fresh.nil_ _ _, hB1⟩
    · exfalso
      have := allIn_yes (l := l) (lo := 0) (hi := (ls.length : Int) - 1) (fun j hj => H.out j (by omega))
      rw [HIN.out] at this
      cases this
set_option maxHeartbeats 2000000 in
set_option maxRecDepth 100000 in
theorem specEncodeWith_in (v1 v2 : Value) (ls : List (List Int)) (l : List Int) (w : World) (h1 : SlL w v1 ls) (h2 : Sl w v2 l) (hn : ls.length + totL ls ≤ 1048576) (hp : PCW ls) (hin : allIn l 0 ((ls.length : Int) - 1) = true) :
    Calls Try.prog 54 #[v1, v2] w (RetRowC w (optR (encF ls l []) 5).1 (optR (encF ls l []) 5).2) := by
  have HSL := Lib.hid h1
  have HP := Lib.hid hp
  have HIN := Lib.hid (allIn_true.1 hin)
  have HW := Lib.hid hp.1
  obtain ⟨A1, c1, vs, rfl, hlc, hcm, h3, h4⟩ := h1
  obtain ⟨A2, c2, rfl, hlc2, hcm2, hr⟩ := h2
  have HR := Lib.hid hr
  have H3 := Lib.hid h3
  have H4 := Lib.hid h4
  unfold maxLen at hcm hcm2
  clear h3 h4 hr hp hin
  go_enter Try.func54, Try.ntmps54
  go_wp2_with fail
  refine (l03All_any _ _ _ HSL.out).mono ?_
  rintro e w' ⟨rfl, rfl⟩
  rw [HW.out]
  go_wp2_with fail
  refine (l03Code_any _ _ _ HSL.out hn).mono ?_
  rintro e w1 ⟨b, rfl, hb, hB1⟩
  obtain rfl : b = true := hb.2 HP.out
  clear hb
  go_wp2_with fail
  go_loop [6] (fun i => ∃ k : Nat, k ≤ l.length ∧ i = .int .i64 k) (fun i => l.length - (intOf i).toNat)
  case atStart => exact ⟨0, Nat.zero_le _, rfl⟩
  case round =>
    obtain ⟨k, hk, rfl⟩ := hrel
    by_cases hlt : k < l.length
    · obtain ⟨ad, rfl, hbk, hc⟩ := HR.out.at_ hlt
      have hck := (hB1.cell (p := ad.add k) (by rw [block_of_add]; exact hbk)).trans hc
      have hi : inB (geti l k) 0 ((ls.length : Int) - 1) = true := inB_true.2 (HIN.out _ (geti_mem hlt))
      clear hc
      go_wp2_with (go_at_call 60; refine (l00In_any _ _ _ _).mono ?_; rintro e w' ⟨rfl, rfl⟩)
      go_round
      case rel => exact ⟨k + 1, by omega, by go_num⟩
      case measure => simp [intOf] <;> omega
    · have HO0 := Lib.hid (Owns.empty w1 w.heap.size hB1.size)
      have hB0 : Below w.heap.size w (w1.alloc (.cells #[] 2)) := hB1.alloc hB1.size _
      clear hB1
      go_wp2_with fail
      go_loopw [7, 8] (fun u i wr => ∃ (k : Nat) (out : List Int), k ≤ l.length ∧ out.length ≤ 400 ∧ i = .int .i64 k ∧ Hid (encF ls (l.drop k) out = encF ls l []) ∧ Hid (Owns wr w.heap.size u out) ∧ Below w.heap.size w wr) (fun _ i _ => l.length - (intOf i).toNat)
      case atStart => exact ⟨0, [], Nat.zero_le _, by simp, rfl, Lib.hid rfl, HO0, hB0⟩
      case round =>
        clear HO0 hB0 hlt hk
        obtain ⟨k, out, hk, hout, rfl, HE, HO, hB⟩ := hrel
        by_cases hlt : k < l.length
        · obtain ⟨ad, rfl, hbk, hc⟩ := HR.out.at_ hlt
          have hi := HIN.out _ (geti_mem hlt)
          obtain ⟨m, hm⟩ : ∃ m : Nat, geti l k = (m : Int) := ⟨(geti l k).toNat, by omega⟩
          have hck := (hB.cell (p := ad.add k) (by rw [block_of_add]; exact hbk)).trans hc
          rw [hm] at hck hi
          have hml : m < ls.length := by omega
          have hmi : (m : Int) < (ls.length : Int) := by omega
          obtain ⟨ad3, rfl, hb3, hc3⟩ := H3.out (by omega)
          have hcm3 := (hB.cell (p := ad3.add m) (by rw [block_of_add]; exact hb3)).trans (hc3 m hml)
          have HSM := Lib.hid ((H4.out m hml).next hB)
          have HEB := Lib.hid (fun hb => encF_big (ls := ls) (out := out) hlt hm hb)
          have HEG := Lib.hid (fun hb => encF_go (ls := ls) (out := out) hlt hm hb)
          have hmem := totL_mem hml
          clear hc hm hc3 hi
          have hcl : out.length + (getl ls m).length ≤ 1000000000 := by omega
          obtain ⟨out2, ho2⟩ : ∃ o, out ++ getl ls m = o := ⟨_, rfl⟩
          rw [ho2] at HEB HEG
          have HOUT := Lib.hid ho2
          clear ho2
          by_cases hbig : 400 < out2.length
          · have hbi : (400 : Int) < (out2.length : Int) := by omega
            have HF : Hid (encF ls l [] = none) := Lib.hid (by rw [← HE.out, HEB.out hbig])
            have HLT := Lib.hid HO.out.lt
            go_wp2_with (at_builtin; refine wpList_cat rfl _ _ rfl w.heap.size _ out rfl HO.out _ (getl ls m) rfl HSM.out hcl hB.size ?_; intro v5 w5 o5 hg5 _; rw [HOUT.out] at o5; obtain ⟨A5, c5, rfl, _, hc5, hq5⟩ := o5.sl; unfold maxLen at hc5; clear hq5)
            go_ret2
            rw [HF.out]
            exact ⟨_, rfl, Fresh.nil_ _ _, hB.grown hg5 hB.size (fun k hk => (HLT.out k hk).1)⟩
          · have hb1 : decide ((400 : Int) < (out2.length : Int)) = false := decide_eq_false (by omega)
            have hb2 : decide (400 < out2.length) = false := decide_eq_false hbig
            have HE5 : Hid (encF ls (l.drop (k + 1)) out2 = encF ls l []) := Lib.hid (by rw [← HE.out, HEG.out hbig])
            have HLT := Lib.hid HO.out.lt
            go_wp2_with (at_builtin; refine wpList_cat rfl _ _ rfl w.heap.size _ out rfl HO.out _ (getl ls m) rfl HSM.out hcl hB.size ?_; intro v5 w5 o5 hg5 _; rw [HOUT.out] at o5; obtain ⟨A5, c5, rfl, _, hc5, hq5⟩ := o5.sl; unfold maxLen at hc5; clear hq5)
            go_roundw
            case rel => exact ⟨k + 1, out2, by omega, by omega, by go_num, HE5, Lib.hid o5, hB.grown hg5 hB.size (fun k hk => (HLT.out k hk).1)⟩
            case measure => simp [intOf] <;> omega
        · have HF : Hid (encF ls l [] = some out) := Lib.hid (by rw [← HE.out, List.drop_eq_nil_of_le (by omega)]; rfl)
          go_wp2_with fail
          go_ret2
          rw [HF.out]
          exact ⟨_, rfl, .inl HO.out, hB⟩
theorem sizeLL_any (v : Value) (ls : List (List Int)) (w : World) (h : SlL w v ls) :
    Calls Try.prog 117 #[v] w fun e w' => e = .returned (.int .i64 (ls.length : Int)) ∧ w = w' := by
  obtain ⟨A, c, vs, rfl, hlc, hcm, _⟩ := h
  unfold maxLen at hcm
  go_enter Try.func117, Try.ntmps117
  go_wp2
  go_ret
  exact ⟨rfl, rfl⟩
set_option maxHeartbeats 2000000 in
set_option maxRecDepth 100000 in
theorem implEncodeWith_out (v1 v2 : Value) (ls : List (List Int)) (l : List Int) (w : World) (h1 : SlL w v1 ls) (h2 : Sl w v2 l) (hn : ls.length + totL ls ≤ 1048576) (hp : PCW ls) (hin : allIn l 0 ((ls.length : Int) - 1) = false) :
    Calls Try.prog 55 #[v1, v2] w (RetRowC w [] 2) := by
  have HP := Lib.hid hp.2
  have HW := Lib.hid hp.1
  have HIN := Lib.hid hin
  have hl1 := hp.2.1
  clear hp hin
  go_enter Try.func55, Try.ntmps55
  go_wp2_with fail
  refine (areWords_any _ _ _ h1).mono ?_
  rintro e w' ⟨rfl, rfl⟩
  rw [HW.out]
  go_wp2_with fail
  refine (isPrefixCode_any _ _ _ h1 hn).mono ?_
  rintro e w1 ⟨b, rfl, hb, hB1⟩
  obtain rfl : b = true := hb.2 HP.out
  clear hb
  go_wp2_with fail
  refine (sizeLL_any _ _ _ (h1.next hB1)).mono ?_
  rintro e w' ⟨rfl, rfl⟩
  go_wp2_with fail
  refine (allWithin_any _ _ _ _ _ (h2.next hB1)).mono ?_
  rintro e w' ⟨rfl, rfl⟩
  rw [HIN.out]
  go_wp2_with fail
  go_ret2
  exact ⟨_, rfl, Fresh.nil_ _ _, hB1⟩
set_option maxHeartbeats 2000000 in
set_option maxRecDepth 100000 in
theorem implEncodeWith_in (v1 v2 : Value) (ls : List (List Int)) (l : List Int) (w : World) (h1 : SlL w v1 ls) (h2 : Sl w v2 l) (hn : ls.length + totL ls ≤ 1048576) (hp : PCW ls) (hin : allIn l 0 ((ls.length : Int) - 1) = true) :
    Calls Try.prog 55 #[v1, v2] w (RetRowC w (optR (encF ls l []) 5).1 (optR (encF ls l []) 5).2) := by
  have HSL := Lib.hid h1
  have HS2 := Lib.hid h2
  have HP := Lib.hid hp.2
  have HW := Lib.hid hp.1
  have HAL := Lib.hid hin
  have HIN := Lib.hid (allIn_true.1 hin)
  have hl1 := hp.2.1
  obtain ⟨A1, c1, vs, rfl, hlc, hcm, h3, h4⟩ := h1
  obtain ⟨A2, c2, rfl, hlc2, hcm2, hr⟩ := h2
  have HR := Lib.hid hr
  have H3 := Lib.hid h3
  have H4 := Lib.hid h4
  unfold maxLen at hcm hcm2
  clear h3 h4 hr hp hin
  go_enter Try.func55, Try.ntmps55
  go_wp2_with fail
  refine (areWords_any _ _ _ HSL.out).mono ?_
  rintro e w' ⟨rfl, rfl⟩
  rw [HW.out]
  go_wp2_with fail
  refine (isPrefixCode_any _ _ _ HSL.out hn).mono ?_
  rintro e w1 ⟨b, rfl, hb, hB1⟩
  obtain rfl : b = true := hb.2 HP.out
  clear hb
  go_wp2_with fail
  refine (sizeLL_any _ _ _ (HSL.out.next hB1)).mono ?_
  rintro e w' ⟨rfl, rfl⟩
  go_wp2_with fail
  refine (allWithin_any _ _ _ _ _ (HS2.out.next hB1)).mono ?_
  rintro e w' ⟨rfl, rfl⟩
  rw [HAL.out]
  have HO0 := Lib.hid (Owns.empty w1 w.heap.size hB1.size)
  have hB0 : Below w.heap.size w (w1.alloc (.cells #[] 2)) := hB1.alloc hB1.size _
  clear hB1
  go_wp2_with fail
  go_loopw [6, 27] (fun u i wr => ∃ (k : Nat) (out : List Int), k ≤ l.length ∧ out.length ≤ 400 ∧ i = .int .i64 k ∧ Hid (encF ls (l.drop k) out = encF ls l []) ∧ Hid (Owns wr w.heap.size u out) ∧ Below w.heap.size w wr) (fun _ i _ => l.length - (intOf i).toNat)
  case atStart => exact ⟨0, [], Nat.zero_le _, by simp, rfl, Lib.hid rfl, HO0, hB0⟩
  case round =>
    clear HO0 hB0
    obtain ⟨k, out, hk, hout, rfl, HE, HO, hB⟩ := hrel
    by_cases hlt : k < l.length
    · obtain ⟨ad, rfl, hbk, hc⟩ := HR.out.at_ hlt
      have hi := HIN.out _ (geti_mem hlt)
      obtain ⟨m, hm⟩ : ∃ m : Nat, geti l k = (m : Int) := ⟨(geti l k).toNat, by omega⟩
      have hck := (hB.cell (p := ad.add k) (by rw [block_of_add]; exact hbk)).trans hc
      rw [hm] at hck hi
      have hml : m < ls.length := by omega
      have hmi : (m : Int) < (ls.length : Int) := by omega
      obtain ⟨ad3, rfl, hb3, hc3⟩ := H3.out (by omega)
      have hcm3 := (hB.cell (p := ad3.add m) (by rw [block_of_add]; exact hb3)).trans (hc3 m hml)
      have HSM := Lib.hid ((H4.out m hml).next hB)
      have HEB := Lib.hid (fun hb => encF_big (ls := ls) (out := out) hlt hm hb)
      have HEG := Lib.hid (fun hb => encF_go (ls := ls) (out := out) hlt hm hb)
      have hmem := totL_mem hml
      clear hc hm hc3 hi
      have hcl : out.length + (getl ls m).length ≤ 1000000000 := by omega
      obtain ⟨out2, ho2⟩ : ∃ o, out ++ getl ls m = o := ⟨_, rfl⟩
      rw [ho2] at HEB HEG
      have HOUT := Lib.hid ho2
      clear ho2
      by_cases hbig : 400 < out2.length
      · have hbi : (400 : Int) < (out2.length : Int) := by omega
        have HF : Hid (encF ls l [] = none) := Lib.hid (by rw [← HE.out, HEB.out hbig])
        have HLT := Lib.hid HO.out.lt
        go_wp2_with (at_builtin; refine wpList_cat rfl _ _ rfl w.heap.size _ out rfl HO.out _ (getl ls m) rfl HSM.out hcl hB.size ?_; intro v5 w5 o5 hg5 _; rw [HOUT.out] at o5; obtain ⟨A5, c5, rfl, _, hc5, hq5⟩ := o5.sl; unfold maxLen at hc5; clear hq5)
        go_ret2
        rw [HF.out]
        exact ⟨_, rfl, Fresh.nil_ _ _, hB.grown hg5 hB.size (fun k hk => (HLT.out k hk).1)⟩
      · have hb1 : decide ((400 : Int) < (out2.length : Int)) = false := decide_eq_false (by omega)
        have hb2 : decide (400 < out2.length) = false := decide_eq_false hbig
        have HE5 : Hid (encF ls (l.drop (k + 1)) out2 = encF ls l []) := Lib.hid (by rw [← HE.out, HEG.out hbig])
        have HLT := Lib.hid HO.out.lt
        go_wp2_with (at_builtin; refine wpList_cat rfl _ _ rfl w.heap.size _ out rfl HO.out _ (getl ls m) rfl HSM.out hcl hB.size ?_; intro v5 w5 o5 hg5 _; rw [HOUT.out] at o5; obtain ⟨A5, c5, rfl, _, hc5, hq5⟩ := o5.sl; unfold maxLen at hc5; clear hq5)
        go_roundw
        case rel => exact ⟨k + 1, out2, by omega, by omega, by go_num, HE5, Lib.hid o5, hB.grown hg5 hB.size (fun k hk => (HLT.out k hk).1)⟩
        case measure => simp [intOf] <;> omega
    · have HF : Hid (encF ls l [] = some out) := Lib.hid (by rw [← HE.out, List.drop_eq_nil_of_le (by omega)]; rfl)
      go_wp2_with fail
      go_ret2
      rw [HF.out]
      exact ⟨_, rfl, .inl HO.out, hB⟩
set_option maxHeartbeats 1000000 in
theorem bothEncodeWith (ls : List (List Int)) (l : List Int) (_f : ∀ l ∈ ls, Fit l) (hn : ls.length + totL ls ≤ 1048576) (_g : Fit l) (_hm : l.length ≤ 1048576) : ∃ (R : List Int) (C : Int), R.length ≤ 4000000 ∧
    (∀ (w : World) (v1 v2 : Value), SlL w v1 ls → Sl w v2 l → Calls Try.prog 54 #[v1, v2] w (RetRowC w R C)) ∧
    (∀ (w : World) (v1 v2 : Value), SlL w v1 ls → Sl w v2 l → Calls Try.prog 55 #[v1, v2] w (RetRowC w R C)) := by
  by_cases hp : PCW ls
  · cases hin : allIn l 0 ((ls.length : Int) - 1) with
    | false => exact ⟨[], 2, by simp, fun w v1 v2 h1 h2 => specEncodeWith_out v1 v2 ls l w h1 h2 hn hp hin, fun w v1 v2 h1 h2 => implEncodeWith_out v1 v2 ls l w h1 h2 hn hp hin⟩
    | true => exact ⟨_, _, optR_len (fun r hr => encF_len l [] r (by simp) hr), fun w v1 v2 h1 h2 => specEncodeWith_in v1 v2 ls l w h1 h2 hn hp hin, fun w v1 v2 h1 h2 => implEncodeWith_in v1 v2 ls l w h1 h2 hn hp hin⟩
  · cases hw : areWords_all ls with
    | false =>
      refine ⟨[], 1, by simp, fun w v1 v2 h1 h2 => ?_, fun w v1 v2 h1 h2 => ?_⟩
      · go_enter Try.func54, Try.ntmps54
        go_wp2_with fail
        refine (l03All_any _ _ _ h1).mono ?_
        rintro e w' ⟨rfl, rfl⟩
        rw [hw]
        go_wp2_with fail
        go_ret2
        exact ⟨_, rfl, Fresh.nil_ _ _, Below.refl _ _⟩
      · go_enter Try.func55, Try.ntmps55
        go_wp2_with fail
        refine (areWords_any _ _ _ h1).mono ?_
        rintro e w' ⟨rfl, rfl⟩
        rw [hw]
        go_wp2_with fail
        go_ret2
        exact ⟨_, rfl, Fresh.nil_ _ _, Below.refl _ _⟩
    | true =>
      have HNP := Lib.hid hp
      have HNQ : Hid (¬ PC ls) := Lib.hid (fun h => hp ⟨hw, h⟩)
      clear hp
      refine ⟨[], 7, by simp, fun w v1 v2 h1 h2 => ?_, fun w v1 v2 h1 h2 => ?_⟩
      · go_enter Try.func54, Try.ntmps54
        go_wp2_with fail
        refine (l03All_any _ _ _ h1).mono ?_
        rintro e w' ⟨rfl, rfl⟩
        rw [hw]
        go_wp2_with fail
        refine (l03Code_any _ _ _ h1 hn).mono ?_
        rintro e w1 ⟨b, rfl, hb, hB1⟩
        obtain rfl : b = false := by
          cases b with
          | false => rfl
          | true => exact absurd (hb.1 rfl) HNP.out
        clear hb
        go_wp2_with fail
        go_ret2
        exact ⟨_, rfl, Fresh.nil_ _ _, hB1⟩
      · go_enter Try.func55, Try.ntmps55
        go_wp2_with fail
        refine (areWords_any _ _ _ h1).mono ?_
        rintro e w' ⟨rfl, rfl⟩
        rw [hw]
        go_wp2_with fail
        refine (isPrefixCode_any _ _ _ h1 hn).mono ?_
        rintro e w1 ⟨b, rfl, hb, hB1⟩
        obtain rfl : b = false := by
          cases b with
          | false => rfl
          | true => exact absurd (hb.1 rfl) HNQ.out
        clear hb
        go_wp2_with fail
        go_ret2
        exact ⟨_, rfl, Fresh.nil_ _ _, hB1⟩
end Go.Proofs.Ytanjpkcacgjgfaa
