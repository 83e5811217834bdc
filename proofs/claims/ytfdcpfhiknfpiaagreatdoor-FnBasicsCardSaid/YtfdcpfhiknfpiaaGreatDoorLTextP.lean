/- ListText of the program. Where the table of powers is laid. -/
import Derived.Test.YtfdcpfhiknfpiaaGreatDoorLText
import Derived.Test.YtfdcpfhiknfpiaaGreatDoorShelf
namespace Go.Proofs.YtfdcpfhiknfpiaaGreatDoor
open Go.RowKit Go.Joins
theorem strs_data (l : List (List UInt8)) : (l.map str).map (·.data.toList) = l := by
  rw [List.map_map]; exact List.map_id'' (fun a => rfl) l
set_option maxHeartbeats 400000 in
theorem decimals_any (v : Value) (l : List Int) (w : World) (hp : Pow w) (h : Sl w v l) (hf : Fit l) (hn : l.length ≤ 100000) (h0 : 0 < l.length) :
    Calls Tryz.prog 23 #[v, .string ⟨#[44]⟩] w fun e w' => e = .returned (.string (str (joinI l))) ∧ Below w.heap.size w w' := by
  obtain ⟨A, c, rfl, hlc, hcm, hr⟩ := h
  have HR := Lib.hid hr
  have HF := Lib.hid hf
  have HP := Lib.hid hp
  clear hr hf hp
  unfold maxLen at hcm
  have HO := Lib.hid (OwnsS.empty w w.heap.size (Nat.le_refl _))
  have hB0 : Below w.heap.size w (w.alloc (.cells #[] 9)) := (Below.refl _ _).alloc (Nat.le_refl _) _
  go_enter Tryz.func23, Tryz.ntmps23
  go_wp2_with fail
  go_loopw [5, 11] (fun u i wr => ∃ k : Nat, k ≤ l.length ∧ i = .int .i64 k ∧ Hid (OwnsS wr w.heap.size u ((l.take k).map Lib.itoa)) ∧ Below w.heap.size w wr) (fun _ i _ => l.length - (intOf i).toNat)
  case atStart => exact ⟨0, Nat.zero_le _, rfl, HO, hB0⟩
  case round =>
    clear HO hB0
    obtain ⟨k, hk, rfl, HO, hB⟩ := hrel
    by_cases hlt : k < l.length
    · obtain ⟨ad, rfl, hbk, hc⟩ := HR.out.at_ hlt
      have hcell := (hB.cell (p := ad.add k) (by rw [block_of_add]; exact hbk)).trans hc
      have hb := HF.out _ (geti_mem hlt)
      have b0 := hb.1
      have b1 := hb.2
      have HN : Hid ((l.take k).map Lib.itoa ++ [Lib.itoa (geti l k)] = (l.take (k + 1)).map Lib.itoa) := Lib.hid (by rw [take_snoc hlt, List.map_append]; rfl)
      have hlen : ((l.take k).map Lib.itoa).length ≤ 1000000000 := by rw [List.length_map, List.length_take]; omega
      have hPw : Pow wr := HP.out.next hB
      clear hc hb
      go_wp2_with (first
        | (go_at_call 7; refine (implDecimal_any _ _ hPw b0 b1).mono ?_; rintro e w1 ⟨rfl, hb1⟩; have hB1 := below_next hB hb1; have HO1 := Lib.hid (HO.out.next hb1))
        | (at_builtin; refine wpList_pushS rfl _ _ rfl w.heap.size _ ((l.take k).map Lib.itoa) rfl HO1.out _ rfl hlen hB1.size ?_; intro v2 w2 o2 hg2 _; have hB2 := hB1.grown hg2 hB1.size (fun k hk => (HO1.out.lt k hk).1); have HO2 : Hid (OwnsS w2 w.heap.size v2 ((l.take (k + 1)).map Lib.itoa)) := Lib.hid (by rw [← HN.out]; exact o2); clear o2 hg2))
      go_roundw
      case rel => exact ⟨k + 1, by omega, by go_num, HO2, hB2⟩
      case measure => simp [intOf] <;> omega
    · have hd : decide (k < l.length) = false := decide_eq_false hlt
      have ho := HO.out
      rw [List.take_of_length_le (by omega)] at ho
      rcases ho.shape with ⟨_, e⟩ | ⟨g, c9, rfl, _, hg, hnc, hcm9, hcl⟩
      · have := congrArg List.length e
        rw [List.length_map, List.length_nil] at this
        omega
      have hjl : (joinI l).length ≤ 2200000 := by have := joinI_len HF.out l.length (Nat.le_refl _); rw [List.take_length] at this; omega
      have hml : (l.map Lib.itoa).length = l.length := by rw [List.length_map]
      have HJ := Lib.hid (Tryz.strings_Join g 0 c9 ((l.map Lib.itoa).map str) ⟨#[44]⟩ wr (fun j x hx => by
        rw [Nat.zero_add]
        have hj : j < (l.map Lib.itoa).length := by
          rcases Nat.lt_or_ge j (l.map Lib.itoa).length with h | h
          · exact h
          · rw [List.getElem?_eq_none (by rwa [List.length_map])] at hx; cases hx
        rw [hcl j hj]
        rw [List.getElem?_map, List.getElem?_eq_getElem hj] at hx
        injection hx with hx
        rw [gets_eq hj, ← hx]; rfl) hg (by rw [List.length_map]; omega) (by rw [List.length_map]; exact hnc) (by rw [strs_data]; show (joinI l).length ≤ _; omega))
      rw [strs_data, List.length_map] at HJ
      clear hcl ho HO
      rw [hml] at HJ ⊢
      go_wp2_with (go_at_call 36; refine HJ.out.mono ?_; rintro e w3 ⟨rfl, hb3⟩)
      go_ret
      exact ⟨rfl, below_next hB hb3⟩
theorem implListText_any (v : Value) (l : List Int) (w : World) (hp : Pow w) (h : Sl w v l) (hf : Fit l) :
    Calls Tryz.prog 9 #[v] w fun e w' => e = .returned (.string (str (ltxt l))) ∧ Below w.heap.size w w' := by
  have HS := Lib.hid h
  have HP := Lib.hid hp
  obtain ⟨A, c, rfl, hlc, hcm, hr⟩ := h
  unfold maxLen at hcm
  clear hr hp
  by_cases h64 : l.length ≤ 64
  rotate_left
  · have HT : Hid (str (ltxt l) = ⟨#[]⟩) := Lib.hid (by unfold ltxt fitsB; rw [decide_eq_false h64, Bool.and_false]; rfl)
    have t1 : decide ((64 : Int) < (l.length : Int)) = true := decide_eq_true (by omega)
    have t2 : (64 : Int) < (l.length : Int) := by omega
    clear h64
    go_enter Tryz.func9, Tryz.ntmps9
    go_wp2_with fail
    go_ret
    exact ⟨ret_str HT.out.symm, Below.refl _ _⟩
  · have t1 : decide ((64 : Int) < (l.length : Int)) = false := decide_eq_false (by omega)
    have t2 : decide (64 < l.length) = false := decide_eq_false (by omega)
    cases hb : allIn l (-1000000000000) 1000000000000 with
    | false =>
      have HT : Hid (str (ltxt l) = ⟨#[]⟩) := Lib.hid (by unfold ltxt fitsB; rw [hb, Bool.false_and]; rfl)
      have HB := Lib.hid hb
      clear hb
      go_enter Tryz.func9, Tryz.ntmps9
      go_wp2_with (go_at_call 22; refine (allWithin_any _ _ _ _ _ HS.out).mono ?_; rintro e w' ⟨rfl, rfl⟩; rw [HB.out])
      go_ret
      exact ⟨ret_str HT.out.symm, Below.refl _ _⟩
    | true =>
      have HT : Hid (ltxt l = listTxt l) := Lib.hid (by unfold ltxt fitsB; rw [hb, decide_eq_true h64]; rfl)
      have HB := Lib.hid hb
      clear hb
      by_cases h0 : l.length = 0
      · have HT2 : Hid (str (ltxt l) = ⟨#[45]⟩) := Lib.hid (by rw [HT.out]; unfold listTxt; rw [if_pos h0]; rfl)
        have e1 : ((l.length : Int) == 0) = true := by rw [beq_iff_eq]; omega
        have e2 : (l.length == 0) = true := by rw [beq_iff_eq]; exact h0
        clear h0
        go_enter Tryz.func9, Tryz.ntmps9
        go_wp2_with (go_at_call 22; refine (allWithin_any _ _ _ _ _ HS.out).mono ?_; rintro e w' ⟨rfl, rfl⟩; rw [HB.out])
        go_ret
        exact ⟨ret_str HT2.out.symm, Below.refl _ _⟩
      · have HT2 : Hid (ltxt l = joinI l) := Lib.hid (by rw [HT.out]; unfold listTxt; rw [if_neg h0])
        have e1 : ((l.length : Int) == 0) = false := by rw [beq_eq_false_iff_ne]; omega
        have e2 : (l.length == 0) = false := by rw [beq_eq_false_iff_ne]; exact h0
        have hpos : 0 < l.length := by omega
        clear h0
        go_enter Tryz.func9, Tryz.ntmps9
        go_wp2_with (first
          | (go_at_call 22; refine (allWithin_any _ _ _ _ _ HS.out).mono ?_; rintro e w' ⟨rfl, rfl⟩; rw [HB.out])
          | (go_at_call 23; refine (decimals_any _ l _ HP.out HS.out hf (by omega) hpos).mono ?_; rintro e w1 ⟨rfl, hb1⟩))
        go_ret
        exact ⟨ret_str (by rw [HT2.out]), hb1⟩
end Go.Proofs.YtfdcpfhiknfpiaaGreatDoor
