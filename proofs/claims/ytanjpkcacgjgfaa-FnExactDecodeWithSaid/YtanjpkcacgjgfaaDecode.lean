/- DecodeWith: the reference and the program give the same results. No condition beyond the stated bounds. -/
import Derived.Test.YtanjpkcacgjgfaaPlainCode
import Derived.Test.YtanjpkcacgjgfaaNatLong2
namespace Go.Proofs.Ytanjpkcacgjgfaa
open Go.RowKit
set_option maxHeartbeats 2000000 in
set_option maxRecDepth 100000 in
theorem specDecodeWith_yes (v1 v2 : Value) (ls : List (List Int)) (l : List Int) (w : World) (h1 : SlL w v1 ls) (h2 : Sl w v2 l) (hn : ls.length + totL ls ≤ 1048576) (hp : PCW ls) (hl : wordB l = true) (hl2 : l.length ≤ 400) :
    Calls Try.prog 51 #[v1, v2] w (RetRowC w (optR (decF ls l.length l []) 3).1 (optR (decF ls l.length l []) 3).2) := by
  have HSL := Lib.hid h1
  have HS2 := Lib.hid h2
  have HP := Lib.hid hp
  have HW := Lib.hid hp.1
  have HL := Lib.hid hl
  have h40 := hp.2.2.1
  obtain ⟨A1, c1, vs, rfl, hlc, hcm, h3, h4⟩ := h1
  obtain ⟨A2, c2, rfl, hlc2, hcm2, hr⟩ := h2
  have H3 := Lib.hid h3
  have H4 := Lib.hid h4
  unfold maxLen at hcm hcm2
  clear h3 h4 hr hp hl
  go_enter Try.func51, Try.ntmps51
  go_wp2_with fail
  refine (l03All_any _ _ _ HSL.out).mono ?_
  rintro e w' ⟨rfl, rfl⟩
  rw [HW.out]
  go_wp2_with fail
  refine (l03Is_any _ _ _ HS2.out).mono ?_
  rintro e w' ⟨rfl, rfl⟩
  rw [HL.out]
  go_wp2_with fail
  refine (l03Code_any _ _ _ HSL.out hn).mono ?_
  rintro e w1 ⟨b, rfl, hb, hB1⟩
  obtain rfl : b = true := hb.2 HP.out
  have HO0 := Lib.hid (Owns.empty w1 w.heap.size hB1.size)
  have hB0 : Below w.heap.size w (w1.alloc (.cells #[] 2)) := hB1.alloc hB1.size _
  clear hb hB1
  go_wp2_with fail
  go_loopg [6, 7] l.length (fun f u i wr => ∃ (at_ : Nat) (out : List Int), at_ ≤ l.length ∧ l.length ≤ at_ + f ∧ out.length + f ≤ l.length ∧ i = .int .i64 (at_ : Int) ∧ Hid (decF ls f (l.drop at_) out = decF ls l.length l []) ∧ Hid (Owns wr w.heap.size u out) ∧ Below w.heap.size w wr)
  case atStart => exact ⟨0, [], Nat.zero_le _, by omega, by simp, rfl, Lib.hid rfl, HO0, hB0⟩
  case round =>
    clear HO0 hB0
    obtain ⟨a, out, ha, hf, hof, rfl, HE, HO, hB⟩ := hrel
    by_cases hlt : a < l.length
    · obtain ⟨f, rfl⟩ : ∃ f, gk = f + 1 := ⟨gk - 1, by omega⟩
      have hrl : 0 < (l.drop a).length := by rw [List.length_drop]; omega
      obtain ⟨wo, rfl⟩ : ∃ wo : World, wo = wr := ⟨_, rfl⟩
      obtain ⟨A6, c6, rfl, _, hc6, hq6⟩ := HO.out.sl
      clear hq6 hc6
      go_wp2_with fail
      go_loopw [8, 9] (fun fv i wr => ∃ (b : Nat) (F : Int), b ≤ ls.length ∧ i = .int .i64 (b : Int) ∧ fv = .int .i64 F ∧ -1 ≤ F ∧ F < (ls.length : Int) ∧ Hid (FStat ls (l.drop a) b F) ∧ Hid (Owns wr w.heap.size (.slice A6 out.length c6) out) ∧ Below w.heap.size w wr) (fun _ i _ => ls.length - (intOf i).toNat)
      case atStart => exact ⟨0, -1, Nat.zero_le _, rfl, rfl, by omega, by omega, Lib.hid (.inl ⟨rfl, fun j hj => by omega⟩), HO, hB⟩
      case round =>
        clear hB HO
        obtain ⟨b, F, hb, rfl, rfl, hF0, hF1, HF, HO, hB⟩ := hrel
        by_cases hltb : b < ls.length
        · obtain ⟨ad, rfl, hb1, hc⟩ := H3.out (by omega)
          have hcb := (hB.cell (p := ad.add b) (by rw [block_of_add]; exact hb1)).trans (hc b hltb)
          have HSB := Lib.hid ((H4.out b hltb).next hB)
          have hmb := totL_mem hltb
          clear hc
          cases ho : occB l (getl ls b) a with
          | false =>
            have HF2 : Hid (FStat ls (l.drop a) (b + 1) F) := Lib.hid (HF.out.no (by rw [occB_drop (by omega)]; exact ho))
            have HOB := Lib.hid ho
            clear ho
            go_wp2_with fail
            refine (l03At_q _ _ _ _ _ _ (HS2.out.next hB) HSB.out (by omega) (by omega)).mono ?_
            rintro e w' ⟨rfl, n, rfl⟩
            rw [HOB.out]
            go_wp2_with fail
            go_roundw
            case rel => exact ⟨b + 1, F, by omega, by go_num, rfl, hF0, hF1, HF2, Lib.hid (HO.out.drewN _), below_drewN hB _⟩
            case measure => simp [intOf] <;> omega
          | true =>
            have HF2 : Hid (FStat ls (l.drop a) (b + 1) (b : Int)) := Lib.hid (FStat.yes (by rw [occB_drop (by omega)]; exact ho))
            have HOB := Lib.hid ho
            clear ho
            go_wp2_with fail
            refine (l03At_q _ _ _ _ _ _ (HS2.out.next hB) HSB.out (by omega) (by omega)).mono ?_
            rintro e w' ⟨rfl, n, rfl⟩
            rw [HOB.out]
            go_wp2_with fail
            go_roundw
            case rel => exact ⟨b + 1, (b : Int), by omega, by go_num, rfl, by omega, by omega, HF2, Lib.hid (HO.out.drewN _), below_drewN hB _⟩
            case measure => simp [intOf] <;> omega
        · obtain rfl : b = ls.length := by omega
          rcases HF.out with ⟨hFn, hno⟩ | ⟨m, hm1, hm2, hm3⟩
          · subst hFn
            have HN : Hid (decF ls l.length l [] = none) := Lib.hid (by rw [← HE.out, decF_lost hrl hno])
            clear hno
            go_wp2_with fail
            go_ret2
            rw [HN.out]
            exact ⟨_, rfl, Fresh.nil_ _ _, hB⟩
          · subst hm2
            have hneg : decide ((m : Int) < 0) = false := decide_eq_false (by omega)
            obtain ⟨ad, rfl, hb1, hc⟩ := H3.out (by omega)
            have HCM : Hid (∀ wx, Below w.heap.size w wx → wx.cell? (ad.add m) = some (getv vs m)) := Lib.hid (fun wx hx => (hx.cell (p := ad.add m) (by rw [block_of_add]; exact hb1)).trans (hc m hm1))
            obtain ⟨Am, cm, hem, hlm, hcmm, _⟩ := H4.out m hm1
            rw [hem] at HCM
            have hol := (occB_len hm3).1
            rw [List.length_drop] at hol
            have hpos := (HP.out.2.2.2 m hm1).1
            have HNX : Hid (decF ls f (l.drop (a + (getl ls m).length)) (out ++ [(m : Int)]) = decF ls l.length l []) := Lib.hid (by rw [← HE.out, decF_next HP.out.2 hrl hm1 hm3, List.drop_drop])
            have HLT := Lib.hid HO.out.lt
            unfold maxLen at hcmm
            clear hc hem hm3 HF
            go_wp2_with (at_builtin; refine wpList_push rfl _ _ rfl w.heap.size _ out rfl HO.out (m : Int) rfl (by omega) hB.size ?_; intro v5 w5 o5 hg5 _; have hB5 := hB.grown hg5 hB.size (fun k hk => (HLT.out k hk).1); have hcm5 := HCM.out _ hB5)
            go_roundg f
            case measure => omega
            case rel => exact ⟨a + (getl ls m).length, _, by omega, by omega, by simp; omega, by go_num, HNX, Lib.hid o5, hB5⟩
    · have HF : Hid (decF ls l.length l [] = some out) := Lib.hid (by rw [← HE.out, decF_done _ (by rw [List.length_drop]; omega)])
      go_wp2_with fail
      go_ret2
      rw [HF.out]
      exact ⟨_, rfl, .inl HO.out, hB⟩
/-- What the search for a word leaves. -/
def IdxD (ls : List (List Int)) (r : List Int) (w : World) (e : Ending) (w' : World) : Prop := ∃ F : Int, e = .returned (.int .i64 F) ∧ -1 ≤ F ∧ F < (ls.length : Int) ∧ FStat ls r ls.length F ∧ ∃ n, w' = w.drewN n
theorem decode_clo (p : Nat) (rv v : Value) (r q : List Int) (w : World) (cp : Var1 w p rv) (hr : Sl w rv r) (hv : Sl w v q) :
    Calls Try.prog 115 #[v, .pointer (some ⟨p, 0, none⟩)] w fun e w' => e = .returned (.bool (occB r q 0)) ∧ ∃ n, w' = w.drewN n := by
  have c1 := cp.1
  have HR := Lib.hid hr
  obtain ⟨A1, c1, rfl, _, _, hq⟩ := hr
  clear hq
  go_enter Try.func115, Try.ntmps115
  go_wp2_with fail
  refine (begins_q _ _ _ _ _ HR.out hv).mono ?_
  rintro e w' ⟨rfl, n, rfl⟩
  go_wp2_with fail
  go_ret
  exact ⟨rfl, n, rfl⟩
theorem decode_index (p : Nat) (rv v : Value) (r : List Int) (ls : List (List Int)) (w : World) (cp : Var1 w p rv) (hr : Sl w rv r) (h : SlL w v ls) :
    Calls Try.prog 114 #[v, .func (.func 115) #[] #[.pointer (some ⟨p, 0, none⟩)]] w (IdxD ls r w) := by
  obtain ⟨A, c, vs, rfl, hlc, hcm, h3, h4⟩ := h
  have H3 := Lib.hid h3
  have H4 := Lib.hid h4
  have HC := Lib.hid cp
  have HR := Lib.hid hr
  clear h3 h4 cp hr
  unfold maxLen at hcm
  go_enter Try.func114, Try.ntmps114
  go_wp2_with fail
  go_loopw [8] (fun i wr => ∃ k : Nat, k ≤ ls.length ∧ i = .int .i64 k ∧ Hid (FStat ls r k (-1)) ∧ ∃ n, wr = w.drewN n) (fun i _ => ls.length - (intOf i).toNat)
  case atStart => exact ⟨0, Nat.zero_le _, rfl, Lib.hid (.inl ⟨rfl, fun j hj => by omega⟩), 0, (World.drewN_zero w).symm⟩
  case round =>
    obtain ⟨k, hk, rfl, H, n, rfl⟩ := hrel
    by_cases hlt : k < ls.length
    · obtain ⟨ad, rfl, hb1, hc⟩ := H3.out (by omega)
      have hck : (w.drewN n).cell? (ad.add k) = some (getv vs k) := hc k hlt
      have HS : Hid (Sl (w.drewN n) (getv vs k) (getl ls k)) := Lib.hid ((H4.out k hlt).drewN n)
      have HC2 : Hid (Var1 (w.drewN n) p rv) := HC
      clear hc
      cases ho : occB r (getl ls k) 0 with
      | false =>
        have HN := Lib.hid (H.out.no ho)
        have HOB := Lib.hid ho
        clear ho
        go_wp2_with fail
        refine (decode_clo p rv _ r _ _ HC2.out (HR.out.drewN n) HS.out).mono ?_
        rintro e w' ⟨rfl, m, rfl⟩
        rw [HOB.out]
        go_wp2_with fail
        go_roundw
        case rel => exact ⟨k + 1, by omega, by go_num, HN, n + m, rfl⟩
        case measure => simp [intOf] <;> omega
      | true =>
        have HN : Hid (FStat ls r ls.length (k : Int)) := Lib.hid (.inr ⟨k, hlt, rfl, ho⟩)
        have HOB := Lib.hid ho
        clear ho
        go_wp2_with fail
        refine (decode_clo p rv _ r _ _ HC2.out (HR.out.drewN n) HS.out).mono ?_
        rintro e w' ⟨rfl, m, rfl⟩
        rw [HOB.out]
        go_wp2_with fail
        go_ret
        exact ⟨_, rfl, by omega, by omega, HN.out, n + m, rfl⟩
    · obtain rfl : k = ls.length := by omega
      go_wp2_with fail
      go_ret
      exact ⟨_, rfl, by omega, by omega, H.out, n, rfl⟩
/-- What is left of the word behind its first word. -/
theorem sl_rest {w : World} {A : Option Addr} {c k : Nat} {l : List Int} (h : Sl w (.slice A l.length c) l) (hk : k ≤ l.length) :
    Sl w (.slice (if c = k then A else Option.map (fun x => x.add k) A) (l.length - k) (c - k)) (l.drop k) := by
  obtain ⟨A', c', e, h1, h2, h3⟩ := h
  simp only [Value.slice.injEq] at e
  obtain ⟨rfl, _, rfl⟩ := e
  exact Sl.of (h3.cut hk h1) (by omega) (by omega)
end Go.Proofs.Ytanjpkcacgjgfaa
