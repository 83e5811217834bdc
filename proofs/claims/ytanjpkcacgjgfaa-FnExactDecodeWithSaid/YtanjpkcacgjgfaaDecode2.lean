/- DecodeWith: the program's half. No condition beyond the stated bounds. -/
import Derived.Test.YtanjpkcacgjgfaaDecode
namespace Go.Proofs.Ytanjpkcacgjgfaa
open Go.RowKit
/-- How the program's decoding stands: the variable with the rest of the word, and the numbers. -/
structure DecS (w wx : World) (rv nv : Value) (r out : List Int) : Prop where
  rest : Sl w rv r
  var : Var1 wx w.heap.size rv
  nums : Owns wx (w.heap.size + 1) nv out
  below : Below w.heap.size w wx
theorem DecS.drewN {w wx : World} {rv nv : Value} {r out : List Int} (h : DecS w wx rv nv r out) (n : Nat) : DecS w (wx.drewN n) rv nv r out := ⟨h.rest, h.var, h.nums, below_drewN h.below n⟩
theorem DecS.store {w w3 : World} {rv u v3 : Value} {r2 out2 : List Int} (hv : Var1 w3 w.heap.size rv) (ho : Owns w3 (w.heap.size + 1) v3 out2) (hB : Below w.heap.size w w3) (hs : Sl w u r2) : DecS w (w3.setCell ⟨w.heap.size, 0, none⟩ u) u v3 r2 out2 := by
  refine ⟨hs, hv.put u, ho.kept (grown_set0 w3 ⟨w.heap.size, 0, none⟩ u) ?_, hB.setCell (by simp) _⟩
  cases e : v3.ownBlock with
  | none => exact .inl rfl
  | some k => exact .inr (fun h => by have := (ho.lt k e).1; injection h with h; simp at h; omega)
/-- How memory stands ahead of the append: the variable holds x. -/
structure Bun (w wa : World) (nv : Value) (out : List Int) (m : Int) (lv x : Value) : Prop where
  nums : Owns wa (w.heap.size + 1) nv out
  lit : Sl wa lv [m]
  var : Var1 wa w.heap.size x
  below : Below w.heap.size w wa
  size : w.heap.size + 1 ≤ wa.heap.size
theorem Bun.push {w wa w3 : World} {nv lv x : Value} {out : List Int} {m : Int} (h : Bun w wa nv out m lv x) (hg : wa.grownBy w3 nv.ownBlock) : Var1 w3 w.heap.size x ∧ Below w.heap.size w w3 :=
  ⟨h.var.kept hg (fun k hk => by have := (h.nums.lt k hk).1; omega), h.below.grown hg h.below.size (fun k hk => by have := (h.nums.lt k hk).1; omega)⟩
theorem Bun.first {w wx : World} {rv nv : Value} {r out : List Int} (h : DecS w wx rv nv r out) (m : Int) : Bun w (wx.alloc (.cells #[.int .i64 m] 2)).drew nv out m (.slice (some ⟨wx.heap.size, 0, none⟩) 1 1) rv := by
  have ba : Below wx.heap.size wx (wx.alloc (.cells #[.int .i64 m] 2)) := (Below.refl _ _).alloc (Nat.le_refl _) _
  have hl : w.heap.size < wx.heap.size := cell_lt h.var.1
  exact ⟨(h.nums.alloc _).drew, (own_lit0 wx m).sl.drew, (h.var.next ba).drew, (below_next h.below ba).drew, by simp; omega⟩
theorem Bun.second {w wx : World} {rv nv : Value} {r out : List Int} (h : DecS w wx rv nv r out) (m : Int) (u : Value) : Bun w ((wx.setCell ⟨w.heap.size, 0, none⟩ u).alloc (.cells #[.int .i64 m] 2)).drew nv out m (.slice (some ⟨wx.heap.size, 0, none⟩) 1 1) u := by
  have hs : (wx.setCell ⟨w.heap.size, 0, none⟩ u).heap.size = wx.heap.size := by simp [World.setCell]
  have hl : w.heap.size < wx.heap.size := cell_lt h.var.1
  have hv := h.var.put u
  have hn : Owns (wx.setCell ⟨w.heap.size, 0, none⟩ u) (w.heap.size + 1) nv out := h.nums.kept (grown_set0 wx ⟨w.heap.size, 0, none⟩ u) (by
    cases e : nv.ownBlock with
    | none => exact .inl rfl
    | some k => exact .inr (fun hh => by have := (h.nums.lt k e).1; injection hh with hh; simp at hh; omega))
  have hB : Below w.heap.size w (wx.setCell ⟨w.heap.size, 0, none⟩ u) := h.below.setCell (by simp) _
  have ba : Below (wx.setCell ⟨w.heap.size, 0, none⟩ u).heap.size (wx.setCell ⟨w.heap.size, 0, none⟩ u) ((wx.setCell ⟨w.heap.size, 0, none⟩ u).alloc (.cells #[.int .i64 m] 2)) := (Below.refl _ _).alloc (Nat.le_refl _) _
  have hl2 := (own_lit0 (wx.setCell ⟨w.heap.size, 0, none⟩ u) m).sl
  rw [hs] at hl2
  exact ⟨(hn.alloc _).drew, hl2.drew, (hv.next ba).drew, (below_next hB ba).drew, by simp; omega⟩
theorem Bun.third {w wx : World} {rv nv : Value} {r out : List Int} (h : DecS w wx rv nv r out) (m : Int) (u : Value) : Bun w ((wx.alloc (.cells #[.int .i64 m] 2)).setCell ⟨w.heap.size, 0, none⟩ u).drew nv out m (.slice (some ⟨wx.heap.size, 0, none⟩) 1 1) u := by
  have h1 := Bun.first h m
  have hl : w.heap.size < wx.heap.size := cell_lt h.var.1
  have ho : Owns (wx.alloc (.cells #[.int .i64 m] 2)).drew wx.heap.size (.slice (some ⟨wx.heap.size, 0, none⟩) 1 1) [m] := (own_lit0 wx m).drew
  have hg := grown_set0 (wx.alloc (.cells #[.int .i64 m] 2)).drew ⟨w.heap.size, 0, none⟩ u
  have hs : ((wx.alloc (.cells #[.int .i64 m] 2)).drew.setCell ⟨w.heap.size, 0, none⟩ u).heap.size = wx.heap.size + 1 := by simp [World.setCell]
  refine ⟨h1.nums.kept hg ?_, (ho.kept hg (.inr fun h => ?_)).sl, h1.var.put u, h1.below.setCell (by simp) _, Nat.le_trans (by omega) (Nat.le_of_eq hs.symm)⟩
  · cases e : nv.ownBlock with
    | none => exact .inl rfl
    | some k => exact .inr (fun h => by have := (h1.nums.lt k e).1; injection h with h; simp at h; omega)
  · have h : some wx.heap.size = some w.heap.size := h
    injection h with h
    omega
set_option maxHeartbeats 4000000 in
set_option maxRecDepth 100000 in
theorem implDecodeWith_yes (v1 v2 : Value) (ls : List (List Int)) (l : List Int) (w : World) (h1 : SlL w v1 ls) (h2 : Sl w v2 l) (hn : ls.length + totL ls ≤ 1048576) (hp : PCW ls) (hl : wordB l = true) (hl2 : l.length ≤ 400) :
    Calls Try.prog 52 #[v1, v2] w (RetRowC w (optR (decF ls l.length l []) 3).1 (optR (decF ls l.length l []) 3).2) := by
  have HSL := Lib.hid h1
  have HS2 := Lib.hid h2
  have HP := Lib.hid hp.2
  have HW := Lib.hid hp.1
  have HL := Lib.hid hl
  have h40 := hp.2.2.1
  obtain ⟨A1, c1, vs, rfl, hlc, hcm, h3, h4⟩ := h1
  obtain ⟨A2, c2, rfl, hlc2, hcm2, hr⟩ := h2
  have H3 := Lib.hid h3
  have H4 := Lib.hid h4
  have hB0 : Below w.heap.size w (w.alloc (.cells #[.slice A2 l.length c2] 39)) := (Below.refl _ _).alloc (Nat.le_refl _) _
  have HV0 : Hid (Var1 (w.alloc (.cells #[.slice A2 l.length c2] 39)) w.heap.size (.slice A2 l.length c2)) := Lib.hid ⟨by rw [World.cell?_alloc_at _ _ _ _ rfl]; rfl, by simp⟩
  unfold maxLen at hcm hcm2
  clear h3 h4 hr hp hl
  go_enter Try.func52, Try.ntmps52
  go_wp2_with fail
  refine (areWords_any _ _ _ (HSL.out.next hB0)).mono ?_
  rintro e w' ⟨rfl, rfl⟩
  rw [HW.out]
  go_wp2_with fail
  refine (implIsWord_any _ _ _ (HS2.out.next hB0)).mono ?_
  rintro e w' ⟨rfl, rfl⟩
  rw [HL.out]
  go_wp2_with fail
  refine (isPrefixCode_any _ _ _ (HSL.out.next hB0) hn).mono ?_
  rintro e w1 ⟨b, rfl, hb, hb1⟩
  obtain rfl : b = true := hb.2 HP.out
  have hB1 := below_next hB0 hb1
  have hsz1 : w.heap.size + 1 ≤ w1.heap.size := by have := hb1.size; simpa using this
  have bA : Below w1.heap.size w1 (w1.alloc (.cells #[] 2)) := (Below.refl _ _).alloc (Nat.le_refl _) _
  have HS0 : Hid (DecS w (w1.alloc (.cells #[] 2)) (.slice A2 l.length c2) (.slice (some ⟨w1.heap.size, 0, none⟩) 0 0) l []) := Lib.hid ⟨HS2.out, (HV0.out.next hb1).next bA, Owns.empty w1 _ hsz1, below_next hB1 bA⟩
  clear hb hB1 hb1 bA HV0 hB0 hsz1
  go_wp2_with fail
  go_loopg [6] l.length (fun f u wr => ∃ (rv : Value) (r out : List Int), r.length ≤ f ∧ out.length + f ≤ l.length ∧ Hid (decF ls f r out = decF ls l.length l []) ∧ Hid (DecS w wr rv u r out))
  case atStart => exact ⟨_, l, [], Nat.le_refl _, by simp, Lib.hid rfl, HS0⟩
  case round =>
    clear HS0
    obtain ⟨rv, r, out, hrf, hof, HE, HD⟩ := hrel
    obtain ⟨Ar, cr, rfl, hlr, hcr, hqr⟩ := HD.out.rest
    unfold maxLen at hcr
    clear hqr
    have cW := HD.out.var.1
    by_cases hlt : 0 < r.length
    · obtain ⟨f, rfl⟩ : ∃ f, gk = f + 1 := ⟨gk - 1, by omega⟩
      have hli : (0 : Int) < (r.length : Int) := by omega
      obtain ⟨A6, c6, rfl, _, hc6, hq6⟩ := HD.out.nums.sl
      clear hq6 hc6
      go_wp2_with fail
      refine (decode_index w.heap.size _ _ r ls _ HD.out.var (HD.out.rest.next HD.out.below) (HSL.out.next HD.out.below)).mono ?_
      rintro e w2 ⟨F, rfl, hF0, hF1, hFS, n, rfl⟩
      have HD2 := Lib.hid (HD.out.drewN n)
      rcases hFS with ⟨hFn, hno⟩ | ⟨m, hm1, hm2, hm3⟩
      · subst hFn
        have HN : Hid (decF ls l.length l [] = none) := Lib.hid (by rw [← HE.out, decF_lost hlt hno])
        clear hno
        go_wp2_with fail
        go_ret2
        rw [HN.out]
        exact ⟨_, rfl, Fresh.nil_ _ _, HD2.out.below⟩
      · subst hm2
        have hneg : decide ((m : Int) < 0) = false := decide_eq_false (by omega)
        obtain ⟨ad, rfl, hb1, hc⟩ := H3.out (by omega)
        have HCM : Hid (∀ wx, Below w.heap.size w wx → wx.cell? (ad.add m) = some (getv vs m)) := Lib.hid (fun wx hx => (hx.cell (p := ad.add m) (by rw [block_of_add]; exact hb1)).trans (hc m hm1))
        obtain ⟨Am, cm, hem, hlm, hcmm, _⟩ := H4.out m hm1
        rw [hem] at HCM
        have hol := (occB_len hm3).1
        have hpos := (HP.out.2.2 m hm1).1
        have HNX : Hid (decF ls f (r.drop (getl ls m).length) (out ++ [(m : Int)]) = decF ls l.length l []) := Lib.hid (by rw [← HE.out, decF_next HP.out hlt hm1 hm3])
        unfold maxLen at hcmm
        have HRS0 := Lib.hid (sl_rest HD.out.rest hol)
        generalize wr.drewN n = wx at *
        have cWx := HD2.out.var.1
        have fWx := HD2.out.var.2
        have hcmx := HCM.out _ HD2.out.below
        have ba : Below wx.heap.size wx (wx.alloc (.cells #[.int .i64 (m : Int)] 2)) := (Below.refl _ _).alloc (Nat.le_refl _) _
        have cWa := lit_cell (x := (m : Int)) cWx
        have fWa := (HD2.out.var.next ba).2
        have hcma := HCM.out _ (below_next HD2.out.below ba)
        have HB1 := Lib.hid (Bun.first HD2.out (m : Int))
        have HB3 := Lib.hid (fun u => Bun.third HD2.out (m : Int) u)
        have e1 : ((getl ls m).length : Int) ≤ (r.length : Int) := by omega
        have e2 : ((getl ls m).length : Int) ≤ (cr : Int) := by omega
        have e3 : (m : Int) < (ls.length : Int) := by omega
        clear hc hem hm3 ba
        by_cases hck : cr = (getl ls m).length
        · rw [if_pos hck] at HRS0
          have hrk : r.length = (getl ls m).length := by omega
          have HRS : Hid (Sl w (.slice Ar (r.length - (getl ls m).length) 0) (r.drop (getl ls m).length)) := Lib.hid (by have := HRS0.out; rwa [hck, Nat.sub_self] at this)
          have HRS2 : Hid (Sl w (.slice Ar 0 0) (r.drop (getl ls m).length)) := Lib.hid (by have := HRS.out; rwa [hrk, Nat.sub_self] at this)
          have HB2 : Hid (∀ u, Bun w ((wx.setCell ⟨w.heap.size, 0, none⟩ u).alloc (.cells #[.int .i64 (m : Int)] 2)).drew (.slice A6 out.length c6) out (m : Int) (.slice (some ⟨wx.heap.size, 0, none⟩) 1 1) u) := Lib.hid (fun u => Bun.second HD2.out (m : Int) u)
          clear HE HD hlr hrk HRS0 hneg HSL HS2 HW HL h40 hlc hcm hlc2 hcm2 H3 H4 HP
          subst hck
          go_upto_region 10 with fail
          go_region_law
            (first
              | (refine step_cat (by rfl) (.tmp 30) (.tmp 32) (by rfl) (w.heap.size + 1) (.slice A6 out.length c6) out (by first | rfl | simp [Act.eval, Act.put]) HB1.out.nums (.slice (some ⟨wx.heap.size, 0, none⟩) 1 1) [(m : Int)] (by first | rfl | simp [Act.eval, Act.put]) HB1.out.lit (by simp; omega) HB1.out.size ?_; intro v3 w3 o3 hg3 _; have hpu := HB1.out.push hg3; have var3 := hpu.1; have hB3 := hpu.2; have cW3 := var3.1; have fW3 := var3.2; have hcm3 := HCM.out _ hB3; clear hpu) 
              | (refine step_cat (by rfl) (.tmp 30) (.tmp 32) (by rfl) (w.heap.size + 1) (.slice A6 out.length c6) out (by first | rfl | simp [Act.eval, Act.put]) (HB2.out _).nums (.slice (some ⟨wx.heap.size, 0, none⟩) 1 1) [(m : Int)] (by first | rfl | simp [Act.eval, Act.put]) (HB2.out _).lit (by simp; omega) (HB2.out _).size ?_; intro v3 w3 o3 hg3 _; have hpu := (HB2.out _).push hg3; have var3 := hpu.1; have hB3 := hpu.2; have cW3 := var3.1; have fW3 := var3.2; have hcm3 := HCM.out _ hB3; clear hpu) 
              | (refine step_cat (by rfl) (.tmp 30) (.tmp 32) (by rfl) (w.heap.size + 1) (.slice A6 out.length c6) out (by first | rfl | simp [Act.eval, Act.put]) (HB3.out _).nums (.slice (some ⟨wx.heap.size, 0, none⟩) 1 1) [(m : Int)] (by first | rfl | simp [Act.eval, Act.put]) (HB3.out _).lit (by simp; omega) (HB3.out _).size ?_; intro v3 w3 o3 hg3 _; have hpu := (HB3.out _).push hg3; have var3 := hpu.1; have hB3 := hpu.2; have cW3 := var3.1; have fW3 := var3.2; have hcm3 := HCM.out _ hB3; clear hpu))
          all_goals (
            go_wp2_with fail
            go_roundg f
            case measure => omega
            case rel => first
              | exact ⟨_, r.drop (getl ls m).length, out ++ [(m : Int)], by rw [List.length_drop]; omega, by simp; omega, HNX, Lib.hid (DecS.store var3 o3 hB3 (by first | exact HRS.out | exact HRS2.out))⟩
              | exact ⟨_, r.drop (getl ls m).length, out ++ [(m : Int)], by rw [List.length_drop]; omega, by simp; omega, HNX, Lib.hid ⟨by first | exact HRS.out | exact HRS2.out, var3, o3, hB3⟩⟩)
        · rw [if_neg hck] at HRS0
          have HRS := HRS0
          have HRS2 := HRS0
          have HB2 : Hid (∀ u, Bun w ((wx.setCell ⟨w.heap.size, 0, none⟩ u).alloc (.cells #[.int .i64 (m : Int)] 2)).drew (.slice A6 out.length c6) out (m : Int) (.slice (some ⟨wx.heap.size, 0, none⟩) 1 1) u) := Lib.hid (fun u => Bun.second HD2.out (m : Int) u)
          clear HE HD hlr hcr HRS0 hneg HSL HS2 HW HL h40 hlc hcm hlc2 hcm2 H3 H4 HP
          go_upto_region 10 with fail
          go_region_law
            (first
              | (refine step_cat (by rfl) (.tmp 30) (.tmp 32) (by rfl) (w.heap.size + 1) (.slice A6 out.length c6) out (by first | rfl | simp [Act.eval, Act.put]) HB1.out.nums (.slice (some ⟨wx.heap.size, 0, none⟩) 1 1) [(m : Int)] (by first | rfl | simp [Act.eval, Act.put]) HB1.out.lit (by simp; omega) HB1.out.size ?_; intro v3 w3 o3 hg3 _; have hpu := HB1.out.push hg3; have var3 := hpu.1; have hB3 := hpu.2; have cW3 := var3.1; have fW3 := var3.2; have hcm3 := HCM.out _ hB3; clear hpu) 
              | (refine step_cat (by rfl) (.tmp 30) (.tmp 32) (by rfl) (w.heap.size + 1) (.slice A6 out.length c6) out (by first | rfl | simp [Act.eval, Act.put]) (HB2.out _).nums (.slice (some ⟨wx.heap.size, 0, none⟩) 1 1) [(m : Int)] (by first | rfl | simp [Act.eval, Act.put]) (HB2.out _).lit (by simp; omega) (HB2.out _).size ?_; intro v3 w3 o3 hg3 _; have hpu := (HB2.out _).push hg3; have var3 := hpu.1; have hB3 := hpu.2; have cW3 := var3.1; have fW3 := var3.2; have hcm3 := HCM.out _ hB3; clear hpu) 
              | (refine step_cat (by rfl) (.tmp 30) (.tmp 32) (by rfl) (w.heap.size + 1) (.slice A6 out.length c6) out (by first | rfl | simp [Act.eval, Act.put]) (HB3.out _).nums (.slice (some ⟨wx.heap.size, 0, none⟩) 1 1) [(m : Int)] (by first | rfl | simp [Act.eval, Act.put]) (HB3.out _).lit (by simp; omega) (HB3.out _).size ?_; intro v3 w3 o3 hg3 _; have hpu := (HB3.out _).push hg3; have var3 := hpu.1; have hB3 := hpu.2; have cW3 := var3.1; have fW3 := var3.2; have hcm3 := HCM.out _ hB3; clear hpu))
          all_goals (
            go_wp2_with fail
            go_roundg f
            case measure => omega
            case rel => first
              | exact ⟨_, r.drop (getl ls m).length, out ++ [(m : Int)], by rw [List.length_drop]; omega, by simp; omega, HNX, Lib.hid (DecS.store var3 o3 hB3 (by first | exact HRS.out | exact HRS2.out))⟩
              | exact ⟨_, r.drop (getl ls m).length, out ++ [(m : Int)], by rw [List.length_drop]; omega, by simp; omega, HNX, Lib.hid ⟨by first | exact HRS.out | exact HRS2.out, var3, o3, hB3⟩⟩)
    · have HF : Hid (decF ls l.length l [] = some out) := Lib.hid (by rw [← HE.out, decF_done _ (by omega)])
      have hz : r.length = 0 := by omega
      have hz1 : decide ((0 : Int) < (r.length : Int)) = false := decide_eq_false (by omega)
      have hz2 : decide (0 < r.length) = false := decide_eq_false hlt
      clear hz
      go_wp2_with fail
      go_ret2
      rw [HF.out]
      exact ⟨_, rfl, .inl (HD.out.nums.lower (by omega)), HD.out.below⟩
end Go.Proofs.Ytanjpkcacgjgfaa
