/- PrimeList: the reference and the program give the same results. No condition beyond the stated bounds. -/
import Derived.Test.YtanjpkcacgjgfaaPlainPList
import Derived.Test.YtanjpkcacgjgfaaNatWord
import Derived.Test.YtanjpkcacgjgfaaNatDivs
namespace Go.Proofs.Ytanjpkcacgjgfaa
open Go.RowKit
/-- u reads as l, apart from the row that v owns. -/
def SlO (w : World) (u : Value) (l : List Int) (v : Value) : Prop := Sl w u l ∧ ∀ ad n c, u = .slice (some ad) n c → 0 < n → v.ownBlock ≠ some ad.block
theorem SlO.next {w w' : World} {u v : Value} {l : List Int} (h : SlO w u l v) (hb : Below w.heap.size w w') : SlO w' u l v := ⟨h.1.next hb, h.2⟩
theorem SlO.grow {w w' : World} {u v v' : Value} {l : List Int} (h : SlO w u l v) (hg : w.grownBy w' v.ownBlock) (hv : v'.ownBlock = v.ownBlock ∨ ∃ k, v'.ownBlock = some k ∧ w.heap.size ≤ k) : SlO w' u l v' := by
  obtain ⟨⟨A, c, rfl, h1, h2, h3⟩, hne⟩ := h
  have key : ∀ ad, A = some ad → 0 < l.length → ad.block < w.heap.size := fun ad e h0 => by
    obtain ⟨ad', e', hb, _⟩ := h3.2 h0
    rw [e] at e'; injection e' with e'; rw [e']; exact hb
  refine ⟨⟨A, c, rfl, h1, h2, h3.1, fun h0 => ?_⟩, fun ad n c' e h0 => ?_⟩
  · obtain ⟨ad, rfl, hb, hc⟩ := h3.2 h0
    refine ⟨ad, rfl, Nat.lt_of_lt_of_le hb hg.size, fun j hj => ?_⟩
    rw [World.cell?_of_block (hg.block _ (by rw [block_of_add]; exact hb) (by rw [block_of_add]; exact fun e => hne ad _ _ rfl h0 e.symm))]
    exact hc j hj
  · simp only [Value.slice.injEq] at e
    obtain ⟨rfl, rfl, rfl⟩ := e
    rcases hv with e | ⟨k, e, hk⟩
    · rw [e]; exact hne ad _ _ rfl h0
    · rw [e]; intro e2; injection e2 with e2; have := key ad rfl h0; omega
theorem SlO.start {w : World} {u v : Value} {l : List Int} (h : Sl w u l) (hv : ∀ k, v.ownBlock = some k → w.heap.size ≤ k) : SlO w u l v := by
  refine ⟨h, fun ad n c e h0 e2 => ?_⟩
  obtain ⟨A, c', rfl, _, _, h3⟩ := h
  simp only [Value.slice.injEq] at e
  obtain ⟨rfl, rfl, rfl⟩ := e
  obtain ⟨ad', e', hb, _⟩ := h3.2 h0
  injection e' with e'
  subst e'
  have := hv _ e2
  omega
theorem SlO.made {w : World} {b : Nat} {u v : Value} {l : List Int} (h : Owns w b u l) (hv : ∀ k, v.ownBlock = some k → k < b) : SlO w u l v := by
  refine ⟨h.sl, fun ad n c e h0 e2 => ?_⟩
  subst e
  have h1 := (h.lt ad.block rfl).1
  have h2 := hv _ e2
  omega
theorem plsize_any (v : Value) (l : List Int) (w : World) (h : Sl w v l) :
    Calls Try.prog 91 #[v] w fun e w' => e = .returned (.int .i64 (l.length : Int)) ∧ w = w' := by
  obtain ⟨A, c, rfl, hlc, hcm, _⟩ := h
  unfold maxLen at hcm
  go_enter Try.func91, Try.ntmps91
  go_wp2
  go_ret
  exact ⟨rfl, rfl⟩
set_option maxHeartbeats 4000000 in
theorem implPrimeList_yes (v : Value) (l : List Int) (w : World) (h : Sl w v l) (hn : natB l = true) (h0 : 0 < l.length) :
    Calls Try.prog 39 #[v] w (RetRowC w (plR (plist 24 (val l) [])).1 (plR (plist 24 (val l) [])).2) := by
  have HS := Lib.hid h
  have hv := nat_val hn
  have m1 := nat_pos hn h0
  have HM40 := Lib.hid hv.2.2
  have HSN : Hid (Sl w v (nl (val l))) := Lib.hid (by rw [hv.1]; exact h)
  obtain ⟨A, c, rfl, hlc, hcm, hr⟩ := h
  clear hr hv
  have hz : ((l.length : Int) == 0) = false := by rw [beq_eq_false_iff_ne]; omega
  have hz2 : (l.length == 0) = false := by rw [beq_eq_false_iff_ne]; omega
  have HO0 := Lib.hid (Owns.empty w w.heap.size (Nat.le_refl _))
  have hB0 : Below w.heap.size w (w.alloc (.cells #[] 2)) := (Below.refl _ _).alloc (Nat.le_refl _) _
  generalize val l = M at *
  go_enter Try.func39, Try.ntmps39
  go_wp2_with fail
  refine (implIsNatural_any _ _ _ HS.out).mono ?_
  rintro e w' ⟨rfl, rfl⟩
  rw [hn]
  go_wp2_with fail
  go_loopg [0, 4] 24 (fun r u v wr => ∃ (m : Int) (out : List Int), out.length + r = 24 ∧ 1 ≤ m ∧ Hid (m < pw 40) ∧ Hid (plist r m out = plist 24 M []) ∧ Hid (SlO wr u (nl m) v) ∧ Hid (Owns wr w.heap.size v out) ∧ Below w.heap.size w wr)
  case atStart => exact ⟨M, [], by simp, m1, HM40, Lib.hid rfl, Lib.hid (SlO.start HSN.out (fun k hk => (HO0.out.lt k hk).1) |>.next hB0), HO0, hB0⟩
  case round =>
    clear HSN HO0 hB0 HM40 m1
    obtain ⟨m, out, hlen, hm1, H40, HE, HU, HO, hB⟩ := hrel
    obtain ⟨A4, c4, rfl, _, hc4, hq4⟩ := HO.out.sl
    unfold maxLen at hc4
    clear hq4
    go_wp2_with fail
    refine (one_any _).mono ?_
    rintro e w1 ⟨r1, rfl, o1, hb1⟩
    have hB1 := below_next hB hb1
    have HU1 := Lib.hid (HU.out.next hb1)
    have HO1 := Lib.hid (HO.out.next hb1)
    go_wp2_with fail
    refine (compareNaturals_any _ _ _ _ _ HU1.out.1 o1.sl).mono ?_
    rintro e w2 ⟨rfl, hb2⟩
    have hB2 := below_next hB1 hb2
    have HU2 := Lib.hid (HU1.out.next hb2)
    have HO2 := Lib.hid (HO1.out.next hb2)
    have hcm2 := (cmp_nl (show 0 ≤ m by omega) (show (0 : Int) ≤ 1 by omega)).1
    clear o1 hb1 hb2 HU HO HU1 HO1 hB hB1
    generalize cmpN (nl m) (nl 1) = cc at *
    by_cases hone : m ≤ 1
    · obtain rfl : m = 1 := by omega
      have hcc : decide (0 < cc) = false := decide_eq_false (by have := hcm2.2 (by omega); omega)
      have HF : Hid (plist 24 M [] = some out) := Lib.hid (by rw [← HE.out, plist_one hlen])
      clear hcm2
      go_wp2_with fail
      go_ret2
      rw [HF.out]
      exact ⟨_, rfl, .inl HO2.out, hB2⟩
    · have hcc : decide (0 < cc) = true := decide_eq_true (by
        rcases Int.lt_or_le 0 cc with h | h
        · exact h
        · exact absurd (hcm2.1 h) hone)
      clear hcm2
      by_cases hr0 : gk = 0
      · subst hr0
        have e1 : ((out.length : Int) == 24) = true := by rw [beq_iff_eq]; omega
        have e2 : (out.length == 24) = true := by rw [beq_iff_eq]; omega
        have HF : Hid (plist 24 M [] = none) := Lib.hid (by rw [← HE.out]; simp [plist]; omega)
        go_wp2_with fail
        go_ret2
        rw [HF.out]
        exact ⟨_, rfl, Fresh.nil_ _ _, hB2⟩
      · obtain ⟨r, rfl⟩ : ∃ r, gk = r + 1 := ⟨gk - 1, by omega⟩
        have e1 : ((out.length : Int) == 24) = false := by rw [beq_eq_false_iff_ne]; omega
        have e2 : (out.length == 24) = false := by rw [beq_eq_false_iff_ne]; omega
        have hpk := primeK_found out.length (by omega)
        have p2 := hpk.2.2
        have p89 := hpk.2.1
        have HVL := Lib.hid (valu_nl hm1 H40.out (show (2 : Int) ≤ (primeK out.length : Int) by omega) (by omega))
        clear hpk
        go_wp2_with fail
        refine (plsize_any _ _ _ HO2.out.sl).mono ?_
        rintro e w' ⟨rfl, rfl⟩
        go_wp2_with fail
        refine (primeAt_any _ _ (by omega)).mono ?_
        rintro e w' ⟨rfl, rfl⟩
        go_wp2_with fail
        refine (implValuationOf_any _ _ _ _ HU2.out.1).mono ?_
        rintro e w3 ⟨rfl, hb3⟩
        rw [HVL.out]
        have hB3 := below_next hB2 hb3
        have HU3 := Lib.hid (HU2.out.next hb3)
        have HO3 := Lib.hid (HO2.out.next hb3)
        have hel := expo_le 800 m (primeK out.length : Int)
        have hpb := fun j => pdiv_bd (show (2 : Int) ≤ (primeK out.length : Int) by omega) j 800 m hm1
        have HPB := Lib.hid hpb
        obtain ⟨E, hE⟩ : ∃ E, expo 800 m (primeK out.length : Int) = E := ⟨_, rfl⟩
        rw [hE] at hel HPB ⊢
        have HEE := Lib.hid hE
        clear hE HU2 HO2 hB2 hb3 HVL hpb
        by_cases hE0 : E = 0
        · subst hE0
          have HF : Hid (plist 24 M [] = none) := Lib.hid (by rw [← HE.out, plist_stop HEE.out, if_neg (by omega)])
          go_wp2_with fail
          go_ret2
          rw [HF.out]
          exact ⟨_, rfl, Fresh.nil_ _ _, hB3⟩
        · have e3 : ((E : Int) == 0) = false := by rw [beq_eq_false_iff_ne]; omega
          have HEN : Hid (plist r (pdiv (primeK out.length : Int) E m) (out ++ [(E : Int) - 1]) = plist 24 M []) := Lib.hid (by rw [← HE.out, plist_go HEE.out hE0])
          have hlt3 := HO3.out.lt
          have HLT := Lib.hid hlt3
          clear hlt3
          go_wp2_with (at_builtin; refine wpList_push rfl _ _ rfl w.heap.size _ out rfl HO3.out ((E : Int) - 1) rfl (by omega) hB3.size ?_; intro v5 w5 o5 hg5 hv5)
          have hB5 := hB3.grown hg5 hB3.size (fun k hk => (HLT.out k hk).1)
          have HU5 := Lib.hid (HU3.out.grow hg5 hv5)
          have HO5 := Lib.hid o5
          clear o5 hg5 hv5 HU3 HO3 hB3 HLT
          go_wp2_with fail
          go_loopg [0, 6] E (fun f u t wr => ∃ j : Nat, j + f = E ∧ t = .int .i64 (f : Int) ∧ Hid (SlO wr u (nl (pdiv (primeK out.length : Int) j m)) v5) ∧ Hid (Owns wr w.heap.size v5 (out ++ [(E : Int) - 1])) ∧ Below w.heap.size w wr)
          case atStart => exact ⟨0, by omega, rfl, HU5, HO5, hB5⟩
          case round =>
            clear HU5 HO5 hB5
            obtain ⟨j, hjf, rfl, HU, HO, hB⟩ := hrel
            have hz1 := HPB.out j (by omega)
            by_cases hf : 0 < gk
            · obtain ⟨f, rfl⟩ : ∃ f, gk = f + 1 := ⟨gk - 1, by omega⟩
              have hfi : (0 : Int) < ((f + 1 : Nat) : Int) := by omega
              have HP1 := Lib.hid (pdiv_snoc (primeK out.length : Int) j m)
              have HZ40 : Hid (pdiv (primeK out.length : Int) j m < pw 40) := Lib.hid (by have := H40.out; omega)
              have hz := hz1.1
              go_wp2_with fail
              refine (divideSmall_val _ _ _ _ HU.out.1 (by omega) HZ40.out (by omega) (by omega)).mono ?_
              rintro e w6 ⟨r6, rfl, o6, hb6⟩
              have HU6 : Hid (SlO w6 r6 (nl (pdiv (primeK out.length : Int) (j + 1) m)) v5) := Lib.hid (by rw [HP1.out]; exact SlO.made o6 (fun k hk => (HO.out.lt k hk).2))
              have HO6 := Lib.hid (HO.out.next hb6)
              have hB6 := below_next hB hb6
              clear o6
              go_wp2_with fail
              go_roundg f
              case measure => omega
              case rel => exact ⟨j + 1, by omega, by go_num, HU6, HO6, hB6⟩
            · obtain rfl : gk = 0 := by omega
              obtain rfl : j = E := by omega
              have hz := hz1.1
              have HZ40 : Hid (pdiv (primeK out.length : Int) j m < pw 40) := Lib.hid (by have := H40.out; omega)
              go_wp2_with fail
              go_roundg r
              case measure => omega
              case rel => exact ⟨_, _, by simp; omega, hz, HZ40, HEN, HU, HO, hB⟩
set_option maxHeartbeats 4000000 in
theorem specPrimeList_yes (v : Value) (l : List Int) (w : World) (h : Sl w v l) (hn : natB l = true) (h0 : 0 < l.length) :
    Calls Try.prog 38 #[v] w (RetRowC w (plR (plist 24 (val l) [])).1 (plR (plist 24 (val l) [])).2) := by
  have HS := Lib.hid h
  have hv := nat_val hn
  have m1 := nat_pos hn h0
  have HM40 := Lib.hid hv.2.2
  have HSN : Hid (Sl w v (nl (val l))) := Lib.hid (by rw [hv.1]; exact h)
  obtain ⟨A, c, rfl, hlc, hcm, hr⟩ := h
  clear hr hv
  have hz : ((l.length : Int) == 0) = false := by rw [beq_eq_false_iff_ne]; omega
  have hz2 : (l.length == 0) = false := by rw [beq_eq_false_iff_ne]; omega
  have HO0 := Lib.hid (Owns.empty w w.heap.size (Nat.le_refl _))
  have hB0 : Below w.heap.size w (w.alloc (.cells #[] 2)) := (Below.refl _ _).alloc (Nat.le_refl _) _
  generalize val l = M at *
  go_enter Try.func38, Try.ntmps38
  go_wp2_with fail
  refine (l02Is_any _ _ _ HS.out).mono ?_
  rintro e w' ⟨rfl, rfl⟩
  rw [hn]
  go_wp2_with fail
  go_loopg [4, 5, 6] 24 (fun r v4 u5 i wr => ∃ (m : Int) (out : List Int), out.length + r = 24 ∧ i = .int .i64 (out.length : Int) ∧ 1 ≤ m ∧ Hid (m < pw 40) ∧ Hid (plist r m out = plist 24 M []) ∧ Hid (SlO wr u5 (nl m) v4) ∧ Hid (Owns wr w.heap.size v4 out) ∧ Below w.heap.size w wr)
  case atStart => exact ⟨M, [], by simp, rfl, m1, HM40, Lib.hid rfl, Lib.hid (SlO.start HSN.out (fun k hk => (HO0.out.lt k hk).1) |>.next hB0), HO0, hB0⟩
  case round =>
    clear HSN HO0 hB0 HM40 m1
    obtain ⟨m, out, hlen, rfl, hm1, H40, HE, HU, HO, hB⟩ := hrel
    have hnp : 0 < (nl m).length := nl_pos (by omega)
    obtain ⟨A4, c4, rfl, _, hc4, hq4⟩ := HO.out.sl
    unfold maxLen at hc4
    clear hq4
    by_cases hr0 : gk = 0
    · subst hr0
      have hd : decide ((out.length : Int) < 24) = false := decide_eq_false (by omega)
      have HUX := HU
      have HOX := HO
      have hBX := hB
      by_cases hone : m = 1
      · subst hone
        have HF : Hid (plist 24 M [] = some out) := Lib.hid (by rw [← HE.out, plist, if_pos rfl])
        have q1 : (((nl 1).length : Int) != 1) = false := rfl
        have q2 : ((nl 1).length != 1) = false := rfl
        obtain ⟨A5, c5, rfl, _, hc5, hq5⟩ := HUX.out.1
        unfold maxLen at hc5
        obtain ⟨ad, rfl, hbk, hc⟩ := hq5.at_ (k := 0) hnp
        have hcell : wr.cell? ad = some (.int .i64 1) := hc
        clear hc hq5
        go_wp2_with fail
        go_ret2
        rw [HF.out]
        exact ⟨_, rfl, .inl HOX.out, hBX⟩
      · have HF : Hid (plist 24 M [] = none) := Lib.hid (by rw [← HE.out, plist, if_neg hone])
        by_cases hl1 : (nl m).length = 1
        · have q1 : (((nl m).length : Int) != 1) = false := by rw [hl1]; rfl
          have q2 : ((nl m).length != 1) = false := by rw [hl1]; rfl
          have q3 : (m != 1) = true := by simpa using hone
          obtain ⟨A5, c5, rfl, _, hc5, hq5⟩ := HUX.out.1
          unfold maxLen at hc5
          obtain ⟨ad, rfl, hbk, hc⟩ := hq5.at_ (k := 0) hnp
          rw [nl_is_one hm1 hl1] at hc
          have hcell : wr.cell? ad = some (.int .i64 m) := hc
          clear hc hq5 hl1
          go_wp2_with fail
          go_ret2
          rw [HF.out]
          exact ⟨_, rfl, Fresh.nil_ _ _, hBX⟩
        · have q1 : (((nl m).length : Int) != 1) = true := by rw [bne_iff_ne]; omega
          have q2 : ((nl m).length != 1) = true := by rw [bne_iff_ne]; exact hl1
          obtain ⟨A5, c5, rfl, _, hc5, hq5⟩ := HUX.out.1
          clear hq5 hl1
          go_wp2_with fail
          go_ret2
          rw [HF.out]
          exact ⟨_, rfl, Fresh.nil_ _ _, hBX⟩
    · obtain ⟨r, rfl⟩ : ∃ r, gk = r + 1 := ⟨gk - 1, by omega⟩
      have hd : decide ((out.length : Int) < 24) = true := decide_eq_true (by omega)
      have hpk := primeK_found out.length (by omega)
      have p2 := hpk.2.2
      have p89 := hpk.2.1
      clear hpk
      go_wp2_with fail
      refine (l01PrimeAt_any _ _ (by omega)).mono ?_
      rintro e w' ⟨rfl, rfl⟩
      go_wp2_with fail
      refine (l02Valuation_any _ _ _ _ HU.out.1 (natB_nl (by omega) H40.out) hnp (by omega) (by omega)).mono ?_
      rintro e w3 ⟨rfl, hb3⟩
      rw [val_nl (show 0 ≤ m by omega)]
      have hBX := below_next hB hb3
      have HUX := Lib.hid (HU.out.next hb3)
      have HOX := Lib.hid (HO.out.next hb3)
      have hel := expo_le 800 m (primeK out.length : Int)
      have HPB := Lib.hid (fun j => pdiv_bd (show (2 : Int) ≤ (primeK out.length : Int) by omega) j 800 m hm1)
      obtain ⟨E, hE⟩ : ∃ E, expo 800 m (primeK out.length : Int) = E := ⟨_, rfl⟩
      rw [hE] at hel HPB ⊢
      have HEE := Lib.hid hE
      clear hE HU HO hB hb3
      by_cases hE0 : E = 0
      · subst hE0
        by_cases hone : m = 1
        · subst hone
          have HF : Hid (plist 24 M [] = some out) := Lib.hid (by rw [← HE.out, plist_stop HEE.out, if_pos rfl])
          have q1 : (((nl 1).length : Int) != 1) = false := rfl
          have q2 : ((nl 1).length != 1) = false := rfl
          obtain ⟨A5, c5, rfl, _, hc5, hq5⟩ := HUX.out.1
          unfold maxLen at hc5
          obtain ⟨ad, rfl, hbk, hc⟩ := hq5.at_ (k := 0) hnp
          have hcell : w3.cell? ad = some (.int .i64 1) := hc
          clear hc hq5
          go_wp2_with fail
          go_ret2
          rw [HF.out]
          exact ⟨_, rfl, .inl HOX.out, hBX⟩
        · have HF : Hid (plist 24 M [] = none) := Lib.hid (by rw [← HE.out, plist_stop HEE.out, if_neg hone])
          by_cases hl1 : (nl m).length = 1
          · have q1 : (((nl m).length : Int) != 1) = false := by rw [hl1]; rfl
            have q2 : ((nl m).length != 1) = false := by rw [hl1]; rfl
            have q3 : (m != 1) = true := by simpa using hone
            obtain ⟨A5, c5, rfl, _, hc5, hq5⟩ := HUX.out.1
            unfold maxLen at hc5
            obtain ⟨ad, rfl, hbk, hc⟩ := hq5.at_ (k := 0) hnp
            rw [nl_is_one hm1 hl1] at hc
            have hcell : w3.cell? ad = some (.int .i64 m) := hc
            clear hc hq5 hl1
            go_wp2_with fail
            go_ret2
            rw [HF.out]
            exact ⟨_, rfl, Fresh.nil_ _ _, hBX⟩
          · have q1 : (((nl m).length : Int) != 1) = true := by rw [bne_iff_ne]; omega
            have q2 : ((nl m).length != 1) = true := by rw [bne_iff_ne]; exact hl1
            obtain ⟨A5, c5, rfl, _, hc5, hq5⟩ := HUX.out.1
            clear hq5 hl1
            go_wp2_with fail
            go_ret2
            rw [HF.out]
            exact ⟨_, rfl, Fresh.nil_ _ _, hBX⟩
      · have e3 : ((E : Int) == 0) = false := by rw [beq_eq_false_iff_ne]; omega
        have HEN : Hid (plist r (pdiv (primeK out.length : Int) E m) (out ++ [(E : Int) - 1]) = plist 24 M []) := Lib.hid (by rw [← HE.out, plist_go HEE.out hE0])
        go_wp2_with fail
        go_loopg [5, 9] E (fun f u t wr => ∃ j : Nat, j + f = E ∧ t = .int .i64 (j : Int) ∧ Hid (SlO wr u (nl (pdiv (primeK out.length : Int) j m)) (.slice A4 out.length c4)) ∧ Hid (Owns wr w.heap.size (.slice A4 out.length c4) out) ∧ Below w.heap.size w wr)
        case atStart => exact ⟨0, by omega, rfl, HUX, HOX, hBX⟩
        case round =>
          clear HUX HOX hBX
          obtain ⟨j, hjf, rfl, HU, HO, hB⟩ := hrel
          have hz1 := HPB.out j (by omega)
          have HZ40 : Hid (pdiv (primeK out.length : Int) j m < pw 40) := Lib.hid (by have := H40.out; omega)
          have hz := hz1.1
          by_cases hf : 0 < gk
          · obtain ⟨f, rfl⟩ : ∃ f, gk = f + 1 := ⟨gk - 1, by omega⟩
            have hfi : (j : Int) < (E : Int) := by omega
            have HP1 := Lib.hid (pdiv_snoc (primeK out.length : Int) j m)
            go_wp2_with fail
            refine (l02By_val _ _ _ _ HU.out.1 (by omega) HZ40.out (by omega) (by omega)).mono ?_
            rintro e w6 ⟨r6, rfl, o6, hb6⟩
            have HU6 : Hid (SlO w6 r6 (nl (pdiv (primeK out.length : Int) (j + 1) m)) (.slice A4 out.length c4)) := Lib.hid (by rw [HP1.out]; exact SlO.made o6 (fun k hk => (HO.out.lt k hk).2))
            have HO6 := Lib.hid (HO.out.next hb6)
            have hB6 := below_next hB hb6
            clear o6
            go_wp2_with fail
            go_roundg f
            case measure => omega
            case rel => exact ⟨j + 1, by omega, by go_num, HU6, HO6, hB6⟩
          · obtain rfl : gk = 0 := by omega
            obtain rfl : j = E := by omega
            have HLT := Lib.hid HO.out.lt
            go_wp2_with (at_builtin; refine wpList_push rfl _ _ rfl w.heap.size _ out rfl HO.out ((j : Int) - 1) rfl (by omega) hB.size ?_; intro v5 w5 o5 hg5 hv5)
            have hB5 := hB.grown hg5 hB.size (fun k hk => (HLT.out k hk).1)
            have HU5 := Lib.hid (HU.out.grow hg5 hv5)
            have HO5 := Lib.hid o5
            clear o5 hg5 hv5 HU HO hB HLT
            go_wp2_with fail
            go_roundg r
            case measure => omega
            case rel => exact ⟨_, _, by simp; omega, by simp, hz, HZ40, HEN, HU5, HO5, hB5⟩
theorem bothPrimeList (l : List Int) (_f : Fit l) (_hn : l.length ≤ 1048576) : ∃ (R : List Int) (C : Int), R.length ≤ 4000000 ∧
    (∀ (w : World) (v : Value), Sl w v l → Calls Try.prog 38 #[v] w (RetRowC w R C)) ∧
    (∀ (w : World) (v : Value), Sl w v l → Calls Try.prog 39 #[v] w (RetRowC w R C)) := by
  cases hn : natB l with
  | false =>
    refine ⟨[], 1, by simp, fun w v h => ?_, fun w v h => ?_⟩
    · go_enter Try.func38, Try.ntmps38
      go_wp2_with (go_at_call 93; refine (l02Is_any _ _ _ h).mono ?_; rintro e w' ⟨rfl, rfl⟩)
      go_ret2
      exact ⟨_, rfl, Fresh.nil_ _ _, Below.refl _ _⟩
    · go_enter Try.func39, Try.ntmps39
      go_wp2_with (go_at_call 97; refine (implIsNatural_any _ _ _ h).mono ?_; rintro e w' ⟨rfl, rfl⟩)
      go_ret2
      exact ⟨_, rfl, Fresh.nil_ _ _, Below.refl _ _⟩
  | true =>
    by_cases h0 : 0 < l.length
    · refine ⟨_, _, ?_, fun w v h => specPrimeList_yes v l w h hn h0, fun w v h => implPrimeList_yes v l w h hn h0⟩
      have := plR_len (o := plist 24 (val l) []) (fun x hx => plist_len 24 _ [] x (by simp) hx)
      omega
    · have hz : ((l.length : Int) == 0) = true := by rw [beq_iff_eq]; omega
      have hz2 : (l.length == 0) = true := by rw [beq_iff_eq]; omega
      refine ⟨[], 3, by simp, fun w v h => ?_, fun w v h => ?_⟩
      · have HS := Lib.hid h
        obtain ⟨A, c, rfl, hlc, hcm, hr⟩ := h
        clear hr h0
        go_enter Try.func38, Try.ntmps38
        go_wp2_with fail
        refine (l02Is_any _ _ _ HS.out).mono ?_
        rintro e w' ⟨rfl, rfl⟩
        rw [hn]
        go_wp2_with fail
        go_ret2
        exact ⟨_, rfl, Fresh.nil_ _ _, Below.refl _ _⟩
      · have HS := Lib.hid h
        obtain ⟨A, c, rfl, hlc, hcm, hr⟩ := h
        clear hr h0
        go_enter Try.func39, Try.ntmps39
        go_wp2_with fail
        refine (implIsNatural_any _ _ _ HS.out).mono ?_
        rintro e w' ⟨rfl, rfl⟩
        rw [hn]
        go_wp2_with fail
        go_ret2
        exact ⟨_, rfl, Fresh.nil_ _ _, Below.refl _ _⟩
end Go.Proofs.Ytanjpkcacgjgfaa
