/- RootNatural: the reference and the program give the same results. No condition beyond the stated bounds. -/
import Derived.Test.YtanjpkcacgjgfaaNatDivs
import Derived.Test.YtanjpkcacgjgfaaPlainRoot2
namespace Go.Proofs.Ytanjpkcacgjgfaa
open Go.RowKit
theorem half_int (n : Nat) : ((n : Int) + 1) / 2 = (((n + 1) / 2 : Nat) : Int) := by omega
theorem sq_val {N : Int} {o : List Int} {k : Nat} {x : Int} (hl : Lim (o.set k x)) (hN : 0 ≤ N) : (cmpN (nl (val (o.set k x) * val (o.set k x))) (nl N) ≤ 0) ↔ sq N o k x = true := by
  have h0 := val_nonneg hl
  rw [(cmp_nl (Int.mul_nonneg h0 h0) hN).1]
  unfold sq
  rw [decide_eq_true_eq]
theorem trim_set {o : List Int} {k : Nat} {x : Int} (hl : Lim (o.set k x)) : trim (o.set k x) = nl (val (o.set k x)) := trim_nl hl
theorem nl_val_len {l : List Int} (h : Lim l) : (nl (val l)).length ≤ l.length := by rw [← trim_nl h]; exact trim_len l
set_option maxHeartbeats 4000000 in
theorem l02Root_any (v : Value) (N : Int) (w : World) (h : Sl w v (nl N)) (hN : 0 ≤ N) (hl : (nl N).length ≤ 40) :
    Calls Try.prog 107 #[v] w (RetOwn w (trim (rts N (((nl N).length + 1) / 2) (List.replicate (((nl N).length + 1) / 2) 0)))) := by
  obtain ⟨i0, hi0, hz0, hz1, hz2⟩ := info_parts Try.infoI
  have HV := Lib.hid h
  obtain ⟨A1, c1, rfl, hlc1, hcm1, hr1⟩ := h
  have HH := Lib.hid (half_int (nl N).length)
  have hL : ((nl N).length + 1) / 2 ≤ 40 := by omega
  clear hr1
  go_enter Try.func107, Try.ntmps107
  go_wp2_with (at_make; go_loud (refine wpList_make_full _ rfl _ _ 39 rfl w.heap.size 2 i0 _ 1 Try.underlying39 hi0 hz0 hz1 _ _ _ _ (((nl N).length + 1) / 2) rfl rfl HH.out HH.out (by rw [hz2]; omega) (by unfold maxLen; omega) (Nat.le_refl _) ?_); intro w1 hown hg)
  have hb1 : Below w.heap.size w w1 := (Below.refl _ _).grown hg (Nat.le_refl _) (by simp)
  have hO1 : Owns w1 w.heap.size (.slice (some ⟨w.heap.size, 0, none⟩) (((nl N).length + 1) / 2) (((nl N).length + 1) / 2)) (List.replicate (((nl N).length + 1) / 2) 0) := by
    unfold Owns
    rw [made_ints] at hown
    simpa using hown
  have HO := Lib.hid hO1
  clear hown hg hi0 hz0 hz1 hz2 hO1
  generalize ((nl N).length + 1) / 2 = L at *
  go_loopg [4] L (fun k i wr => ∃ o : List Int, k ≤ L ∧ i = .int .i64 ((k : Int) - 1) ∧ Hid (RootI N L k o) ∧ Hid (rts N k o = rts N L (List.replicate L 0)) ∧ Hid (Owns wr w.heap.size (.slice (some ⟨w.heap.size, 0, none⟩) L L) o) ∧ Below w.heap.size w wr)
  case atStart => exact ⟨_, Nat.le_refl _, by rw [HH.out], Lib.hid (RootI.start hN L), Lib.hid rfl, HO, hb1⟩
  case round =>
    clear HO hb1
    obtain ⟨o, hk, rfl, HI, HE, HO, hB⟩ := hrel
    by_cases h0 : 0 < gk
    · obtain ⟨k, rfl⟩ : ∃ j, gk = j + 1 := ⟨gk - 1, by omega⟩
      rw [show (((k + 1 : Nat) : Int) - 1) = (k : Int) by omega]
      have hkL : k < L := by omega
      have hkI : (k : Int) < (L : Int) := by omega
      have hlen := HI.out.len
      have HZ := Lib.hid (HI.out.zero hkL)
      go_wp2_with fail
      go_loopg [5, 6] 1000000 (fun g lo hi wr => ∃ (x y : Int) (o' : List Int), lo = .int .i64 x ∧ hi = .int .i64 y ∧ 0 ≤ x ∧ x ≤ y ∧ y ≤ 999999 ∧ y - x < g ∧ Hid (sq N o k x = true ∧ ∀ z, y < z → z ≤ 999999 → sq N o k z = false) ∧ Hid (o'.length = L ∧ ∀ z, o'.set k z = o.set k z) ∧ Hid (Owns wr w.heap.size (.slice (some ⟨w.heap.size, 0, none⟩) L L) o') ∧ Below w.heap.size w wr)
      case atStart => exact ⟨0, 999999, o, rfl, rfl, by omega, by omega, by omega, by omega, Lib.hid ⟨HZ.out, fun z h1 h2 => by omega⟩, Lib.hid ⟨hlen, fun _ => rfl⟩, HO, hB⟩
      case round =>
        obtain ⟨x, y, o', rfl, rfl, hx0, hxy, hy1, hg, HS, HP, HO2, hB2⟩ := hrel
        have cQ := HO2.out.cellAt (j := k) (by rw [HP.out.1]; exact hkL)
        have fQ := HO2.out.free k
        by_cases hlt2 : x < y
        · have m0 : x < (x + y + 1) / 2 := by omega
          have m1 : (x + y + 1) / 2 ≤ y := by omega
          obtain ⟨g', rfl⟩ : ∃ g', gk = g' + 1 := ⟨gk - 1, by omega⟩
          have hst := HO2.out.stored k ((x + y + 1) / 2)
          rw [HP.out.2] at hst
          have HST := Lib.hid hst
          have hBs := hB2.grown hst.2 hB2.size (by simp)
          have cQ2 : (World.setCell _ ⟨w.heap.size, k, none⟩ (.int .i64 ((x + y + 1) / 2))).cell? ⟨w.heap.size, k, none⟩ = some (.int .i64 ((x + y + 1) / 2)) := World.cell?_setCell_same _ _ _ cQ
          clear hst
          go_wp2_with fail
          generalize (x + y + 1) / 2 = m at *
          have HLM := Lib.hid (HI.out.lim.set k (show 0 ≤ m by omega) (show m ≤ 999999 by omega))
          have hlm : (o.set k m).length = L := by rw [List.length_set]; exact hlen
          refine (l00Own_own _ _ _ HST.out.1.sl (by omega)).mono ?_
          rintro e w2 ⟨v2, rfl, o2, hb2⟩
          have hB3 := below_next hBs hb2
          go_wp2_with fail
          refine (l02Trim_own _ _ _ _ o2).mono ?_
          rintro e w' ⟨⟨v3, rfl, o3, _⟩, rfl⟩
          rw [trim_set HLM.out] at o3
          have hvl := nl_val_len HLM.out
          go_wp2_with fail
          refine (l02Mul_any _ _ (nl (val (o.set k m))) (nl (val (o.set k m))) _ o3.sl o3.sl (nl_lim _) (nl_lim _) (by omega) (by omega)).mono ?_
          rintro e w4 ⟨v4, rfl, o4, hb4⟩
          rw [val_nl (val_nonneg HLM.out)] at o4
          have hB4 := below_next hB3 hb4
          go_wp2_with fail
          refine (l02Compare_any _ _ _ _ _ o4.sl (HV.out.next hB4)).mono ?_
          rintro e w5 ⟨rfl, hb5⟩
          have hB5 := below_next hB4 hb5
          have hcm := sq_val (o := o) (k := k) (x := m) (N := N) HLM.out hN
          have hO5 := ((HST.out.1.next hb2).next hb4).next hb5
          have cQ5 := hO5.cellAt (j := k) (by omega)
          rw [geti_set0 (by omega), if_pos rfl] at cQ5
          have HO5 := Lib.hid hO5
          have HP2 : Hid ((o.set k m).length = L ∧ ∀ z, (o.set k m).set k z = o.set k z) := Lib.hid ⟨hlm, fun z => by rw [List.set_set]⟩
          clear o2 o3 o4 hvl hB3 hB4 hO5 cQ cQ2 fQ
          generalize cmpN (nl (val (o.set k m) * val (o.set k m))) (nl N) = c at *
          cases hs : sq N o k m with
          | true =>
            have hc0 : c ≤ 0 := hcm.2 hs
            have HS2 : Hid (sq N o k m = true ∧ ∀ z, y < z → z ≤ 999999 → sq N o k z = false) := Lib.hid ⟨hs, HS.out.2⟩
            clear hs hcm
            go_wp2_with fail
            go_roundg g'
            case measure => omega
            case rel => exact ⟨m, y, _, rfl, rfl, by omega, by omega, by omega, by omega, HS2, HP2, HO5, hB5⟩
          | false =>
            have hc0 : 0 < c := by
              rcases Int.lt_or_le 0 c with h | h
              · exact h
              · rw [hcm.1 h] at hs; cases hs
            have HS2 : Hid (sq N o k x = true ∧ ∀ z, m - 1 < z → z ≤ 999999 → sq N o k z = false) := Lib.hid ⟨HS.out.1, fun z h1 h2 => sq_anti HI.out.lim (by omega) (by omega) h2 (by omega) hs⟩
            clear hs hcm
            go_wp2_with fail
            go_roundg g'
            case measure => omega
            case rel => exact ⟨x, m - 1, _, rfl, rfl, by omega, by omega, by omega, by omega, HS2, HP2, HO5, hB5⟩
        · obtain rfl : x = y := by omega
          have hst := HI.out.step hkL (x := x) ⟨hx0, hy1, HS.out.1, HS.out.2⟩
          have HI2 := Lib.hid hst.1
          have HE2 : Hid (rts N k (o.set k x) = rts N L (List.replicate L 0)) := Lib.hid (by rw [← HE.out, ← hst.2]; rfl)
          have hst2 := HO2.out.stored k x
          rw [HP.out.2] at hst2
          have HO3 := Lib.hid hst2.1
          have hB3 := hB2.grown hst2.2 hB2.size (by simp)
          clear hst hst2
          go_wp2_with fail
          go_roundg k
          case measure => omega
          case rel => exact ⟨_, by omega, rfl, HI2, HE2, HO3, hB3⟩
    · obtain rfl : gk = 0 := by omega
      rw [show (((0 : Nat) : Int) - 1) = (-1 : Int) by omega]
      have HE2 : Hid (o = rts N L (List.replicate L 0)) := HE
      go_wp2_with fail
      refine (l02Trim_own _ _ _ _ HO.out).mono ?_
      rintro e w' ⟨⟨v3, rfl, o3, _⟩, rfl⟩
      go_wp2_with fail
      go_ret
      exact ⟨_, rfl, by rw [← HE2.out]; exact o3, hB⟩
set_option maxHeartbeats 1000000 in
theorem rootOf_clo (pR pI pN k : Nat) (rv nv : Value) (o : List Int) (N x : Int) (w : World) (cR : Var1 w pR rv) (cI : Var1 w pI (.int .i64 (k : Int))) (cN : Var1 w pN nv) (hr : Sl w rv o) (hn : Sl w nv (nl N))
    (ho : Lim o) (hol : o.length ≤ 40) (hk : k < o.length) (hN : 0 ≤ N) (x0 : 0 ≤ x) (x1 : x ≤ 999999) :
    Calls Try.prog 147 #[.int .i64 x, .pointer (some ⟨pR, 0, none⟩), .pointer (some ⟨pI, 0, none⟩), .pointer (some ⟨pN, 0, none⟩)] w fun e w' => e = .returned (.bool (sq N o k x)) ∧ Below w.heap.size w w' := by
  have c1 := cR.1
  have HI := Lib.hid cI
  have HN := Lib.hid cN
  have HR := Lib.hid hr
  have HNS := Lib.hid hn
  have HLM := Lib.hid (ho.set k x0 x1)
  have hki : (k : Int) < (o.length : Int) := by omega
  have hlm : (o.set k x).length = o.length := by rw [List.length_set]
  obtain ⟨Ar, cr, rfl, _, _, hqr⟩ := hr
  obtain ⟨An, cn, rfl, _, _, hqn⟩ := hn
  clear hqr hqn ho cI cN cR
  go_enter Try.func147, Try.ntmps147
  go_wp2_with fail
  refine (clone_own _ _ _ HR.out (by omega)).mono ?_
  rintro e w1 ⟨r1, rfl, o1, hb1⟩
  obtain ⟨g, cap, rfl, hbg, hgw⟩ := o1.head (by omega)
  have c2 := (HI.out.next hb1).1
  have cQ := o1.cellAt (j := k) hk
  have fQ := o1.free k
  have hst := o1.stored k x
  have HST := Lib.hid hst
  have hBs := hb1.grown hst.2 hb1.size (by simp; omega)
  have HN1 := Lib.hid (HN.out.next hb1)
  have hpn : pN < w.heap.size := cell_lt HN.out.1
  clear hst o1
  go_wp2_with fail
  refine (trimmed_own _ _ _ _ HST.out.1).mono ?_
  rintro e w' ⟨⟨v3, rfl, o3, _⟩, rfl⟩
  rw [trim_set HLM.out] at o3
  have hvl := nl_val_len HLM.out
  have cN3 := (HN1.out.set (p := ⟨g, k, none⟩) (by simp; omega) (.int .i64 x)).1
  have HO3 := Lib.hid o3
  clear o3 cQ fQ c1 c2
  go_upto_region 4 with fail
  generalize w1.setCell ⟨g, k, none⟩ (.int .i64 x) = w3 at *
  go_region_held3 (fun w' => w'.cell? ⟨pN, 0, none⟩ = some (.slice An (nl N).length cn))
    (first
      | go_keep
      | exact cN3
      | exact (hb4.cell (p := ⟨pN, 0, none⟩) (by have := cell_lt cN3; exact this)).trans cN3
      | exact (hb5.cell (p := ⟨pN, 0, none⟩) (by have h1 := hb4.size; have h2 : pN < w3.heap.size := cell_lt cN3; simp at *; omega)).trans ((hb4.cell (p := ⟨pN, 0, none⟩) (by have := cell_lt cN3; exact this)).trans cN3))
    (first
      | (go_at_call 145; refine (multiply_any _ _ (nl (val (o.set k x))) (nl (val (o.set k x))) _ HO3.out.sl.drew HO3.out.sl.drew (nl_lim _) (nl_lim _) (by omega) (by omega)).mono ?_; rintro e w4 ⟨v4, rfl, o4, hb4⟩)
      | (go_at_call 98; refine (compareNaturals_any _ _ _ _ _ o4.sl ((HNS.out.next hBs).drew.next hb4)).mono ?_; rintro e w5 ⟨rfl, hb5⟩))
  go_wp2_with fail
  go_ret
  refine ⟨ret_bool ?_, ?_⟩
  · rw [val_nl (val_nonneg HLM.out)]
    have h := sq_val (o := o) (k := k) (x := x) (N := N) HLM.out hN
    cases hs : sq N o k x with
    | true => exact decide_eq_true (h.2 hs)
    | false => exact decide_eq_false (fun hh => by rw [h.1 hh] at hs; cases hs)
  · exact below_next (below_next hBs.drew hb4) hb5
set_option maxHeartbeats 1000000 in
theorem greatest_root (pR pI pN k : Nat) (rv nv : Value) (o : List Int) (N : Int) (w : World) (cR : Var1 w pR rv) (cI : Var1 w pI (.int .i64 (k : Int))) (cN : Var1 w pN nv) (hr : Sl w rv o) (hn : Sl w nv (nl N))
    (ho : Lim o) (hol : o.length ≤ 40) (hk : k < o.length) (hN : 0 ≤ N) (hz : sq N o k 0 = true) :
    Calls Try.prog 143 #[.func (.func 147) #[] #[.pointer (some ⟨pR, 0, none⟩), .pointer (some ⟨pI, 0, none⟩), .pointer (some ⟨pN, 0, none⟩)]] w fun e w' => (∃ x, e = .returned (.int .i64 x) ∧ Best (sq N o k) x) ∧ Below w.heap.size w w' := by
  have HCR := Lib.hid cR
  have HCI := Lib.hid cI
  have HCN := Lib.hid cN
  have HR := Lib.hid hr
  have HNS := Lib.hid hn
  have HL := Lib.hid ho
  have HZ := Lib.hid hz
  clear cR cI cN hr hn ho hz
  go_enter Try.func143, Try.ntmps143
  go_wp2_with fail
  go_loopw [3, 4] (fun lo hi wr => ∃ x y : Int, lo = .int .i64 x ∧ hi = .int .i64 y ∧ 0 ≤ x ∧ x < y ∧ y ≤ 1000000 ∧ Hid (sq N o k x = true ∧ ∀ z, y ≤ z → z ≤ 999999 → sq N o k z = false) ∧ Below w.heap.size w wr) (fun lo hi _ => (intOf hi - intOf lo).toNat)
  case atStart => exact ⟨0, 1000000, rfl, rfl, by omega, by omega, by omega, Lib.hid ⟨HZ.out, fun z h1 h2 => by omega⟩, Below.refl _ _⟩
  case round =>
    obtain ⟨x, y, rfl, rfl, hx0, hxy, hy1, HI, hbx⟩ := hrel
    by_cases hlt : x + 1 < y
    · have m0 : x < (x + y) / 2 := by omega
      have m1 : (x + y) / 2 < y := by omega
      go_wp2_with fail
      refine (rootOf_clo pR pI pN k rv nv o N _ _ (HCR.out.next hbx) (HCI.out.next hbx) (HCN.out.next hbx) (HR.out.next hbx) (HNS.out.next hbx) HL.out hol hk hN (by omega) (by omega)).mono ?_
      rintro e w1 ⟨rfl, hb1⟩
      have hB1 := below_next hbx hb1
      generalize (x + y) / 2 = m at *
      cases hs : sq N o k m with
      | true =>
        have HI2 : Hid (sq N o k m = true ∧ ∀ z, y ≤ z → z ≤ 999999 → sq N o k z = false) := Lib.hid ⟨hs, HI.out.2⟩
        clear hs
        go_wp2_with fail
        go_roundw
        case rel => exact ⟨m, y, rfl, rfl, by omega, by omega, by omega, HI2, hB1⟩
        case measure => simp [intOf] <;> omega
      | false =>
        have HI2 : Hid (sq N o k x = true ∧ ∀ z, m ≤ z → z ≤ 999999 → sq N o k z = false) := Lib.hid ⟨HI.out.1, fun z h1 h2 => sq_anti HL.out hk (by omega) h2 h1 hs⟩
        clear hs
        go_wp2_with fail
        go_roundw
        case rel => exact ⟨x, m, rfl, rfl, by omega, by omega, by omega, HI2, hB1⟩
        case measure => simp [intOf] <;> omega
    · obtain rfl : y = x + 1 := by omega
      have HBEST : Hid (Best (sq N o k) x) := Lib.hid ⟨hx0, by omega, HI.out.1, fun z h1 h2 => HI.out.2 z (by omega) h2⟩
      go_wp2_with fail
      go_ret
      exact ⟨⟨x, rfl, HBEST.out⟩, hbx⟩
end Go.Proofs.Ytanjpkcacgjgfaa
