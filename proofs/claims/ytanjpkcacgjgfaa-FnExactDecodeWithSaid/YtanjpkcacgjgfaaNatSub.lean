/- Naturals: differences. No condition beyond the stated bounds. -/
import Derived.Test.YtanjpkcacgjgfaaNatVal
namespace Go.Proofs.Ytanjpkcacgjgfaa
open Go.RowKit
set_option maxHeartbeats 1000000 in
theorem subtract_any (v1 v2 : Value) (a b : List Int) (w : World) (h1 : Sl w v1 a) (h2 : Sl w v2 b) (ha : Lim a) (hb : Lim b) (la : a.length ≤ 1000) (lb : b.length ≤ a.length) (hle : val b ≤ val a) :
    Calls Try.prog 146 #[v1, v2] w (RetOwn w (nl (val a - val b))) := by
  have H1 := Lib.hid h1
  obtain ⟨A2, c2, rfl, hlc2, hcm2, hr2⟩ := h2
  have HR2 := Lib.hid hr2
  have HA := Lib.hid ha
  have HB := Lib.hid hb
  have HLE := Lib.hid hle
  clear hr2 ha hb h1 hle
  go_enter Try.func146, Try.ntmps146
  go_wp2_with fail
  refine (clone_own _ _ _ H1.out (by omega)).mono ?_
  rintro e w1 ⟨r, rfl, o1, hb1⟩
  by_cases h0 : a.length = 0
  · have e1 : a = [] := List.eq_nil_of_length_eq_zero h0
    have e2 : b = [] := List.eq_nil_of_length_eq_zero (by omega)
    have HO := Lib.hid o1
    obtain ⟨A, c, rfl, _, _, _⟩ := o1.sl
    subst e1 e2
    clear o1 h0
    go_wp2_with fail
    refine wp_loop_rounds 1 ?_
    rw [rounds_succ]
    go_wp2_with fail
    refine (trimmed_own _ _ _ _ HO.out).mono ?_
    rintro e w' ⟨⟨r, rfl, hr, _⟩, rfl⟩
    go_wp2_with fail
    go_ret
    exact ⟨_, rfl, hr, hb1⟩
  obtain ⟨g, cap, rfl, hbg, hgw⟩ := o1.head (by omega)
  have HO := Lib.hid o1
  clear o1 h0
  go_wp2_with fail
  go_loopw [11] (fun i wr => ∃ (k : Nat) (o : List Int), k ≤ a.length ∧ i = .int .i64 k ∧ Hid (SubI a b k o) ∧ Hid (Owns wr w.heap.size (.slice (some ⟨g, 0, none⟩) a.length cap) o) ∧ Below w.heap.size w wr) (fun i _ => a.length - (intOf i).toNat)
  case atStart => exact ⟨0, a, Nat.zero_le _, rfl, Lib.hid (SubI.start HA.out), HO, hb1⟩
  case round =>
    clear HO hb1 hgw
    obtain ⟨k, o, hk, rfl, HS, HO, hB⟩ := hrel
    have hlen := HS.out.len
    by_cases hlt : k < a.length
    · have hkd : (k : Int) < (a.length : Int) := by omega
      have c1 := HO.out.cellAt (j := k) (by omega)
      have f1 := HO.out.free k
      have hh := HS.out.here
      have g0 := hh.1
      have g1 := hh.2
      clear hh
      by_cases hkb : k < b.length
      · have hkd2 : (k : Int) < (b.length : Int) := by omega
        obtain ⟨ad2, rfl, hbk2, hc2⟩ := HR2.out.at_ hkb
        have hcell2 := (hB.cell (p := ad2.add k) (by rw [block_of_add]; exact hbk2)).trans hc2
        have hne : (⟨g, k, none⟩ : Addr) ≠ ad2.add k := by intro e; have := congrArg Addr.block e; rw [block_of_add] at this; simp at this; omega
        have hy := HB.out.geti k
        have y0 := hy.1
        have y1 := hy.2
        have hx : geti o k - geti b k = if k < b.length then geti o k - geti b k else geti o k := by rw [if_pos hkb]
        clear hc2 hy
        by_cases hneg : geti o k - geti b k < 0
        · have hk1 : k + 1 < a.length := by
            rcases Nat.lt_or_ge (k + 1) a.length with h | h
            · exact h
            · have := HS.out.top (show k + 1 = a.length by omega) lb HLE.out hx; omega
          have c2 := HO.out.cellAt (j := k + 1) (by omega)
          have f2 := HO.out.free (k + 1)
          have HN := Lib.hid (HS.out.step1 HA.out HB.out hk1 hx hneg)
          have hkd3 : (k : Int) + 1 < (a.length : Int) := by omega
          have hu := HS.out.high (k + 1) (by omega)
          have ha1 := HA.out.geti (k + 1)
          have u0 : 0 ≤ geti o (k + 1) := by rw [hu]; exact ha1.1
          have u1 : geti o (k + 1) ≤ 999999 := by rw [hu]; exact ha1.2
          have st1 := HO.out.stored k (geti o k - geti b k)
          have st2 := st1.1.stored k (geti o k - geti b k + 1000000)
          have st3 := st2.1.stored (k + 1) (geti o (k + 1) - 1)
          rw [List.set_set] at st3
          have HST := Lib.hid (And.intro st3.1 (st1.2.trans (st2.2.trans st3.2)))
          clear st1 st2 st3 hx hlen hu ha1
          go_wp2
          go_region
          all_goals (try go_wp2)
          all_goals go_roundw
          case rel => exact ⟨k + 1, _, by omega, by go_num, HN, HST.out.1, by first | exact hB.grown HST.out.2 hB.size (by simp; omega) | exact (hB.grown HST.out.2 hB.size (by simp; omega)).drew⟩
          case measure => simp [intOf] <;> omega
        · have HN := Lib.hid (HS.out.step0 HA.out HB.out hlt hx (by omega))
          have HST := Lib.hid (HO.out.stored k (geti o k - geti b k))
          clear hx hlen
          go_wp2
          go_region
          all_goals (try go_wp2)
          all_goals go_roundw
          case rel => exact ⟨k + 1, _, by omega, by go_num, HN, HST.out.1, by first | exact hB.grown HST.out.2 hB.size (by simp; omega) | exact (hB.grown HST.out.2 hB.size (by simp; omega)).drew⟩
          case measure => simp [intOf] <;> omega
      · have hx : geti o k = if k < b.length then geti o k - geti b k else geti o k := by rw [if_neg hkb]
        by_cases hneg : geti o k < 0
        · have hk1 : k + 1 < a.length := by
            rcases Nat.lt_or_ge (k + 1) a.length with h | h
            · exact h
            · have := HS.out.top (show k + 1 = a.length by omega) lb HLE.out hx; omega
          have c2 := HO.out.cellAt (j := k + 1) (by omega)
          have f2 := HO.out.free (k + 1)
          have HN := Lib.hid (HS.out.step1 HA.out HB.out hk1 hx hneg)
          have hkd3 : (k : Int) + 1 < (a.length : Int) := by omega
          have hu := HS.out.high (k + 1) (by omega)
          have ha1 := HA.out.geti (k + 1)
          have u0 : 0 ≤ geti o (k + 1) := by rw [hu]; exact ha1.1
          have u1 : geti o (k + 1) ≤ 999999 := by rw [hu]; exact ha1.2
          have st2 := HO.out.stored k (geti o k + 1000000)
          have st3 := st2.1.stored (k + 1) (geti o (k + 1) - 1)
          have HST := Lib.hid (And.intro st3.1 (st2.2.trans st3.2))
          have hkd2 : ¬ k < b.length := hkb
          clear st2 st3 hx hlen hu ha1
          go_wp2
          go_roundw
          case rel => exact ⟨k + 1, _, by omega, by go_num, HN, HST.out.1, hB.grown HST.out.2 hB.size (by simp; omega)⟩
          case measure => simp [intOf] <;> omega
        · have HN0 := HS.out.step0 HA.out HB.out hlt hx (by omega)
          have hself : o.set k (geti o k) = o := by
            apply ext_geti' (by simp)
            intro j hj
            rw [geti_set (by omega)]
            split
            · rename_i e; rw [e]
            · rfl
          rw [hself] at HN0
          have HN := Lib.hid HN0
          clear hx hlen hself HN0
          go_wp2
          go_roundw
          case rel => exact ⟨k + 1, _, by omega, by go_num, HN, HO, hB⟩
          case measure => simp [intOf] <;> omega
    · obtain rfl : k = a.length := by omega
      have HF := Lib.hid (HS.out.done lb)
      go_wp2_with (go_at_call 77; refine (trimmed_own _ _ _ _ HO.out).mono ?_; rintro e w' ⟨⟨r, rfl, hr, _⟩, rfl⟩)
      go_ret
      exact ⟨_, rfl, by rw [← HF.out]; exact hr, hB⟩
set_option maxHeartbeats 1000000 in
theorem l02Sub_any (v1 v2 : Value) (a b : List Int) (w : World) (h1 : Sl w v1 a) (h2 : Sl w v2 b) (ha : Lim a) (hb : Lim b) (la : a.length ≤ 1000) (lb : b.length ≤ a.length) (hle : val b ≤ val a) :
    Calls Try.prog 139 #[v1, v2] w (RetOwn w (nl (val a - val b))) := by
  obtain ⟨A1, c1, rfl, hlc1, hcm1, hr1⟩ := h1
  obtain ⟨A2, c2, rfl, hlc2, hcm2, hr2⟩ := h2
  have HR1 := Lib.hid hr1
  have HR2 := Lib.hid hr2
  have HA := Lib.hid ha
  have HB := Lib.hid hb
  have HLE := Lib.hid hle
  clear hr1 hr2 ha hb hle
  have HO := Lib.hid (Owns.empty w w.heap.size (Nat.le_refl _))
  have hB0 : Below w.heap.size w (w.alloc (.cells #[] 2)) := (Below.refl _ _).alloc (Nat.le_refl _) _
  go_enter Try.func139, Try.ntmps139
  go_wp2_with fail
  go_loopw [5, 6, 7] (fun u t i wr => ∃ (k : Nat) (c : Int) (o : List Int), k ≤ a.length ∧ 0 ≤ c ∧ c ≤ 1 ∧ i = .int .i64 k ∧ t = .int .i64 c ∧ Hid (SubS a b k o c) ∧ Hid (Owns wr w.heap.size u o) ∧ Below w.heap.size w wr) (fun _ _ i _ => a.length - (intOf i).toNat)
  case atStart => exact ⟨0, 0, [], Nat.zero_le _, by omega, by omega, rfl, rfl, Lib.hid (SubS.start a b), HO, hB0⟩
  case round =>
    clear HO hB0
    obtain ⟨k, c, o, hk, hc0, hc1, rfl, rfl, HS, HO, hB⟩ := hrel
    have hol : o.length ≤ 1000 := by have := HS.out.len; omega
    by_cases hlt : k < a.length
    · obtain ⟨ad1, rfl, hbk1, hcl1⟩ := HR1.out.at_ hlt
      have hcell1 := (hB.cell (p := ad1.add k) (by rw [block_of_add]; exact hbk1)).trans hcl1
      have hx0 := HA.out.geti k
      have x0 := hx0.1
      have x1 := hx0.2
      clear hcl1 hx0
      by_cases hkb : k < b.length
      · obtain ⟨ad2, rfl, hbk2, hcl2⟩ := HR2.out.at_ hkb
        have hcell2 := (hB.cell (p := ad2.add k) (by rw [block_of_add]; exact hbk2)).trans hcl2
        have hy := HB.out.geti k
        have y0 := hy.1
        have y1 := hy.2
        have hst := HS.out.step HA.out HB.out hlt (x := geti a k - c - geti b k) (by rw [if_pos hkb])
        clear hcl2 hy
        by_cases hneg : geti a k - c - geti b k < 0
        · have HN := Lib.hid (hst.1 hneg)
          clear hst
          go_wp2_with (at_builtin; refine wpList_push rfl _ _ rfl w.heap.size _ o rfl HO.out _ rfl (by omega) hB.size ?_; intro v3 w3 o3 hg3 _)
          have hB3 := hB.grown hg3 hB.size (fun k hk => (HO.out.lt k hk).1)
          have HO3 := Lib.hid o3
          clear o3 hg3
          go_wp2_with fail
          go_roundw
          case rel => exact ⟨k + 1, 1, _, by omega, by omega, by omega, by go_num, rfl, HN, HO3, hB3⟩
          case measure => simp [intOf] <;> omega
        · have HN := Lib.hid (hst.2 hneg)
          clear hst
          go_wp2_with (at_builtin; refine wpList_push rfl _ _ rfl w.heap.size _ o rfl HO.out _ rfl (by omega) hB.size ?_; intro v3 w3 o3 hg3 _)
          have hB3 := hB.grown hg3 hB.size (fun k hk => (HO.out.lt k hk).1)
          have HO3 := Lib.hid o3
          clear o3 hg3
          go_wp2_with fail
          go_roundw
          case rel => exact ⟨k + 1, 0, _, by omega, by omega, by omega, by go_num, rfl, HN, HO3, hB3⟩
          case measure => simp [intOf] <;> omega
      · have hst := HS.out.step HA.out HB.out hlt (x := geti a k - c) (by rw [if_neg hkb])
        by_cases hneg : geti a k - c < 0
        · have HN := Lib.hid (hst.1 hneg)
          clear hst
          go_wp2_with (at_builtin; refine wpList_push rfl _ _ rfl w.heap.size _ o rfl HO.out _ rfl (by omega) hB.size ?_; intro v3 w3 o3 hg3 _)
          have hB3 := hB.grown hg3 hB.size (fun k hk => (HO.out.lt k hk).1)
          have HO3 := Lib.hid o3
          clear o3 hg3
          go_wp2_with fail
          go_roundw
          case rel => exact ⟨k + 1, 1, _, by omega, by omega, by omega, by go_num, rfl, HN, HO3, hB3⟩
          case measure => simp [intOf] <;> omega
        · have HN := Lib.hid (hst.2 hneg)
          clear hst
          go_wp2_with (at_builtin; refine wpList_push rfl _ _ rfl w.heap.size _ o rfl HO.out _ rfl (by omega) hB.size ?_; intro v3 w3 o3 hg3 _)
          have hB3 := hB.grown hg3 hB.size (fun k hk => (HO.out.lt k hk).1)
          have HO3 := Lib.hid o3
          clear o3 hg3
          go_wp2_with fail
          go_roundw
          case rel => exact ⟨k + 1, 0, _, by omega, by omega, by omega, by go_num, rfl, HN, HO3, hB3⟩
          case measure => simp [intOf] <;> omega
    · obtain rfl : k = a.length := by omega
      have HF := Lib.hid (HS.out.done HA.out HB.out lb HLE.out)
      go_wp2_with (go_at_call 134; refine (l02Trim_own _ _ _ _ HO.out).mono ?_; rintro e w' ⟨⟨r, rfl, hr, _⟩, rfl⟩)
      go_ret
      exact ⟨_, rfl, by rw [← HF.out]; exact hr, hB⟩
end Go.Proofs.Ytanjpkcacgjgfaa
