/- Periods and borders: contracts. No condition beyond the stated bounds. -/
import Derived.Test.YtndddmichogaoaaSame
import Derived.Test.YtndddmichogaoaaPlainWords
import Derived.Test.YtndddmichogaoaaLists2
namespace Go.Proofs.Ytndddmichogaoaa
open Go.RowKit
theorem quiet_add {P : Program} {f : FuncId} {args : Array Value} {w : World} {a n : Nat} {v : Value}
    (h : Calls P f args (w.drewN (a + n)) fun e w' => e = .returned v ∧ ∃ m, w' = (w.drewN (a + n)).drewN m) :
    Calls P f args (w.drewN (a + n)) fun e w'' => e = .returned v ∧ ∃ m, w'' = w.drewN (a + m) :=
  h.mono fun _ _ ⟨he, m, hm⟩ => ⟨he, n + m, by rw [hm, World.drewN_drewN, Nat.add_assoc]⟩
/-- A part of a slice from k on, and up to k. -/
theorem Sl.from_ {w : World} {A : Option Addr} {c k : Nat} {l : List Int} (hr : Ints w w.heap.size A l.length l) (hlc : l.length ≤ c) (hcm : c ≤ maxLen) (hk : k ≤ l.length) (hne : c ≠ k) :
    Sl w (.slice (Option.map (fun x => x.add k) A) (l.length - k) (c - k)) (l.drop k) := by
  have h := hr.cut hk hlc
  rw [if_neg hne] at h
  exact Sl.of h (by omega) (by omega)
theorem Sl.upto {w : World} {A : Option Addr} {c k : Nat} {l : List Int} (hr : Ints w w.heap.size A l.length l) (hlc : l.length ≤ c) (hcm : c ≤ maxLen) (hk : k ≤ l.length) :
    Sl w (.slice A k c) (l.take k) := Sl.of (hr.take hk) (by omega) hcm
theorem exists_LB (l : List Int) {n : Nat} (hn : 0 < n) : ∃ k, LB l n k := by
  have key : ∀ m, (∀ j, Bord l n j → j ≤ m) → ∃ k, LB l n k := by
    intro m
    induction m with
    | zero => intro h; exact ⟨0, Bord.zero hn, h⟩
    | succ m ih =>
      intro h
      by_cases hb : Bord l n (m + 1)
      · exact ⟨m + 1, hb, h⟩
      · refine ih fun j hj => ?_
        have := h j hj
        rcases Nat.lt_or_ge j (m + 1) with h1 | h1
        · omega
        · exact absurd (show Bord l n (m + 1) by rwa [show m + 1 = j by omega]) hb
  exact key n fun j hj => Nat.le_of_lt hj.1
theorem l03Period_any (v : Value) (l : List Int) (k0 : Nat) (w : World) (h : Sl w v l) (hk0 : LB l l.length k0) :
    Calls Try.prog 56 #[v] w fun e w' => e = .returned (.int .i64 ((l.length - k0 : Nat) : Int)) ∧ Below w.heap.size w w' := by
  obtain ⟨A, c, rfl, hlc, hcm, hr⟩ := h
  have HR := Lib.hid hr
  have HK := Lib.hid hk0
  have HCM := Lib.hid hcm
  have hk1 := hk0.1.1
  clear hr hk0
  unfold maxLen at hcm
  go_enter Try.func56, Try.ntmps56
  go_wp2_with fail
  go_loopw [3] (fun i wr => ∃ p : Nat, 1 ≤ p ∧ p ≤ l.length - k0 ∧ i = .int .i64 p ∧ ∃ n, wr = w.drewN n) (fun i _ => l.length - (intOf i).toNat)
  case atStart => exact ⟨1, by omega, by omega, rfl, 0, rfl⟩
  case round =>
    obtain ⟨p, hp1, hp2, rfl, nd, rfl⟩ := hrel
    by_cases hlt : p < l.length
    · have e1 : (0 : Int) ≤ (p : Int) := by omega
      have e2 : (p : Int) ≤ (l.length : Int) := by omega
      have e3 : IntKind.i64.wrap ((l.length : Int) - (p : Int)) = ((l.length - p : Nat) : Int) := by rw [IntWalk.i64_in _ (by omega)]; omega
      have S1 := Lib.hid (Sl.from_ HR.out hlc HCM.out (show p ≤ l.length by omega) (by omega))
      have S2 := Lib.hid (Sl.upto HR.out hlc HCM.out (show l.length - p ≤ l.length by omega))
      have HI := Lib.hid (period_iff hp1 hlt)
      by_cases he : l.drop p = l.take (l.length - p)
      · have HF : Hid (p = l.length - k0) := Lib.hid (by have := HK.out.2 _ (HI.out.1 he); omega)
        have heb : decide (l.drop p = l.take (l.length - p)) = true := decide_eq_true he
        clear he
        go_wp2_with fail
        go_quiet ((go_at_call 60; exact quiet_add (l00Same_q _ _ _ _ _ (S1.out.drewN _) (S2.out.drewN _))))
        rw [heb]
        go_wp2_with fail
        go_ret
        exact ⟨ret_int (by rw [HF.out]), below_drewN (below_drewN (Below.refl _ _) _) _⟩
      · have HF : Hid (p < l.length - k0) := Lib.hid (by
          rcases Nat.lt_or_ge p (l.length - k0) with h1 | h1
          · exact h1
          · exfalso
            apply he
            apply HI.out.2
            rw [show l.length - p = k0 by omega]
            exact HK.out.1)
        have heb : decide (l.drop p = l.take (l.length - p)) = false := decide_eq_false he
        clear he
        go_wp2_with fail
        go_quiet ((go_at_call 60; exact quiet_add (l00Same_q _ _ _ _ _ (S1.out.drewN _) (S2.out.drewN _))))
        rw [heb]
        clear e3
        go_wp2_with fail
        go_roundw
        case rel => exact ⟨p + 1, by omega, by have := HF.out; omega, by go_num, _, rfl⟩
        case measure => simp [intOf] <;> omega
    · have HF : Hid (l.length = l.length - k0) := Lib.hid (by omega)
      have hd : ¬ p < l.length := hlt
      go_wp2_with fail
      go_ret
      exact ⟨ret_int (by rw [← HF.out]), below_drewN (Below.refl _ _) _⟩
/-- A row of int cells. -/
def OwnsT (w : World) (base : Nat) (v : Value) (l : List Int) : Prop := w.ownsRow base 3 1 v l.length (l.map (Value.int .i64))
theorem OwnsT.len {w : World} {base g n cap : Nat} {l : List Int} (h : OwnsT w base (.slice (some ⟨g, 0, none⟩) n cap) l) : l.length = n := by
  rcases h.2 with ⟨h', _⟩ | ⟨g', cap', cur, h', _⟩
  · simp at h'
  · simp only [Value.slice.injEq] at h'
    exact h'.2.1.symm
theorem OwnsT.stored {w : World} {base g n cap : Nat} {l : List Int} (h : OwnsT w base (.slice (some ⟨g, 0, none⟩) n cap) l) (j : Nat) (x : Int) :
    OwnsT (w.setCell ⟨g, j, none⟩ (.int .i64 x)) base (.slice (some ⟨g, 0, none⟩) n cap) (l.set j x) ∧ w.grownBy (w.setCell ⟨g, j, none⟩ (.int .i64 x)) (some g) := by
  obtain rfl := h.len
  have := World.ownsRow.stored h j (.int .i64 x)
  refine ⟨?_, this.2⟩
  unfold OwnsT
  rw [List.length_set, List.map_set]
  exact this.1
theorem OwnsT.cellAt {w : World} {base g n cap : Nat} {l : List Int} (h : OwnsT w base (.slice (some ⟨g, 0, none⟩) n cap) l) {j : Nat} (hj : j < l.length) :
    w.cell? ⟨g, j, none⟩ = some (.int .i64 (geti l j)) := by
  obtain rfl := h.len
  rw [World.ownsRow.cellAt h j (by omega), getD_map_int l j hj]
theorem OwnsT.free {w : World} {base g n cap : Nat} {l : List Int} (h : OwnsT w base (.slice (some ⟨g, 0, none⟩) n cap) l) (j : Nat) : w.frozen? ⟨g, j, none⟩ = false := by
  obtain rfl := h.len
  exact World.ownsRow.frozenAt h j
theorem OwnsT.drewN {w : World} {base : Nat} {v : Value} {l : List Int} (h : OwnsT w base v l) (n : Nat) : OwnsT (w.drewN n) base v l := h
theorem OwnsT.next {w w' : World} {base : Nat} {v : Value} {l : List Int} (h : OwnsT w base v l) (hb : Below w.heap.size w w') : OwnsT w' base v l := by
  refine World.ownsRow.kept (row := none) h ⟨hb.os, hb.tape, hb.output, hb.size, fun k hk _ => hb.block k hk⟩ ?_
  cases v.ownBlock <;> simp
theorem Try.infoT : (Try.prog.info? 3).map (fun i => (i.zero, i.size, i.bytes)) = some (some (.int .i64 0), 1, 8) := by kernel_rfl
/-- The first i entries of the table are right. -/
def TabOk (l tb : List Int) (i : Nat) : Prop := tb.length = l.length ∧ ∀ m, m < i → ∃ t : Nat, geti tb m = (t : Int) ∧ LB l (m + 1) t
theorem TabOk.set {l tb : List Int} {i t : Nat} (h : TabOk l tb i) (hi : i < l.length) (ht : LB l (i + 1) t) : TabOk l (tb.set i (t : Int)) (i + 1) := by
  refine ⟨by rw [List.length_set]; exact h.1, fun m hm => ?_⟩
  rw [geti_set (by rw [h.1]; exact hi)]
  by_cases e : i = m
  · subst e; exact ⟨t, by rw [if_pos rfl], ht⟩
  · rw [if_neg e]; exact h.2 m (by omega)
/-- What prefixTable leaves. -/
def RetTab (w : World) (l : List Int) (e : Ending) (w' : World) : Prop := ∃ g tb, e = .returned (.slice (some ⟨g, 0, none⟩) l.length l.length) ∧ w.heap.size ≤ g ∧ OwnsT w' w.heap.size (.slice (some ⟨g, 0, none⟩) l.length l.length) tb ∧ TabOk l tb l.length ∧ Below w.heap.size w w'
set_option maxHeartbeats 1000000 in
theorem prefixTable_any (v : Value) (l : List Int) (w : World) (h : Sl w v l) (hl : l.length ≤ 4000000) :
    Calls Try.prog 61 #[v] w (RetTab w l) := by
  obtain ⟨i0, hi0, hz0, hz1, hz2⟩ := info_parts Try.infoT
  obtain ⟨A, c, rfl, hlc, hcm, hr⟩ := h
  have HR := Lib.hid hr
  clear hr
  go_enter Try.func61, Try.ntmps61
  go_wp2_with (at_make; refine wpList_make_full _ rfl _ _ 51 rfl w.heap.size 3 i0 _ 1 Try.underlying51 hi0 hz0 hz1 _ _ _ _ l.length rfl rfl rfl rfl (by rw [hz2]; omega) (by unfold maxLen; omega) (Nat.le_refl _) ?_; intro w1 hown hg)
  have hb1 : Below w.heap.size w w1 := (Below.refl _ _).grown hg (Nat.le_refl _) (by simp)
  have HO : Hid (OwnsT w1 w.heap.size (.slice (some ⟨w.heap.size, 0, none⟩) l.length l.length) (List.replicate l.length 0)) := Lib.hid (by
    unfold OwnsT
    rw [made_ints] at hown
    simpa using hown)
  have HT : Hid (0 < l.length → TabOk l (List.replicate l.length 0) 1) := Lib.hid (fun h0 => ⟨by simp, fun m hm => ⟨0, by
    obtain rfl : m = 0 := by omega
    unfold geti; rw [List.getD_eq_getElem?_getD, List.getElem?_replicate]; simp [h0], by
    obtain rfl : m = 0 := by omega
    exact LB.one l⟩⟩)
  clear hown hg hi0 hz0 hz1 hz2
  by_cases h0 : l.length = 0
  · have e : l = [] := List.eq_nil_of_length_eq_zero h0
    subst e
    go_wp2_with fail
    refine wp_loop_rounds 1 ?_
    rw [rounds_succ]
    go_wp2_with fail
    go_ret
    exact ⟨_, _, rfl, Nat.le_refl _, HO.out, ⟨rfl, fun m hm => by simp at hm⟩, hb1⟩
  have h1 : 1 ≤ l.length := by omega
  go_wp2_with fail
  go_loopw [4] (fun i wr => ∃ (k : Nat) (tb : List Int), 1 ≤ k ∧ k ≤ l.length ∧ i = .int .i64 k ∧ Hid (TabOk l tb k) ∧ Hid (OwnsT wr w.heap.size (.slice (some ⟨w.heap.size, 0, none⟩) l.length l.length) tb) ∧ Below w.heap.size w wr) (fun i _ => l.length - (intOf i).toNat)
  case atStart => exact ⟨1, _, Nat.le_refl _, h1, rfl, Lib.hid (HT.out (by omega)), HO, hb1⟩
  case round =>
    clear HO hb1 HT
    obtain ⟨i, tb, hi1, hi, rfl, HT, HO, hB⟩ := hrel
    by_cases hlt : i < l.length
    · have hid : (i : Int) < (l.length : Int) := by omega
      obtain ⟨ad, rfl, hbk, hci⟩ := HR.out.at_ hlt
      have hcell_i := (hB.cell (p := ad.add i) (by rw [block_of_add]; exact hbk)).trans hci
      obtain ⟨t0, ht0, hLB0⟩ := HT.out.2 (i - 1) (by omega)
      have hc0 := HO.out.cellAt (j := i - 1) (by rw [HT.out.1]; omega)
      rw [ht0] at hc0
      have HL0 := Lib.hid (show LB l i t0 by rwa [show i - 1 + 1 = i by omega] at hLB0)
      have ht0lt := HL0.out.1.1
      have hfr := HO.out.free i
      have hcw := HO.out.cellAt (j := i) (by rw [HT.out.1]; omega)
      clear hci ht0 hLB0
      obtain ⟨wo, rfl⟩ : ∃ wo : World, wo = wr := ⟨_, rfl⟩
      go_wp2_with fail
      clear hc0
      go_loopw [5] (fun t wr => ∃ k : Nat, k < i ∧ t = .int .i64 k ∧ Hid (Step l i k) ∧ ∃ n, wr = wo.drewN n) (fun t _ => (intOf t).toNat)
      case atStart => exact ⟨t0, ht0lt, rfl, Lib.hid (Step.start HL0.out), 0, rfl⟩
      case round =>
        obtain ⟨k, hki, rfl, HS, nd, rfl⟩ := hrel
        have hkl : k < l.length := by omega
        have hkd : (k : Int) < (l.length : Int) := by omega
        obtain ⟨ad', hade, hbk', hck⟩ := HR.out.at_ hkl
        injection hade with hade
        subst hade
        have hcell_k := (hB.cell (p := ad.add k) (by rw [block_of_add]; exact hbk)).trans hck
        clear hck hbk'
        by_cases he : geti l k = geti l i
        · have heb : (geti l k == geti l i) = true := by simpa using he
          have heb2 : (geti l k != geti l i) = false := by simp [he]
          have HN := Lib.hid (HT.out.set hlt (HS.out.hit he))
          have HST := Lib.hid ((HO.out.drewN nd).stored i ((k + 1 : Nat) : Int))
          clear he
          by_cases hk0 : k = 0
          · subst hk0
            have hd0 : decide ((0 : Int) < ((0 : Nat) : Int)) = false := by simp
            have hcell_0 : wo.cell? ad = some (.int .i64 (geti l 0)) := by simpa [Addr.add] using hcell_k
            go_wp2_with fail
            go_quiet (fail)
            go_wp2_with fail
            go_quiet (fail)
            go_wp2_with fail
            go_roundw
            case rel => exact ⟨i + 1, _, by omega, by omega, by go_num, HN, HST.out.1, by first | exact (below_drewN hB _).setCell (Nat.le_refl _) _ | exact (below_drewN (below_drewN hB _) _).setCell (Nat.le_refl _) _ | exact (below_drewN (below_drewN (below_drewN hB _) _) _).setCell (Nat.le_refl _) _⟩
            case measure => simp [intOf] <;> omega
          · have hd0 : (0 : Int) < (k : Int) := by omega
            have hd1 : 0 < k := by omega
            have hd2 : decide ((0 : Int) < (k : Int)) = true := decide_eq_true hd0
            go_wp2_with fail
            go_quiet (fail)
            go_wp2_with fail
            go_quiet (fail)
            go_wp2_with fail
            go_roundw
            case rel => exact ⟨i + 1, _, by omega, by omega, by go_num, HN, HST.out.1, by first | exact (below_drewN hB _).setCell (Nat.le_refl _) _ | exact (below_drewN (below_drewN hB _) _).setCell (Nat.le_refl _) _ | exact (below_drewN (below_drewN (below_drewN hB _) _) _).setCell (Nat.le_refl _) _⟩
            case measure => simp [intOf] <;> omega
        · have heb : (geti l k == geti l i) = false := by simpa using he
          have heb2 : (geti l k != geti l i) = true := by simpa using he
          by_cases hk0 : k = 0
          · subst hk0
            have HN := Lib.hid (HT.out.set hlt (HS.out.miss he))
            have HST := Lib.hid ((HO.out.drewN nd).stored i ((0 : Nat) : Int))
            have hd0 : decide ((0 : Int) < ((0 : Nat) : Int)) = false := by simp
            have hcell_0 : wo.cell? ad = some (.int .i64 (geti l 0)) := by simpa [Addr.add] using hcell_k
            clear he
            go_wp2_with fail
            go_quiet (fail)
            go_wp2_with fail
            go_quiet (fail)
            go_wp2_with fail
            go_roundw
            case rel => exact ⟨i + 1, _, by omega, by omega, by go_num, HN, HST.out.1, by first | exact (below_drewN hB _).setCell (Nat.le_refl _) _ | exact (below_drewN (below_drewN hB _) _).setCell (Nat.le_refl _) _ | exact (below_drewN (below_drewN (below_drewN hB _) _) _).setCell (Nat.le_refl _) _⟩
            case measure => simp [intOf] <;> omega
          · have hd0 : (0 : Int) < (k : Int) := by omega
            have hd1 : 0 < k := by omega
            have hd2 : decide ((0 : Int) < (k : Int)) = true := decide_eq_true hd0
            obtain ⟨t1, ht1, hLB1⟩ := HT.out.2 (k - 1) (by omega)
            have hc1 := HO.out.cellAt (j := k - 1) (by rw [HT.out.1]; omega)
            rw [ht1] at hc1
            have HL1 := Lib.hid (show LB l k t1 by rwa [show k - 1 + 1 = k by omega] at hLB1)
            have ht1lt := HL1.out.1.1
            have HS2 := Lib.hid (HS.out.next he HL1.out)
            clear ht1 hLB1 he
            go_wp2_with fail
            go_quiet (fail)
            go_wp2_with fail
            go_roundw
            case rel => exact ⟨t1, by omega, rfl, HS2, by first | exact ⟨_, rfl⟩ | exact ⟨_, World.drewN_drewN _ _ _⟩⟩
            case measure => simp [intOf] <;> omega
    · obtain rfl : i = l.length := by omega
      go_wp2_with fail
      go_ret
      exact ⟨_, _, rfl, Nat.le_refl _, HO.out, HT.out, hB⟩
end Go.Proofs.Ytndddmichogaoaa
