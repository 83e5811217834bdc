/- WordOf: what the law needs. No condition beyond the stated bounds. -/
import Derived.Test.YtkaicdljgchifaaNatArith2
import Derived.Test.YtkaicdljgchifaaNatSmall
import Derived.Test.YtkaicdljgchifaaNatDig
import Derived.Test.YtkaicdljgchifaaLists2
namespace Go.Proofs.Ytkaicdljgchifaa
open Go.RowKit
theorem one_any (w : World) : Calls Try.prog 71 #[] w (RetOwn w (nl 1)) := by
  go_enter Try.func71, Try.ntmps71
  go_wp2
  go_ret
  exact ⟨_, rfl, own_one w, (Below.refl _ _).alloc (Nat.le_refl _) _⟩
theorem lettersOk_any (m : Int) (w : World) : Calls Try.prog 74 #[.int .i64 m] w fun e w' => e = .returned (.bool (inB m 1 10)) ∧ w = w' := by
  go_enter Try.func74, Try.ntmps74
  go_wp2_with (go_at_call 56; refine (within_any _ _ _ _).mono ?_; rintro e w' ⟨rfl, rfl⟩)
  go_ret
  exact ⟨rfl, rfl⟩
/-- What a search of letters answers. -/
def waR2 (o : Option (List Int)) : List Int × Int := match o with | some t => (t.reverse, 0) | none => ([], 5)
/-- What WordOf answers. -/
def wordOf (l : List Int) (m : Int) : List Int × Int := if natB l = true then (if inB m 1 10 = true then waR2 (wa 400 (val l) m) else ([], 2)) else ([], 1)
theorem wordOf_len (l : List Int) (m : Int) : (wordOf l m).1.length ≤ 400 := by
  unfold wordOf waR2
  split
  · split
    · cases h : wa 400 (val l) m with
      | none => simp
      | some t => have := wa_len _ _ _ _ h; simpa using this
    · simp
  · simp
theorem val_one : val (nl 1) = 1 := by rw [nl_one]; rfl
theorem subtract_one (v1 v2 : Value) (m : Int) (w : World) (h1 : Sl w v1 (nl m)) (h2 : Sl w v2 (nl 1)) (hm : 0 < m) (hm2 : m < pw 40) :
    Calls Try.prog 67 #[v1, v2] w (RetOwn w (nl (m - 1))) := by
  have := subtract_any v1 v2 (nl m) (nl 1) w h1 h2 (nl_lim m) (nl_lim 1) (by have := nl_len40 (by omega) hm2; omega) (by rw [nl_one]; have := nl_ne hm; simp; omega) (by rw [val_one, val_nl (by omega)]; omega)
  rw [val_one, val_nl (by omega)] at this
  exact this
theorem l02Sub_one (v1 v2 : Value) (m : Int) (w : World) (h1 : Sl w v1 (nl m)) (h2 : Sl w v2 (nl 1)) (hm : 0 < m) (hm2 : m < pw 40) :
    Calls Try.prog 66 #[v1, v2] w (RetOwn w (nl (m - 1))) := by
  have := l02Sub_any v1 v2 (nl m) (nl 1) w h1 h2 (nl_lim m) (nl_lim 1) (by have := nl_len40 (by omega) hm2; omega) (by rw [nl_one]; have := nl_ne hm; simp; omega) (by rw [val_one, val_nl (by omega)]; omega)
  rw [val_one, val_nl (by omega)] at this
  exact this
set_option maxHeartbeats 1000000 in
theorem implWordOf_any (v : Value) (l : List Int) (b : Int) (w : World) (h : Sl w v l) :
    Calls Try.prog 40 #[v, .int .i64 b] w (RetRowC w (wordOf l b).1 (wordOf l b).2) := by
  cases hn : natB l with
  | false =>
    have HF : Hid (wordOf l b = ([], 1)) := Lib.hid (by unfold wordOf; rw [hn]; rfl)
    go_enter Try.func40, Try.ntmps40
    go_wp2_with (go_at_call 55; refine (implIsNatural_any _ _ _ h).mono ?_; rintro e w' ⟨rfl, rfl⟩)
    go_ret2
    exact ⟨_, by rw [HF.out]; rfl, by rw [HF.out]; exact Fresh.nil_ _ _, Below.refl _ _⟩
  | true =>
    cases hb : inB b 1 10 with
    | false =>
      have HF : Hid (wordOf l b = ([], 2)) := Lib.hid (by unfold wordOf; rw [hn, hb]; rfl)
      go_enter Try.func40, Try.ntmps40
      go_wp2_with (first
        | (go_at_call 55; refine (implIsNatural_any _ _ _ h).mono ?_; rintro e w' ⟨rfl, rfl⟩)
        | (go_at_call 74; refine (lettersOk_any _ _).mono ?_; rintro e w' ⟨rfl, rfl⟩))
      go_ret2
      exact ⟨_, by rw [HF.out]; rfl, by rw [HF.out]; exact Fresh.nil_ _ _, Below.refl _ _⟩
    | true =>
      have HF : Hid (wordOf l b = waR2 (wa 400 (val l) b)) := Lib.hid (by unfold wordOf; rw [hn, hb]; rfl)
      obtain ⟨hb1, hb2⟩ := inB_true.1 hb
      have HS := Lib.hid h
      have hv0 := (nat_val hn).2.1
      have hV := Lib.hid (nat_val hn).2.2
      have hnl := Lib.hid (nat_val hn).1
      have HO := Lib.hid (Owns.empty w w.heap.size (Nat.le_refl _))
      have hB0 : Below w.heap.size w (w.alloc (.cells #[] 2)) := (Below.refl _ _).alloc (Nat.le_refl _) _
      clear h
      go_enter Try.func40, Try.ntmps40
      go_wp2_with (first
        | (go_at_call 55; refine (implIsNatural_any _ _ _ HS.out).mono ?_; rintro e w' ⟨rfl, rfl⟩)
        | (go_at_call 74; refine (lettersOk_any _ _).mono ?_; rintro e w' ⟨rfl, rfl⟩))
      go_loopw [0, 6] (fun u o wr => ∃ (m : Int) (f : Nat) (pre : List Int), 0 ≤ m ∧ Hid (m < pw 40) ∧ pre.length + f = 400 ∧ Hid ((wa f m b).map (fun t => pre ++ t) = wa 400 (val l) b) ∧ Hid (Sl wr u (nl m)) ∧ Hid (Owns wr w.heap.size o pre) ∧ Below w.heap.size w wr) (fun _ o _ => 401 - sliceLen o)
      case atStart => exact ⟨val l, 400, [], hv0, hV, rfl, Lib.hid (by cases wa 400 (val l) b <;> rfl), Lib.hid (by rw [hnl.out]; exact HS.out.next hB0), HO, hB0⟩
      case round =>
        clear HO hB0
        obtain ⟨m, f, pre, hm0, hm40, hpf, HE, HSm, HO, hB⟩ := hrel
        have HM := Lib.hid HSm.out
        obtain ⟨A1, c1, rfl, _, hc1, _⟩ := HSm.out
        unfold maxLen at hc1
        obtain ⟨A2, c2, rfl, _, hc2, _⟩ := HO.out.sl
        unfold maxLen at hc2
        by_cases hpos : 0 < m
        · have hnp := nl_ne hpos
          have hnp2 : (0 : Int) < ((nl m).length : Int) := by omega
          rcases f with _ | f
          · have hp : pre.length = 400 := by omega
            have HF2 : Hid (wordOf l b = ([], 5)) := Lib.hid (by rw [HF.out, ← HE.out, wa_none hpos]; rfl)
            have hb4 : ((pre.length : Int) == 400) = true := by rw [beq_iff_eq]; omega
            have hb5 : (pre.length == 400) = true := by rw [beq_iff_eq]; omega
            clear hp
            go_wp2_with fail
            go_ret2
            exact ⟨_, by rw [HF2.out]; rfl, by rw [HF2.out]; exact Fresh.nil_ _ _, hB⟩
          · have hb4 : ((pre.length : Int) == 400) = false := by rw [beq_eq_false_iff_ne]; omega
            have hb5 : (pre.length == 400) = false := by rw [beq_eq_false_iff_ne]; omega
            have HE2 : Hid ((wa f ((m - 1) / b) b).map (fun t => (pre ++ [(m - 1) % b]) ++ t) = wa 400 (val l) b) := Lib.hid (by
              rw [← HE.out, wa_pos hpos]; cases wa f ((m - 1) / b) b <;> simp)
            have hq := div_lt hb1 hpos
            have hq0 := hq.2
            have hm402 : Hid ((m - 1) / b < pw 40) := Lib.hid (by have h1 := hm40.out; omega)
            have hm403 : Hid (m - 1 < pw 40) := Lib.hid (by have h1 := hm40.out; omega)
            clear hq
            go_wp2_with fail
            refine (one_any _).mono ?_
            rintro e w1 ⟨r1, rfl, o1, hbb1⟩
            have hB1 := below_next hB hbb1
            go_wp2_with fail
            refine (subtract_one _ _ m _ (HM.out.next hbb1) o1.sl hpos hm40.out).mono ?_
            rintro e w2 ⟨r2, rfl, o2, hbb2⟩
            have hB2 := below_next hB1 hbb2
            go_wp2_with fail
            refine (divideSmall_val _ (m - 1) _ _ o2.sl (by omega) hm403.out (by omega) (by omega)).mono ?_
            rintro e w3 ⟨r3, rfl, o3, hbb3⟩
            have hB3 := below_next hB2 hbb3
            have HO3 := Lib.hid (((HO.out.next hbb1).next hbb2).next hbb3)
            have HR3 := Lib.hid o3
            have hlt3 : Hid (∀ k, (Value.slice A2 pre.length c2).ownBlock = some k → k < w2.heap.size) := Lib.hid (fun k hk => by
              have h1 := (HO.out.lt k hk).2
              have h2 := hbb1.size
              have h3 := hbb2.size
              omega)
            clear o1 o2 o3 hbb1 hbb2 hbb3 hB1 hB2
            go_wp2_with (at_builtin; refine wpList_push rfl _ _ rfl w.heap.size _ pre rfl HO3.out _ rfl (by omega) hB3.size ?_; intro v4 w4 o4 hg4 _)
            have hB4 := hB3.grown hg4 hB3.size (fun k hk => (HO3.out.lt k hk).1)
            have HR4 := Lib.hid (HR3.out.kept hg4 (Owns.apart HO3.out HR3.out hlt3.out)).sl
            obtain ⟨A5, c5, rfl, _, _, _⟩ := o4.sl
            have HO4 := Lib.hid o4
            clear o4 hg4
            go_wp2_with fail
            go_roundw
            case rel => exact ⟨(m - 1) / b, f, pre ++ [(m - 1) % b], hq0, hm402, by simp; omega, HE2, HR4, HO4, hB4⟩
            case measure => simp [sliceLen] <;> omega
        · have HF2 : Hid (wordOf l b = (pre.reverse, 0)) := Lib.hid (by rw [HF.out, ← HE.out, wa_zero (by omega)]; simp [waR2])
          have hz : nl m = [] := nl_nil (by omega)
          have hnp2 : decide ((0 : Int) < ((nl m).length : Int)) = false := decide_eq_false (by rw [hz]; simp)
          have hnp3 : decide (0 < (nl m).length) = false := decide_eq_false (by rw [hz]; simp)
          have HP := Lib.hid HO.out.sl
          clear hz
          go_wp2_with fail
          refine (reversed_any _ _ _ HP.out (by omega)).mono ?_
          rintro e w1 ⟨r1, rfl, hr1, hb1'⟩
          go_wp2_with fail
          go_ret2
          exact ⟨_, by rw [HF2.out]; rfl, by rw [HF2.out]; exact hr1.lower hB.size, below_next hB hb1'⟩
set_option maxHeartbeats 1000000 in
theorem specWordOf_one (v : Value) (l : List Int) (w : World) (h : Sl w v l) (hn : natB l = true) :
    Calls Try.prog 39 #[v, .int .i64 1] w (RetRowC w (wordOf l 1).1 (wordOf l 1).2) := by
  have hb : inB 1 1 10 = true := by decide
  have HF : Hid (wordOf l 1 = waR2 (wa 400 (val l) 1)) := Lib.hid (by unfold wordOf; rw [hn, hb]; rfl)
  have hf := nat_facts hn
  have hv0 := (nat_val hn).2.1
  by_cases hl : l.length ≤ 3
  · have HM := Lib.hid (l02Small_any v l w h hl hf.1)
    by_cases hv : val l ≤ 1000000000000
    · have hd : decide (val l ≤ 1000000000000) = true := decide_eq_true hv
      rw [hd] at HM
      by_cases hv4 : val l ≤ 400
      · have HF2 : Hid (wordOf l 1 = (List.replicate (val l).toNat 0, 0)) := Lib.hid (by rw [HF.out, wa_one 400 hv0, if_pos (by omega)]; simp [waR2])
        obtain ⟨n, hnv⟩ := Int.eq_ofNat_of_zero_le hv0
        rw [hnv] at HM HF2 hv4
        rw [Int.toNat_natCast] at HF2
        have hd4 : decide ((400 : Int) < (n : Int)) = false := decide_eq_false (by omega)
        obtain ⟨i0, hi0, hz0, hz1, hz2⟩ := info_parts Try.infoI
        clear hf hd HF hnv
        go_enter Try.func39, Try.ntmps39
        go_wp2_with fail
        refine (l02Is_any _ _ _ h).mono ?_
        rintro e w' ⟨rfl, rfl⟩
        go_wp2_with fail
        refine (l00In_any _ _ _ _).mono ?_
        rintro e w' ⟨rfl, rfl⟩
        go_wp2_with fail
        refine HM.out.mono ?_
        rintro e w1 ⟨rfl, hb1⟩
        go_wp2_with (at_make; refine wpList_make_full _ rfl _ _ 22 rfl w1.heap.size 2 i0 _ 1 Try.underlying22 hi0 hz0 hz1 _ _ _ _ n rfl rfl rfl rfl (by rw [hz2]; omega) (by unfold maxLen; omega) (Nat.le_refl _) ?_; intro w2 hown hg)
        have hB2 : Below w1.heap.size w1 w2 := (Below.refl _ _).grown hg (Nat.le_refl _) (by simp)
        have HO : Hid (Owns w2 w1.heap.size (.slice (some ⟨w1.heap.size, 0, none⟩) n n) (List.replicate n 0)) := Lib.hid (by
          unfold Owns
          rw [made_ints] at hown
          simpa using hown)
        clear hown hg
        go_wp2_with fail
        go_ret2
        exact ⟨_, by rw [HF2.out]; rfl, by rw [HF2.out]; exact .inl (HO.out.lower hb1.size), below_next hb1 hB2⟩
      · have HF2 : Hid (wordOf l 1 = ([], 5)) := Lib.hid (by rw [HF.out, wa_one 400 hv0, if_neg (by omega)]; rfl)
        have hd4 : (400 : Int) < val l := by omega
        clear hf hd HF
        go_enter Try.func39, Try.ntmps39
        go_wp2_with fail
        refine (l02Is_any _ _ _ h).mono ?_
        rintro e w' ⟨rfl, rfl⟩
        go_wp2_with fail
        refine (l00In_any _ _ _ _).mono ?_
        rintro e w' ⟨rfl, rfl⟩
        go_wp2_with fail
        refine HM.out.mono ?_
        rintro e w1 ⟨rfl, hb1⟩
        go_wp2_with fail
        go_ret2
        exact ⟨_, by rw [HF2.out]; rfl, by rw [HF2.out]; exact Fresh.nil_ _ _, hb1⟩
    · have hd : decide (val l ≤ 1000000000000) = false := decide_eq_false hv
      rw [hd] at HM
      have HF2 : Hid (wordOf l 1 = ([], 5)) := Lib.hid (by rw [HF.out, wa_one 400 hv0, if_neg (by omega)]; rfl)
      clear hf hd HF
      go_enter Try.func39, Try.ntmps39
      go_wp2_with fail
      refine (l02Is_any _ _ _ h).mono ?_
      rintro e w' ⟨rfl, rfl⟩
      go_wp2_with fail
      refine (l00In_any _ _ _ _).mono ?_
      rintro e w' ⟨rfl, rfl⟩
      go_wp2_with fail
      refine HM.out.mono ?_
      rintro e w1 ⟨rfl, hb1⟩
      go_wp2_with fail
      go_ret2
      exact ⟨_, by rw [HF2.out]; rfl, by rw [HF2.out]; exact Fresh.nil_ _ _, hb1⟩
  · have hv : ¬ val l ≤ 1000000000000 := fun hv => hl ((len_le hf.1 hf.2.1).2 (by have := pw3; unfold pw at this; omega))
    have HM := Lib.hid (l02Small_long v l w h (by omega))
    have HF2 : Hid (wordOf l 1 = ([], 5)) := Lib.hid (by rw [HF.out, wa_one 400 hv0, if_neg (by omega)]; rfl)
    clear hf HF
    go_enter Try.func39, Try.ntmps39
    go_wp2_with fail
    refine (l02Is_any _ _ _ h).mono ?_
    rintro e w' ⟨rfl, rfl⟩
    go_wp2_with fail
    refine (l00In_any _ _ _ _).mono ?_
    rintro e w' ⟨rfl, rfl⟩
    go_wp2_with fail
    refine HM.out.mono ?_
    rintro e w1 ⟨rfl, hb1⟩
    go_wp2_with fail
    go_ret2
    exact ⟨_, by rw [HF2.out]; rfl, by rw [HF2.out]; exact Fresh.nil_ _ _, hb1⟩
theorem own_lit (w : World) (x : Int) : Owns (w.alloc (.cells #[.int .i64 x] 2)) w.heap.size (.slice (some ⟨w.heap.size, 0, none⟩) 1 1) [x] :=
  World.ownsRow_lit w #[.int .i64 x] 1 (Nat.le_refl _) (by simp [maxLen]) rfl
set_option maxHeartbeats 1000000 in
theorem specWordOf_more (v : Value) (l : List Int) (b : Int) (w : World) (h : Sl w v l) (hn : natB l = true) (hb1 : 2 ≤ b) (hb2 : b ≤ 10) :
    Calls Try.prog 39 #[v, .int .i64 b] w (RetRowC w (wordOf l b).1 (wordOf l b).2) := by
  have hb : inB b 1 10 = true := inB_true.2 (by omega)
  have hbe : (b == 1) = false := by rw [beq_eq_false_iff_ne]; omega
  have hv0 := (nat_val hn).2.1
  have hV := Lib.hid (nat_val hn).2.2
  have hnl := Lib.hid (nat_val hn).1
  have HF : Hid (wordOf l b = if (wl 800 (val l) b).length ≤ 400 then ((wl 800 (val l) b).reverse, 0) else ([], 5)) := Lib.hid (by
    unfold wordOf; rw [hn, hb, if_pos rfl, if_pos rfl, wa_wl hb1 400 800 hv0 (und_40 hV.out)]
    split <;> rfl)
  have HS := Lib.hid h
  have HO := Lib.hid (Owns.empty w w.heap.size (Nat.le_refl _))
  have hB0 : Below w.heap.size w (w.alloc (.cells #[] 2)) := (Below.refl _ _).alloc (Nat.le_refl _) _
  clear h
  go_enter Try.func39, Try.ntmps39
  go_wp2_with (first
    | (go_at_call 49; refine (l02Is_any _ _ _ HS.out).mono ?_; rintro e w' ⟨rfl, rfl⟩)
    | (go_at_call 53; refine (l00In_any _ _ _ _).mono ?_; rintro e w' ⟨rfl, rfl⟩))
  go_loopw [8, 9] (fun o u wr => ∃ (m : Int) (f : Nat) (pre : List Int), 0 ≤ m ∧ Hid (m < pw 40) ∧ pre.length + f = 800 ∧ Hid (Und2 f m) ∧ Hid (pre ++ wl f m b = wl 800 (val l) b) ∧ Hid (Sl wr u (nl m)) ∧ Hid (Owns wr w.heap.size o pre.reverse) ∧ Below w.heap.size w wr) (fun o _ _ => 801 - sliceLen o)
  case atStart => exact ⟨val l, 800, [], hv0, hV, rfl, Lib.hid (und_40 hV.out), Lib.hid rfl, Lib.hid (by rw [hnl.out]; exact HS.out.next hB0), HO, hB0⟩
  case round =>
    clear HO hB0
    obtain ⟨m, f, pre, hm0, hm40, hpf, HU, HE, HSm, HO, hB⟩ := hrel
    have HM := Lib.hid HSm.out
    obtain ⟨A1, c1, rfl, _, hc1, _⟩ := HSm.out
    unfold maxLen at hc1
    have HOS := Lib.hid HO.out.sl
    obtain ⟨A2, c2, e2, _, hc2, _⟩ := HO.out.sl
    rw [List.length_reverse] at e2
    subst e2
    unfold maxLen at hc2
    have hrl : pre.reverse.length = pre.length := List.length_reverse
    by_cases hpos : 0 < m
    · have hnp := nl_ne hpos
      have hnp2 : (0 : Int) < ((nl m).length : Int) := by omega
      rcases f with _ | f
      · have := HU.out.zero; omega
      have HE2 : Hid ((pre ++ [(m - 1) % b]) ++ wl f ((m - 1) / b) b = wl 800 (val l) b) := Lib.hid (by rw [← HE.out, wl_pos hpos]; simp)
      have hq := div_lt (show 1 ≤ b by omega) hpos
      have hq0 := hq.2
      have HU2 := Lib.hid ((HU.out.pred (show m - 1 ≤ m by omega)).step hb1 (show 0 ≤ m - 1 by omega))
      have hm402 : Hid ((m - 1) / b < pw 40) := Lib.hid (by have h1 := hm40.out; omega)
      have hm403 : Hid (m - 1 < pw 40) := Lib.hid (by have h1 := hm40.out; omega)
      have hBo : Below wr.heap.size wr (wr.alloc (.cells #[.int .i64 1] 2)) := (Below.refl _ _).alloc (Nat.le_refl _) _
      have HO1 := Lib.hid (own_one wr)
      have HRL := Lib.hid hrl
      clear hq hrl
      go_wp2_with fail
      refine (l02Sub_one _ _ m _ (HM.out.next hBo) HO1.out.sl hpos hm40.out).mono ?_
      rintro e w2 ⟨r2, rfl, o2, hbb2⟩
      have hB2 := below_next (below_next hB hBo) hbb2
      go_wp2_with fail
      refine (l02By_val _ (m - 1) _ _ o2.sl (by omega) hm403.out (by omega) (by omega)).mono ?_
      rintro e w3 ⟨r3, rfl, o3, hbb3⟩
      have hB3 := below_next hB2 hbb3
      have hBx : Below wr.heap.size wr w3 := below_next (below_next hBo hbb2) hbb3
      have HS3 := Lib.hid (HOS.out.next hBx)
      have HR3 := Lib.hid o3
      have HL3 := Lib.hid (own_lit w3 ((m - 1) % b))
      have hB4 : Below w3.heap.size w3 (w3.alloc (.cells #[.int .i64 ((m - 1) % b)] 2)) := (Below.refl _ _).alloc (Nat.le_refl _) _
      clear o2 o3 hbb2 hbb3 hB2 hBo HO1
      go_wp2_with (at_builtin; refine wpList_cat rfl _ _ rfl w3.heap.size _ [(m - 1) % b] rfl HL3.out _ pre.reverse rfl (HS3.out.next hB4) (by have := HRL.out; simp; omega) (by simp) ?_; intro v5 w5 o5 hg5 _)
      have hB5 : Below w3.heap.size w3 w5 := hB4.grown hg5 (by simp) (fun k hk => (HL3.out.lt k hk).1)
      have HR5 := Lib.hid (HR3.out.next hB5).sl
      have HO5 : Hid (Owns w5 w.heap.size v5 (pre ++ [(m - 1) % b]).reverse) := Lib.hid (by
        have := o5.lower hB3.size
        simpa using this)
      obtain ⟨A6, c6, e6, _, _, _⟩ := HO5.out.sl
      rw [List.length_reverse] at e6
      subst e6
      have hB6 := below_next hB3 hB5
      clear o5 hg5 hB4
      go_wp2_with fail
      go_roundw
      case rel => exact ⟨(m - 1) / b, f, pre ++ [(m - 1) % b], hq0, hm402, by simp; omega, HU2, HE2, HR5, HO5, hB6⟩
      case measure => have := HRL.out; simp [sliceLen] <;> omega
    · have HE2 : Hid (pre = wl 800 (val l) b) := Lib.hid (by rw [← HE.out, wl_zero (by omega)]; simp)
      have hz : nl m = [] := nl_nil (by omega)
      have hnp2 : decide ((0 : Int) < ((nl m).length : Int)) = false := decide_eq_false (by rw [hz]; simp)
      have hnp3 : decide (0 < (nl m).length) = false := decide_eq_false (by rw [hz]; simp)
      clear hz
      by_cases hbig : pre.length ≤ 400
      · have HF2 : Hid (wordOf l b = (pre.reverse, 0)) := Lib.hid (by rw [HF.out, ← HE2.out, if_pos hbig])
        have hd : decide ((400 : Int) < (pre.reverse.length : Int)) = false := decide_eq_false (by omega)
        have hd2 : decide (400 < pre.reverse.length) = false := decide_eq_false (by omega)
        have hd3 : decide ((400 : Int) < (pre.length : Int)) = false := decide_eq_false (by omega)
        have hd4 : decide (400 < pre.length) = false := decide_eq_false (by omega)
        clear hrl
        go_wp2_with fail
        go_ret2
        exact ⟨_, by rw [HF2.out]; rfl, by rw [HF2.out]; exact .inl HO.out, hB⟩
      · have HF2 : Hid (wordOf l b = ([], 5)) := Lib.hid (by rw [HF.out, ← HE2.out, if_neg hbig])
        have hd : (400 : Int) < (pre.reverse.length : Int) := by omega
        have hd2 : (400 : Int) < (pre.length : Int) := by omega
        clear hrl
        go_wp2_with fail
        go_ret2
        exact ⟨_, by rw [HF2.out]; rfl, by rw [HF2.out]; exact Fresh.nil_ _ _, hB⟩
theorem specWordOf_any (v : Value) (l : List Int) (b : Int) (w : World) (h : Sl w v l) :
    Calls Try.prog 39 #[v, .int .i64 b] w (RetRowC w (wordOf l b).1 (wordOf l b).2) := by
  cases hn : natB l with
  | false =>
    have HF : Hid (wordOf l b = ([], 1)) := Lib.hid (by unfold wordOf; rw [hn]; rfl)
    go_enter Try.func39, Try.ntmps39
    go_wp2_with (go_at_call 49; refine (l02Is_any _ _ _ h).mono ?_; rintro e w' ⟨rfl, rfl⟩)
    go_ret2
    exact ⟨_, by rw [HF.out]; rfl, by rw [HF.out]; exact Fresh.nil_ _ _, Below.refl _ _⟩
  | true =>
    cases hb : inB b 1 10 with
    | false =>
      have HF : Hid (wordOf l b = ([], 2)) := Lib.hid (by unfold wordOf; rw [hn, hb]; rfl)
      go_enter Try.func39, Try.ntmps39
      go_wp2_with (first
        | (go_at_call 49; refine (l02Is_any _ _ _ h).mono ?_; rintro e w' ⟨rfl, rfl⟩)
        | (go_at_call 53; refine (l00In_any _ _ _ _).mono ?_; rintro e w' ⟨rfl, rfl⟩))
      go_ret2
      exact ⟨_, by rw [HF.out]; rfl, by rw [HF.out]; exact Fresh.nil_ _ _, Below.refl _ _⟩
    | true =>
      have hbb := inB_true.1 hb
      by_cases h1 : b = 1
      · subst h1; exact specWordOf_one v l w h hn
      · exact specWordOf_more v l b w h hn (by omega) (by omega)
theorem bothWordOf (l : List Int) (b : Int) (_f : Fit l) (_hn : l.length ≤ 1048576) (_hp : -9223372036854775808 ≤ b ∧ b ≤ 9223372036854775807) : ∃ (R : List Int) (C : Int), R.length ≤ 4000000 ∧
    (∀ (w : World) (v : Value), Sl w v l → Calls Try.prog 39 #[v, .int .i64 b] w (RetRowC w R C)) ∧
    (∀ (w : World) (v : Value), Sl w v l → Calls Try.prog 40 #[v, .int .i64 b] w (RetRowC w R C)) :=
  ⟨_, _, by have := wordOf_len l b; omega, fun w v h => specWordOf_any v l b w h, fun w v h => implWordOf_any v l b w h⟩
end Go.Proofs.Ytkaicdljgchifaa
