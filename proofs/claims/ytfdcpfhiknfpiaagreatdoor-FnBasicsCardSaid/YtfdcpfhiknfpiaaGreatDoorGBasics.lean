/- The walk of FnBasics: it returns true. Where the listed variables are laid. -/
import Derived.Test.YtfdcpfhiknfpiaaGreatDoorWBasP
import Derived.Test.YtfdcpfhiknfpiaaGreatDoorEnv5
import Derived.Deep.QuietTactic
import Derived.Deep.CutBlock
import Derived.Deep.DeepCutAuto
import Derived.BigQuiet
namespace Go.Proofs.YtfdcpfhiknfpiaaGreatDoor
open Go.RowKit
set_option maxRecDepth 100000 in
set_option maxHeartbeats 4000000 in
theorem walkFnBasics (A0 : Option Addr) (n0 c0 : Nat) (l0 : List Int) (A1 : Option Addr) (n1 c1 : Nat) (l1 : List Int) (w : World) (hp : EnvL w) (h0 : BytesAt w w.heap.size A0 n0 l0) (f0 : FitB l0) (_hc0 : n0 ≤ c0 ∧ c0 ≤ maxLen) (h1 : BytesAt w w.heap.size A1 n1 l1) (f1 : FitB l1) (_hc1 : n1 ≤ c1 ∧ c1 ≤ maxLen) :
    Calls Tryz.prog 3 #[.slice A0 n0 c0, .slice A1 n1 c1] w fun e w' => e = .returned (.bool true) ∧ Below w.heap.size w w' := by
  have HE := Lib.hid hp
  have H0 := Lib.hid h0
  have F0 := Lib.hid f0
  have H1 := Lib.hid h1
  have F1 := Lib.hid f1
  clear hp h0 f0 h1 f1
  by_cases hlong : (1048576 : Int) < (n0 : Int) ∨ (1048576 : Int) < (n1 : Int)
  · have hd : (decide ((1048576 : Int) < (n0 : Int)) || decide ((1048576 : Int) < (n1 : Int))) = true := by simpa using hlong
    have HD := Lib.hid hd
    clear hd
    go_enter Tryz.func3, Tryz.ntmps3
    go_wp2_with (go_at_call 4; refine (r8Long_any _ _ _ _ _ _ _).mono ?_; rintro e w' ⟨rfl, rfl⟩; rw [HD.out])
    go_ret
    exact ⟨rfl, Below.refl _ _⟩
  have hd : (decide ((1048576 : Int) < (n0 : Int)) || decide ((1048576 : Int) < (n1 : Int))) = false := by
    rw [Bool.or_eq_false_iff, decide_eq_false_iff_not, decide_eq_false_iff_not]; omega
  have HD := Lib.hid hd
  have hn0 : n0 ≤ 1048576 := by omega
  have hn1 : n1 ≤ 1048576 := by omega
  clear hd hlong
  have HO0 := Lib.hid (Owns.empty w w.heap.size (Nat.le_refl _))
  have hB0 := below_nil1 w
  go_enter Tryz.func3, Tryz.ntmps3
  go_upto_block 0 with (go_at_call 4; refine (r8Long_any _ _ _ _ _ _ _).mono ?_; rintro e w' ⟨rfl, rfl⟩; rw [HD.out])
  go_cut [5, 6] (fun v x wx => ∃ (k : Nat) (l : List Int) (n : Int), k ≤ 6 ∧ x = .int .i64 n ∧ Hid (0 ≤ n ∧ n < b256 k) ∧ Hid (Bas l k) ∧ Hid (Owns wx w.heap.size v l) ∧ Below w.heap.size w wx)
  case first =>
    go_wp2_with fail
    go_loopw [5, 6, 7] (fun v x i wr => ∃ (k : Nat) (l : List Int) (n : Int), k ≤ 6 ∧ i = .int .i64 k ∧ x = .int .i64 n ∧ Hid (0 ≤ n ∧ n < b256 k) ∧ Hid (Bas l k) ∧ Hid (Owns wr w.heap.size v l) ∧ Below w.heap.size w wr) (fun _ _ i _ => 6 - (intOf i).toNat)
    case atStart => exact ⟨0, [], 0, by omega, rfl, rfl, Lib.hid (by decide), Lib.hid Bas.nil_, HO0, hB0⟩
    case round =>
      clear HO0 hB0
      obtain ⟨k, l, n, hk, rfl, rfl, HN, HL, HO, hB⟩ := hrel
      by_cases hlt : k < 6 ∧ k < n0
      · obtain ⟨hk6, hkn⟩ := hlt
        have hki : (k : Int) < 6 := by omega
        have hki2 : (k : Int) < (n0 : Int) := by omega
        have hx0 : 0 ≤ 256 * n := by have := HN.out; omega
        have hx1 : 256 * n ≤ 281474976710656 := by have := b256_step hk6 HN.out (r := 0) ⟨by omega, .inr rfl⟩; omega
        have hHB := Lib.hid (H0.out.next hB)
        have hll : l.length ≤ 1000000000 := by have := HL.out.len; omega
        go_wp2_with (first
          | (go_at_call 5; (with_reducible refine (r8At_any _ _ _ _ k 256 _ hHB.out F0.out).mono ?_); rintro e w' ⟨⟨r, rfl, hr⟩, rfl⟩; have hR := Lib.hid (b256_step hk6 HN.out hr); have hr0 := hR.out.2.2.1; have hr1 := hR.out.2.2.2.2; clear hr)
          | (go_at_call 5; (with_reducible refine (r8At_any _ _ _ _ k 100 _ hHB.out F0.out).mono ?_); rintro e w' ⟨⟨q, rfl, hq⟩, rfl⟩; have hQ := Lib.hid hq; have hq0 : 0 ≤ q := hQ.out.1; have hq1 : q ≤ 100 := (by have := hQ.out.2; omega); clear hq)
          | (at_builtin; refine wpList_push rfl _ _ rfl w.heap.size _ l rfl HO.out (q - 50) rfl hll hB.size ?_; intro v3 w3 o3 hg3 hv3; have hB3 := hB.grown hg3 hB.size (fun k hk => (HO.out.lt k hk).1); have HO3 := Lib.hid o3; clear o3 hg3 hv3))
        go_roundw
        case rel => exact ⟨k + 1, _, _, by omega, by go_num, rfl, Lib.hid ⟨hR.out.2.2.1, hR.out.2.2.2.1⟩, Lib.hid (HL.out.push hQ.out), HO3, hB3⟩
        case measure => simp [intOf] <;> omega
      · rcases (show (decide ((k : Int) < 6) = true ∧ decide ((k : Int) < (n0 : Int)) = false) ∨ decide ((k : Int) < 6) = false by
          rw [decide_eq_true_eq, decide_eq_false_iff_not, decide_eq_false_iff_not]; omega) with ⟨hd1, hd2⟩ | hd1
        · have hlt6 : (k : Int) < 6 := of_decide_eq_true hd1
          go_wp2_with fail
          go_meet
          case rel => exact ⟨k, l, n, hk, rfl, HN, HL, HO, hB⟩
        · go_wp2_with fail
          go_meet
          case rel => exact ⟨k, l, n, hk, rfl, HN, HL, HO, hB⟩
  case rest =>
    clear HO0 hB0
    obtain ⟨ka, l, n, hka, rfl, HN, HL, HO, hB⟩ := hcut
    rename World => wa
    have HO80 := Lib.hid (Owns.empty wa wa.heap.size (Nat.le_refl _))
    have hB80 := below_nil1 wa
    go_upto_block 2 with fail
    go_cut [8] (fun u wx => ∃ (k : Nat) (l2 : List Int), k ≤ 6 ∧ Hid (Bas l2 k) ∧ Hid (Owns wx wa.heap.size u l2) ∧ Below wa.heap.size wa wx)
    case first =>
      go_wp2_with fail
      go_loopw [8, 9] (fun u i wr => ∃ (k : Nat) (l2 : List Int), k ≤ 6 ∧ i = .int .i64 k ∧ Hid (Bas l2 k) ∧ Hid (Owns wr wa.heap.size u l2) ∧ Below wa.heap.size wa wr) (fun _ i _ => 6 - (intOf i).toNat)
      case atStart => exact ⟨0, [], by omega, rfl, Lib.hid Bas.nil_, HO80, hB80⟩
      case round =>
        clear HO80 hB80
        obtain ⟨k, l2, hk, rfl, HL2, HO8, hB8⟩ := hrel
        by_cases hlt : k < 6 ∧ k < n1
        · obtain ⟨hk6, hkn⟩ := hlt
          have hki : (k : Int) < 6 := by omega
          have hki2 : (k : Int) < (n1 : Int) := by omega
          have hHB := Lib.hid (H1.out.next (below_next hB hB8))
          have hll : l2.length ≤ 1000000000 := by have := HL2.out.len; omega
          go_wp2_with (first
            | (go_at_call 5; (with_reducible refine (r8At_any _ _ _ _ k 100 _ hHB.out F1.out).mono ?_); rintro e w' ⟨⟨q, rfl, hq⟩, rfl⟩; have hQ := Lib.hid hq; have hq0 : 0 ≤ q := hQ.out.1; have hq1 : q ≤ 100 := (by have := hQ.out.2; omega); clear hq)
            | (at_builtin; refine wpList_push rfl _ _ rfl wa.heap.size _ l2 rfl HO8.out (q - 50) rfl hll hB8.size ?_; intro v3 w3 o3 hg3 hv3; have hB3 := hB8.grown hg3 hB8.size (fun k hk => (HO8.out.lt k hk).1); have HO3 := Lib.hid o3; clear o3 hg3 hv3))
          go_roundw
          case rel => exact ⟨k + 1, _, by omega, by go_num, Lib.hid (HL2.out.push hQ.out), HO3, hB3⟩
          case measure => simp [intOf] <;> omega
        · rcases (show (decide ((k : Int) < 6) = true ∧ decide ((k : Int) < (n1 : Int)) = false) ∨ decide ((k : Int) < 6) = false by
            rw [decide_eq_true_eq, decide_eq_false_iff_not, decide_eq_false_iff_not]; omega) with ⟨hd1, hd2⟩ | hd1
          · have hlt6 : (k : Int) < 6 := of_decide_eq_true hd1
            go_wp2_with fail
            go_meet
            case rel => exact ⟨k, l2, hk, HL2, HO8, hB8⟩
          · go_wp2_with fail
            go_meet
            case rel => exact ⟨k, l2, hk, HL2, HO8, hB8⟩
    case rest =>
      clear HO80 hB80
      obtain ⟨kb, l2, hkb, HL2, HO8, hB8⟩ := hcut
      rename World => wb
      have o5 := HO.out.next hB8
      have o8 := HO8.out
      replace hB := below_next hB hB8
      have hn0' := HN.out.1
      have hn1' : n ≤ 281474976710656 := by have := HN.out; have := b256_le ka (by omega); omega
      clear HO HO8 hB8
      have hnb := Lib.hid (num_back (v := -n) (by omega) (by omega))
      go_wp2_with fail
      refine (implDecimal_any (-n) _ (HE.out.next hB).pow (by omega) (by omega)).mono ?_
      rintro e w1 ⟨rfl, hb1⟩
      replace o5 := o5.next hb1
      replace o8 := o8.next hb1
      replace hB := below_next hB hb1
      go_wp2_with fail
      refine (implReadDecimal_any (str (Lib.itoa (-n))) _ (HE.out.next hB).pow (HE.out.next hB).err (by have := itoa_len (n := -n) (by omega) (by omega); show (Lib.itoa (-n)).length ≤ _; omega)).mono ?_
      rintro e w2 ⟨rfl, hb2⟩
      rw [str_toList, hnb.out.1, hnb.out.2]
      replace o5 := o5.next hb2
      replace o8 := o8.next hb2
      replace hB := below_next hB hb2
      go_wp2_with fail
      refine (implListText_any _ l _ (HE.out.next hB).pow o5.sl HL.out.fit).mono ?_
      rintro e w3 ⟨rfl, hb3⟩
      replace o5 := o5.next hb3
      replace o8 := o8.next hb3
      replace hB := below_next hB hb3
      go_wp2_with fail
      have htx := HL.out.text hka
      refine (implReadList_any (str (ltxt l)) _ (HE.out.next hB) (by show (ltxt l).length ≤ _; omega)).mono ?_
      rw [list_back (HL.out.fits hka)]
      rintro e w4 ⟨r4, rfl, o4, hb4⟩
      replace o5 := o5.next hb4
      replace o8 := o8.next hb4
      replace hB := below_next hB hb4
      have hnn : (-n != -n) = false := by simp
      go_wp2_with fail
      refine (r8Same_any _ _ l l _ o4.sl o5.sl).mono ?_
      rintro e w5 ⟨rfl, hb5⟩
      rw [decide_eq_true (p := l = l) rfl]
      replace o5 := o5.next hb5
      replace o8 := o8.next hb5
      replace hB := below_next hB hb5
      obtain ⟨c, hc⟩ : ∃ c, cmpL l l2 = c := ⟨_, rfl⟩
      obtain ⟨b, hb⟩ : ∃ b, decide (l = l2) = b := ⟨_, rfl⟩
      have hc2 : cmpL l2 l = -c := by rw [cmpL_anti, hc]
      have hcb : -1 ≤ c ∧ c ≤ 1 := by have := cmpL_bd l l2; rw [hc] at this; omega
      have hz1 : decide (c = 0) = b := by
        rw [← hb, ← hc]
        exact decide_eq_decide.2 (cmpL_zero l l2)
      have hz2 : (c == 0) = b := hz1
      have hc0 := hcb.1
      have hc1 := hcb.2
      have HC := Lib.hid hc
      have HC2 := Lib.hid hc2
      have HEQ := Lib.hid hb
      clear hc hc2 hb hcb
      go_wp2_with fail
      refine (implCompareLists_any l l2 _ _ _ o5.sl o8.sl).mono ?_
      rintro e w' ⟨rfl, rfl⟩
      rw [HC.out]
      go_wp2_with fail
      refine (implCompareLists_any l2 l _ _ _ o8.sl o5.sl).mono ?_
      rintro e w' ⟨rfl, rfl⟩
      rw [HC2.out]
      go_wp2_with fail
      refine (implCompareLists_any l l2 _ _ _ o5.sl o8.sl).mono ?_
      rintro e w' ⟨rfl, rfl⟩
      rw [HC.out]
      go_wp2_with fail
      refine (r8Same_any _ _ l l2 _ o5.sl o8.sl).mono ?_
      rintro e w6 ⟨rfl, hb6⟩
      rw [HEQ.out]
      replace o5 := o5.next hb6
      replace hB := below_next hB hb6
      clear o8 o4
      go_wp2_with fail
      refine (implListText_any _ l _ (HE.out.next hB).pow o5.sl HL.out.fit).mono ?_
      rintro e w7 ⟨rfl, hb7⟩
      replace o5 := o5.next hb7
      replace hB := below_next hB hb7
      obtain ⟨T, hT⟩ : ∃ T, ltxt l = T := ⟨_, rfl⟩
      rw [hT] at htx ⊢
      clear hT
      have hTs : (str T).size ≤ 132 := htx
      go_wp2_with fail
      refine (r8At_any _ _ _ l1 7 ((str T).size + 1) _ (H1.out.next hB) F1.out).mono ?_
      rintro e w' ⟨⟨r, rfl, hr⟩, rfl⟩
      obtain ⟨r, rfl⟩ := Int.eq_ofNat_of_zero_le hr.1
      have hrT : r ≤ (str T).size := by have := hr.2; omega
      have hrT0 : (0 : Int) ≤ (r : Int) := by omega
      have hrT1 : (r : Int) ≤ ((str T).size : Int) := by omega
      clear hr
      go_wp2_with fail
      refine (implCrc16_yes (str T) 65535 _ (by unfold maxLen; omega) (by decide)).mono ?_
      rintro e w' ⟨rfl, rfl⟩
      rw [str_toList]
      have hcut := crc_cut T r 65535
      have hbd1 := crcL_bd (T.take r) (c := 65535) (by omega) (by omega)
      have hbd2 := crcL_bd T (c := 65535) (by omega) (by omega)
      have hq1 : ∀ W, Calls Tryz.prog 12 #[.string ((str T).extract 0 r), .int .i64 65535] W fun e w' => e = .returned (.int .i64 (crcL (T.take r) 65535)) ∧ w' = W := fun W => by
        have h := implCrc16_yes ((str T).extract 0 r) 65535 W (by rw [ByteArray.size_extract]; unfold maxLen; omega) (by decide)
        rw [cut_str] at h
        exact h.mono fun _ _ ⟨h1, h2⟩ => ⟨h1, h2.symm⟩
      have hq2 : ∀ W, Calls Tryz.prog 12 #[.string ((str T).extract r (str T).size), .int .i64 (crcL (T.take r) 65535)] W fun e w' => e = .returned (.int .i64 (crcL T 65535)) ∧ w' = W := fun W => by
        have h := implCrc16_yes ((str T).extract r (str T).size) (crcL (T.take r) 65535) W (by rw [ByteArray.size_extract]; unfold maxLen; omega) (inB_true.2 hbd1)
        rw [sum_str, hcut] at h
        exact h.mono fun _ _ ⟨h1, h2⟩ => ⟨h1, h2.symm⟩
      obtain ⟨X, hX⟩ : ∃ X, crcL (T.take r) 65535 = X := ⟨_, rfl⟩
      obtain ⟨Y, hY⟩ : ∃ Y, crcL T 65535 = Y := ⟨_, rfl⟩
      rw [hX] at hq1 hq2
      rw [hY] at hq2 hbd2 ⊢
      have hY1 : decide (Y < 0) = false := decide_eq_false (by omega)
      have hY2 : decide (65535 < Y) = false := decide_eq_false (by omega)
      have HQ1 := Lib.hid hq1
      have HQ2 := Lib.hid hq2
      clear hq1 hq2 hX hY hcut hbd1 hbd2
      go_wp2_with fail
      go_quiet (first
        | (go_at_call 12; (with_reducible refine Calls.quiet_of_same (HQ1.out _)))
        | (go_at_call 12; (with_reducible refine Calls.quiet_of_same (HQ2.out _))))
      replace o5 := o5.drewN nq
      replace hB := below_drewN hB nq
      generalize w7.drewN nq = w8 at *
      go_wp2_with fail
      refine (implSortList_any _ l _ o5.sl (by have := HL.out.len; omega)).mono ?_
      rintro e w9 ⟨r9, rfl, o9, hb9⟩
      replace o5 := o5.next hb9
      replace hB := below_next hB hb9
      obtain ⟨A9, c9, rfl, hc9, hm9, hr9⟩ := o9.sl
      obtain ⟨A5, c5, rfl, hc5, hm5, _⟩ := o5.sl
      have HASC := Lib.hid (sortL_asc l)
      have hSL := sortL_len l
      obtain ⟨S, hS⟩ : ∃ S, sortL l = S := ⟨_, rfl⟩
      rw [hS] at hSL HASC hr9 hc9 ⊢
      have HSL := Lib.hid hSL
      have HR9 := Lib.hid hr9
      unfold maxLen at hm9
      clear hSL hr9 hS o9 o5
      rw [HSL.out] at HR9 hc9 ⊢
      go_wp2_with fail
      go_loopw [18] (fun i wr => ∃ k : Nat, 1 ≤ k ∧ i = .int .i64 k ∧ Below w9.heap.size w9 wr) (fun i _ => l.length - (intOf i).toNat)
      case atStart => exact ⟨1, Nat.le_refl _, rfl, Below.refl _ _⟩
      case round =>
        obtain ⟨k, hk, rfl, hbr⟩ := hrel
        by_cases hlt : k < l.length
        · obtain ⟨a1, rfl, hb1', hcc1⟩ := HR9.out.at_ (show k - 1 < l.length by omega)
          obtain ⟨a2, ha2, hb2', hcc2⟩ := HR9.out.at_ hlt
          obtain rfl : a1 = a2 := by simpa using ha2
          have hcell1 := (hbr.cell (p := a1.add (k - 1)) (by rw [block_of_add]; exact hb1')).trans hcc1
          have hcell2 := (hbr.cell (p := a1.add k) (by rw [block_of_add]; exact hb1')).trans hcc2
          have hle := asc_at HASC.out (i := k - 1) (j := k) (by omega) (by rw [HSL.out]; exact hlt)
          have hki : (k : Int) < (l.length : Int) := by omega
          have hk0 : (0 : Int) ≤ (k : Int) - 1 := by omega
          have hk1 : (k : Int) - 1 < (l.length : Int) := by omega
          have hkt : ((k : Int) - 1).toNat = k - 1 := by omega
          have hgt : decide (geti S k < geti S (k - 1)) = false := decide_eq_false (by omega)
          clear hcc1 hcc2 ha2
          go_wp2_with fail
          go_quiet (fail)
          go_wp2_with fail
          go_roundw
          case rel => exact ⟨k + 1, by omega, by go_num, by first | exact hbr | exact hbr.drew | exact below_drewN hbr _⟩
          case measure => simp [intOf] <;> omega
        · have hki : decide ((k : Int) < (l.length : Int)) = false := decide_eq_false (by omega)
          replace hB := below_next hB hbr
          go_wp2_with fail
          refine (r8At_any _ _ _ l1 8 12 _ (H1.out.next hB) F1.out).mono ?_
          rintro e w' ⟨⟨p, rfl, hp12⟩, rfl⟩
          obtain ⟨p, rfl⟩ := Int.eq_ofNat_of_zero_le hp12.1
          have hp : p < 12 := by have := hp12.2; omega
          obtain ⟨hpb, hp2, hp37⟩ := primes12 p hp
          have hin : inB (p : Int) 0 23 = true := inB_true.2 (by omega)
          have hPA := implPrimeAt_any (p : Int)
          rw [if_pos hin, if_pos hin, Int.toNat_natCast] at hPA
          have hIP := fun w => implIsPrime_any (primeK p : Int) w (by omega)
          rw [hpb, decide_eq_true (show (primeK p : Int) ≤ 1000000000000 by omega), Bool.true_and] at hIP
          have HPow := Lib.hid (fun e (he : e < 8) => basics_pow (k := p) hp he)
          obtain ⟨P, hP⟩ : ∃ P, primeK p = P := ⟨_, rfl⟩
          rw [hP] at hPA hIP HPow
          have HPA := Lib.hid hPA
          have HIP := Lib.hid hIP
          clear hPA hIP hpb hp2 hp37 hin hp12 hP
          go_wp2_with fail
          refine (HPA.out _).mono ?_
          rintro e w' ⟨rfl, rfl⟩
          go_wp2_with fail
          refine (r8At_any _ _ _ l1 9 8 _ (H1.out.next hB) F1.out).mono ?_
          rintro e w' ⟨⟨q, rfl, hq8⟩, rfl⟩
          obtain ⟨q, rfl⟩ := Int.eq_ofNat_of_zero_le hq8.1
          have hq : q < 8 := by have := hq8.2; omega
          have hPO := implPowerOf_any (P : Int) (q : Int)
          have hEX := implExponentOf_any ((P : Int) ^ q) (P : Int)
          rw [(HPow.out q hq).1] at hPO
          rw [(HPow.out q hq).2.1] at hEX
          obtain ⟨Z, hZ⟩ : ∃ Z, (P : Int) ^ q = Z := ⟨_, rfl⟩
          rw [hZ] at hPO hEX
          have HPO := Lib.hid hPO
          have HEX := Lib.hid hEX
          clear hPO hEX hZ hq8 HPow
          go_wp2_with fail
          refine (HPO.out _).mono ?_
          rintro e w' ⟨rfl, rfl⟩
          go_wp2_with fail
          refine (HEX.out _).mono ?_
          rintro e w' ⟨rfl, rfl⟩
          go_wp2_with fail
          refine (HIP.out _).mono ?_
          rintro e w' ⟨rfl, rfl⟩
          go_wp2_with fail
          go_ret
          exact ⟨rfl, hB⟩
end Go.Proofs.YtfdcpfhiknfpiaaGreatDoor
