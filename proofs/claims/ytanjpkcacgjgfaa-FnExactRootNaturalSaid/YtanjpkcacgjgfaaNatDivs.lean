/- DivideNaturals, GcdNaturals: the reference and the program give the same results. No condition beyond the stated bounds. -/
import Derived.Test.YtanjpkcacgjgfaaNatLong2
import Derived.Test.YtanjpkcacgjgfaaLists
import Derived.Test.YtanjpkcacgjgfaaNatArith2
import Derived.Deep.LoopGhost
namespace Go.Proofs.Ytanjpkcacgjgfaa
open Go.RowKit
theorem RetTwoC.nils {w w' : World} {c : Int} (hb : Below w.heap.size w w') : RetTwoC w [] [] c (.returned (.tuple #[.slice none 0 0, .slice none 0 0, .int .i64 c])) w' :=
  ⟨_, _, rfl, Fresh.nil_ _ _, Fresh.nil_ _ _, fun k hk => by simp [blk] at hk, hb⟩
theorem nl_pos {n : Int} (h : 0 < n) : 0 < (nl n).length := by
  rcases Nat.eq_zero_or_pos (nl n).length with h0 | h0
  · have h1 := val_nl (show 0 ≤ n by omega)
    rw [List.eq_nil_of_length_eq_zero h0] at h1
    have h2 : (0 : Int) = n := h1
    omega
  · exact h0
set_option maxHeartbeats 1000000 in
theorem bothDivideNaturals (a b : List Int) (_f : Fit a) (_hn : a.length ≤ 1048576) (_g : Fit b) (_hm : b.length ≤ 1048576) : ∃ (R0 R1 : List Int) (C : Int), R0.length ≤ 4000000 ∧ R1.length ≤ 4000000 ∧
    (∀ (w : World) (v1 v2 : Value), Sl w v1 a → Sl w v2 b → Calls Try.prog 40 #[v1, v2] w (RetTwoC w R0 R1 C)) ∧
    (∀ (w : World) (v1 v2 : Value), Sl w v1 a → Sl w v2 b → Calls Try.prog 41 #[v1, v2] w (RetTwoC w R0 R1 C)) := by
  cases hab : nat2 a b with
  | false =>
    refine ⟨[], [], 1, by simp, by simp, fun w v1 v2 h1 h2 => ?_, fun w v1 v2 h1 h2 => ?_⟩
    · cases ha : natB a with
      | false =>
        go_enter Try.func40, Try.ntmps40
        go_wp2_with (go_at_call 93; refine (l02Is_any _ _ _ h1).mono ?_; rintro e w' ⟨rfl, rfl⟩)
        go_ret3
        exact RetTwoC.nils (Below.refl _ _)
      | true =>
        have hb : natB b = false := by unfold nat2 at hab; rw [ha] at hab; simpa using hab
        go_enter Try.func40, Try.ntmps40
        go_wp2_with fail
        refine (l02Is_any _ _ _ h1).mono ?_
        rintro e w' ⟨rfl, rfl⟩
        go_wp2_with fail
        refine (l02Is_any _ _ _ h2).mono ?_
        rintro e w' ⟨rfl, rfl⟩
        go_wp2_with fail
        go_ret3
        exact RetTwoC.nils (Below.refl _ _)
    · have H1 := Lib.hid h1
      have H2 := Lib.hid h2
      obtain ⟨A1, c1, rfl, _, _, _⟩ := h1
      obtain ⟨A2, c2, rfl, _, _, _⟩ := h2
      have hN : naturals_all [a, b] = false := by rw [nat2_all]; exact hab
      go_enter Try.func41, Try.ntmps41
      go_wp2_with (go_at_call 104; refine (naturals_any _ _ _ (SlL.two H1.out H2.out)).mono ?_; rintro e w' ⟨rfl, rfl⟩)
      go_ret3
      exact RetTwoC.nils ((Below.refl _ _).alloc (Nat.le_refl _) _)
  | true =>
    have hab2 := hab
    unfold nat2 at hab2
    rw [Bool.and_eq_true] at hab2
    obtain ⟨ha, hb⟩ := hab2
    have fa := nat_facts ha
    have fb := nat_facts hb
    by_cases h0 : b.length = 0
    · have hz : ((b.length : Int) == 0) = true := by rw [beq_iff_eq]; omega
      have hz2 : (b.length == 0) = true := by rw [beq_iff_eq]; omega
      refine ⟨[], [], 2, by simp, by simp, fun w v1 v2 h1 h2 => ?_, fun w v1 v2 h1 h2 => ?_⟩
      · have H2 := Lib.hid h2
        obtain ⟨A2, c2, rfl, _, _, hq⟩ := h2
        clear hq h0 fa fb
        go_enter Try.func40, Try.ntmps40
        go_wp2_with fail
        refine (l02Is_any _ _ _ h1).mono ?_
        rintro e w' ⟨rfl, rfl⟩
        go_wp2_with fail
        refine (l02Is_any _ _ _ H2.out).mono ?_
        rintro e w' ⟨rfl, rfl⟩
        go_wp2_with fail
        go_ret3
        exact RetTwoC.nils (Below.refl _ _)
      · have H1 := Lib.hid h1
        have H2 := Lib.hid h2
        obtain ⟨A1, c1, rfl, _, _, hq⟩ := h1
        obtain ⟨A2, c2, rfl, _, _, hq2⟩ := h2
        have hN : naturals_all [a, b] = true := by rw [nat2_all]; exact hab
        clear hq hq2 h0 fa fb
        go_enter Try.func41, Try.ntmps41
        go_wp2_with fail
        refine (naturals_any _ _ _ (SlL.two H1.out H2.out)).mono ?_
        rintro e w' ⟨rfl, rfl⟩
        go_wp2_with fail
        go_ret3
        exact RetTwoC.nils ((Below.refl _ _).alloc (Nat.le_refl _) _)
    · have hz : ((b.length : Int) == 0) = false := by rw [beq_eq_false_iff_ne]; omega
      have hz2 : (b.length == 0) = false := by rw [beq_eq_false_iff_ne]; omega
      have hd := nat_pos hb (by omega)
      have va := nat_val ha
      have vb := nat_val hb
      have l0 : (nl (val a / val b)).length ≤ 40 := nl_len40 (Int.ediv_nonneg va.2.1 (by omega)) (Int.lt_of_le_of_lt (Int.ediv_le_self _ va.2.1) va.2.2)
      have l1 : (nl (val a % val b)).length ≤ 40 := nl_len40 (Int.emod_nonneg _ (by omega)) (Int.lt_trans (Int.emod_lt_of_pos _ (by omega)) vb.2.2)
      refine ⟨nl (val a / val b), nl (val a % val b), 0, by omega, by omega, fun w v1 v2 h1 h2 => ?_, fun w v1 v2 h1 h2 => ?_⟩
      · have HD := Lib.hid (l02Div_any v1 v2 a b w h1 h2 fa.1 fb.1 (by omega) (by omega) hd)
        have H2 := Lib.hid h2
        obtain ⟨A2, c2, rfl, _, _, hq⟩ := h2
        clear hq h0 fa fb va vb l0 l1 hd
        go_enter Try.func40, Try.ntmps40
        go_wp2_with fail
        refine (l02Is_any _ _ _ h1).mono ?_
        rintro e w' ⟨rfl, rfl⟩
        go_wp2_with fail
        refine (l02Is_any _ _ _ H2.out).mono ?_
        rintro e w' ⟨rfl, rfl⟩
        go_wp2_with fail
        refine HD.out.mono ?_
        intro e w1 h
        obtain ⟨r, s, rfl, o1, o2, ap, hb1⟩ := RetTwo.f h
        go_wp2_with fail
        go_ret3
        exact ⟨r, s, rfl, o1, o2, ap, hb1⟩
      · have H1 := Lib.hid h1
        have H2 := Lib.hid h2
        obtain ⟨A1, c1, rfl, _, _, hq⟩ := h1
        obtain ⟨A2, c2, rfl, _, _, hq2⟩ := h2
        have hN : naturals_all [a, b] = true := by rw [nat2_all]; exact hab
        have hB0 : Below w.heap.size w (w.alloc (.cells #[.slice A1 a.length c1, .slice A2 b.length c2] 39)) := (Below.refl _ _).alloc (Nat.le_refl _) _
        have HD := Lib.hid (divide_any _ _ a b _ (H1.out.next hB0) (H2.out.next hB0) fa.1 fb.1 fb.2.1 (by omega) (by omega) hd)
        clear hq hq2 h0 fa fb va vb l0 l1 hd
        go_enter Try.func41, Try.ntmps41
        go_wp2_with fail
        refine (naturals_any _ _ _ (SlL.two H1.out H2.out)).mono ?_
        rintro e w' ⟨rfl, rfl⟩
        go_wp2_with fail
        refine HD.out.mono ?_
        rintro e w1 ⟨r, s, rfl, o1, o2, ap, hb1⟩
        go_wp2_with fail
        go_ret3
        exact ⟨r, s, rfl, o1.lower (by simp), o2.lower (by simp), ap, below_next hB0 hb1⟩
/-- Euclid's way, so many rounds at most. -/
def gcF : Nat → Int → Int → Int
  | 0, m, _ => m
  | k + 1, m, n => if n ≤ 0 then m else gcF k n (m % n)
theorem gcF_zero (k : Nat) (m : Int) : gcF k m 0 = m := by cases k <;> simp [gcF]
theorem gcF_step {k : Nat} {m n : Int} (h : 0 < n) : gcF (k + 1) m n = gcF k n (m % n) := by rw [gcF, if_neg (by omega)]
theorem gcF_bd : ∀ (k : Nat) {m n B : Int}, 0 ≤ m → m < B → 0 ≤ n → n < B → 0 ≤ gcF k m n ∧ gcF k m n < B
  | 0, _, _, _, h1, h2, _, _ => ⟨h1, h2⟩
  | k + 1, m, n, B, h1, h2, h3, h4 => by
    unfold gcF
    split
    · exact ⟨h1, h2⟩
    · have := Int.emod_lt_of_pos m (show 0 < n by omega)
      exact gcF_bd k h3 h4 (Int.emod_nonneg _ (by omega)) (by omega)
theorem l00Own_own (v : Value) (l : List Int) (w : World) (h : Sl w v l) (hn : l.length ≤ 4000000) :
    Calls Try.prog 127 #[v] w (RetOwn w l) := by
  have HO := Lib.hid (Owns.empty w w.heap.size (Nat.le_refl _))
  have hB0 : Below w.heap.size w (w.alloc (.cells #[] 2)) := (Below.refl _ _).alloc (Nat.le_refl _) _
  have HS := Lib.hid h
  clear h
  go_enter Try.func127, Try.ntmps127
  go_wp2_with (at_builtin; refine wpList_cat rfl _ _ rfl w.heap.size _ [] rfl HO.out _ l rfl (HS.out.next hB0) (by simp; omega) (by simp) ?_; intro v1 w1 o1 hg1 _)
  have hB1 := hB0.grown hg1 (by simp) (fun k hk => (HO.out.lt k hk).1)
  go_wp2
  go_ret
  exact ⟨_, rfl, by simpa using o1, hB1⟩
set_option maxHeartbeats 1000000 in
theorem l02Gcd_any (v1 v2 : Value) (a b : List Int) (w : World) (h1 : Sl w v1 a) (h2 : Sl w v2 b) (ha : natB a = true) (hb : natB b = true) :
    Calls Try.prog 106 #[v1, v2] w (RetRow w (nl (gcF (val b).toNat (val a) (val b)))) := by
  have va := nat_val ha
  have vb := nat_val hb
  have HS1 : Hid (Sl w v1 (nl (val a))) := Lib.hid (by rw [va.1]; exact h1)
  have HS2 : Hid (Sl w v2 (nl (val b))) := Lib.hid (by rw [vb.1]; exact h2)
  have ma := va.2
  have mb := vb.2
  have HA := Lib.hid (And.intro va.2.2 vb.2.2)
  clear h1 h2 va vb ha hb
  obtain ⟨m0, n0⟩ := And.intro ma.1 mb.1
  clear ma mb
  generalize val a = M at *
  generalize val b = K at *
  go_enter Try.func106, Try.ntmps106
  go_wp2_with fail
  go_loopg [0, 1] K.toNat (fun k u v wr => ∃ m n : Int, 0 ≤ m ∧ 0 ≤ n ∧ Hid (m < pw 40 ∧ n < pw 40) ∧ Hid (n.toNat ≤ k) ∧ Hid (gcF k m n = gcF K.toNat M K) ∧ Hid (Sl wr u (nl m)) ∧ Hid (Sl wr v (nl n)) ∧ Below w.heap.size w wr)
  case atStart => exact ⟨M, K, m0, n0, HA, Lib.hid (Nat.le_refl _), Lib.hid rfl, HS1, HS2, Below.refl _ _⟩
  case round =>
    obtain ⟨m, n, hm, hn, HL, HK, HE, H1, H2, hB⟩ := hrel
    obtain ⟨A2, c2, rfl, _, _, hq⟩ := H2.out
    clear hq
    by_cases h0 : 0 < n
    · have hl := nl_pos h0
      obtain ⟨k, rfl⟩ : ∃ k, gk = k + 1 := ⟨gk - 1, by have := HK.out; omega⟩
      have hml := nl_len40 hm HL.out.1
      have hnl := nl_len40 hn HL.out.2
      have HD := Lib.hid (l02Div_any _ _ (nl m) (nl n) _ H1.out H2.out (nl_lim _) (nl_lim _) (by omega) (by omega) (by rw [val_nl hn]; omega))
      rw [val_nl hn, val_nl hm] at HD
      have hr0 := Int.emod_nonneg m (show n ≠ 0 by omega)
      have hr1 := Int.emod_lt_of_pos m h0
      have HE2 : Hid (gcF k n (m % n) = gcF K.toNat M K) := Lib.hid (by rw [← HE.out, gcF_step h0])
      have HL2 : Hid (n < pw 40 ∧ m % n < pw 40) := Lib.hid ⟨HL.out.2, by have := HL.out.2; omega⟩
      have HK2 : Hid ((m % n).toNat ≤ k) := Lib.hid (by have := HK.out; omega)
      clear hml hnl
      go_wp2_with fail
      refine HD.out.mono ?_
      rintro e w1 ⟨r, s, rfl, o1, o2, _, hb1⟩
      have HR2 := Lib.hid o2.sl
      have HN2 := Lib.hid (H2.out.next hb1)
      have hB1 := below_next hB hb1
      clear o1 o2 HD
      go_wp2_with fail
      go_roundg k
      case measure => omega
      case rel => exact ⟨n, m % n, by omega, hr0, HL2, HK2, HE2, HN2, HR2, hB1⟩
    · obtain rfl : n = 0 := by omega
      have HE2 : Hid (m = gcF K.toNat M K) := Lib.hid (by rw [← HE.out, gcF_zero])
      have hml := nl_len40 hm HL.out.1
      rw [show (nl 0).length = 0 from rfl] at *
      go_wp2_with fail
      refine (l00Own_own _ _ _ H1.out (by omega)).mono ?_
      rintro e w1 ⟨r, rfl, o1, hb1⟩
      go_wp2_with fail
      go_ret
      exact ⟨_, rfl, by rw [← HE2.out]; exact (o1.lower hB.size).fresh, below_next hB hb1⟩
set_option maxHeartbeats 1000000 in
theorem implGcdNaturals_yes (v1 v2 : Value) (a b : List Int) (w : World) (h1 : Sl w v1 a) (h2 : Sl w v2 b) (ha : natB a = true) (hb : natB b = true) (hab : nat2 a b = true) :
    Calls Try.prog 43 #[v1, v2] w (RetRowC w (nl (gcF (val b).toNat (val a) (val b))) 0) := by
  have va := nat_val ha
  have vb := nat_val hb
  have fa := nat_facts ha
  have fb := nat_facts hb
  have H1 := Lib.hid h1
  have H2 := Lib.hid h2
  obtain ⟨A1, c1, rfl, _, _, hq⟩ := h1
  obtain ⟨A2, c2, rfl, _, _, hq2⟩ := h2
  have hN : naturals_all [a, b] = true := by rw [nat2_all]; exact hab
  have hB0 : Below w.heap.size w (w.alloc (.cells #[.slice A1 a.length c1, .slice A2 b.length c2] 39)) := (Below.refl _ _).alloc (Nat.le_refl _) _
  clear hq hq2
  have la : a.length ≤ 40 := fa.2.2
  have lb : b.length ≤ 40 := fb.2.2
  have HVA := Lib.hid va.1
  have HVB := Lib.hid vb.1
  have HA := Lib.hid (And.intro va.2.2 vb.2.2)
  have m0 := va.2.1
  have n0 := vb.2.1
  clear va vb fa fb ha hb hab
  go_enter Try.func43, Try.ntmps43
  go_wp2_with fail
  refine (naturals_any _ _ _ (SlL.two H1.out H2.out)).mono ?_
  rintro e w' ⟨rfl, rfl⟩
  rw [hN]
  go_wp2_with fail
  refine (clone_own _ _ _ (H1.out.next hB0) (by omega)).mono ?_
  rintro e w1 ⟨r1, rfl, o1, hb1⟩
  have hB1 := below_next hB0 hb1
  go_wp2_with fail
  refine (clone_own _ _ _ (H2.out.next hB1) (by omega)).mono ?_
  rintro e w2 ⟨r2, rfl, o2, hb2⟩
  have hB2 := below_next hB1 hb2
  have HF1 : Hid (Fresh w2 w.heap.size r1 (nl (val a))) := Lib.hid (by rw [HVA.out]; exact ((o1.next hb2).lower (by simp)).fresh)
  have HF2 : Hid (Fresh w2 w.heap.size r2 (nl (val b))) := Lib.hid (by rw [HVB.out]; exact (o2.lower hB1.size).fresh)
  clear o1 o2 HVA HVB
  generalize val a = M at *
  generalize val b = K at *
  go_wp2_with fail
  go_loopg [0, 1] K.toNat (fun k u v wr => ∃ m n : Int, 0 ≤ m ∧ 0 ≤ n ∧ Hid (m < pw 40 ∧ n < pw 40) ∧ Hid (n.toNat ≤ k) ∧ Hid (gcF k m n = gcF K.toNat M K) ∧ Hid (Fresh wr w.heap.size u (nl m)) ∧ Hid (Fresh wr w.heap.size v (nl n)) ∧ Below w.heap.size w wr)
  case atStart => exact ⟨M, K, m0, n0, HA, Lib.hid (Nat.le_refl _), Lib.hid rfl, HF1, HF2, hB2⟩
  case round =>
    clear HF1 HF2
    obtain ⟨m, n, hm, hn, HL, HK, HE, G1, G2, hB⟩ := hrel
    obtain ⟨A3, c3, rfl, _, _, hq⟩ := G2.out.sl
    clear hq
    by_cases h0 : 0 < n
    · have hl := nl_pos h0
      obtain ⟨k, rfl⟩ : ∃ k, gk = k + 1 := ⟨gk - 1, by have := HK.out; omega⟩
      have hml := nl_len40 hm HL.out.1
      have hnl := nl_len40 hn HL.out.2
      have HD := Lib.hid (divide_any _ _ (nl m) (nl n) _ G1.out.sl G2.out.sl (nl_lim _) (nl_lim _) (nl_trim _) (by omega) (by omega) (by rw [val_nl hn]; omega))
      rw [val_nl hn, val_nl hm] at HD
      have hr0 := Int.emod_nonneg m (show n ≠ 0 by omega)
      have hr1 := Int.emod_lt_of_pos m h0
      have HE2 : Hid (gcF k n (m % n) = gcF K.toNat M K) := Lib.hid (by rw [← HE.out, gcF_step h0])
      have HL2 : Hid (n < pw 40 ∧ m % n < pw 40) := Lib.hid ⟨HL.out.2, by have := HL.out.2; omega⟩
      have HK2 : Hid ((m % n).toNat ≤ k) := Lib.hid (by have := HK.out; omega)
      clear hml hnl
      go_wp2_with fail
      refine HD.out.mono ?_
      rintro e w3 ⟨r, s, rfl, o1, o2, _, hb3⟩
      have HR2 := Lib.hid (o2.lower hB.size)
      have HN2 := Lib.hid (G2.out.next hb3)
      have hB3 := below_next hB hb3
      clear o1 o2 HD
      go_wp2_with fail
      go_roundg k
      case measure => omega
      case rel => exact ⟨n, m % n, by omega, hr0, HL2, HK2, HE2, HN2, HR2, hB3⟩
    · obtain rfl : n = 0 := by omega
      have HE2 : Hid (m = gcF K.toNat M K) := Lib.hid (by rw [← HE.out, gcF_zero])
      rw [show (nl 0).length = 0 from rfl] at *
      go_wp2_with fail
      go_ret2
      exact ⟨_, rfl, by rw [← HE2.out]; exact G1.out, hB⟩
set_option maxHeartbeats 1000000 in
theorem bothGcdNaturals (a b : List Int) (_f : Fit a) (_hn : a.length ≤ 1048576) (_g : Fit b) (_hm : b.length ≤ 1048576) : ∃ (R : List Int) (C : Int), R.length ≤ 4000000 ∧
    (∀ (w : World) (v1 v2 : Value), Sl w v1 a → Sl w v2 b → Calls Try.prog 42 #[v1, v2] w (RetRowC w R C)) ∧
    (∀ (w : World) (v1 v2 : Value), Sl w v1 a → Sl w v2 b → Calls Try.prog 43 #[v1, v2] w (RetRowC w R C)) := by
  cases hab : nat2 a b with
  | false =>
    refine ⟨[], 1, by simp, fun w v1 v2 h1 h2 => ?_, fun w v1 v2 h1 h2 => ?_⟩
    · cases ha : natB a with
      | false =>
        go_enter Try.func42, Try.ntmps42
        go_wp2_with (go_at_call 93; refine (l02Is_any _ _ _ h1).mono ?_; rintro e w' ⟨rfl, rfl⟩)
        go_ret2
        exact ⟨_, rfl, Fresh.nil_ _ _, Below.refl _ _⟩
      | true =>
        have hb : natB b = false := by unfold nat2 at hab; rw [ha] at hab; simpa using hab
        go_enter Try.func42, Try.ntmps42
        go_wp2_with fail
        refine (l02Is_any _ _ _ h1).mono ?_
        rintro e w' ⟨rfl, rfl⟩
        go_wp2_with fail
        refine (l02Is_any _ _ _ h2).mono ?_
        rintro e w' ⟨rfl, rfl⟩
        go_wp2_with fail
        go_ret2
        exact ⟨_, rfl, Fresh.nil_ _ _, Below.refl _ _⟩
    · have H1 := Lib.hid h1
      have H2 := Lib.hid h2
      obtain ⟨A1, c1, rfl, _, _, _⟩ := h1
      obtain ⟨A2, c2, rfl, _, _, _⟩ := h2
      have hN : naturals_all [a, b] = false := by rw [nat2_all]; exact hab
      go_enter Try.func43, Try.ntmps43
      go_wp2_with (go_at_call 104; refine (naturals_any _ _ _ (SlL.two H1.out H2.out)).mono ?_; rintro e w' ⟨rfl, rfl⟩)
      go_ret2
      exact ⟨_, rfl, Fresh.nil_ _ _, (Below.refl _ _).alloc (Nat.le_refl _) _⟩
  | true =>
    have hab2 := hab
    unfold nat2 at hab2
    rw [Bool.and_eq_true] at hab2
    obtain ⟨ha, hb⟩ := hab2
    have va := nat_val ha
    have vb := nat_val hb
    have hbd := gcF_bd (val b).toNat va.2.1 va.2.2 vb.2.1 vb.2.2
    have hlen := nl_len40 hbd.1 hbd.2
    refine ⟨nl (gcF (val b).toNat (val a) (val b)), 0, by omega, fun w v1 v2 h1 h2 => ?_, fun w v1 v2 h1 h2 => implGcdNaturals_yes v1 v2 a b w h1 h2 ha hb hab⟩
    have HD := Lib.hid (l02Gcd_any v1 v2 a b w h1 h2 ha hb)
    clear va vb hbd hlen
    go_enter Try.func42, Try.ntmps42
    go_wp2_with fail
    refine (l02Is_any _ _ _ h1).mono ?_
    rintro e w' ⟨rfl, rfl⟩
    go_wp2_with fail
    refine (l02Is_any _ _ _ h2).mono ?_
    rintro e w' ⟨rfl, rfl⟩
    go_wp2_with fail
    refine HD.out.mono ?_
    rintro e w1 ⟨r, rfl, o1, hb1⟩
    go_wp2_with fail
    go_ret2
    exact ⟨r, rfl, o1, hb1⟩
end Go.Proofs.Ytanjpkcacgjgfaa
