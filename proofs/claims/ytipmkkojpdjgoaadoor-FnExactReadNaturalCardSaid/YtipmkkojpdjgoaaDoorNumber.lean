/- l01Number of the reference: a numeral of at most 18 digits, read. No condition beyond the stated bounds. -/
import Derived.Test.YtipmkkojpdjgoaaDoorNums
import Derived.Test.YtipmkkojpdjgoaaDoorPlainDec
namespace Go.Proofs.YtipmkkojpdjgoaaDoor
open Go.RowKit
theorem byte_at {s : ByteArray} {k : Nat} (h : k < s.size) : s.data.toList[k]? = some s[k] := by
  rw [List.getElem?_eq_getElem (show k < s.data.toList.length from h)]; rfl
theorem numOk_of {l m : List UInt8} (e : magB l = m) : numOk l = (!m.isEmpty && decide (m.length ≤ 18) && !((m.head?.map (·.toNat)) == some 48 && decide (1 < l.length)) && m.all isDig) := by unfold numOk; rw [e]
theorem numOk_nil {l m : List UInt8} (e : magB l = m) (h : m = []) : numOk l = false := by rw [numOk_of e, h]; rfl
theorem numOk_long {l m : List UInt8} (e : magB l = m) (h : ¬ m.length ≤ 18) : numOk l = false := by rw [numOk_of e, decide_eq_false h]; simp
theorem numOk_zero {l m : List UInt8} (e : magB l = m) {c : UInt8} (h : m.head? = some c) (hc : c.toNat = 48) (h1 : 1 < l.length) : numOk l = false := by rw [numOk_of e, h]; simp [hc, h1]
theorem numOk_bad {l m : List UInt8} (e : magB l = m) {c : UInt8} (h : c ∈ m) (hc : isDig c = false) : numOk l = false := by
  rw [numOk_of e]
  have : m.all isDig = false := by rw [List.all_eq_false]; exact ⟨c, h, by simp [hc]⟩
  rw [this]; simp
theorem numOk_yes {l m : List UInt8} (e : magB l = m) {c : UInt8} (h : m.head? = some c) (h18 : m.length ≤ 18) (h0 : ¬ (c.toNat = 48 ∧ 1 < l.length)) (hd : ∀ x ∈ m, isDig x = true) : numOk l = true := by
  rw [numOk_of e, h, decide_eq_true h18, List.all_eq_true.2 hd]
  cases m with
  | nil => cases h
  | cons a r =>
    simp only [List.isEmpty_cons, Bool.not_false, Bool.true_and, Bool.and_true, Option.map_some, Bool.not_eq_true']
    rw [Bool.and_eq_false_iff]
    by_cases hc : c.toNat = 48
    · right; exact decide_eq_false (fun h => h0 ⟨hc, h⟩)
    · left; simp [hc]
theorem isDig_inB (c : UInt8) : inB (c.toNat : Int) 48 57 = isDig c := by
  cases h : isDig c with
  | true => have := isDig_true.1 h; exact inB_true.2 (by omega)
  | false => have := isDig_false.1 h; exact inB_false.2 (by omega)
/-- What l01Number answers. -/
def numR (l : List UInt8) : Int := if numOk l then numV l else 0
theorem numR_no {l : List UInt8} (h : numOk l = false) : numR l = 0 := by unfold numR; rw [h]; rfl
theorem numR_yes {l : List UInt8} (h : numOk l = true) : numR l = numV l := by unfold numR; rw [h]; rfl
theorem dval_bd {m : List UInt8} {k : Nat} (hk : k ≤ 18) (h : m.length = k) (hd : ∀ c ∈ m, isDig c = true) : dval 0 m < 10 ^ 18 := by
  have := dval_lt m 0 0 (by simp) hd
  exact Nat.lt_of_lt_of_le this (Nat.pow_le_pow_right (by decide) (by omega))
/-- What has been read of the digits. -/
def NumI (m : List UInt8) (j : Nat) (n : Int) : Prop := n = (dval 0 (m.take j) : Int) ∧ ∀ x ∈ m.take j, isDig x = true
theorem NumI.start (m : List UInt8) : NumI m 0 0 := ⟨rfl, fun x hx => by simp at hx⟩
theorem NumI.step {m : List UInt8} {j : Nat} {n : Int} (h : NumI m j n) (hj : j < m.length) (hd : isDig m[j] = true) : NumI m (j + 1) (10 * n + ((m[j].toNat : Int) - 48)) := by
  have h2 := isDig_true.1 hd
  obtain ⟨h1, h3⟩ := h
  rw [NumI, List.take_succ_eq_append_getElem hj, dval_snoc]
  refine ⟨by rw [h1]; omega, fun x hx => ?_⟩
  rcases List.mem_append.1 hx with hx | hx
  · exact h3 x hx
  · rw [List.mem_singleton.1 hx]; exact hd
theorem NumI.bd {m : List UInt8} {j : Nat} {n : Int} (h : NumI m j n) (hm : m.length ≤ 18) (hj : j < m.length) : 0 ≤ n ∧ n < 100000000000000000 := by
  have h1 := dval_lt (m.take j) 0 0 (by simp) h.2
  have h2 : (m.take j).length = j := by rw [List.length_take]; omega
  have h3 : (10 : Nat) ^ (0 + (m.take j).length) ≤ 10 ^ 17 := Nat.pow_le_pow_right (by decide) (by omega)
  have h4 : (10 : Nat) ^ 17 = 100000000000000000 := by decide
  rw [h.1]; omega
theorem NumI.bd' {m : List UInt8} {n : Int} (h : NumI m m.length n) (hm : m.length ≤ 18) : 0 ≤ n ∧ n < 1000000000000000000 := by
  have h1 := dval_lt (m.take m.length) 0 0 (by simp) h.2
  have h2 : (m.take m.length).length = m.length := by rw [List.take_length]
  have h3 : (10 : Nat) ^ (0 + (m.take m.length).length) ≤ 10 ^ 18 := Nat.pow_le_pow_right (by decide) (by omega)
  have h4 : (10 : Nat) ^ 18 = 1000000000000000000 := by decide
  rw [h.1]; omega
theorem ret_num {a b : Int} {x y : Bool} (h : a = b) (h2 : x = y) : Ending.returned (.tuple #[.int .i64 a, .bool x]) = .returned (.tuple #[.int .i64 b, .bool y]) := by rw [h, h2]
theorem l01Digit_u (x : Int) (w : World) : Calls Tryd.prog 75 #[.int .u8 x] w fun e w' => e = .returned (.bool (inB x 48 57)) ∧ w = w' := by
  cases h : inB x 48 57 with
  | true =>
    have := inB_true.1 h
    have h1 : 48 ≤ x := this.1
    have h2 : x ≤ 57 := this.2
    go_enter Tryd.func75, Tryd.ntmps75
    go_wp2
    go_ret
    exact ⟨rfl, rfl⟩
  | false =>
    have := inB_false.1 h
    by_cases h1 : 48 ≤ x
    · have h2 : decide (x ≤ 57) = false := decide_eq_false (by omega)
      clear this
      go_enter Tryd.func75, Tryd.ntmps75
      go_wp2
      go_ret
      exact ⟨rfl, rfl⟩
    · have h2 : decide (48 ≤ x) = false := decide_eq_false h1
      clear this h1
      go_enter Tryd.func75, Tryd.ntmps75
      go_wp2
      go_ret
      exact ⟨rfl, rfl⟩
theorem l01Number_pos (s : ByteArray) (w : World) (hs : s.size ≤ 100000000) (hp : 0 < s.size) (hb : ((s[0].toNat : Int) == 45) = false) :
    Calls Tryd.prog 48 #[.string s] w fun e w' => e = .returned (.tuple #[.int .i64 (numR s.data.toList), .bool (numOk s.data.toList)]) ∧ w = w' := by
  have hl : s.data.toList.length = s.size := rfl
  have h0 : s.data.toList[0]? = some s[0] := byte_at hp
  have hneg : negB s.data.toList = false := by
    cases e : s.data.toList with
    | nil => rw [e] at hl; simp at hl; omega
    | cons c r =>
      rw [e] at h0
      simp at h0
      rw [negB, h0]
      rw [← hb]
      by_cases h : s[0].toNat = 45
      · simp [h]
      · have : ¬ (s[0].toNat : Int) = 45 := by omega
        rw [beq_eq_false_iff_ne.2 h, beq_eq_false_iff_ne.2 this]
  have hb2 : ((s[0].toNat : Int) != 45) = true := by rw [bne, hb]; rfl
  have hpi : (0 : Int) < (s.size : Int) := by omega
  obtain ⟨m, hm⟩ : ∃ m, m = s.data.toList.drop 0 := ⟨_, rfl⟩
  have hmag : magB s.data.toList = m := by unfold magB; rw [hneg, hm]; rfl
  have hml : m.length = s.size - 0 := by rw [hm, List.length_drop, hl]
  have hmk : ∀ j, (hj : j < m.length) → ∀ (h : j < s.size), m[j] = s[j] := fun j hj h => by
    have h1 := byte_at h
    have h2 : (s.data.toList.drop 0)[j]? = some m[j] := by rw [← hm]; exact List.getElem?_eq_getElem hj
    rw [List.getElem?_drop, Nat.zero_add] at h2
    rw [h1] at h2
    exact (Option.some.inj h2).symm
  have HMK := Lib.hid hmk
  have HMAG := Lib.hid hmag
  have HNEG := Lib.hid hneg
  clear hmk hmag hneg h0 hm hl
  have e1 : ((s.size : Int) == 0) = false := by rw [beq_eq_false_iff_ne]; omega
  have e2 : (s.size == 0) = false := by rw [beq_eq_false_iff_ne]; omega
  have hp1 : 0 < s.size := by omega
  by_cases h18 : s.size - 0 ≤ 18
  rotate_left
  · have HN : Hid (numOk s.data.toList = false) := Lib.hid (numOk_long HMAG.out (by omega))
    have e3 : decide ((18 : Int) < (s.size : Int)) = true := decide_eq_true (by omega)
    have e4 : (18 : Int) < (s.size : Int) := by omega
    go_enter Tryd.func48, Tryd.ntmps48
    go_wp2_with fail
    go_ret2
    exact ⟨ret_num (numR_no HN.out).symm HN.out.symm, rfl⟩
  have e3 : decide ((18 : Int) < (s.size : Int)) = false := decide_eq_false (by omega)
  have hhd : Hid (m.head? = some s[0]) := Lib.hid (by
    have hj : 0 < m.length := by omega
    rw [List.head?_eq_getElem?, List.getElem?_eq_getElem hj, HMK.out 0 hj (by omega)])
  have e3' : ¬ (18 : Int) < (s.size : Int) := by omega
  by_cases hz : s[0].toNat = 48 ∧ 1 < s.size
  · have HN : Hid (numOk s.data.toList = false) := Lib.hid (numOk_zero HMAG.out hhd.out hz.1 hz.2)
    have e5 : ((s[0].toNat : Int) == 48) = true := by rw [beq_iff_eq]; omega
    have e6 : (1 : Int) < (s.size : Int) := by omega
    have e7 : 1 < s.size := hz.2
    clear hz
    go_enter Tryd.func48, Tryd.ntmps48
    go_wp2_with fail
    go_ret2
    exact ⟨ret_num (numR_no HN.out).symm HN.out.symm, rfl⟩
  have HZ : Hid (¬ (s[0].toNat = 48 ∧ 1 < s.data.toList.length)) := Lib.hid hz
  by_cases hc : s[0].toNat = 48
  · have e5 : ((s[0].toNat : Int) == 48) = true := by rw [beq_iff_eq]; omega
    have e6 : decide ((1 : Int) < (s.size : Int)) = false := decide_eq_false (by omega)
    have e7 : decide (1 < s.size) = false := decide_eq_false (by omega)
    clear hz hc
    go_enter Tryd.func48, Tryd.ntmps48
    go_wp2_with fail
    go_loop [5, 6] (fun n i => ∃ (j : Nat) (v : Int), j ≤ m.length ∧ n = .int .i64 v ∧ i = .int .i64 ((j : Nat) : Int) ∧ Hid (NumI m j v)) (fun _ i => s.size - (intOf i).toNat)
    case atStart => exact ⟨0, 0, Nat.zero_le _, rfl, by first | rfl | go_num, Lib.hid (NumI.start m)⟩
    case round =>
      obtain ⟨j, v, hj, rfl, rfl, HI⟩ := hrel
      by_cases hlt : j < m.length
      · have hk : j < s.size := by omega
        have hki : ((j : Nat) : Int) < (s.size : Int) := by omega
        have hmj := HMK.out j hlt hk
        have hbd := HI.out.bd (by omega) hlt
        have v0 := hbd.1
        have v1 := hbd.2
        have b0 : (0 : Int) ≤ (s[j].toNat : Int) := by omega
        have b1 : (s[j].toNat : Int) ≤ 255 := by have := (s[j]).toNat_lt; omega
        cases hd : isDig m[j] with
        | false =>
          have HN : Hid (numOk s.data.toList = false) := Lib.hid (numOk_bad HMAG.out (List.getElem_mem hlt) hd)
          have HD : Hid (inB (s[j].toNat : Int) 48 57 = false) := Lib.hid (by rw [isDig_inB, ← hmj]; exact hd)
          clear hmj hbd hd
          go_wp2_with (go_at_call 75; refine (l01Digit_u _ _).mono ?_; rintro e w' ⟨rfl, rfl⟩; rw [HD.out])
          go_ret2
          exact ⟨ret_num (numR_no HN.out).symm HN.out.symm, rfl⟩
        | true =>
          have HS := Lib.hid (HI.out.step hlt hd)
          have HD : Hid (inB (s[j].toNat : Int) 48 57 = true) := Lib.hid (by rw [isDig_inB, ← hmj]; exact hd)
          have hdd := isDig_true.1 hd
          have d0 : (48 : Int) ≤ (s[j].toNat : Int) := by rw [← hmj]; omega
          have d1 : (s[j].toNat : Int) ≤ 57 := by rw [← hmj]; omega
          have HMJ := Lib.hid hmj
          clear hmj hbd hd hdd
          go_wp2_with (go_at_call 75; refine (l01Digit_u _ _).mono ?_; rintro e w' ⟨rfl, rfl⟩; rw [HD.out])
          go_round
          case rel => exact ⟨j + 1, _, by omega, by first | rfl | go_num, by first | go_num | (congr 1; omega), by first | (have h := HS.out; rw [HMJ.out] at h; exact Lib.hid h)⟩
          case measure => simp [intOf] <;> omega
      · obtain rfl : j = m.length := by omega
        have HY : Hid (numOk s.data.toList = true ∧ numV s.data.toList = v) := Lib.hid (by
          have h1 := HI.out.1
          have h2 := HI.out.2
          rw [List.take_length] at h1 h2
          refine ⟨numOk_yes HMAG.out hhd.out (by omega) HZ.out h2, ?_⟩
          unfold numV
          rw [HNEG.out, HMAG.out, h1]; rfl)
        have hbd := HI.out.bd' (by omega)
        have v0 := hbd.1
        have v1 := hbd.2
        have hk2 : decide (((m.length : Nat) : Int) < (s.size : Int)) = false := decide_eq_false (by omega)
        have hk3 : decide (m.length < s.size) = false := decide_eq_false (by omega)
        clear hbd
        go_wp2_with fail
        go_ret2
        exact ⟨ret_num (by rw [numR_yes HY.out.1, HY.out.2]) HY.out.1.symm, rfl⟩
  · have e5 : ((s[0].toNat : Int) == 48) = false := by rw [beq_eq_false_iff_ne]; omega
    clear hz hc
    go_enter Tryd.func48, Tryd.ntmps48
    go_wp2_with fail
    go_loop [5, 6] (fun n i => ∃ (j : Nat) (v : Int), j ≤ m.length ∧ n = .int .i64 v ∧ i = .int .i64 ((j : Nat) : Int) ∧ Hid (NumI m j v)) (fun _ i => s.size - (intOf i).toNat)
    case atStart => exact ⟨0, 0, Nat.zero_le _, rfl, by first | rfl | go_num, Lib.hid (NumI.start m)⟩
    case round =>
      obtain ⟨j, v, hj, rfl, rfl, HI⟩ := hrel
      by_cases hlt : j < m.length
      · have hk : j < s.size := by omega
        have hki : ((j : Nat) : Int) < (s.size : Int) := by omega
        have hmj := HMK.out j hlt hk
        have hbd := HI.out.bd (by omega) hlt
        have v0 := hbd.1
        have v1 := hbd.2
        have b0 : (0 : Int) ≤ (s[j].toNat : Int) := by omega
        have b1 : (s[j].toNat : Int) ≤ 255 := by have := (s[j]).toNat_lt; omega
        cases hd : isDig m[j] with
        | false =>
          have HN : Hid (numOk s.data.toList = false) := Lib.hid (numOk_bad HMAG.out (List.getElem_mem hlt) hd)
          have HD : Hid (inB (s[j].toNat : Int) 48 57 = false) := Lib.hid (by rw [isDig_inB, ← hmj]; exact hd)
          clear hmj hbd hd
          go_wp2_with (go_at_call 75; refine (l01Digit_u _ _).mono ?_; rintro e w' ⟨rfl, rfl⟩; rw [HD.out])
          go_ret2
          exact ⟨ret_num (numR_no HN.out).symm HN.out.symm, rfl⟩
        | true =>
          have HS := Lib.hid (HI.out.step hlt hd)
          have HD : Hid (inB (s[j].toNat : Int) 48 57 = true) := Lib.hid (by rw [isDig_inB, ← hmj]; exact hd)
          have hdd := isDig_true.1 hd
          have d0 : (48 : Int) ≤ (s[j].toNat : Int) := by rw [← hmj]; omega
          have d1 : (s[j].toNat : Int) ≤ 57 := by rw [← hmj]; omega
          have HMJ := Lib.hid hmj
          clear hmj hbd hd hdd
          go_wp2_with (go_at_call 75; refine (l01Digit_u _ _).mono ?_; rintro e w' ⟨rfl, rfl⟩; rw [HD.out])
          go_round
          case rel => exact ⟨j + 1, _, by omega, by first | rfl | go_num, by first | go_num | (congr 1; omega), by first | (have h := HS.out; rw [HMJ.out] at h; exact Lib.hid h)⟩
          case measure => simp [intOf] <;> omega
      · obtain rfl : j = m.length := by omega
        have HY : Hid (numOk s.data.toList = true ∧ numV s.data.toList = v) := Lib.hid (by
          have h1 := HI.out.1
          have h2 := HI.out.2
          rw [List.take_length] at h1 h2
          refine ⟨numOk_yes HMAG.out hhd.out (by omega) HZ.out h2, ?_⟩
          unfold numV
          rw [HNEG.out, HMAG.out, h1]; rfl)
        have hbd := HI.out.bd' (by omega)
        have v0 := hbd.1
        have v1 := hbd.2
        have hk2 : decide (((m.length : Nat) : Int) < (s.size : Int)) = false := decide_eq_false (by omega)
        have hk3 : decide (m.length < s.size) = false := decide_eq_false (by omega)
        clear hbd
        go_wp2_with fail
        go_ret2
        exact ⟨ret_num (by rw [numR_yes HY.out.1, HY.out.2]) HY.out.1.symm, rfl⟩
theorem l01Number_neg (s : ByteArray) (w : World) (hs : s.size ≤ 100000000) (hp : 0 < s.size) (hb : ((s[0].toNat : Int) == 45) = true) :
    Calls Tryd.prog 48 #[.string s] w fun e w' => e = .returned (.tuple #[.int .i64 (numR s.data.toList), .bool (numOk s.data.toList)]) ∧ w = w' := by
  have hl : s.data.toList.length = s.size := rfl
  have h0 : s.data.toList[0]? = some s[0] := byte_at hp
  have hneg : negB s.data.toList = true := by
    cases e : s.data.toList with
    | nil => rw [e] at hl; simp at hl; omega
    | cons c r =>
      rw [e] at h0
      simp at h0
      rw [negB, h0]
      rw [← hb]
      by_cases h : s[0].toNat = 45
      · simp [h]
      · have : ¬ (s[0].toNat : Int) = 45 := by omega
        rw [beq_eq_false_iff_ne.2 h, beq_eq_false_iff_ne.2 this]
  have hb2 : ((s[0].toNat : Int) != 45) = false := by rw [bne, hb]; rfl
  have hpi : (0 : Int) < (s.size : Int) := by omega
  obtain ⟨m, hm⟩ : ∃ m, m = s.data.toList.drop 1 := ⟨_, rfl⟩
  have hmag : magB s.data.toList = m := by unfold magB; rw [hneg, hm]; rfl
  have hml : m.length = s.size - 1 := by rw [hm, List.length_drop, hl]
  have hmk : ∀ j, (hj : j < m.length) → ∀ (h : 1 + j < s.size), m[j] = s[1 + j] := fun j hj h => by
    have h1 := byte_at h
    have h2 : (s.data.toList.drop 1)[j]? = some m[j] := by rw [← hm]; exact List.getElem?_eq_getElem hj
    rw [List.getElem?_drop] at h2
    rw [h1] at h2
    exact (Option.some.inj h2).symm
  have HMK := Lib.hid hmk
  have HMAG := Lib.hid hmag
  have HNEG := Lib.hid hneg
  clear hmk hmag hneg h0 hm hl
  by_cases h1 : s.size = 1
  · have HN : Hid (numOk s.data.toList = false) := Lib.hid (numOk_nil HMAG.out (List.eq_nil_of_length_eq_zero (by omega)))
    have e1 : ((s.size : Int) == 1) = true := by rw [beq_iff_eq]; omega
    have e2 : (s.size == 1) = true := by rw [beq_iff_eq]; omega
    clear h1
    go_enter Tryd.func48, Tryd.ntmps48
    go_wp2_with fail
    go_ret2
    exact ⟨ret_num (numR_no HN.out).symm HN.out.symm, rfl⟩
  have e1 : ((s.size : Int) == 1) = false := by rw [beq_eq_false_iff_ne]; omega
  have e2 : (s.size == 1) = false := by rw [beq_eq_false_iff_ne]; omega
  have hp1 : 1 < s.size := by omega
  clear h1
  by_cases h18 : s.size - 1 ≤ 18
  rotate_left
  · have HN : Hid (numOk s.data.toList = false) := Lib.hid (numOk_long HMAG.out (by omega))
    have e3 : decide ((18 : Int) < (s.size : Int) - 1) = true := decide_eq_true (by omega)
    have e4 : (18 : Int) < (s.size : Int) - 1 := by omega
    go_enter Tryd.func48, Tryd.ntmps48
    go_wp2_with fail
    go_ret2
    exact ⟨ret_num (numR_no HN.out).symm HN.out.symm, rfl⟩
  have e3 : decide ((18 : Int) < (s.size : Int) - 1) = false := decide_eq_false (by omega)
  have hhd : Hid (m.head? = some s[1]) := Lib.hid (by
    have hj : 0 < m.length := by omega
    rw [List.head?_eq_getElem?, List.getElem?_eq_getElem hj, HMK.out 0 hj (by omega)])
  have e3' : ¬ (18 : Int) < (s.size : Int) - 1 := by omega
  by_cases hz : s[1].toNat = 48 ∧ 1 < s.size
  · have HN : Hid (numOk s.data.toList = false) := Lib.hid (numOk_zero HMAG.out hhd.out hz.1 hz.2)
    have e5 : ((s[1].toNat : Int) == 48) = true := by rw [beq_iff_eq]; omega
    have e6 : (1 : Int) < (s.size : Int) := by omega
    have e7 : 1 < s.size := hz.2
    clear hz
    go_enter Tryd.func48, Tryd.ntmps48
    go_wp2_with fail
    go_ret2
    exact ⟨ret_num (numR_no HN.out).symm HN.out.symm, rfl⟩
  have HZ : Hid (¬ (s[1].toNat = 48 ∧ 1 < s.data.toList.length)) := Lib.hid hz
  have hc : ¬ s[1].toNat = 48 := fun h => hz ⟨h, hp1⟩
  have e5 : ((s[1].toNat : Int) == 48) = false := by rw [beq_eq_false_iff_ne]; omega
  clear hz hc
  go_enter Tryd.func48, Tryd.ntmps48
  go_wp2_with fail
  go_loop [5, 6] (fun n i => ∃ (j : Nat) (v : Int), j ≤ m.length ∧ n = .int .i64 v ∧ i = .int .i64 ((1 + j : Nat) : Int) ∧ Hid (NumI m j v)) (fun _ i => s.size - (intOf i).toNat)
  case atStart => exact ⟨0, 0, Nat.zero_le _, rfl, by first | rfl | go_num, Lib.hid (NumI.start m)⟩
  case round =>
    obtain ⟨j, v, hj, rfl, rfl, HI⟩ := hrel
    by_cases hlt : j < m.length
    · have hk : 1 + j < s.size := by omega
      have hki : ((1 + j : Nat) : Int) < (s.size : Int) := by omega
      have hmj := HMK.out j hlt hk
      have hbd := HI.out.bd (by omega) hlt
      have v0 := hbd.1
      have v1 := hbd.2
      have b0 : (0 : Int) ≤ (s[1 + j].toNat : Int) := by omega
      have b1 : (s[1 + j].toNat : Int) ≤ 255 := by have := (s[1 + j]).toNat_lt; omega
      cases hd : isDig m[j] with
      | false =>
        have HN : Hid (numOk s.data.toList = false) := Lib.hid (numOk_bad HMAG.out (List.getElem_mem hlt) hd)
        have HD : Hid (inB (s[1 + j].toNat : Int) 48 57 = false) := Lib.hid (by rw [isDig_inB, ← hmj]; exact hd)
        clear hmj hbd hd
        go_wp2_with (go_at_call 75; refine (l01Digit_u _ _).mono ?_; rintro e w' ⟨rfl, rfl⟩; rw [HD.out])
        go_ret2
        exact ⟨ret_num (numR_no HN.out).symm HN.out.symm, rfl⟩
      | true =>
        have HS := Lib.hid (HI.out.step hlt hd)
        have HD : Hid (inB (s[1 + j].toNat : Int) 48 57 = true) := Lib.hid (by rw [isDig_inB, ← hmj]; exact hd)
        have hdd := isDig_true.1 hd
        have d0 : (48 : Int) ≤ (s[1 + j].toNat : Int) := by rw [← hmj]; omega
        have d1 : (s[1 + j].toNat : Int) ≤ 57 := by rw [← hmj]; omega
        have HMJ := Lib.hid hmj
        clear hmj hbd hd hdd
        go_wp2_with (go_at_call 75; refine (l01Digit_u _ _).mono ?_; rintro e w' ⟨rfl, rfl⟩; rw [HD.out])
        go_round
        case rel => exact ⟨j + 1, _, by omega, by first | rfl | go_num, by first | go_num | (congr 1; omega), by first | (have h := HS.out; rw [HMJ.out] at h; exact Lib.hid h)⟩
        case measure => simp [intOf] <;> omega
    · obtain rfl : j = m.length := by omega
      have HY : Hid (numOk s.data.toList = true ∧ numV s.data.toList = -v) := Lib.hid (by
        have h1 := HI.out.1
        have h2 := HI.out.2
        rw [List.take_length] at h1 h2
        refine ⟨numOk_yes HMAG.out hhd.out (by omega) HZ.out h2, ?_⟩
        unfold numV
        rw [HNEG.out, HMAG.out, h1]; rfl)
      have hbd := HI.out.bd' (by omega)
      have v0 := hbd.1
      have v1 := hbd.2
      have hk2 : decide (((1 + m.length : Nat) : Int) < (s.size : Int)) = false := decide_eq_false (by omega)
      have hk3 : decide (1 + m.length < s.size) = false := decide_eq_false (by omega)
      clear hbd
      go_wp2_with fail
      go_ret2
      exact ⟨ret_num (by rw [numR_yes HY.out.1, HY.out.2]) HY.out.1.symm, rfl⟩
theorem l01Number_any (s : ByteArray) (w : World) (hs : s.size ≤ 100000000) :
    Calls Tryd.prog 48 #[.string s] w fun e w' => e = .returned (.tuple #[.int .i64 (numR s.data.toList), .bool (numOk s.data.toList)]) ∧ w = w' := by
  by_cases h0 : s.size = 0
  · have hl : s.data.toList = [] := List.eq_nil_of_length_eq_zero h0
    have HN : Hid (numOk s.data.toList = false) := Lib.hid (numOk_nil (m := []) (by rw [hl]; rfl) rfl)
    have e1 : ((s.size : Int) == 0) = true := by rw [beq_iff_eq]; omega
    have e2 : (s.size == 0) = true := by rw [beq_iff_eq]; omega
    have e3 : decide ((0 : Int) < (s.size : Int)) = false := decide_eq_false (by omega)
    have e4 : decide (0 < s.size) = false := decide_eq_false (by omega)
    clear hl h0
    go_enter Tryd.func48, Tryd.ntmps48
    go_wp2_with fail
    go_ret2
    exact ⟨ret_num (numR_no HN.out).symm HN.out.symm, rfl⟩
  · have hp : 0 < s.size := by omega
    cases hb : ((s[0].toNat : Int) == 45) with
    | true => exact l01Number_neg s w hs hp hb
    | false => exact l01Number_pos s w hs hp hb
theorem specReadDecimal_any (s : ByteArray) (w : World) (hs : s.size ≤ 100000000) :
    Calls Tryd.prog 30 #[.string s] w fun e w' => e = .returned (.tuple #[.int .i64 (numR s.data.toList), .bool (numOk s.data.toList)]) ∧ w = w' := by
  go_enter Tryd.func30, Tryd.ntmps30
  go_wp2_with (go_at_call 48; refine (l01Number_any _ _ hs).mono ?_; rintro e w' ⟨rfl, rfl⟩)
  go_ret2
  exact ⟨rfl, rfl⟩
end Go.Proofs.YtipmkkojpdjgoaaDoor
