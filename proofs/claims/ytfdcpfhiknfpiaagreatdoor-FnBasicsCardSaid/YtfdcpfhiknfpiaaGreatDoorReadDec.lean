/- ReadDecimal of the program: a numeral of at most 18 digits, read. Where the table of powers and the two errors of the library are laid. -/
import Derived.Test.YtfdcpfhiknfpiaaGreatDoorDec
import Derived.Test.YtfdcpfhiknfpiaaGreatDoorNumber
namespace Go.Proofs.YtfdcpfhiknfpiaaGreatDoor
open Go.RowKit Go.Joins
/-- The library's two errors hold something. -/
def ErrAt (g : Nat) (w : World) : Prop := ∃ ev, w.cell? ⟨g, 0, none⟩ = some ev ∧ (ev = .nilIface ∨ ∃ te pe, ev = .iface te pe)
structure Errs (w : World) : Prop where
  syn : ErrAt 0 w
  ran : ErrAt 1 w
theorem ErrAt.next {g : Nat} {w w' : World} (h : ErrAt g w) (hb : Below w.heap.size w w') : ErrAt g w' := by
  obtain ⟨ev, hc, he⟩ := h
  exact ⟨ev, (hb.cell (p := ⟨g, 0, none⟩) (cell_lt hc)).trans hc, he⟩
theorem Errs.next {w w' : World} (h : Errs w) (hb : Below w.heap.size w w') : Errs w' := ⟨h.syn.next hb, h.ran.next hb⟩
theorem numOk_parse {l : List UInt8} (h : ∀ v, Lib.parseIntB 64 l ≠ .ok v) : numOk l = false := by
  cases e : numOk l with
  | false => rfl
  | true => exact absurd (num_good e).2.1 (h _)
theorem numOk_itoa {l : List UInt8} {v : Int} (h : Lib.parseIntB 64 l = .ok v) (hne : ¬ Lib.itoa v = l) : numOk l = false := by
  cases e : numOk l with
  | false => rfl
  | true =>
    have h2 := num_good e
    rw [h] at h2
    have : v = numV l := by injection h2.2.1
    exact absurd (this ▸ h2.1) hne
theorem numOk_trim {l : List UInt8} (h : ¬ (Lib.trimPrefix l [45]).length ≤ 18) : numOk l = false := by
  rw [trim_mag] at h
  exact numOk_long rfl h
theorem toList_inj {a b : ByteArray} (h : a.data.toList = b.data.toList) : a = b := by
  cases a with | mk a => cases b with | mk b => exact congrArg ByteArray.mk (Array.toList_inj.1 h)
theorem str_inj {a : List UInt8} {s : ByteArray} (h : a = s.data.toList) : str a = s := by rw [h]; rfl
theorem parse_bd {l : List UInt8} {v : Int} (h : Lib.parseIntB 64 l = .ok v) : -9223372036854775808 ≤ v ∧ v ≤ 9223372036854775807 := by
  have e : (2 : Nat) ^ (64 - 1) = 9223372036854775808 := by decide
  unfold Lib.parseIntB at h
  rw [e] at h
  cases l with
  | nil => cases h
  | cons c r =>
    simp only at h
    split at h
    · cases h
    · cases h
    · split at h
      · cases h
      · split at h
        · cases h
        · rename_i h1 h2
          injection h with h
          subst h
          split <;> omega
set_option maxHeartbeats 400000 in
theorem implReadDecimal_any (s : ByteArray) (w : World) (hp : Pow w) (he : Errs w) (hs : s.size ≤ 100000000) :
    Calls Tryz.prog 6 #[.string s] w fun e w' => e = .returned (.tuple #[.int .i64 (numR s.data.toList), .bool (numOk s.data.toList)]) ∧ Below w.heap.size w w' := by
  have HP := Lib.hid hp
  have HE := Lib.hid he
  clear hp he
  cases hpr : Lib.parseIntB 64 s.data.toList with
  | «syntax» =>
    have HN : Hid (numOk s.data.toList = false) := Lib.hid (numOk_parse (fun v => by rw [hpr]; simp))
    obtain ⟨ev, hc, hev⟩ := HE.out.syn
    have HC := Lib.hid (Tryz.strconv_ParseInt_10_at64_syntax s (by omega) hpr ev w hc hev)
    clear hc hev hpr
    go_enter Tryz.func6, Tryz.ntmps6
    go_wp2_with (go_at_call 18; refine HC.out.mono ?_; rintro e w' ⟨N, rfl, _, _, hb⟩)
    go_ret2
    exact ⟨ret_num (numR_no HN.out).symm HN.out.symm, hb⟩
  | range =>
    have HN : Hid (numOk s.data.toList = false) := Lib.hid (numOk_parse (fun v => by rw [hpr]; simp))
    obtain ⟨ev, hc, hev⟩ := HE.out.ran
    have HC := Lib.hid (Tryz.strconv_ParseInt_10_at64_range s (by omega) hpr ev w hc hev)
    clear hc hev hpr
    go_enter Tryz.func6, Tryz.ntmps6
    go_wp2_with (go_at_call 18; refine HC.out.mono ?_; rintro e w' ⟨N, rfl, _, _, hb⟩)
    go_ret2
    exact ⟨ret_num (numR_no HN.out).symm HN.out.symm, hb⟩
  | ok v =>
    have HC := Lib.hid (Tryz.strconv_ParseInt_10_at64_ok s (by omega) v hpr w)
    have HPR := Lib.hid hpr
    have hbd := parse_bd hpr
    have v0 := hbd.1
    have v1 := hbd.2
    clear hpr hbd
    have hbw : ∀ w', (w' = w ∨ ∃ t, w' = Lib.bytesWorld w 5 t) → Below w.heap.size w w' := fun w' h => by
      rcases h with rfl | ⟨t, rfl⟩
      · exact Below.refl _ _
      · exact Lib.bytesWorld_below _ _ _
    by_cases hi : Lib.itoa v = s.data.toList
    · have HI : Hid (str (Lib.itoa v) = s) := Lib.hid (str_inj hi)
      have htl : (Lib.trimPrefix s.data.toList [45]).length ≤ 100000000 := by rw [trim_mag]; have := mag_len s.data.toList; have : s.data.toList.length = s.size := rfl; omega
      by_cases h18 : (Lib.trimPrefix s.data.toList [45]).length ≤ 18
      · have HY : Hid (numOk s.data.toList = true ∧ numV s.data.toList = v) := Lib.hid (num_iff _ v HPR.out hi h18)
        have t1 : decide ((18 : Int) < ((Lib.trimPrefix s.data.toList [45]).length : Int)) = false := decide_eq_false (by omega)
        have t2 : decide (18 < (Lib.trimPrefix s.data.toList [45]).length) = false := decide_eq_false (by omega)
        clear hi
        go_enter Tryz.func6, Tryz.ntmps6
        go_wp2_with (first
          | (go_at_call 18; refine HC.out.mono ?_; rintro e w1 ⟨rfl, hw1⟩; have hb1 := hbw w1 hw1; clear hw1)
          | (go_at_call 7; refine (implDecimal_any v _ (HP.out.next hb1) v0 v1).mono ?_; rintro e w2 ⟨rfl, hb2⟩; rw [HI.out])
          | (go_at_call 19; refine (Tryz.strings_TrimPrefix _ _ _).mono ?_; rintro e w3 ⟨rfl, rfl⟩))
        go_ret2
        exact ⟨ret_num (by rw [numR_yes HY.out.1, HY.out.2]) HY.out.1.symm, below_next hb1 hb2⟩
      · have HN : Hid (numOk s.data.toList = false) := Lib.hid (numOk_trim h18)
        have t1 : decide ((18 : Int) < ((Lib.trimPrefix s.data.toList [45]).length : Int)) = true := decide_eq_true (by omega)
        have t2 : (18 : Int) < ((Lib.trimPrefix s.data.toList [45]).length : Int) := by omega
        clear hi
        go_enter Tryz.func6, Tryz.ntmps6
        go_wp2_with (first
          | (go_at_call 18; refine HC.out.mono ?_; rintro e w1 ⟨rfl, hw1⟩; have hb1 := hbw w1 hw1; clear hw1)
          | (go_at_call 7; refine (implDecimal_any v _ (HP.out.next hb1) v0 v1).mono ?_; rintro e w2 ⟨rfl, hb2⟩; rw [HI.out])
          | (go_at_call 19; refine (Tryz.strings_TrimPrefix _ _ _).mono ?_; rintro e w3 ⟨rfl, rfl⟩))
        go_ret2
        exact ⟨ret_num (numR_no HN.out).symm HN.out.symm, below_next hb1 hb2⟩
    · have HN : Hid (numOk s.data.toList = false) := Lib.hid (numOk_itoa HPR.out hi)
      obtain ⟨q, hq⟩ : ∃ q, str (Lib.itoa v) = q := ⟨_, rfl⟩
      have HI := Lib.hid hq
      have hne : ¬ q = s := fun h => hi (by rw [h] at hq; rw [← hq]; rfl)
      have hne3 : ¬ q.toList = s.toList := fun h => hne (by
        rw [ByteArray.toList_eq, ByteArray.toList_eq] at h
        exact toList_inj h)
      clear hi hq hne
      go_enter Tryz.func6, Tryz.ntmps6
      go_wp2_with (first
          | (go_at_call 18; refine HC.out.mono ?_; rintro e w1 ⟨rfl, hw1⟩; have hb1 := hbw w1 hw1; clear hw1)
          | (go_at_call 7; refine (implDecimal_any v _ (HP.out.next hb1) v0 v1).mono ?_; rintro e w2 ⟨rfl, hb2⟩; rw [HI.out]))
      go_ret2
      exact ⟨ret_num (numR_no HN.out).symm HN.out.symm, below_next hb1 hb2⟩
end Go.Proofs.YtfdcpfhiknfpiaaGreatDoor
