/- MachineText of the reference: rules between commas and semicolons. No condition beyond the stated bounds. -/
import Derived.Test.YtcjcbgmgepohaaaDoorMValid3
import Derived.Test.YtcjcbgmgepohaaaDoorLText
namespace Go.Proofs.YtcjcbgmgepohaaaDoor
open Go.RowKit
/-- The text of a rule. -/
def rtx (a b c : Int) : List UInt8 := if noneB a b c then [45, 45, 45] else Lib.itoa a ++ (if b < 0 then [76] else [82]) ++ Lib.itoa c
def rAt (l : List Int) (k : Nat) : List UInt8 := rtx (geti l (k * 3)) (geti l (k * 3 + 1)) (geti l (k * 3 + 2))
/-- What stands ahead of a rule. -/
def sepT (s k : Nat) : List UInt8 := if k = 0 then [] else if k % s = 0 then [59] else [44]
/-- The text of the first rules. -/
def mtx (s : Nat) (l : List Int) : Nat → List UInt8
  | 0 => []
  | k + 1 => mtx s l k ++ sepT s k ++ rAt l k
/-- What MachineText answers. -/
def mtxt (sy st : Int) (l : List Int) : List UInt8 := if validB sy st l then mtx sy.toNat l (l.length / 3) else []
theorem rAt_len {l : List Int} (hf : Fit l) {k : Nat} (h : k * 3 + 2 < l.length) : (rAt l k).length ≤ 43 := by
  have h0 := hf _ (geti_mem (show k * 3 < l.length by omega))
  have h2 := hf _ (geti_mem (show k * 3 + 2 < l.length by omega))
  have := itoa_len h0.1 h0.2
  have := itoa_len h2.1 h2.2
  unfold rAt rtx
  split
  · simp
  · split <;> simp <;> omega
theorem mtx_len {s : Nat} {l : List Int} (hf : Fit l) : ∀ k, k * 3 ≤ l.length → (mtx s l k).length ≤ 44 * k := by
  intro k
  induction k with
  | zero => intro _; simp [mtx]
  | succ k ih =>
    intro h
    have h1 := ih (by omega)
    have h2 := rAt_len hf (k := k) (by omega)
    have h3 : (sepT s k).length ≤ 1 := by unfold sepT; split; simp; split <;> simp
    rw [mtx, List.length_append, List.length_append]
    omega
theorem rAt_none {l : List Int} {k : Nat} (h : noneB (geti l (k * 3)) (geti l (k * 3 + 1)) (geti l (k * 3 + 2)) = true) : rAt l k = [45, 45, 45] := by unfold rAt rtx; rw [h]; rfl
theorem rAt_left {l : List Int} {k : Nat} (h : noneB (geti l (k * 3)) (geti l (k * 3 + 1)) (geti l (k * 3 + 2)) = false) (h2 : geti l (k * 3 + 1) < 0) : rAt l k = Lib.itoa (geti l (k * 3)) ++ [76] ++ Lib.itoa (geti l (k * 3 + 2)) := by unfold rAt rtx; rw [h, if_pos h2]; rfl
theorem rAt_right {l : List Int} {k : Nat} (h : noneB (geti l (k * 3)) (geti l (k * 3 + 1)) (geti l (k * 3 + 2)) = false) (h2 : ¬ geti l (k * 3 + 1) < 0) : rAt l k = Lib.itoa (geti l (k * 3)) ++ [82] ++ Lib.itoa (geti l (k * 3 + 2)) := by unfold rAt rtx; rw [h, if_neg h2]; rfl
set_option maxHeartbeats 2000000 in
set_option maxRecDepth 100000 in
theorem l05Text_any (b : Nat) (s : Nat) (st : Int) (A : Option Addr) (n c : Nat) (l : List Int) (w : World) (h : C3 w b (.int .i64 (s : Int)) (.int .i64 st) (.slice A n c)) (hr : Ints w w.heap.size A (n * 3) l) (_hc : c ≤ maxLen) (hnc : n ≤ c) (hn : n ≤ 100000) (hf : Fit l) (hs0 : 0 < s) (hs1 : s ≤ 1000) :
    Calls Tryd.prog 11 #[.pointer (some ⟨b, 0, none⟩)] w fun e w' => e = .returned (.string (str (mtx s l n))) ∧ Below w.heap.size w w' := by
  have hl3 : l.length = n * 3 := hr.1
  have HC := Lib.hid h
  have HR := Lib.hid hr
  have HF := Lib.hid hf
  have HL3 := Lib.hid hl3
  unfold maxLen at _hc
  clear h hr hf hl3
  have hsz : ¬ s = 0 := by omega
  have hszi : ¬ (s : Int) = 0 := by omega
  have hspos : (0 : Int) < (s : Int) := by omega
  go_enter Tryd.func11, Tryd.ntmps11
  go_wp2_with fail
  go_loopw [3, 4] (fun u i wr => ∃ (k : Nat) (t : ByteArray), k ≤ n ∧ i = .int .i64 k ∧ u = .string t ∧ Hid (t = str (mtx s l k)) ∧ t.size ≤ 4400000 ∧ Below w.heap.size w wr) (fun _ i _ => n - (intOf i).toNat)
  case atStart => exact ⟨0, _, Nat.zero_le _, rfl, rfl, Lib.hid rfl, by decide, Below.refl _ _⟩
  case round =>
    obtain ⟨k, t, hk, rfl, rfl, HT, htl, hB⟩ := hrel
    obtain ⟨c0, c1, c2⟩ := C3.next HC.out hB
    by_cases hlt : k < n
    · obtain ⟨ad, rfl, hbk, p0, p1, p2⟩ := HR.out.three (w' := wr) (fun p hp => hB.cell hp) hlt
      have hbk2 : ad.block < wr.heap.size := by have := hB.size; omega
      have hi0 : (0 : Int) ≤ (k : Int) := by omega
      have hi1 : (k : Int) < (n : Int) := by omega
      have hl3 := HL3.out
      have f0 := HF.out _ (geti_mem (show k * 3 < l.length by omega))
      have f2 := HF.out _ (geti_mem (show k * 3 + 2 < l.length by omega))
      have a0 := f0.1
      have a1 := f0.2
      have e0 := f2.1
      have e1 := f2.2
      have hml : (mtx s l (k + 1)).length ≤ 4400000 := by have := mtx_len (s := s) HF.out (k + 1) (by omega); omega
      have HML := Lib.hid hml
      clear f0 f2 hl3 hml
      have HSEP : Hid ((k = 0 ∧ sepT s k = []) ∨ (0 < k ∧ k % s = 0 ∧ sepT s k = [59]) ∨ (0 < k ∧ ¬ k % s = 0 ∧ sepT s k = [44])) := Lib.hid (by
        unfold sepT
        by_cases h0 : k = 0
        · rw [if_pos h0]; exact .inl ⟨h0, rfl⟩
        · by_cases h1 : k % s = 0
          · rw [if_neg h0, if_pos h1]; exact .inr (.inl ⟨by omega, h1, rfl⟩)
          · rw [if_neg h0, if_neg h1]; exact .inr (.inr ⟨by omega, h1, rfl⟩))
      have hq : ∀ w : World, (Op.equalIn 10000 44 (.agg #[.int .i64 (geti l (k * 3)), .int .i64 (geti l (k * 3 + 1)), .int .i64 (geti l (k * 3 + 2))]) (.agg #[.int .i64 0, .int .i64 0, .int .i64 (-1)])).run Tryd.prog w = .ok (noneB (geti l (k * 3)) (geti l (k * 3 + 1)) (geti l (k * 3 + 2))) w := fun w => equal_rule w _ _ _ 0 0 (-1)
      obtain ⟨x, hx⟩ : ∃ x, geti l (k * 3) = x := ⟨_, rfl⟩
      obtain ⟨y, hy⟩ : ∃ y, geti l (k * 3 + 1) = y := ⟨_, rfl⟩
      obtain ⟨z, hz⟩ : ∃ z, geti l (k * 3 + 2) = z := ⟨_, rfl⟩
      have HXYZ : Hid (rAt l k = rtx x y z) := Lib.hid (by rw [← hx, ← hy, ← hz]; rfl)
      rw [hx, hy, hz] at hq
      rw [hx] at p0 a0 a1
      rw [hy] at p1
      rw [hz] at p2 e0 e1
      clear hx hy hz
      obtain ⟨q0, q1, q2⟩ := C3.made wr (.int .i64 x) (.int .i64 y) (.int .i64 z) 44
      rcases HSEP.out with ⟨g0, HG⟩ | ⟨g0, g1, HG⟩ | ⟨g0, g1, HG⟩
      · have HG2 := Lib.hid HG
        have g0a : decide ((0 : Int) < (k : Int)) = false := decide_eq_false (by omega)
        have g0b : decide (0 < k) = false := decide_eq_false (by omega)
        clear HG g0
        cases hnb : noneB x y z with
        | true =>
          have HR0 : Hid (t ++ ⟨#[45, 45, 45]⟩ = str (mtx s l (k + 1))) := Lib.hid (by rw [HT.out, mtx, HG2.out, HXYZ.out]; unfold rtx; rw [hnb, if_pos rfl, List.append_nil, ← str_app]; rfl)
          rw [hnb] at hq
          clear hnb
          go_wp2_with fail
          go_region_held3 (fun w' => w'.cell? ⟨wr.heap.size, 0, none⟩ = some (.int .i64 x) ∧ w'.cell? ⟨wr.heap.size, 1, none⟩ = some (.int .i64 y) ∧ w'.cell? ⟨wr.heap.size, 2, none⟩ = some (.int .i64 z))
            (first | go_keep | exact C3.next (C3.drew ⟨q0, q1, q2⟩) hbA)
            (first | (go_at_call 20; refine (l05None_any _).mono ?_; rintro e wA ⟨rfl, hbA⟩))
          have hBA : Below w.heap.size w wA := below_next (hB.alloc hB.size _).drew hbA
          obtain ⟨r0, r1, r2⟩ := C3.next (C3.drew ⟨q0, q1, q2⟩) hbA
          clear c0 c1 c2 p0 p1 p2 q0 q1 q2 hq
          go_wp2_with fail
          go_roundw
          case rel => exact ⟨k + 1, _, by omega, by go_num, rfl, HR0, by rw [HR0.out]; exact HML.out, hBA⟩
          case measure => simp [intOf] <;> omega
        | false =>
          by_cases hy0 : y < 0
          · obtain ⟨u, hu⟩ : ∃ u, str (Lib.itoa x) = u := ⟨_, rfl⟩
            obtain ⟨v, hv⟩ : ∃ v, str (Lib.itoa z) = v := ⟨_, rfl⟩
            have HR0 : Hid (t ++ (u ++ ⟨#[76]⟩ ++ v) = str (mtx s l (k + 1))) := Lib.hid (by rw [HT.out, mtx, HG2.out, HXYZ.out]; unfold rtx; rw [hnb, if_neg (by simp), if_pos hy0, List.append_nil, ← str_app, ← str_app, ← str_app, ← hu, ← hv]; rfl)
            have hus : u.size ≤ 21 := by rw [← hu]; exact itoa_len a0 a1
            have hvs : v.size ≤ 21 := by rw [← hv]; exact itoa_len e0 e1
            have HU := Lib.hid hu
            have HV := Lib.hid hv
            have hx1 : u.size + 1 ≤ 9223372036854775807 := by omega
            have hx2 : u.size + 1 + v.size ≤ 9223372036854775807 := by omega
            have hx3 : t.size + (u.size + 1 + v.size) ≤ 9223372036854775807 := by omega
            have hy1 : ∀ w : World, (Op.stringOp .add u ⟨#[76]⟩).run Tryd.prog w = .ok (.string (u ++ ⟨#[76]⟩)) w := fun w => run_string_add_sum w _ _ hx1
            have hy2 : ∀ w : World, (Op.stringOp .add (u ++ ⟨#[76]⟩) v).run Tryd.prog w = .ok (.string (u ++ ⟨#[76]⟩ ++ v)) w := fun w => run_string_add_sum w _ _ (by rw [ByteArray.size_append]; exact hx2)
            have hy3 : ∀ w : World, (Op.stringOp .add (t) (u ++ ⟨#[76]⟩ ++ v)).run Tryd.prog w = .ok (.string (t ++ (u ++ ⟨#[76]⟩ ++ v))) w := fun w => run_string_add_sum w _ _ (by simp only [ByteArray.size_append]; exact hx3)
            rw [hnb] at hq
            clear hnb hu hv
            go_wp2_with fail
            go_region_held3 (fun w' => w'.cell? ⟨wr.heap.size, 0, none⟩ = some (.int .i64 x) ∧ w'.cell? ⟨wr.heap.size, 1, none⟩ = some (.int .i64 y) ∧ w'.cell? ⟨wr.heap.size, 2, none⟩ = some (.int .i64 z))
              (first | go_keep | exact C3.next (C3.drew ⟨q0, q1, q2⟩) hbA)
              (first | (go_at_call 20; refine (l05None_any _).mono ?_; rintro e wA ⟨rfl, hbA⟩))
            have hBA : Below w.heap.size w wA := below_next (hB.alloc hB.size _).drew hbA
            obtain ⟨r0, r1, r2⟩ := C3.next (C3.drew ⟨q0, q1, q2⟩) hbA
            clear c0 c1 c2 p0 p1 p2 q0 q1 q2 hq
            go_wp2_with fail
            go_region_held3 (fun w' => w'.cell? ⟨wr.heap.size, 0, none⟩ = some (.int .i64 x) ∧ w'.cell? ⟨wr.heap.size, 1, none⟩ = some (.int .i64 y) ∧ w'.cell? ⟨wr.heap.size, 2, none⟩ = some (.int .i64 z))
              (first | go_keep | exact C3.next (C3.drew ⟨r0, r1, r2⟩) hbB | exact C3.next (C3.next (C3.drew ⟨r0, r1, r2⟩) hbB) hbC)
              (first | (go_at_call 21; (with_reducible refine (l01Dec_any x _ a0 a1).mono ?_); rintro e wB ⟨rfl, hbB⟩; rw [HU.out]) | (go_at_call 21; (with_reducible refine (l01Dec_any z _ e0 e1).mono ?_); rintro e wC ⟨rfl, hbC⟩; rw [HV.out]))
            have hBB : Below w.heap.size w wB := below_next hBA.drew hbB
            have hBC : Below w.heap.size w wC := below_next hBB hbC
            clear r0 r1 r2
            go_wp2_with fail
            go_roundw
            case rel => exact ⟨k + 1, _, by omega, by go_num, rfl, HR0, by rw [HR0.out]; exact HML.out, hBC⟩
            case measure => simp [intOf] <;> omega
          · obtain ⟨u, hu⟩ : ∃ u, str (Lib.itoa x) = u := ⟨_, rfl⟩
            obtain ⟨v, hv⟩ : ∃ v, str (Lib.itoa z) = v := ⟨_, rfl⟩
            have HR0 : Hid (t ++ (u ++ ⟨#[82]⟩ ++ v) = str (mtx s l (k + 1))) := Lib.hid (by rw [HT.out, mtx, HG2.out, HXYZ.out]; unfold rtx; rw [hnb, if_neg (by simp), if_neg hy0, List.append_nil, ← str_app, ← str_app, ← str_app, ← hu, ← hv]; rfl)
            have hus : u.size ≤ 21 := by rw [← hu]; exact itoa_len a0 a1
            have hvs : v.size ≤ 21 := by rw [← hv]; exact itoa_len e0 e1
            have HU := Lib.hid hu
            have HV := Lib.hid hv
            have hx1 : u.size + 1 ≤ 9223372036854775807 := by omega
            have hx2 : u.size + 1 + v.size ≤ 9223372036854775807 := by omega
            have hx3 : t.size + (u.size + 1 + v.size) ≤ 9223372036854775807 := by omega
            have hy1 : ∀ w : World, (Op.stringOp .add u ⟨#[82]⟩).run Tryd.prog w = .ok (.string (u ++ ⟨#[82]⟩)) w := fun w => run_string_add_sum w _ _ hx1
            have hy2 : ∀ w : World, (Op.stringOp .add (u ++ ⟨#[82]⟩) v).run Tryd.prog w = .ok (.string (u ++ ⟨#[82]⟩ ++ v)) w := fun w => run_string_add_sum w _ _ (by rw [ByteArray.size_append]; exact hx2)
            have hy3 : ∀ w : World, (Op.stringOp .add (t) (u ++ ⟨#[82]⟩ ++ v)).run Tryd.prog w = .ok (.string (t ++ (u ++ ⟨#[82]⟩ ++ v))) w := fun w => run_string_add_sum w _ _ (by simp only [ByteArray.size_append]; exact hx3)
            rw [hnb] at hq
            have hyy : decide (y < 0) = false := decide_eq_false hy0
            clear hnb hu hv
            go_wp2_with fail
            go_region_held3 (fun w' => w'.cell? ⟨wr.heap.size, 0, none⟩ = some (.int .i64 x) ∧ w'.cell? ⟨wr.heap.size, 1, none⟩ = some (.int .i64 y) ∧ w'.cell? ⟨wr.heap.size, 2, none⟩ = some (.int .i64 z))
              (first | go_keep | exact C3.next (C3.drew ⟨q0, q1, q2⟩) hbA)
              (first | (go_at_call 20; refine (l05None_any _).mono ?_; rintro e wA ⟨rfl, hbA⟩))
            have hBA : Below w.heap.size w wA := below_next (hB.alloc hB.size _).drew hbA
            obtain ⟨r0, r1, r2⟩ := C3.next (C3.drew ⟨q0, q1, q2⟩) hbA
            clear c0 c1 c2 p0 p1 p2 q0 q1 q2 hq
            go_wp2_with fail
            go_region_held3 (fun w' => w'.cell? ⟨wr.heap.size, 0, none⟩ = some (.int .i64 x) ∧ w'.cell? ⟨wr.heap.size, 1, none⟩ = some (.int .i64 y) ∧ w'.cell? ⟨wr.heap.size, 2, none⟩ = some (.int .i64 z))
              (first | go_keep | exact C3.next (C3.drew ⟨r0, r1, r2⟩) hbB | exact C3.next (C3.next (C3.drew ⟨r0, r1, r2⟩) hbB) hbC)
              (first | (go_at_call 21; (with_reducible refine (l01Dec_any x _ a0 a1).mono ?_); rintro e wB ⟨rfl, hbB⟩; rw [HU.out]) | (go_at_call 21; (with_reducible refine (l01Dec_any z _ e0 e1).mono ?_); rintro e wC ⟨rfl, hbC⟩; rw [HV.out]))
            have hBB : Below w.heap.size w wB := below_next hBA.drew hbB
            have hBC : Below w.heap.size w wC := below_next hBB hbC
            clear r0 r1 r2
            go_wp2_with fail
            go_roundw
            case rel => exact ⟨k + 1, _, by omega, by go_num, rfl, HR0, by rw [HR0.out]; exact HML.out, hBC⟩
            case measure => simp [intOf] <;> omega
      · have HG2 := Lib.hid HG
        have g0i : (0 : Int) < (k : Int) := by omega
        have g2 : ((k : Int) % (s : Int) == 0) = true := by rw [beq_iff_eq]; omega
        have g3 : (k % s == 0) = true := by rw [beq_iff_eq]; exact g1
        have g4 : (((k % s : Nat) : Int) == 0) = true := by rw [beq_iff_eq]; omega
        clear HG g1
        cases hnb : noneB x y z with
        | true =>
          have HR0 : Hid (t ++ ⟨#[59]⟩ ++ ⟨#[45, 45, 45]⟩ = str (mtx s l (k + 1))) := Lib.hid (by rw [HT.out, mtx, HG2.out, HXYZ.out]; unfold rtx; rw [hnb, if_pos rfl, ← str_app, ← str_app]; rfl)
          rw [hnb] at hq
          clear hnb
          go_wp2_with fail
          go_region_held3 (fun w' => w'.cell? ⟨wr.heap.size, 0, none⟩ = some (.int .i64 x) ∧ w'.cell? ⟨wr.heap.size, 1, none⟩ = some (.int .i64 y) ∧ w'.cell? ⟨wr.heap.size, 2, none⟩ = some (.int .i64 z))
            (first | go_keep | exact C3.next (C3.drew ⟨q0, q1, q2⟩) hbA)
            (first | (go_at_call 20; refine (l05None_any _).mono ?_; rintro e wA ⟨rfl, hbA⟩))
          have hBA : Below w.heap.size w wA := below_next (hB.alloc hB.size _).drew hbA
          obtain ⟨r0, r1, r2⟩ := C3.next (C3.drew ⟨q0, q1, q2⟩) hbA
          clear c0 c1 c2 p0 p1 p2 q0 q1 q2 hq
          go_wp2_with fail
          go_roundw
          case rel => exact ⟨k + 1, _, by omega, by go_num, rfl, HR0, by rw [HR0.out]; exact HML.out, hBA⟩
          case measure => simp [intOf] <;> omega
        | false =>
          by_cases hy0 : y < 0
          · obtain ⟨u, hu⟩ : ∃ u, str (Lib.itoa x) = u := ⟨_, rfl⟩
            obtain ⟨v, hv⟩ : ∃ v, str (Lib.itoa z) = v := ⟨_, rfl⟩
            have HR0 : Hid (t ++ ⟨#[59]⟩ ++ (u ++ ⟨#[76]⟩ ++ v) = str (mtx s l (k + 1))) := Lib.hid (by rw [HT.out, mtx, HG2.out, HXYZ.out]; unfold rtx; rw [hnb, if_neg (by simp), if_pos hy0, ← str_app, ← str_app, ← str_app, ← str_app, ← hu, ← hv]; rfl)
            have hus : u.size ≤ 21 := by rw [← hu]; exact itoa_len a0 a1
            have hvs : v.size ≤ 21 := by rw [← hv]; exact itoa_len e0 e1
            have HU := Lib.hid hu
            have HV := Lib.hid hv
            have hx1 : u.size + 1 ≤ 9223372036854775807 := by omega
            have hx2 : u.size + 1 + v.size ≤ 9223372036854775807 := by omega
            have hx3 : t.size + (u.size + 1 + v.size) ≤ 9223372036854775807 := by omega
            have hx4 : t.size + 1 + (u.size + 1 + v.size) ≤ 9223372036854775807 := by omega
            have hy1 : ∀ w : World, (Op.stringOp .add u ⟨#[76]⟩).run Tryd.prog w = .ok (.string (u ++ ⟨#[76]⟩)) w := fun w => run_string_add_sum w _ _ hx1
            have hy2 : ∀ w : World, (Op.stringOp .add (u ++ ⟨#[76]⟩) v).run Tryd.prog w = .ok (.string (u ++ ⟨#[76]⟩ ++ v)) w := fun w => run_string_add_sum w _ _ (by rw [ByteArray.size_append]; exact hx2)
            have hy3 : ∀ w : World, (Op.stringOp .add (t ++ ⟨#[59]⟩) (u ++ ⟨#[76]⟩ ++ v)).run Tryd.prog w = .ok (.string (t ++ ⟨#[59]⟩ ++ (u ++ ⟨#[76]⟩ ++ v))) w := fun w => run_string_add_sum w _ _ (by simp only [ByteArray.size_append]; exact hx4)
            rw [hnb] at hq
            clear hnb hu hv
            go_wp2_with fail
            go_region_held3 (fun w' => w'.cell? ⟨wr.heap.size, 0, none⟩ = some (.int .i64 x) ∧ w'.cell? ⟨wr.heap.size, 1, none⟩ = some (.int .i64 y) ∧ w'.cell? ⟨wr.heap.size, 2, none⟩ = some (.int .i64 z))
              (first | go_keep | exact C3.next (C3.drew ⟨q0, q1, q2⟩) hbA)
              (first | (go_at_call 20; refine (l05None_any _).mono ?_; rintro e wA ⟨rfl, hbA⟩))
            have hBA : Below w.heap.size w wA := below_next (hB.alloc hB.size _).drew hbA
            obtain ⟨r0, r1, r2⟩ := C3.next (C3.drew ⟨q0, q1, q2⟩) hbA
            clear c0 c1 c2 p0 p1 p2 q0 q1 q2 hq
            go_wp2_with fail
            go_region_held3 (fun w' => w'.cell? ⟨wr.heap.size, 0, none⟩ = some (.int .i64 x) ∧ w'.cell? ⟨wr.heap.size, 1, none⟩ = some (.int .i64 y) ∧ w'.cell? ⟨wr.heap.size, 2, none⟩ = some (.int .i64 z))
              (first | go_keep | exact C3.next (C3.drew ⟨r0, r1, r2⟩) hbB | exact C3.next (C3.next (C3.drew ⟨r0, r1, r2⟩) hbB) hbC)
              (first | (go_at_call 21; (with_reducible refine (l01Dec_any x _ a0 a1).mono ?_); rintro e wB ⟨rfl, hbB⟩; rw [HU.out]) | (go_at_call 21; (with_reducible refine (l01Dec_any z _ e0 e1).mono ?_); rintro e wC ⟨rfl, hbC⟩; rw [HV.out]))
            have hBB : Below w.heap.size w wB := below_next hBA.drew hbB
            have hBC : Below w.heap.size w wC := below_next hBB hbC
            clear r0 r1 r2
            go_wp2_with fail
            go_roundw
            case rel => exact ⟨k + 1, _, by omega, by go_num, rfl, HR0, by rw [HR0.out]; exact HML.out, hBC⟩
            case measure => simp [intOf] <;> omega
          · obtain ⟨u, hu⟩ : ∃ u, str (Lib.itoa x) = u := ⟨_, rfl⟩
            obtain ⟨v, hv⟩ : ∃ v, str (Lib.itoa z) = v := ⟨_, rfl⟩
            have HR0 : Hid (t ++ ⟨#[59]⟩ ++ (u ++ ⟨#[82]⟩ ++ v) = str (mtx s l (k + 1))) := Lib.hid (by rw [HT.out, mtx, HG2.out, HXYZ.out]; unfold rtx; rw [hnb, if_neg (by simp), if_neg hy0, ← str_app, ← str_app, ← str_app, ← str_app, ← hu, ← hv]; rfl)
            have hus : u.size ≤ 21 := by rw [← hu]; exact itoa_len a0 a1
            have hvs : v.size ≤ 21 := by rw [← hv]; exact itoa_len e0 e1
            have HU := Lib.hid hu
            have HV := Lib.hid hv
            have hx1 : u.size + 1 ≤ 9223372036854775807 := by omega
            have hx2 : u.size + 1 + v.size ≤ 9223372036854775807 := by omega
            have hx3 : t.size + (u.size + 1 + v.size) ≤ 9223372036854775807 := by omega
            have hx4 : t.size + 1 + (u.size + 1 + v.size) ≤ 9223372036854775807 := by omega
            have hy1 : ∀ w : World, (Op.stringOp .add u ⟨#[82]⟩).run Tryd.prog w = .ok (.string (u ++ ⟨#[82]⟩)) w := fun w => run_string_add_sum w _ _ hx1
            have hy2 : ∀ w : World, (Op.stringOp .add (u ++ ⟨#[82]⟩) v).run Tryd.prog w = .ok (.string (u ++ ⟨#[82]⟩ ++ v)) w := fun w => run_string_add_sum w _ _ (by rw [ByteArray.size_append]; exact hx2)
            have hy3 : ∀ w : World, (Op.stringOp .add (t ++ ⟨#[59]⟩) (u ++ ⟨#[82]⟩ ++ v)).run Tryd.prog w = .ok (.string (t ++ ⟨#[59]⟩ ++ (u ++ ⟨#[82]⟩ ++ v))) w := fun w => run_string_add_sum w _ _ (by simp only [ByteArray.size_append]; exact hx4)
            rw [hnb] at hq
            have hyy : decide (y < 0) = false := decide_eq_false hy0
            clear hnb hu hv
            go_wp2_with fail
            go_region_held3 (fun w' => w'.cell? ⟨wr.heap.size, 0, none⟩ = some (.int .i64 x) ∧ w'.cell? ⟨wr.heap.size, 1, none⟩ = some (.int .i64 y) ∧ w'.cell? ⟨wr.heap.size, 2, none⟩ = some (.int .i64 z))
              (first | go_keep | exact C3.next (C3.drew ⟨q0, q1, q2⟩) hbA)
              (first | (go_at_call 20; refine (l05None_any _).mono ?_; rintro e wA ⟨rfl, hbA⟩))
            have hBA : Below w.heap.size w wA := below_next (hB.alloc hB.size _).drew hbA
            obtain ⟨r0, r1, r2⟩ := C3.next (C3.drew ⟨q0, q1, q2⟩) hbA
            clear c0 c1 c2 p0 p1 p2 q0 q1 q2 hq
            go_wp2_with fail
            go_region_held3 (fun w' => w'.cell? ⟨wr.heap.size, 0, none⟩ = some (.int .i64 x) ∧ w'.cell? ⟨wr.heap.size, 1, none⟩ = some (.int .i64 y) ∧ w'.cell? ⟨wr.heap.size, 2, none⟩ = some (.int .i64 z))
              (first | go_keep | exact C3.next (C3.drew ⟨r0, r1, r2⟩) hbB | exact C3.next (C3.next (C3.drew ⟨r0, r1, r2⟩) hbB) hbC)
              (first | (go_at_call 21; (with_reducible refine (l01Dec_any x _ a0 a1).mono ?_); rintro e wB ⟨rfl, hbB⟩; rw [HU.out]) | (go_at_call 21; (with_reducible refine (l01Dec_any z _ e0 e1).mono ?_); rintro e wC ⟨rfl, hbC⟩; rw [HV.out]))
            have hBB : Below w.heap.size w wB := below_next hBA.drew hbB
            have hBC : Below w.heap.size w wC := below_next hBB hbC
            clear r0 r1 r2
            go_wp2_with fail
            go_roundw
            case rel => exact ⟨k + 1, _, by omega, by go_num, rfl, HR0, by rw [HR0.out]; exact HML.out, hBC⟩
            case measure => simp [intOf] <;> omega
      · have HG2 := Lib.hid HG
        have g0i : (0 : Int) < (k : Int) := by omega
        have g2 : ((k : Int) % (s : Int) == 0) = false := by rw [beq_eq_false_iff_ne]; omega
        have g3 : (k % s == 0) = false := by rw [beq_eq_false_iff_ne]; exact g1
        have g4 : (((k % s : Nat) : Int) == 0) = false := by rw [beq_eq_false_iff_ne]; omega
        clear HG g1
        cases hnb : noneB x y z with
        | true =>
          have HR0 : Hid (t ++ ⟨#[44]⟩ ++ ⟨#[45, 45, 45]⟩ = str (mtx s l (k + 1))) := Lib.hid (by rw [HT.out, mtx, HG2.out, HXYZ.out]; unfold rtx; rw [hnb, if_pos rfl, ← str_app, ← str_app]; rfl)
          rw [hnb] at hq
          clear hnb
          go_wp2_with fail
          go_region_held3 (fun w' => w'.cell? ⟨wr.heap.size, 0, none⟩ = some (.int .i64 x) ∧ w'.cell? ⟨wr.heap.size, 1, none⟩ = some (.int .i64 y) ∧ w'.cell? ⟨wr.heap.size, 2, none⟩ = some (.int .i64 z))
            (first | go_keep | exact C3.next (C3.drew ⟨q0, q1, q2⟩) hbA)
            (first | (go_at_call 20; refine (l05None_any _).mono ?_; rintro e wA ⟨rfl, hbA⟩))
          have hBA : Below w.heap.size w wA := below_next (hB.alloc hB.size _).drew hbA
          obtain ⟨r0, r1, r2⟩ := C3.next (C3.drew ⟨q0, q1, q2⟩) hbA
          clear c0 c1 c2 p0 p1 p2 q0 q1 q2 hq
          go_wp2_with fail
          go_roundw
          case rel => exact ⟨k + 1, _, by omega, by go_num, rfl, HR0, by rw [HR0.out]; exact HML.out, hBA⟩
          case measure => simp [intOf] <;> omega
        | false =>
          by_cases hy0 : y < 0
          · obtain ⟨u, hu⟩ : ∃ u, str (Lib.itoa x) = u := ⟨_, rfl⟩
            obtain ⟨v, hv⟩ : ∃ v, str (Lib.itoa z) = v := ⟨_, rfl⟩
            have HR0 : Hid (t ++ ⟨#[44]⟩ ++ (u ++ ⟨#[76]⟩ ++ v) = str (mtx s l (k + 1))) := Lib.hid (by rw [HT.out, mtx, HG2.out, HXYZ.out]; unfold rtx; rw [hnb, if_neg (by simp), if_pos hy0, ← str_app, ← str_app, ← str_app, ← str_app, ← hu, ← hv]; rfl)
            have hus : u.size ≤ 21 := by rw [← hu]; exact itoa_len a0 a1
            have hvs : v.size ≤ 21 := by rw [← hv]; exact itoa_len e0 e1
            have HU := Lib.hid hu
            have HV := Lib.hid hv
            have hx1 : u.size + 1 ≤ 9223372036854775807 := by omega
            have hx2 : u.size + 1 + v.size ≤ 9223372036854775807 := by omega
            have hx3 : t.size + (u.size + 1 + v.size) ≤ 9223372036854775807 := by omega
            have hx4 : t.size + 1 + (u.size + 1 + v.size) ≤ 9223372036854775807 := by omega
            have hy1 : ∀ w : World, (Op.stringOp .add u ⟨#[76]⟩).run Tryd.prog w = .ok (.string (u ++ ⟨#[76]⟩)) w := fun w => run_string_add_sum w _ _ hx1
            have hy2 : ∀ w : World, (Op.stringOp .add (u ++ ⟨#[76]⟩) v).run Tryd.prog w = .ok (.string (u ++ ⟨#[76]⟩ ++ v)) w := fun w => run_string_add_sum w _ _ (by rw [ByteArray.size_append]; exact hx2)
            have hy3 : ∀ w : World, (Op.stringOp .add (t ++ ⟨#[44]⟩) (u ++ ⟨#[76]⟩ ++ v)).run Tryd.prog w = .ok (.string (t ++ ⟨#[44]⟩ ++ (u ++ ⟨#[76]⟩ ++ v))) w := fun w => run_string_add_sum w _ _ (by simp only [ByteArray.size_append]; exact hx4)
            rw [hnb] at hq
            clear hnb hu hv
            go_wp2_with fail
            go_region_held3 (fun w' => w'.cell? ⟨wr.heap.size, 0, none⟩ = some (.int .i64 x) ∧ w'.cell? ⟨wr.heap.size, 1, none⟩ = some (.int .i64 y) ∧ w'.cell? ⟨wr.heap.size, 2, none⟩ = some (.int .i64 z))
              (first | go_keep | exact C3.next (C3.drew ⟨q0, q1, q2⟩) hbA)
              (first | (go_at_call 20; refine (l05None_any _).mono ?_; rintro e wA ⟨rfl, hbA⟩))
            have hBA : Below w.heap.size w wA := below_next (hB.alloc hB.size _).drew hbA
            obtain ⟨r0, r1, r2⟩ := C3.next (C3.drew ⟨q0, q1, q2⟩) hbA
            clear c0 c1 c2 p0 p1 p2 q0 q1 q2 hq
            go_wp2_with fail
            go_region_held3 (fun w' => w'.cell? ⟨wr.heap.size, 0, none⟩ = some (.int .i64 x) ∧ w'.cell? ⟨wr.heap.size, 1, none⟩ = some (.int .i64 y) ∧ w'.cell? ⟨wr.heap.size, 2, none⟩ = some (.int .i64 z))
              (first | go_keep | exact C3.next (C3.drew ⟨r0, r1, r2⟩) hbB | exact C3.next (C3.next (C3.drew ⟨r0, r1, r2⟩) hbB) hbC)
              (first | (go_at_call 21; (with_reducible refine (l01Dec_any x _ a0 a1).mono ?_); rintro e wB ⟨rfl, hbB⟩; rw [HU.out]) | (go_at_call 21; (with_reducible refine (l01Dec_any z _ e0 e1).mono ?_); rintro e wC ⟨rfl, hbC⟩; rw [HV.out]))
            have hBB : Below w.heap.size w wB := below_next hBA.drew hbB
            have hBC : Below w.heap.size w wC := below_next hBB hbC
            clear r0 r1 r2
            go_wp2_with fail
            go_roundw
            case rel => exact ⟨k + 1, _, by omega, by go_num, rfl, HR0, by rw [HR0.out]; exact HML.out, hBC⟩
            case measure => simp [intOf] <;> omega
          · obtain ⟨u, hu⟩ : ∃ u, str (Lib.itoa x) = u := ⟨_, rfl⟩
            obtain ⟨v, hv⟩ : ∃ v, str (Lib.itoa z) = v := ⟨_, rfl⟩
            have HR0 : Hid (t ++ ⟨#[44]⟩ ++ (u ++ ⟨#[82]⟩ ++ v) = str (mtx s l (k + 1))) := Lib.hid (by rw [HT.out, mtx, HG2.out, HXYZ.out]; unfold rtx; rw [hnb, if_neg (by simp), if_neg hy0, ← str_app, ← str_app, ← str_app, ← str_app, ← hu, ← hv]; rfl)
            have hus : u.size ≤ 21 := by rw [← hu]; exact itoa_len a0 a1
            have hvs : v.size ≤ 21 := by rw [← hv]; exact itoa_len e0 e1
            have HU := Lib.hid hu
            have HV := Lib.hid hv
            have hx1 : u.size + 1 ≤ 9223372036854775807 := by omega
            have hx2 : u.size + 1 + v.size ≤ 9223372036854775807 := by omega
            have hx3 : t.size + (u.size + 1 + v.size) ≤ 9223372036854775807 := by omega
            have hx4 : t.size + 1 + (u.size + 1 + v.size) ≤ 9223372036854775807 := by omega
            have hy1 : ∀ w : World, (Op.stringOp .add u ⟨#[82]⟩).run Tryd.prog w = .ok (.string (u ++ ⟨#[82]⟩)) w := fun w => run_string_add_sum w _ _ hx1
            have hy2 : ∀ w : World, (Op.stringOp .add (u ++ ⟨#[82]⟩) v).run Tryd.prog w = .ok (.string (u ++ ⟨#[82]⟩ ++ v)) w := fun w => run_string_add_sum w _ _ (by rw [ByteArray.size_append]; exact hx2)
            have hy3 : ∀ w : World, (Op.stringOp .add (t ++ ⟨#[44]⟩) (u ++ ⟨#[82]⟩ ++ v)).run Tryd.prog w = .ok (.string (t ++ ⟨#[44]⟩ ++ (u ++ ⟨#[82]⟩ ++ v))) w := fun w => run_string_add_sum w _ _ (by simp only [ByteArray.size_append]; exact hx4)
            rw [hnb] at hq
            have hyy : decide (y < 0) = false := decide_eq_false hy0
            clear hnb hu hv
            go_wp2_with fail
            go_region_held3 (fun w' => w'.cell? ⟨wr.heap.size, 0, none⟩ = some (.int .i64 x) ∧ w'.cell? ⟨wr.heap.size, 1, none⟩ = some (.int .i64 y) ∧ w'.cell? ⟨wr.heap.size, 2, none⟩ = some (.int .i64 z))
              (first | go_keep | exact C3.next (C3.drew ⟨q0, q1, q2⟩) hbA)
              (first | (go_at_call 20; refine (l05None_any _).mono ?_; rintro e wA ⟨rfl, hbA⟩))
            have hBA : Below w.heap.size w wA := below_next (hB.alloc hB.size _).drew hbA
            obtain ⟨r0, r1, r2⟩ := C3.next (C3.drew ⟨q0, q1, q2⟩) hbA
            clear c0 c1 c2 p0 p1 p2 q0 q1 q2 hq
            go_wp2_with fail
            go_region_held3 (fun w' => w'.cell? ⟨wr.heap.size, 0, none⟩ = some (.int .i64 x) ∧ w'.cell? ⟨wr.heap.size, 1, none⟩ = some (.int .i64 y) ∧ w'.cell? ⟨wr.heap.size, 2, none⟩ = some (.int .i64 z))
              (first | go_keep | exact C3.next (C3.drew ⟨r0, r1, r2⟩) hbB | exact C3.next (C3.next (C3.drew ⟨r0, r1, r2⟩) hbB) hbC)
              (first | (go_at_call 21; (with_reducible refine (l01Dec_any x _ a0 a1).mono ?_); rintro e wB ⟨rfl, hbB⟩; rw [HU.out]) | (go_at_call 21; (with_reducible refine (l01Dec_any z _ e0 e1).mono ?_); rintro e wC ⟨rfl, hbC⟩; rw [HV.out]))
            have hBB : Below w.heap.size w wB := below_next hBA.drew hbB
            have hBC : Below w.heap.size w wC := below_next hBB hbC
            clear r0 r1 r2
            go_wp2_with fail
            go_roundw
            case rel => exact ⟨k + 1, _, by omega, by go_num, rfl, HR0, by rw [HR0.out]; exact HML.out, hBC⟩
            case measure => simp [intOf] <;> omega
    · obtain rfl : k = n := by omega
      have hd1 : decide (k < k) = false := decide_eq_false (by omega)
      go_wp2_with fail
      go_ret
      exact ⟨ret_str HT.out, hB⟩
end Go.Proofs.YtcjcbgmgepohaaaDoor
