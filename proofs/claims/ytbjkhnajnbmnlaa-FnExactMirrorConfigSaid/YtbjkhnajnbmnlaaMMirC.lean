/- MirrorConfig: the reference and the program give the same results. No condition beyond the stated bounds. -/
import Derived.Test.YtbjkhnajnbmnlaaMStart
import Derived.Test.YtbjkhnajnbmnlaaMDraw
namespace Go.Proofs.Ytbjkhnajnbmnlaa
open Go.RowKit
/-- The symbol under the head. -/
def headI (r : List Int) : Int := if r.length = 0 then 0 else geti r 0
theorem sl_tail {w : World} {A : Option Addr} {c : Nat} {l : List Int} (h : Sl w (.slice A l.length c) l) (hk : 1 ≤ l.length) :
    Sl w (.slice (if c = 1 then A else Option.map (fun x => x.add 1) A) (l.length - 1) (c - 1)) (l.drop 1) := by
  obtain ⟨A', c', e, h1, h2, h3⟩ := h
  simp only [Value.slice.injEq] at e
  obtain ⟨rfl, _, rfl⟩ := e
  exact Sl.of (h3.cut hk h1) (by omega) (by omega)
theorem l05Rest_any (v : Value) (l : List Int) (w : World) (h : Sl w v l) (hn : l.length ≤ 1000000) :
    Calls Try.prog 30 #[v] w (RetOwn w (l.drop 1)) := by
  have HS := Lib.hid h
  obtain ⟨A, c, rfl, hlc, hcm, hr⟩ := h
  unfold maxLen at hcm
  clear hr
  by_cases h0 : l.length = 0
  · have e1 : ((l.length : Int) == 0) = true := by rw [beq_iff_eq]; omega
    have e2 : (l.length == 0) = true := by rw [beq_iff_eq]; exact h0
    have HN : Hid (l.drop 1 = []) := Lib.hid (List.drop_eq_nil_of_le (by omega))
    clear h0
    go_enter Try.func30, Try.ntmps30
    go_wp2_with fail
    go_ret
    exact ⟨_, rfl, by rw [HN.out]; exact Owns.empty w _ (Nat.le_refl _), (Below.refl _ _).alloc (Nat.le_refl _) _⟩
  · have e1 : ((l.length : Int) == 0) = false := by rw [beq_eq_false_iff_ne]; omega
    have e2 : (l.length == 0) = false := by rw [beq_eq_false_iff_ne]; exact h0
    have i1 : (1 : Int) ≤ (l.length : Int) := by omega
    have i2 : (1 : Int) ≤ (c : Int) := by omega
    have i3 : 1 ≤ l.length := by omega
    have i4 : 1 ≤ c := by omega
    have HT := Lib.hid (sl_tail HS.out i3)
    by_cases hc : c = 1
    · rw [if_pos hc] at HT
      have hl1 : l.length = 1 := by omega
      have HT1 : Hid (Sl w (.slice A (l.length - 1) 0) (l.drop 1)) := Lib.hid (by have := HT.out; rwa [hc] at this)
      have HT2 : Hid (Sl w (.slice A 0 0) (l.drop 1)) := Lib.hid (by have := HT1.out; rwa [hl1] at this)
      clear hl1 h0 HT
      subst hc
      go_enter Try.func30, Try.ntmps30
      go_wp2_with fail
      refine (l00Own_st _ _ _ (by first | exact HT1.out | exact HT2.out) (by simp; omega)).mono ?_
      rintro e w1 ⟨r1, rfl, o1, hb1⟩
      go_wp2_with fail
      go_ret
      exact ⟨r1, rfl, o1, hb1⟩
    · rw [if_neg hc] at HT
      clear h0
      go_enter Try.func30, Try.ntmps30
      go_wp2_with fail
      refine (l00Own_st _ _ _ HT.out (by simp; omega)).mono ?_
      rintro e w1 ⟨r1, rfl, o1, hb1⟩
      go_wp2_with fail
      go_ret
      exact ⟨r1, rfl, o1, hb1⟩
theorem own_lit9 (w : World) (x : Int) : Owns (w.alloc (.cells #[.int .i64 x] 2)) w.heap.size (.slice (some ⟨w.heap.size, 0, none⟩) 1 1) [x] :=
  World.ownsRow_lit w #[.int .i64 x] 1 (Nat.le_refl _) (by simp [maxLen]) rfl
theorem l05Push_any (x : Int) (v : Value) (l : List Int) (w : World) (h : Sl w v l) (hn : l.length ≤ 900000) :
    Calls Try.prog 31 #[.int .i64 x, v] w (RetOwn w (trim (x :: l))) := by
  have HS := Lib.hid h
  have HL := Lib.hid (own_lit9 w x)
  have hB0 : Below w.heap.size w (w.alloc (.cells #[.int .i64 x] 2)) := (Below.refl _ _).alloc (Nat.le_refl _) _
  clear h
  go_enter Try.func31, Try.ntmps31
  go_wp2_with (first
    | (at_builtin; refine wpList_cat rfl _ _ rfl w.heap.size _ [x] rfl HL.out _ l rfl (HS.out.next hB0) (by simp; omega) (by simp) ?_; intro v1 w1 o1 hg1 _; have hB1 := hB0.grown hg1 (by simp) (fun k hk => (HL.out.lt k hk).1))
    | (go_at_call 54; refine (l05Trim_any _ _ _ o1.sl (by simp; omega)).mono ?_; rintro e w2 ⟨r2, rfl, o2, hb2⟩))
  go_ret
  exact ⟨r2, rfl, o2.lower hB1.size, below_next hB1 hb2⟩
theorem l05Head_any (b : Nat) (s : Int) (va vb : Value) (r : List Int) (w : World) (h : C3 w b (.int .i64 s) va vb) (hr : Sl w vb r) :
    Calls Try.prog 32 #[.pointer (some ⟨b, 0, none⟩)] w fun e w' => e = .returned (.int .i64 (headI r)) ∧ w = w' := by
  obtain ⟨c0, c1, c2⟩ := h
  obtain ⟨A, c, rfl, hlc, hcm, hq⟩ := hr
  unfold maxLen at hcm
  by_cases h0 : r.length = 0
  · have e1 : ((r.length : Int) == 0) = true := by rw [beq_iff_eq]; omega
    have e2 : (r.length == 0) = true := by rw [beq_iff_eq]; exact h0
    have HF : Hid (headI r = 0) := Lib.hid (by unfold headI; rw [if_pos h0])
    clear h0 hq
    go_enter Try.func32, Try.ntmps32
    go_wp2
    go_ret
    exact ⟨ret_int HF.out.symm, rfl⟩
  · have e1 : ((r.length : Int) == 0) = false := by rw [beq_eq_false_iff_ne]; omega
    have e2 : (r.length == 0) = false := by rw [beq_eq_false_iff_ne]; exact h0
    have HF : Hid (headI r = geti r 0) := Lib.hid (by unfold headI; rw [if_neg h0])
    obtain ⟨ad, rfl, hb, hc⟩ := hq.at_ (k := 0) (by omega)
    have hcell : w.cell? ad = some (.int .i64 (geti r 0)) := hc
    have hpos : 0 < r.length := by omega
    have hpi : (0 : Int) < (r.length : Int) := by omega
    clear h0 hq hc
    go_enter Try.func32, Try.ntmps32
    go_wp2
    go_ret
    exact ⟨ret_int HF.out.symm, rfl⟩
/-- The right side of the mirrored tape. -/
def mirR (l r : List Int) : List Int := trim (headI r :: l)
theorem mirR_len (l r : List Int) : (mirR l r).length ≤ l.length + 1 := by have := trim_len (headI r :: l); simpa [mirR] using this
end Go.Proofs.Ytbjkhnajnbmnlaa
