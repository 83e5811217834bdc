/- WordText: contracts of l03Text, copyCheck, WriteRune at a digit, digitsText, wordText. No condition beyond the stated bounds. -/
import Derived.Test.YtndddmichogaoaaBytes
import Derived.Test.YtndddmichogaoaaValid
import Derived.Test.YtndddmichogaoaaShelf
namespace Go.Proofs.Ytndddmichogaoaa
open Go.RowKit
/-- The digits of letters. -/
def digsB (l : List Int) : List UInt8 := l.map digB
theorem digsB_snoc {l : List Int} {k : Nat} (h : k < l.length) : digsB (l.take (k + 1)) = digsB (l.take k) ++ [digB (geti l k)] := by
  unfold digsB; rw [take_snoc h, List.map_append]; rfl
theorem digsB_len (l : List Int) : (digsB l).length = l.length := by simp [digsB]
set_option maxHeartbeats 400000 in
theorem l03Text_any (v : Value) (l : List Int) (w : World) (h : Sl w v l) (h0 : 0 < l.length) (hl : l.length ≤ 1000000) (ha : allIn l 0 9 = true) :
    Calls Try.prog 71 #[v] w fun e w' => e = .returned (.string ⟨(digsB l).toArray⟩) ∧ Below w.heap.size w w' := by
  obtain ⟨A, c, rfl, hlc, hcm, hr⟩ := h
  have HR := Lib.hid hr
  have HA := Lib.hid (allIn_true.1 ha)
  clear hr ha
  unfold maxLen at hcm
  have hz : ((l.length : Int) == 0) = false := by rw [beq_eq_false_iff_ne]; omega
  have hz2 : (l.length == 0) = false := by rw [beq_eq_false_iff_ne]; omega
  have HO := Lib.hid (OwnsB.empty w w.heap.size (Nat.le_refl _))
  have hB0 : Below w.heap.size w (w.alloc (.cells #[] 5)) := (Below.refl _ _).alloc (Nat.le_refl _) _
  go_enter Try.func71, Try.ntmps71
  go_wp2_with fail
  go_loopw [3, 4] (fun u i wr => ∃ k : Nat, k ≤ l.length ∧ i = .int .i64 k ∧ Hid (OwnsB wr w.heap.size u (digsB (l.take k))) ∧ Hid (¬ u = .slice none 0 0) ∧ Below w.heap.size w wr) (fun _ i _ => l.length - (intOf i).toNat)
  case atStart => exact ⟨0, Nat.zero_le _, rfl, HO, Lib.hid (by simp), hB0⟩
  case round =>
    clear HO hB0
    obtain ⟨k, hk, rfl, HO, HU, hB⟩ := hrel
    by_cases hlt : k < l.length
    · obtain ⟨ad, rfl, hbk, hc⟩ := HR.out.at_ hlt
      have hcell := (hB.cell (p := ad.add k) (by rw [block_of_add]; exact hbk)).trans hc
      have hx := HA.out _ (geti_mem hlt)
      have x0 := hx.1
      have x1 := hx.2
      have HD := Lib.hid (digB_val x0 x1)
      have HN := Lib.hid (digsB_snoc hlt)
      have hdl : (digsB (l.take k)).length ≤ 1000000000 := by rw [digsB_len, List.length_take]; omega
      clear hc hx
      go_wp2_with (at_builtin; refine wpList_pushB rfl _ _ rfl w.heap.size _ (digsB (l.take k)) rfl HO.out _ (digB (geti l k)) HD.out rfl hdl hB.size ?_; intro v1 w1 o1 hg1 _)
      have hB1 := hB.grown hg1 hB.size (fun k hk => (HO.out.lt k hk).1)
      rw [← HN.out] at o1
      have HO1 := Lib.hid o1
      have HU1 : Hid (¬ v1 = .slice none 0 0) := Lib.hid (fun e => by
        have := HO1.out.1
        rw [e] at o1
        rcases o1.shape with ⟨_, h'⟩ | ⟨g, c, h', _⟩
        · have h2 := congrArg List.length h'
          rw [digsB_len, List.length_take] at h2
          rw [List.length_nil] at h2; omega
        · simp at h')
      clear o1 hg1
      go_wp2_with fail
      go_roundw
      case rel => exact ⟨k + 1, by omega, by go_num, HO1, HU1, hB1⟩
      case measure => simp [intOf] <;> omega
    · obtain rfl : k = l.length := by omega
      have ho := HO.out
      rw [List.take_length] at ho
      rcases ho.shape with ⟨e, _⟩ | ⟨g, c2, rfl, _⟩
      · exact absurd e HU.out
      have hcv := conv_back ho
      clear ho HO HU
      go_wp2_with fail
      go_ret
      exact ⟨rfl, hB⟩
theorem bld_info : (Try.prog.info? 76).map (·.size) = some 2 := by kernel_rfl
theorem bld_lies : liesAt Try.prog Try.prog.depth 76 (2 / Try.prog.cellsOf 76) 0 76 1 = true := by kernel_rfl
theorem copyCheck_used (b : Nat) (w : World) (h0 : w.cell? ⟨b, 0, none⟩ = some (.pointer (some ⟨b, 0, none⟩))) :
    Calls Try.prog 92 #[.pointer (some ⟨b, 0, none⟩)] w fun e w' => e = .returned (.tuple #[]) ∧ w = w' := by
  obtain ⟨j, hj, _⟩ := Option.map_eq_some_iff.1 bld_info
  go_enter Try.func92, Try.ntmps92
  go_wp2
  rw [Lib.run_neq_ptr_same w _ Try.underlying74 hj]
  go_wp2
  go_end0
  exact ⟨rfl, rfl⟩
theorem copyCheck_fresh (b : Nat) (w : World) (h0 : w.cell? ⟨b, 0, none⟩ = some (.pointer none)) (hsh : w.shape? b = some (76, 2)) (hfz : w.frozen? ⟨b, 0, none⟩ = false) :
    Calls Try.prog 92 #[.pointer (some ⟨b, 0, none⟩)] w fun e w' => e = .returned (.tuple #[]) ∧ w' = w.setCell ⟨b, 0, none⟩ (.pointer (some ⟨b, 0, none⟩)) := by
  obtain ⟨j, hj, hjs⟩ := Option.map_eq_some_iff.1 bld_info
  go_enter Try.func92, Try.ntmps92
  go_wp2
  rw [Lib.run_to_unsafe w ⟨b, 0, none⟩ Try.underlying74 Try.underlying84 hj (by rw [hjs]; decide) hsh (Nat.zero_lt_succ 1)]
  simp only [Result.andThen]
  rw [Oper.upon_value]
  go_wp2
  rw [run_callFunc_extern Try.func94 (by kernel_rfl) (by kernel_rfl) (by kernel_rfl) (e := Extern.AbiNoEscape.same) (by kernel_rfl)]
  rw [Lib.run_noEscape]
  simp only [Result.andThen]
  rw [Oper.upon_value]
  go_wp2
  rw [Lib.run_from_unsafe w ⟨b, 0, none⟩ Try.underlying84 Try.underlying74 hj hsh bld_lies]
  simp only [Result.andThen]
  rw [Oper.upon_value]
  go_wp2
  go_end0
  exact ⟨rfl, rfl⟩
theorem copyCheck_any (B b : Nat) (bs : List Value) (w : World) (h : Lib.IsBuilder 76 5 B b bs w) :
    Calls Try.prog 92 #[.pointer (some ⟨b, 0, none⟩)] w fun e w' => e = .returned (.tuple #[]) ∧ (Lib.BuilderAt 76 5 B b (.pointer (some ⟨b, 0, none⟩)) bs w' ∧ Below B w w') := by
  rcases h with h | h
  · refine (copyCheck_fresh b w h.cell0 h.shape h.frozen0).mono ?_
    rintro e w' ⟨rfl, rfl⟩
    exact ⟨rfl, h.used _, (Below.refl B w).setCell (p := ⟨b, 0, none⟩) h.1 _⟩
  · refine (copyCheck_used b w h.cell0).mono ?_
    rintro e w' ⟨rfl, rfl⟩
    exact ⟨rfl, h, Below.refl B _⟩
theorem appendRune_asc (v : Value) (base : Nat) (l : List UInt8) (r : Int) (b : UInt8) (w : World) (h : OwnsB w base v l) (h0 : 0 ≤ r) (h1 : r ≤ 127) (hb : r = (b.toNat : Int)) (hl : l.length ≤ 1000000000) (hbw : base ≤ w.heap.size) :
    Calls Try.prog 93 #[v, .int .i32 r] w fun e w' => (∃ v', e = .returned v' ∧ OwnsB w' base v' (l ++ [b])) ∧ w.grownBy w' v.ownBlock := by
  have HO := Lib.hid h
  have HB := Lib.hid hb
  clear h hb
  go_enter Try.func93, Try.ntmps93
  go_wp2_with (at_builtin; refine wpList_pushB rfl _ _ rfl base _ l rfl HO.out _ b HB.out rfl hl hbw ?_; intro v1 w1 o1 hg1 _)
  go_ret
  exact ⟨⟨_, rfl, o1⟩, hg1⟩
set_option maxHeartbeats 1000000 in
theorem writeRune_asc (B b : Nat) (bs : List UInt8) (r : Int) (y : UInt8) (w : World) (h : Lib.IsBuilder 76 5 B b (Lib.byteCells bs) w) (h0 : 0 ≤ r) (h1 : r ≤ 127) (hy : r = (y.toNat : Int)) (hl : bs.length ≤ 1000000) (hBw : B ≤ w.heap.size) :
    Calls Try.prog 90 #[.pointer (some ⟨b, 0, none⟩), .int .i32 r] w fun e w' => e = .returned (.tuple #[.int .i64 1, .nilIface]) ∧ Lib.IsBuilder 76 5 B b (Lib.byteCells (bs ++ [y])) w' ∧ Below B w w' := by
  have HI := Lib.hid h
  have HY := Lib.hid hy
  clear h hy
  go_enter Try.func90, Try.ntmps90
  go_wp2_with fail
  refine (copyCheck_any B b _ _ HI.out).mono ?_
  rintro e w1 ⟨rfl, hat, hb1⟩
  obtain ⟨hB, v, hbk, hown, hne⟩ := hat
  rw [Lib.byteCells_length] at hown
  have HO : Hid (OwnsB w1 B v bs) := Lib.hid hown
  have c0 : w1.cell? ⟨b, 0, none⟩ = some (.pointer (some ⟨b, 0, none⟩)) := by rw [Lib.cell_of_heap hbk]; rfl
  have c1 : w1.cell? ⟨b, 1, none⟩ = some v := by rw [Lib.cell_of_heap hbk]; rfl
  have HK := Lib.hid hbk
  have HNE := Lib.hid hne
  have hlt : b < w1.heap.size := cell_lt c0
  clear hown hbk hne
  obtain ⟨A, c, rfl, hbl⟩ : ∃ A c, v = .slice A bs.length c ∧ c ≤ maxLen := by
    rcases HO.out.shape with ⟨rfl, rfl⟩ | ⟨g, c, rfl, _, _, _, hcm, _⟩
    · exact ⟨none, 0, rfl, Nat.zero_le _⟩
    · exact ⟨_, c, rfl, hcm⟩
  go_wp2_with fail
  refine (appendRune_asc _ B bs r y _ HO.out h0 h1 HY.out (by omega) (by have := hb1.size; omega)).mono ?_
  rintro e w2 ⟨⟨v', rfl, ho'⟩, hg⟩
  have hb2 : w2.heap[b]? = some (.cells #[.pointer (some ⟨b, 0, none⟩), .slice A bs.length c] 76 (0, 0)) := by
    rw [hg.block b hlt (fun e => HNE.out e.symm)]; exact HK.out
  have d0 : w2.cell? ⟨b, 0, none⟩ = some (.pointer (some ⟨b, 0, none⟩)) := by rw [Lib.cell_of_heap hb2]; rfl
  have d1 : w2.cell? ⟨b, 1, none⟩ = some (.slice A bs.length c) := by rw [Lib.cell_of_heap hb2]; rfl
  have df : w2.frozen? ⟨b, 1, none⟩ = false := Lib.frozen_of_heap hb2 1
  have HP : Hid (Lib.BuilderAt 76 5 B b (.pointer (some ⟨b, 0, none⟩)) (Lib.byteCells (bs ++ [y])) (w2.setCell ⟨b, 1, none⟩ v')) := Lib.hid (Lib.BuilderAt.put hB hb2 (by rw [Lib.byteCells_length]; exact ho') (by decide))
  have hBe : Below B w w2 := hb1.grown hg (by have := hb1.size; omega) (fun k hk => (HO.out.lt k hk).1)
  obtain ⟨A', c', rfl⟩ : ∃ A c, v' = .slice A (bs ++ [y]).length c := by
    rcases ho'.shape with ⟨rfl, h⟩ | ⟨g, c, rfl, _⟩
    · exact ⟨none, 0, by rw [h]; rfl⟩
    · exact ⟨_, c, rfl⟩
  have e1 : (bs ++ [y]).length = bs.length + 1 := by simp
  rw [e1] at HP ⊢
  clear c0 c1 hb2 ho' hg e1
  go_wp2_with fail
  go_ret2
  exact ⟨by first | rfl | (simp; done) | (simp; omega), .inr HP.out, hBe.setCell (by exact hB) _⟩
set_option maxHeartbeats 1000000 in
theorem digitsText_any (v : Value) (l : List Int) (w : World) (h : Sl w v l) (hl : l.length ≤ 1000000) (ha : allIn l 0 9 = true) :
    Calls Try.prog 83 #[v] w fun e w' => e = .returned (.string ⟨(digsB l).toArray⟩) ∧ Below w.heap.size w w' := by
  obtain ⟨A, c, rfl, hlc, hcm, hr⟩ := h
  have HR := Lib.hid hr
  have HA := Lib.hid (allIn_true.1 ha)
  clear hr ha
  unfold maxLen at hcm
  have HI := Lib.hid (Lib.fresh_isBuilder 76 5 w)
  have hB0 : Below w.heap.size w (w.alloc (.cells #[.pointer none, .slice none 0 0] 76)) := (Below.refl _ _).alloc (Nat.le_refl _) _
  go_enter Try.func83, Try.ntmps83
  go_wp2_with fail
  go_loopw [8] (fun i wr => ∃ k : Nat, k ≤ l.length ∧ i = .int .i64 k ∧ Hid (Lib.IsBuilder 76 5 w.heap.size w.heap.size (Lib.byteCells (digsB (l.take k))) wr) ∧ Below w.heap.size w wr) (fun i _ => l.length - (intOf i).toNat)
  case atStart => exact ⟨0, Nat.zero_le _, rfl, HI, hB0⟩
  case round =>
    clear HI hB0
    obtain ⟨k, hk, rfl, HI, hB⟩ := hrel
    by_cases hlt : k < l.length
    · obtain ⟨ad, rfl, hbk, hc⟩ := HR.out.at_ hlt
      have hcell := (hB.cell (p := ad.add k) (by rw [block_of_add]; exact hbk)).trans hc
      have hx := HA.out _ (geti_mem hlt)
      have x0 := hx.1
      have x1 := hx.2
      have HD := Lib.hid (digB_val x0 x1)
      have HN := Lib.hid (digsB_snoc hlt)
      have hdl : (digsB (l.take k)).length ≤ 1000000 := by rw [digsB_len, List.length_take]; omega
      clear hc hx
      go_wp2_with fail
      refine (writeRune_asc w.heap.size w.heap.size (digsB (l.take k)) _ (digB (geti l k)) _ HI.out (by omega) (by omega) HD.out hdl hB.size).mono ?_
      rintro e w1 ⟨rfl, hi, hb1⟩
      rw [← HN.out] at hi
      have HI1 := Lib.hid hi
      have hB1 := hB.trans hb1
      clear hi hb1 hcell
      go_wp2_with fail
      go_roundw
      case rel => exact ⟨k + 1, by omega, by go_num, HI1, hB1⟩
      case measure => simp [intOf] <;> omega
    · obtain rfl : k = l.length := by omega
      have hi := HI.out
      rw [List.take_length] at hi
      have HI2 := Lib.hid hi
      clear hi
      go_wp2_with fail
      refine (Try.Builder_String_any w.heap.size w.heap.size (digsB l) _ HI2.out hB.size).mono ?_
      rintro e w1 ⟨rfl, hb⟩
      go_wp2_with fail
      go_ret
      exact ⟨rfl, by first | exact hB.trans hb | exact hB.trans hb.1 | exact hB.trans hb.2⟩
/-- What WordText answers at a word. -/
def txtOf (l : List Int) : ByteArray := if l.length = 0 then ⟨#[45]⟩ else ⟨(digsB l).toArray⟩
theorem wordText_any (v : Value) (l : List Int) (w : World) (h : Sl w v l) (hl : l.length ≤ 1000000) (ha : allIn l 0 9 = true) :
    Calls Try.prog 72 #[v] w fun e w' => e = .returned (.string (txtOf l)) ∧ Below w.heap.size w w' := by
  have HS := Lib.hid h
  obtain ⟨A, c, rfl, hlc, hcm, hr⟩ := h
  clear hr
  by_cases h0 : l.length = 0
  · unfold txtOf
    rw [if_pos h0]
    have hl2 : l = [] := List.eq_nil_of_length_eq_zero h0
    subst hl2
    clear h0
    go_enter Try.func72, Try.ntmps72
    go_wp2
    go_ret
    exact ⟨rfl, Below.refl _ _⟩
  · unfold txtOf
    rw [if_neg h0]
    have hz : ((l.length : Int) == 0) = false := by rw [beq_eq_false_iff_ne]; omega
    have hz2 : (l.length == 0) = false := by rw [beq_eq_false_iff_ne]; omega
    clear h0
    go_enter Try.func72, Try.ntmps72
    go_wp2_with fail
    refine (digitsText_any _ l _ HS.out hl ha).mono ?_
    rintro e w1 ⟨rfl, hb⟩
    go_wp2_with fail
    go_ret
    exact ⟨rfl, hb⟩
theorem l03Text_all (v : Value) (l : List Int) (w : World) (h : Sl w v l) (hl : l.length ≤ 1000000) (ha : allIn l 0 9 = true) :
    Calls Try.prog 71 #[v] w fun e w' => e = .returned (.string (txtOf l)) ∧ Below w.heap.size w w' := by
  by_cases h0 : l.length = 0
  · unfold txtOf
    rw [if_pos h0]
    obtain ⟨A, c, rfl, hlc, hcm, hr⟩ := h
    have hl2 : l = [] := List.eq_nil_of_length_eq_zero h0
    subst hl2
    clear h0 hr
    go_enter Try.func71, Try.ntmps71
    go_wp2
    go_ret
    exact ⟨rfl, Below.refl _ _⟩
  · unfold txtOf
    rw [if_neg h0]
    exact l03Text_any v l w h (by omega) hl ha
theorem bothWordText (l : List Int) (_f : Fit l) (_hn : l.length ≤ 1048576) : ∃ R : ByteArray,
    (∀ (w : World) (v : Value), Sl w v l → Calls Try.prog 39 #[v] w fun e w' => e = .returned (.string R) ∧ Below w.heap.size w w') ∧
    (∀ (w : World) (v : Value), Sl w v l → Calls Try.prog 40 #[v] w fun e w' => e = .returned (.string R) ∧ Below w.heap.size w w') := by
  cases hw : wordB l with
  | false =>
    refine ⟨⟨#[]⟩, fun w v h => ?_, fun w v h => ?_⟩
    · go_enter Try.func39, Try.ntmps39
      go_wp2_with (go_at_call 48; refine (l03Is_any _ _ _ h).mono ?_; rintro e w' ⟨rfl, rfl⟩)
      go_ret
      exact ⟨rfl, Below.refl _ _⟩
    · go_enter Try.func40, Try.ntmps40
      go_wp2_with (go_at_call 51; refine (implIsWord_any _ _ _ h).mono ?_; rintro e w' ⟨rfl, rfl⟩)
      go_ret
      exact ⟨rfl, Below.refl _ _⟩
  | true =>
    have hl := (wordB_true.1 hw).2
    have HA := Lib.hid (wordB_true.1 hw).1
    refine ⟨txtOf l, fun w v h => ?_, fun w v h => ?_⟩
    · go_enter Try.func39, Try.ntmps39
      go_wp2_with fail
      refine (l03Is_any _ _ _ h).mono ?_
      rintro e _ ⟨rfl, rfl⟩
      go_wp2_with fail
      refine (l03Text_all _ l _ h (by omega) HA.out).mono ?_
      rintro e w1 ⟨rfl, hb⟩
      go_wp2_with fail
      go_ret
      exact ⟨rfl, hb⟩
    · go_enter Try.func40, Try.ntmps40
      go_wp2_with fail
      refine (implIsWord_any _ _ _ h).mono ?_
      rintro e _ ⟨rfl, rfl⟩
      go_wp2_with fail
      refine (wordText_any _ l _ h (by omega) HA.out).mono ?_
      rintro e w1 ⟨rfl, hb⟩
      go_wp2_with fail
      go_ret
      exact ⟨rfl, hb⟩
end Go.Proofs.Ytndddmichogaoaa
