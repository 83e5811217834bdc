/- MachineText of the program: chunks of rules, joined. Where the table of powers is laid. NOT FINISHED. -/
import Derived.Test.YtcjcbgmgepohaaaDoorChunk
import Derived.Test.YtcjcbgmgepohaaaDoorMTextP
import Derived.Test.YtcjcbgmgepohaaaDoorShelf
import Derived.Test.YtcjcbgmgepohaaaDoorLTextP
import Derived.Stop.RegionWithIn
import Derived.Maps.AppendAt
namespace Go.Proofs.YtcjcbgmgepohaaaDoor
open Go.RowKit Go.Shelf
attribute [local go_sem] Oper.semAt_some
/-- append in a drawn region, as one step. -/
theorem step_append_ownIn {F : Fence} {n : Nat} {P : Program} (w : World) {o : Oper} {a : Act} {Q : Exit → Act → World → Prop} {K : Act → World → Prop}
    (s x : Operand) (t : TypeId) (hop : o.op = Op.call { callee := Callee.builtin Builtin.append, args := #[s, x], argTypes := #[t, t] })
    (base : Nat) (e : TypeId) (i : TypeInfo) (z : Value) (size bytes : Nat) (h1 : P.underlying t = some (.slice e)) (h2 : P.info? e = some i) (h3 : i.zero = some z) (h4 : i.size = size) (h5 : i.bytes = bytes) (h6 : z.cells.size = size) (h7 : 0 < size)
    (v : Value) (k : Nat) (xs : List Value) (hs : a.eval s = v) (hown : w.ownsRow base e size v k xs) (ad : Addr) (m c : Nat) (news : List Value) (hx : a.eval x = .slice (some ad) m c) (hn : news.length = m * size)
    (hc : ∀ j u, news[j]? = some u → w.cell? (ad.add j) = some u) (h1c : ∀ u ∈ news, u.oneCell' = true) (b1 : k + m ≤ maxLen) (b2 : (k + m) * bytes ≤ 140737488355328) (b3 : base ≤ w.heap.size)
    (hK : ∀ v' w', w'.ownsRow base e size v' (k + m) (xs ++ news) → w.grownBy w' v.ownBlock → K (a.put o.dst v') w') :
    o.wpIn F n P a w K Q := by
  obtain ⟨v', w', hrun, r1, r2, r3⟩ := run_append_own (P := P) w base t o.type e i z size bytes h1 h2 h3 h4 h5 h6 h7 v k xs hown ad m c news hn hc h1c b1 b2 b3
  unfold Oper.wpIn
  refine ⟨?_, ?_⟩
  · simp [Oper.about, hop, resolve, Target.leads, Sem.run_pure]
  · rw [Oper.semAt_plain F _ _ (by rw [hop]; intro c hc'; cases hc')]
    simp [execOp, hop, resolve, invoke, builtin, hs, hx, hrun, Result.andThen]
    exact hK v' w' r1 r2
theorem joinT_len {l : List Int} {i0 : Nat} : ∀ t, (∀ k, k < t → (rAt l (i0 + k)).length ≤ 43) → (Lib.join (rTexts l i0 t) [44]).length ≤ 44 * t := by
  intro t
  induction t with
  | zero => intro _; simp [rTexts, Lib.join, List.intercalate, List.intersperse]
  | succ t ih =>
    intro h
    have h1 := ih (fun k hk => h k (by omega))
    have h2 := h t (by omega)
    by_cases h0 : t = 0
    · subst h0
      have e : rTexts l i0 (0 + 1) = [rAt l i0] := by simp [rTexts]
      rw [e, join_one]; simp at h2; omega
    · rw [← rTexts_step, join_snoc' _ _ _ (by intro e; have := congrArg List.length e; rw [rTexts_len] at this; simp at this; omega), List.length_append, List.length_append, List.length_singleton]
      omega
theorem add_add' (ad : Addr) (a b : Nat) : (ad.add a).add b = ad.add (a + b) := by
  unfold Addr.add
  by_cases h1 : a = 0 <;> by_cases h2 : b = 0 <;> simp [h1, h2, Nat.add_assoc]
theorem join_len {K : Nat} {c : UInt8} : ∀ {xs : List (List UInt8)}, (∀ x ∈ xs, x.length ≤ K) → (Lib.join xs [c]).length ≤ (K + 1) * xs.length
  | [], _ => by simp [Lib.join, List.intercalate]
  | [x], h => by
    have e : Lib.join [x] [c] = x := by simp [Lib.join, List.intercalate]
    rw [e]
    have := h x (by simp)
    simp; omega
  | x :: y :: l, h => by
    have ih := join_len (c := c) (xs := y :: l) (fun z hz => h z (by simp only [List.mem_cons] at hz ⊢; exact .inr hz))
    have hx := h x (by simp)
    have e : Lib.join (x :: y :: l) [c] = x ++ [c] ++ Lib.join (y :: l) [c] := by unfold Lib.join; rw [List.intercalate_cons_cons]
    rw [e, List.length_append, List.length_append, List.length_singleton, List.length_cons (a := x), Nat.mul_add, Nat.mul_one]
    omega
theorem keeps_of_below {W W' : World} (h : Below W.heap.size W W') : KeepsOthers W W' :=
  KeepsOthers.of_grownBy (row := none) ⟨h.os, h.tape, h.output, h.size, fun k hk _ => h.block k hk⟩ (fun j o e => by cases e)
/-- What a round of the outer loop leaves: a text more; the iterator's two boxes as they were. -/
theorem chunk_end {w W wr w5 w6 : World} {n0 B BS BN : Nat} {T1 T2 T3 : TypeId} {v v' vS vN : Value} {k m : Nat} {xs ys : List Value} {tmp : Obj}
    (hBT : Below W.heap.size W wr) (hb5 : Below wr.heap.size wr w5) (hBW : Below n0 w W)
    (hv5 : Boxed w5 B T1 v) (h1 : T1 ≠ 9) (hr5 : w5.ownsRow n0 9 1 v k xs) (hB7 : n0 ≤ w5.heap.size) (hB : n0 ≤ B)
    (hown6 : w6.ownsRow n0 9 1 v' m ys) (hg6 : (w5.alloc tmp).grownBy w6 v.ownBlock)
    (bS : Boxed W BS T2 vS) (bN : Boxed W BN T3 vN) (ne1 : BS ≠ B) (ne2 : BN ≠ B) (h2 : T2 ≠ 9) (h3 : T3 ≠ 9) (hn0 : n0 ≤ W.heap.size) :
    KeepsOthers W (w6.setCell ⟨B, 0, none⟩ v') ∧ Keep2 BS BN W (w6.setCell ⟨B, 0, none⟩ v') ∧ Boxed (w6.setCell ⟨B, 0, none⟩ v') B T1 v' ∧ (w6.setCell ⟨B, 0, none⟩ v').ownsRow n0 9 1 v' m ys ∧
      Boxed (w6.setCell ⟨B, 0, none⟩ v') BS T2 vS ∧ Boxed (w6.setCell ⟨B, 0, none⟩ v') BN T3 vN ∧ Below n0 w (w6.setCell ⟨B, 0, none⟩ v') := by
  obtain ⟨_, hs2, hs3, hs4, hs5⟩ := hv5.appended h1 hr5 hB7 hB hown6 hg6
  have h5 : Below W.heap.size W w5 := below_next hBT hb5
  have bS5 : Boxed w5 BS T2 vS := (h5.block _ bS.lt).trans bS
  have bN5 : Boxed w5 BN T3 vN := (h5.block _ bN.lt).trans bN
  have bS7 := ((bS5.alloc tmp).kept hg6 (bS5.not_row h2 hr5)).other (B' := B) ne1 v'
  have bN7 := ((bN5.alloc tmp).kept hg6 (bN5.not_row h3 hr5)).other (B' := B) ne2 v'
  exact ⟨(keeps_of_below h5).trans hs4, ⟨bS7.cell.trans bS.cell.symm, bN7.cell.trans bN.cell.symm⟩, hs2, hs3, bS7, bN7, hBW.trans ((h5.mono hn0).trans hs5)⟩
set_option maxRecDepth 100000 in
set_option maxHeartbeats 4000000 in
theorem implMachineText_good (s st m : Nat) (hm : m = st * s) (ad : Addr) (c : Nat) (l : List Int) (w : World) (hp : Pow w) (hr : Ints w w.heap.size (some ad) (m * 3) l) (hc : c ≤ maxLen) (hnc : m ≤ c) (hf : Fit l) (hs0 : 0 < s) (hs : s ≤ 1000) (hst : st ≤ 1000) (hst0 : 0 < st) (hv : validB (s : Int) (st : Int) l = true) :
    Calls Tryd.prog 7 #[.agg #[.int .i64 (s : Int), .int .i64 (st : Int), .slice (some ad) m c]] w fun e w' => e = .returned (.string (str (Lib.join (cTexts s l st) [59]))) ∧ Below w.heap.size w w' := by
  have HP := Lib.hid hp
  have HR := Lib.hid hr
  have HF := Lib.hid hf
  have HV := Lib.hid hv
  have HS : Hid (Sl3 w (.slice (some ad) m c) l) := Lib.hid ⟨_, _, _, rfl, hnc, hc, hr⟩
  have HM := Lib.hid hm
  have HC := Lib.hid hc
  clear hr hf hv hp hm
  unfold maxLen at hc
  refine (callsIn_wide (n := 5)).1 ?_
  refine callsIn_of_wp_marks Tryd.func7 rfl trivial ?_ rfl
  simp only [Tryd.ntmps7, List.size_toArray, List.length_cons, List.length_nil, Nat.reduceAdd, Nat.reduceSub, Array.replicate_succ, Array.replicate_zero, List.push_toArray, List.append_toArray, List.nil_append, List.cons_append]
  gi_wp2_with (first
    | (refine ⟨trivial, ?_⟩; gi_at_call 13; refine (callsIn_wide.2 (implValidMachine_any (s : Int) (st : Int) _ l _ (HS.out.next (below_one _ _)))).mono ?_; rintro e w1 ⟨rfl, hb1⟩; rw [HV.out]
       obtain ⟨q0, q1, q2⟩ := C3.next (C3.next (C3.made w (.int .i64 (s : Int)) (.int .i64 (st : Int)) (.slice (some ad) m c) 29) hb1) (below_two w1 (.cells #[] 9) (.cells #[.slice (some ⟨w1.heap.size, 0, none⟩) 0 0] 39)))
    | (refine ⟨trivial, ?_⟩; gi_at_call 14; refine (callsIn_wide.2 (chunk_call (some ad) m c s hs0 hs _)).mono ?_; rintro e w2 ⟨rfl, hw2⟩; have HW2 := Lib.hid hw2; clear hw2))
  have hB1 := below_next (below_one w (.cells #[.int .i64 (s : Int), .int .i64 (st : Int), .slice (some ad) m c] 29)) hb1
  have hB2 := below_next hB1 (below_two w1 (.cells #[] 9) (.cells #[.slice (some ⟨w1.heap.size, 0, none⟩) 0 0] 39))
  have hBx := Boxed.new (w1.alloc (.cells #[] 9)) 39 (.slice (some ⟨w1.heap.size, 0, none⟩) 0 0)
  have HO : Hid (OwnsS ((w1.alloc (.cells #[] 9)).alloc (.cells #[.slice (some ⟨w1.heap.size, 0, none⟩) 0 0] 39)) w.heap.size (.slice (some ⟨w1.heap.size, 0, none⟩) 0 0) []) := Lib.hid (OwnsS.next (OwnsS.empty w1 w.heap.size hB1.size) (below_one _ _))
  have hw2 := HW2.out
  have hz : w2.heap.size = w1.heap.size + 4 := by rw [hw2]; simp
  have hlt1 : w1.heap.size < w2.heap.size := by omega
  have hbSx : Boxed w2 (w1.heap.size + 1 + 1) 27 (.slice (some ad) (st * s) c) := by
    rw [← HM.out, hw2]
    have h := (Boxed.new ((w1.alloc (.cells #[] 9)).alloc (.cells #[.slice (some ⟨w1.heap.size, 0, none⟩) 0 0] 39)) 27 (.slice (some ad) m c)).alloc (.cells #[.int .i64 (s : Int)] 3)
    rwa [World.size_alloc, World.size_alloc] at h
  have hbNx : Boxed w2 (w1.heap.size + 1 + 1 + 1) 3 (.int .i64 (s : Int)) := by
    rw [hw2]
    have h := Boxed.new (((w1.alloc (.cells #[] 9)).alloc (.cells #[.slice (some ⟨w1.heap.size, 0, none⟩) 0 0] 39)).alloc (.cells #[.slice (some ad) m c] 27)) 3 (.int .i64 (s : Int))
    rwa [World.size_alloc, World.size_alloc, World.size_alloc] at h
  have hbS := hbSx.cell
  have hbN := hbNx.cell
  have hBx2 : Boxed w2 (w1.heap.size + 1) 39 (.slice (some ⟨w1.heap.size, 0, none⟩) 0 0) := by
    rw [hw2]; have h := (hBx.alloc (.cells #[.slice (some ad) m c] 27)).alloc (.cells #[.int .i64 (s : Int)] 3); rwa [World.size_alloc] at h
  have HO2 : Hid (OwnsS w2 w.heap.size (.slice (some ⟨w1.heap.size, 0, none⟩) 0 0) []) := Lib.hid (by rw [hw2]; exact HO.out.next (below_two _ _ _))
  have hB3 : Below w.heap.size w w2 := by rw [hw2]; exact below_next hB2 (below_two _ _ _)
  have hB1s := hB1.size
  clear hw2 HW2 HO hBx hB2 q0 q1 q2
  refine wpIn_rangeFunc_ownF rfl (by decide) (gf := 28) (lb := #[.pointer (some ⟨w1.heap.size + 1 + 1, 0, none⟩), .pointer (some ⟨w1.heap.size + 1 + 1 + 1, 0, none⟩)]) rfl trivial (enters_of Tryd.func28 (by kernel_rfl) rfl)
    (chunk_stops 4 (by decide) (w1.heap.size + 1 + 1) (w1.heap.size + 1 + 1 + 1) ad s st c hs0 hs hst (by rw [← HM.out]; exact hnc) HC.out w2 (by omega) (by omega) hbS hbN) (fun h k => h.t k) (Keep2.b (by omega) (by omega)) (Below.refl _ _) (fun _ => rfl)
    (fun (pre : List (Bel st)) W => (∃ v, Boxed W (w1.heap.size + 1) 39 v ∧ W.ownsRow w.heap.size 9 1 v pre.length ((pre.map (fun x => cText s l x.1)).map strV) ∧ True) ∧ (Boxed W (w1.heap.size + 1 + 1) 27 (.slice (some ad) (st * s) c) ∧ Boxed W (w1.heap.size + 1 + 1 + 1) 3 (.int .i64 (s : Int))) ∧ Below w.heap.size w W)
    (fun _ _ _ => False)
    (OwnFrom.and ((holdsRow_own w.heap.size (w1.heap.size + 1) 39 9 1 (fun pre : List (Bel st) => pre.length) (fun pre : List (Bel st) => (pre.map (fun x : Bel st => cText s l x.1)).map strV) (fun _ _ => True)).from _) (OwnFrom.and (OwnFrom.and ((boxed_own _ _ (fun _ => _)).from _) ((boxed_own _ _ (fun _ => _)).from _)) (ownFrom_below (Nat.le_refl _) (by omega))))
    (fun _ _ _ _ _ hs _ _ => hs)
    ⟨⟨_, hBx2, HO2.out, trivial⟩, ⟨hbSx, hbNx⟩, hB3⟩
    (fun x => { tmps := #[.agg #[.int .i64 (s : Int), .int .i64 (st : Int), .slice (some ad) m c], .pointer (some ⟨w.heap.size, 0, none⟩), .string ⟨#[]⟩, .pointer (some ⟨w1.heap.size + 1, 0, none⟩), chunkV ad s x.1, undef, undef, undef,
      .agg #[.int .i64 (s : Int), .int .i64 (st : Int), .slice (some ad) m c], .bool true, .bool false, .slice (some ⟨w1.heap.size, 0, none⟩) 0 0, .pointer (some ⟨w.heap.size, 2, none⟩), .slice (some ad) m c, .pointer (some ⟨w.heap.size, 0, none⟩), .int .i64 (s : Int),
      .func (.func 28) #[] #[.pointer (some ⟨w1.heap.size + 1 + 1, 0, none⟩), .pointer (some ⟨w1.heap.size + 1 + 1 + 1, 0, none⟩)], chunkV ad s x.1, undef, undef, undef, undef, undef, undef, undef, undef, undef, undef, undef, undef, undef, undef, undef, undef, undef, undef, undef, undef], defers := [] }) ?assign ?body ?done ?stop
  case assign =>
    intro l x W K hK
    gi_wp2
    exact hK
  case body =>
    rintro lp pre x W ⟨⟨v, hv, hrow, _⟩, ⟨hbxS, hbxN⟩, hBW⟩ hlen
    unfold chunkV
    have HT0 := Lib.hid (OwnsS.empty W W.heap.size (Nat.le_refl _))
    have hBT0 := below_one W (.cells #[] 9)
    have hxm : (x.1 + 1) * s ≤ st * s := Nat.mul_le_mul_right s x.2
    rw [Nat.add_mul, Nat.one_mul, ← HM.out] at hxm
    obtain ⟨i0, hi0⟩ : ∃ i0, x.1 * s = i0 := ⟨_, rfl⟩
    rw [hi0] at hxm ⊢
    have HI0 := Lib.hid hi0
    clear hi0
    gi_wp2
    gi_loopw [5, 21] (fun u i wr => ∃ j : Nat, j ≤ s ∧ i = .int .i64 j ∧ Hid (OwnsS wr W.heap.size u (rTexts l i0 j)) ∧ Below W.heap.size W wr) (fun _ i _ => s - (intOf i).toNat)
    case atStart => exact ⟨0, Nat.zero_le _, rfl, HT0, hBT0⟩
    case round =>
      clear HT0 hBT0
      obtain ⟨j, hj, rfl, HT, hBT⟩ := hrel
      have hBwr := below_next hBW hBT
      by_cases hlt : j < s
      · obtain ⟨ad', had, hbk, p0, p1, p2⟩ := HR.out.three (w' := wr) (fun p hp => hBwr.cell hp) (show i0 + j < m by omega)
        obtain rfl : ad' = ad := by simpa using had.symm
        have hji : (j : Int) < (s : Int) := by omega
        have hadd : ad'.add ((i0 + j) * 3) = (ad'.add (i0 * 3)).add (j * 3) := by rw [Nat.add_mul]; exact (add_add' ad' _ _).symm
        rw [hadd, Nat.add_mul] at p0 p1 p2
        have hbk2 : ((ad'.add (i0 * 3)).add (j * 3)).block < wr.heap.size := by have := hBwr.size; rw [block_of_add, block_of_add]; omega
        clear hadd
        have hl3 : l.length = m * 3 := HR.out.1
        have f0 := HF.out _ (geti_mem (show i0 * 3 + j * 3 < l.length by omega))
        have f2 := HF.out _ (geti_mem (show i0 * 3 + j * 3 + 2 < l.length by omega))
        have a0 := f0.1
        have a1 := f0.2
        have e0 := f2.1
        have e1 := f2.2
        obtain ⟨x, hx⟩ : ∃ x, geti l (i0 * 3 + j * 3) = x := ⟨_, rfl⟩
        obtain ⟨y, hy⟩ : ∃ y, geti l (i0 * 3 + j * 3 + 1) = y := ⟨_, rfl⟩
        obtain ⟨z, hz'⟩ : ∃ z, geti l (i0 * 3 + j * 3 + 2) = z := ⟨_, rfl⟩
        have HXYZ : Hid (rtx x y z = rAt l (i0 + j)) := Lib.hid (by rw [← hx, ← hy, ← hz']; unfold rAt; rw [Nat.add_mul])
        rw [hx] at p0 a0 a1
        rw [hy] at p1
        rw [hz'] at p2 e0 e1
        clear f0 f2 hl3 hx hy hz'
        obtain ⟨q0, q1, q2⟩ := C3.made wr (.int .i64 x) (.int .i64 y) (.int .i64 z) 44
        have hBq := (hBT.trans ((below_one wr (.cells #[.int .i64 x, .int .i64 y, .int .i64 z] 44)).mono hBT.size))
        have hPq : Pow (wr.alloc (.cells #[.int .i64 x, .int .i64 y, .int .i64 z] 44)) := HP.out.next (below_next hBwr (below_one _ _))
        have HT2 := Lib.hid (HT.out.next (below_one wr (.cells #[.int .i64 x, .int .i64 y, .int .i64 z] 44)))
        have HS9 := Lib.hid (rTexts_step l i0 j)
        have hrl := rTexts_len l i0 j
        obtain ⟨i9, hi9, hz9, hz1, hz2⟩ := info_parts Tryd.infoS
        gi_wp2_with (first
          | (refine ⟨trivial, ?_⟩; gi_at_call 15; refine (CallsIn.inRound lp (callsIn_wide.2 (ruleText_any x y z _ hPq a0 a1 e0 e1))).mono ?_; rintro e w3 ⟨rfl, hb3⟩; rw [HXYZ.out]; have hB5 := below_next hBq hb3; have HT3 := Lib.hid (HT2.out.next hb3))
          | (gi_at_builtin; refine wpListIn_append_own _ rfl _ _ 39 rfl W.heap.size 9 i9 (.string ByteArray.empty) 1 16 Tryd.underlying39 hi9 hz9 hz1 hz2 rfl (by decide) _ _ _ rfl (World.ownsRow.alloc HT3.out _) ⟨w3.heap.size, 0, none⟩ 1 1 [strV (rAt l (i0 + j))] rfl rfl (cell_one_new _ _ _) (by simp [Value.oneCell', strV]) (by rw [hrl]; unfold maxLen; omega) (by rw [hrl]; omega) (by have := hB5.size; simp; omega) ?_; intro v' w4 hown' hgrow _))
        have hB6 : Below W.heap.size W w4 := (hB5.alloc hB5.size _).grown hgrow (by have := hB5.size; simp; omega) (fun k hk => (OwnsS.lt HT3.out k hk).1)
        have HT6 : Hid (OwnsS w4 W.heap.size v' (rTexts l i0 (j + 1))) := Lib.hid (by unfold OwnsS; rw [← HS9.out, List.length_append, List.map_append]; exact hown')
        go_roundw
        case rel => exact ⟨j + 1, by omega, by go_num, HT6, hB6⟩
        case measure => simp [intOf] <;> omega
      · obtain rfl : s = j := by omega
        have hji : decide ((s : Int) < (s : Int)) = false := decide_eq_false (by omega)
        have HJT : Hid (Lib.join (rTexts l i0 s) [44] = cText s l x.1) := Lib.hid (by unfold cText; rw [HI0.out])
        have hjl : (Lib.join (rTexts l i0 s) [44]).length ≤ 44000 := by
          have := joinT_len (l := l) (i0 := i0) s (fun k hk => rAt_len HF.out (by have := HR.out.1; omega))
          omega
        rcases HT.out.shape with ⟨_, e⟩ | ⟨g, c9, rfl, _, hg, hnc9, hcm9, hcl⟩
        · have := congrArg List.length e
          rw [rTexts_len, List.length_nil] at this
          omega
        have hJ := Tryd.strings_Join g 0 c9 ((rTexts l i0 s).map str) ⟨#[44]⟩ wr (fun j x hx => by
          rw [Nat.zero_add]
          have hj : j < (rTexts l i0 s).length := by
            rcases Nat.lt_or_ge j (rTexts l i0 s).length with h | h
            · exact h
            · rw [List.getElem?_eq_none (by rwa [List.length_map])] at hx; cases hx
          rw [hcl j hj]
          rw [List.getElem?_map, List.getElem?_eq_getElem hj] at hx
          injection hx with hx
          rw [gets_eq hj, ← hx]; rfl) hg (by rw [List.length_map, rTexts_len]; omega) (by rw [List.length_map]; exact hnc9) (by rw [strs_data]; show (Lib.join (rTexts l i0 s) [44]).length ≤ _; omega)
        rw [strs_data, List.length_map, rTexts_len] at hJ
        have HJ := Lib.hid hJ
        rw [rTexts_len]
        have HJd : Hid (Calls Tryd.prog 16 #[.slice (some ⟨g, 0, none⟩) s c9, .string ⟨#[44]⟩] wr.drew fun e w' => e = .returned (.string (str (cText s l x.1))) ∧ Below wr.drew.heap.size wr.drew w') := Lib.hid (by
          have h := Tryd.strings_Join g 0 c9 ((rTexts l i0 s).map str) ⟨#[44]⟩ wr.drew (fun j x hx => by
            rw [Nat.zero_add]
            have hj : j < (rTexts l i0 s).length := by
              rcases Nat.lt_or_ge j (rTexts l i0 s).length with h | h
              · exact h
              · rw [List.getElem?_eq_none (by rwa [List.length_map])] at hx; cases hx
            have hq := hcl j hj
            rw [List.getElem?_map, List.getElem?_eq_getElem hj] at hx
            injection hx with hx
            rw [gets_eq hj] at hq
            rw [← hx]; exact hq) hg (by rw [List.length_map, rTexts_len]; omega) (by rw [List.length_map]; exact hnc9) (by rw [strs_data]; show (Lib.join (rTexts l i0 s) [44]).length ≤ _; omega)
          rw [strs_data, List.length_map, rTexts_len] at h
          rw [← HJT.out]
          exact h)
        clear hcl hJ
        have hv2 : Boxed wr (w1.heap.size + 1) 39 v := (hBT.block _ hv.lt).trans hv
        have hv3 := hv2.cell
        have hv4 := hv2.frozen
        obtain ⟨i9, hi9, hz9, hz1, hz2⟩ := info_parts Tryd.infoS
        have HSt : Hid (OwnsS wr w.heap.size v (pre.map (fun x : Bel st => cText s l x.1))) := Lib.hid (by
          refine OwnsS.next ?_ hBT
          unfold OwnsS; rw [List.length_map]; exact hrow)
        have hwrS := (hBT.block _ hbxS.lt).trans hbxS
        have hwrN := (hBT.block _ hbxN.lt).trans hbxN
        change Boxed wr _ _ _ at hwrS
        change Boxed wr _ _ _ at hwrN
        gi_wp2
        refine wpIn_region_any (by kernel_rfl) ?_
        change wpAnyIn _ _ _ _ _ _ _ _ _ (World.drew _)
        refine wpAnyIn_ready (rs := [0, 1]) (by kernel_rfl) (by simp) ?_
        refine AllReadyIn.cons rfl (fun K hK => ?_) ?_
        · go_simp
          refine hK _ _ ?_
          clear hK K
          refine wpAnyIn_ready (rs := [1]) (by kernel_rfl) (by simp) ?_
          refine AllReadyIn.cons rfl (fun K hK => ?_) AllReadyIn.nil
          go_simp
          refine hK _ _ ?_
          clear hK K
          refine wpAnyIn_ready (rs := [2]) (by kernel_rfl) (by simp) ?_
          refine AllReadyIn.cons rfl (fun K hK => ?_) AllReadyIn.nil
          go_simp
          refine ⟨trivial, ?_⟩
          refine (CallsIn.inRound lp (callsIn_wide.2 (HJd.out))).mono ?_
          rintro e w5 ⟨rfl, hb5⟩
          have hv5 : Boxed w5 (w1.heap.size + 1) 39 v := (hb5.block _ hv2.lt).trans hv2
          have hv6 := hv5.cell
          have hv7 := hv5.frozen
          go_simp
          refine hK _ _ ?_
          clear hK K
          refine wpAnyIn_ready (rs := [3]) (by kernel_rfl) (by simp) ?_
          refine AllReadyIn.cons rfl (fun K hK => ?_) AllReadyIn.nil
          go_simp
          refine hK _ _ ?_
          clear hK K
          refine wpAnyIn_ready (rs := [4]) (by kernel_rfl) (by simp) ?_
          refine AllReadyIn.cons rfl (fun K hK => ?_) AllReadyIn.nil
          rw [if_pos (by kernel_rfl)]
          have hB7 : w.heap.size ≤ w5.heap.size := by have h1 := hBwr.size; have h2 := hb5.size; exact Nat.le_trans h1 h2
          have hr5 := OwnsS.next (w := wr.drew) HSt.out hb5
          refine step_append_ownIn _ (.tmp 31) (.tmp 34) 39 rfl w.heap.size 9 i9 (.string ByteArray.empty) 1 16 Tryd.underlying39 hi9 hz9 hz1 hz2 rfl (by decide) v _ _ rfl (World.ownsRow.alloc hr5 _) ⟨w5.heap.size, 0, none⟩ 1 1 [strV (cText s l x.1)] rfl rfl (cell_one_new _ _ _) (by simp [Value.oneCell', strV]) (by rw [List.length_map]; unfold maxLen; omega) (by rw [List.length_map]; omega) (by simp; omega) ?_
          intro v' w6 hown6 hg6
          rw [List.length_map] at hown6
          obtain ⟨g', cap', rfl⟩ := ownsRow_succ hown6
          have hE := chunk_end hBT (wr := wr) ⟨hb5.os, hb5.tape, hb5.output, hb5.size, hb5.block⟩ hBW hv5 (by decide) hr5 hB7 (by omega) hown6 hg6 hbxS hbxN (by omega) (by omega) (by decide) (by decide) hBW.size
          have hs6 := (hv5.appended (by decide) hr5 hB7 (by omega) hown6 hg6).1.cell
          have hs7 := (hv5.appended (by decide) hr5 hB7 (by omega) hown6 hg6).1.frozen
          refine hK _ _ ?_
          clear hK K
          refine wpAnyIn_ready (rs := [5]) (by kernel_rfl) (by simp) ?_
          refine AllReadyIn.cons rfl (fun K hK => ?_) AllReadyIn.nil
          go_simp
          refine hK _ _ ?_
          clear hK K
          refine wpAnyIn_done (by kernel_rfl) ?_ _
          refine ⟨hE.1, hE.2.1, ⟨⟨_, hE.2.2.1, ?_, trivial⟩, ⟨hE.2.2.2.2.1, hE.2.2.2.2.2.1⟩, hE.2.2.2.2.2.2⟩⟩
          rw [List.length_append, List.map_append, List.map_append]
          exact hE.2.2.2.1
        refine AllReadyIn.cons rfl (fun K hK => ?_) AllReadyIn.nil
        go_simp
        refine hK _ _ ?_
        clear hK K
        refine wpAnyIn_ready (rs := [0, 2]) (by kernel_rfl) (by simp) ?_
        refine AllReadyIn.cons rfl (fun K hK => ?_) ?_
        · go_simp
          refine hK _ _ ?_
          clear hK K
          refine wpAnyIn_ready (rs := [2]) (by kernel_rfl) (by simp) ?_
          refine AllReadyIn.cons rfl (fun K hK => ?_) AllReadyIn.nil
          go_simp
          refine ⟨trivial, ?_⟩
          refine (CallsIn.inRound lp (callsIn_wide.2 (HJd.out))).mono ?_
          rintro e w5 ⟨rfl, hb5⟩
          have hv5 : Boxed w5 (w1.heap.size + 1) 39 v := (hb5.block _ hv2.lt).trans hv2
          have hv6 := hv5.cell
          have hv7 := hv5.frozen
          go_simp
          refine hK _ _ ?_
          clear hK K
          refine wpAnyIn_ready (rs := [3]) (by kernel_rfl) (by simp) ?_
          refine AllReadyIn.cons rfl (fun K hK => ?_) AllReadyIn.nil
          go_simp
          refine hK _ _ ?_
          clear hK K
          refine wpAnyIn_ready (rs := [4]) (by kernel_rfl) (by simp) ?_
          refine AllReadyIn.cons rfl (fun K hK => ?_) AllReadyIn.nil
          rw [if_pos (by kernel_rfl)]
          have hB7 : w.heap.size ≤ w5.heap.size := by have h1 := hBwr.size; have h2 := hb5.size; exact Nat.le_trans h1 h2
          have hr5 := OwnsS.next (w := wr.drew) HSt.out hb5
          refine step_append_ownIn _ (.tmp 31) (.tmp 34) 39 rfl w.heap.size 9 i9 (.string ByteArray.empty) 1 16 Tryd.underlying39 hi9 hz9 hz1 hz2 rfl (by decide) v _ _ rfl (World.ownsRow.alloc hr5 _) ⟨w5.heap.size, 0, none⟩ 1 1 [strV (cText s l x.1)] rfl rfl (cell_one_new _ _ _) (by simp [Value.oneCell', strV]) (by rw [List.length_map]; unfold maxLen; omega) (by rw [List.length_map]; omega) (by simp; omega) ?_
          intro v' w6 hown6 hg6
          rw [List.length_map] at hown6
          obtain ⟨g', cap', rfl⟩ := ownsRow_succ hown6
          have hE := chunk_end hBT (wr := wr) ⟨hb5.os, hb5.tape, hb5.output, hb5.size, hb5.block⟩ hBW hv5 (by decide) hr5 hB7 (by omega) hown6 hg6 hbxS hbxN (by omega) (by omega) (by decide) (by decide) hBW.size
          have hs6 := (hv5.appended (by decide) hr5 hB7 (by omega) hown6 hg6).1.cell
          have hs7 := (hv5.appended (by decide) hr5 hB7 (by omega) hown6 hg6).1.frozen
          refine hK _ _ ?_
          clear hK K
          refine wpAnyIn_ready (rs := [5]) (by kernel_rfl) (by simp) ?_
          refine AllReadyIn.cons rfl (fun K hK => ?_) AllReadyIn.nil
          go_simp
          refine hK _ _ ?_
          clear hK K
          refine wpAnyIn_done (by kernel_rfl) ?_ _
          refine ⟨hE.1, hE.2.1, ⟨⟨_, hE.2.2.1, ?_, trivial⟩, ⟨hE.2.2.2.2.1, hE.2.2.2.2.2.1⟩, hE.2.2.2.2.2.2⟩⟩
          rw [List.length_append, List.map_append, List.map_append]
          exact hE.2.2.2.1
        refine AllReadyIn.cons rfl (fun K hK => ?_) AllReadyIn.nil
        go_simp
        refine ⟨trivial, ?_⟩
        refine (CallsIn.inRound lp (callsIn_wide.2 (HJd.out))).mono ?_
        rintro e w5 ⟨rfl, hb5⟩
        have hv5 : Boxed w5 (w1.heap.size + 1) 39 v := (hb5.block _ hv2.lt).trans hv2
        have hv6 := hv5.cell
        have hv7 := hv5.frozen
        have hv8 := (hv5.alloc (.cells #[.string (str (cText s l x.1))] 9)).cell
        go_simp
        refine hK _ _ ?_
        clear hK K
        refine wpAnyIn_ready (rs := [0, 3]) (by kernel_rfl) (by simp) ?_
        refine AllReadyIn.cons rfl (fun K hK => ?_) ?_
        · go_simp
          refine hK _ _ ?_
          clear hK K
          refine wpAnyIn_ready (rs := [3]) (by kernel_rfl) (by simp) ?_
          refine AllReadyIn.cons rfl (fun K hK => ?_) AllReadyIn.nil
          go_simp
          refine hK _ _ ?_
          clear hK K
          refine wpAnyIn_ready (rs := [4]) (by kernel_rfl) (by simp) ?_
          refine AllReadyIn.cons rfl (fun K hK => ?_) AllReadyIn.nil
          rw [if_pos (by kernel_rfl)]
          have hB7 : w.heap.size ≤ w5.heap.size := by have h1 := hBwr.size; have h2 := hb5.size; exact Nat.le_trans h1 h2
          have hr5 := OwnsS.next (w := wr.drew) HSt.out hb5
          refine step_append_ownIn _ (.tmp 31) (.tmp 34) 39 rfl w.heap.size 9 i9 (.string ByteArray.empty) 1 16 Tryd.underlying39 hi9 hz9 hz1 hz2 rfl (by decide) v _ _ rfl (World.ownsRow.alloc hr5 _) ⟨w5.heap.size, 0, none⟩ 1 1 [strV (cText s l x.1)] rfl rfl (cell_one_new _ _ _) (by simp [Value.oneCell', strV]) (by rw [List.length_map]; unfold maxLen; omega) (by rw [List.length_map]; omega) (by simp; omega) ?_
          intro v' w6 hown6 hg6
          rw [List.length_map] at hown6
          obtain ⟨g', cap', rfl⟩ := ownsRow_succ hown6
          have hE := chunk_end hBT (wr := wr) ⟨hb5.os, hb5.tape, hb5.output, hb5.size, hb5.block⟩ hBW hv5 (by decide) hr5 hB7 (by omega) hown6 hg6 hbxS hbxN (by omega) (by omega) (by decide) (by decide) hBW.size
          have hs6 := (hv5.appended (by decide) hr5 hB7 (by omega) hown6 hg6).1.cell
          have hs7 := (hv5.appended (by decide) hr5 hB7 (by omega) hown6 hg6).1.frozen
          refine hK _ _ ?_
          clear hK K
          refine wpAnyIn_ready (rs := [5]) (by kernel_rfl) (by simp) ?_
          refine AllReadyIn.cons rfl (fun K hK => ?_) AllReadyIn.nil
          go_simp
          refine hK _ _ ?_
          clear hK K
          refine wpAnyIn_done (by kernel_rfl) ?_ _
          refine ⟨hE.1, hE.2.1, ⟨⟨_, hE.2.2.1, ?_, trivial⟩, ⟨hE.2.2.2.2.1, hE.2.2.2.2.2.1⟩, hE.2.2.2.2.2.2⟩⟩
          rw [List.length_append, List.map_append, List.map_append]
          exact hE.2.2.2.1
        refine AllReadyIn.cons rfl (fun K hK => ?_) AllReadyIn.nil
        go_simp
        refine hK _ _ ?_
        clear hK K
        refine wpAnyIn_ready (rs := [0]) (by kernel_rfl) (by simp) ?_
        refine AllReadyIn.cons rfl (fun K hK => ?_) AllReadyIn.nil
        go_simp
        refine hK _ _ ?_
        clear hK K
        refine wpAnyIn_ready (rs := [4]) (by kernel_rfl) (by simp) ?_
        refine AllReadyIn.cons rfl (fun K hK => ?_) AllReadyIn.nil
        rw [if_pos (by kernel_rfl)]
        have hB7 : w.heap.size ≤ w5.heap.size := by have h1 := hBwr.size; have h2 := hb5.size; exact Nat.le_trans h1 h2
        have hr5 := OwnsS.next (w := wr.drew) HSt.out hb5
        refine step_append_ownIn _ (.tmp 31) (.tmp 34) 39 rfl w.heap.size 9 i9 (.string ByteArray.empty) 1 16 Tryd.underlying39 hi9 hz9 hz1 hz2 rfl (by decide) v _ _ rfl (World.ownsRow.alloc hr5 _) ⟨w5.heap.size, 0, none⟩ 1 1 [strV (cText s l x.1)] rfl rfl (cell_one_new _ _ _) (by simp [Value.oneCell', strV]) (by rw [List.length_map]; unfold maxLen; omega) (by rw [List.length_map]; omega) (by simp; omega) ?_
        intro v' w6 hown6 hg6
        rw [List.length_map] at hown6
        obtain ⟨g', cap', rfl⟩ := ownsRow_succ hown6
        have hE := chunk_end hBT (wr := wr) ⟨hb5.os, hb5.tape, hb5.output, hb5.size, hb5.block⟩ hBW hv5 (by decide) hr5 hB7 (by omega) hown6 hg6 hbxS hbxN (by omega) (by omega) (by decide) (by decide) hBW.size
        have hs6 := (hv5.appended (by decide) hr5 hB7 (by omega) hown6 hg6).1.cell
        have hs7 := (hv5.appended (by decide) hr5 hB7 (by omega) hown6 hg6).1.frozen
        refine hK _ _ ?_
        clear hK K
        refine wpAnyIn_ready (rs := [5]) (by kernel_rfl) (by simp) ?_
        refine AllReadyIn.cons rfl (fun K hK => ?_) AllReadyIn.nil
        go_simp
        refine hK _ _ ?_
        clear hK K
        refine wpAnyIn_done (by kernel_rfl) ?_ _
        refine ⟨hE.1, hE.2.1, ⟨⟨_, hE.2.2.1, ?_, trivial⟩, ⟨hE.2.2.2.2.1, hE.2.2.2.2.2.1⟩, hE.2.2.2.2.2.2⟩⟩
        rw [List.length_append, List.map_append, List.map_append]
        exact hE.2.2.2.1
  case done =>
    rintro D ys W hD hys ⟨⟨v, hv, hrow, _⟩, _, hBW⟩ hK
    have hvc := hv.cell
    have hyl : ys.length = st := by have := congrArg List.length hys; rw [List.length_map, List.length_range] at this; exact this
    have hct : ys.map (fun x : Bel st => cText s l x.1) = cTexts s l st := by
      unfold cTexts; rw [← hys, List.map_map]; rfl
    rw [hct, hyl] at hrow
    have HO : OwnsS W w.heap.size v (cTexts s l st) := by unfold OwnsS; rw [cTexts_len]; exact hrow
    have hJl : (Lib.join (cTexts s l st) [59]).length ≤ 44001000 := by
      have h1 := join_len (c := 59) (K := 44000) (xs := cTexts s l st) (fun x hx => by
        unfold cTexts at hx
        obtain ⟨k, hk, rfl⟩ := List.mem_map.1 hx
        have hk2 := List.mem_range.1 hk
        have hm := Nat.mul_le_mul_right s (show k + 1 ≤ st from hk2)
        rw [Nat.add_mul, Nat.one_mul, ← HM.out] at hm
        have := joinT_len (l := l) (i0 := k * s) s (fun j hj => rAt_len HF.out (by have := HR.out.1; omega))
        unfold cText
        omega)
      rw [cTexts_len] at h1
      omega
    rcases HO.shape with ⟨_, e⟩ | ⟨g, c9, rfl, _, hg, hnc9, hcm9, hcl⟩
    · have := congrArg List.length e
      rw [cTexts_len, List.length_nil] at this
      omega
    have hJ := Tryd.strings_Join g 0 c9 ((cTexts s l st).map str) ⟨#[59]⟩ W (fun j x hx => by
      rw [Nat.zero_add]
      have hj : j < (cTexts s l st).length := by
        rcases Nat.lt_or_ge j (cTexts s l st).length with h | h
        · exact h
        · rw [List.getElem?_eq_none (by rwa [List.length_map])] at hx; cases hx
      rw [hcl j hj]
      rw [List.getElem?_map, List.getElem?_eq_getElem hj] at hx
      injection hx with hx
      rw [gets_eq hj, ← hx]; rfl) hg (by rw [List.length_map, cTexts_len]; omega) (by rw [List.length_map]; exact hnc9) (by rw [strs_data]; show (Lib.join (cTexts s l st) [59]).length ≤ _; omega)
    rw [strs_data, List.length_map] at hJ
    rw [cTexts_len] at hJ hvc
    have HJ := Lib.hid hJ
    clear hcl hJ HO hrow hct hyl hys hv
    gi_wp2_with (refine ⟨trivial, ?_⟩; gi_at_call 16; refine (callsIn_wide.2 HJ.out).mono ?_; rintro e w5 ⟨rfl, hb5⟩)
    have hK5 := (hb5.block D (Array.getElem?_eq_some_iff.1 hK).1).trans hK
    refine ⟨by simp, .inl ⟨_, _, rfl, run_takeDeferred hK5, ?_⟩⟩
    exact ⟨_, results_tmp rfl _ _ _, rfl, (below_next hBW hb5).trans (belowK_b (w := w) (Nat.le_refl _) w5 D _ _ (by omega) hK5 rfl rfl)⟩
  case stop =>
    rintro D c pre W _ _ h _
    exact h.elim
end Go.Proofs.YtcjcbgmgepohaaaDoor
