/- PowerWord: contracts of l03Power, slices.Repeat. No condition beyond the stated bounds. -/
import Derived.Test.YtndddmichogaoaaCat
import Derived.Test.YtndddmichogaoaaValid
import Derived.Test.YtndddmichogaoaaPlainOcc
import Derived.Test.YtndddmichogaoaaNat1
import Derived.Test.YtndddmichogaoaaShelf
import Derived.Laws.CopyOwn
import Derived.Deep.RegionLaw
namespace Go.Proofs.Ytndddmichogaoaa
open Go.RowKit
theorem powL_add (l : List Int) (a : Nat) : ∀ b, powL l (a + b) = powL l a ++ powL l b
  | 0 => by simp [powL]
  | b + 1 => by rw [← Nat.add_assoc, powL, powL_add l a b, powL, List.append_assoc]
/-- The row of Repeat when its first m elements are filled. -/
def repRow (T : List Int) (m : Nat) : List Int := T.take m ++ List.replicate (T.length - m) 0
theorem repRow_len {T : List Int} {m : Nat} (h : m ≤ T.length) : (repRow T m).length = T.length := by unfold repRow; simp; omega
theorem repRow_all (T : List Int) : repRow T T.length = T := by unfold repRow; simp
theorem repRow_take {T : List Int} {m k : Nat} (h : k ≤ m) (hm : m ≤ T.length) : (repRow T m).take k = T.take k := by
  unfold repRow
  rw [List.take_append, List.take_take, Nat.min_eq_left h, List.length_take, Nat.min_eq_left hm, show k - m = 0 by omega]
  simp
theorem repRow_step {T : List Int} {m k : Nat} (h : m + k ≤ T.length) (hp : T.take (m + k) = T.take m ++ T.take k) :
    splice (repRow T m) m (T.take k) = repRow T (m + k) := by
  unfold splice repRow
  rw [hp, List.length_take, Nat.min_eq_left (show k ≤ T.length by omega)]
  rw [List.take_append, List.take_take, Nat.min_self, List.length_take, Nat.min_eq_left (show m ≤ T.length by omega), Nat.sub_self]
  rw [List.drop_append, List.length_take, Nat.min_eq_left (show m ≤ T.length by omega), List.drop_eq_nil_of_le (by rw [List.length_take]; omega)]
  simp only [List.take_zero, List.append_nil, List.nil_append, List.drop_replicate, List.append_assoc]
  congr 3
  omega
theorem pow_per {l : List Int} {n m k : Nat} (hm : m % l.length = 0) (h : m + k ≤ (powL l n).length) (hkm : k ≤ m ∨ m = 0 ) : (powL l n).take (m + k) = (powL l n).take m ++ (powL l n).take k := by
  rw [powL_len] at h
  rcases Nat.eq_zero_or_pos l.length with h0 | h0
  · rw [h0] at h
    have h1 : m = 0 := by omega
    have h2 : k = 0 := by omega
    subst h1 h2; simp
  · obtain ⟨q, rfl⟩ : ∃ q, m = q * l.length := ⟨m / l.length, by have := Nat.div_add_mod m l.length; rw [Nat.mul_comm]; omega⟩
    have hq : q ≤ n := by
      rcases Nat.lt_or_ge n q with h1 | h1
      · have := Nat.mul_le_mul_right l.length (show n + 1 ≤ q by omega)
        rw [Nat.succ_mul] at this; omega
      · exact h1
    obtain ⟨b, rfl⟩ : ∃ b, n = q + b := ⟨n - q, by omega⟩
    have e1 : powL l (q + b) = powL l q ++ powL l b := powL_add l q b
    have e2 : powL l (q + b) = powL l b ++ powL l q := by rw [Nat.add_comm]; exact powL_add l b q
    have hl := powL_len l q
    have hb := powL_len l b
    rw [Nat.add_mul] at h
    have t1 : (powL l (q + b)).take (q * l.length) = powL l q := by rw [e1, ← hl]; simp
    have t2 : (powL l (q + b)).take k = (powL l b).take k := by
      rw [e2, List.take_append, show k - (powL l b).length = 0 by omega]; simp
    rw [t1, t2, e1, List.take_append, hl, List.take_of_length_le (by omega)]
    congr 2
    omega
theorem splice_map (L : List Int) (m : Nat) (cs : List Int) : splice (L.map (Value.int .i64)) m (cs.map (Value.int .i64)) = (splice L m cs).map (Value.int .i64) := by
  unfold splice; simp [List.map_take, List.map_drop]
theorem Owns.whole {w : World} {base g n : Nat} {l : List Int} (h : Owns w base (.slice (some ⟨g, 0, none⟩) n n) l) : w.heap[g]? = some (.cells (l.map (Value.int .i64)).toArray 2 (0, 0)) ∧ base ≤ g ∧ l.length = n ∧ n ≤ maxLen := by
  have hn := h.len
  rcases h.2 with ⟨h', _⟩ | ⟨g', cap', cur, h', hb, hg, hnc, hcm, hcs, htake⟩
  · simp at h'
  · simp only [Value.slice.injEq, Option.some.injEq, Addr.mk.injEq] at h'
    obtain ⟨⟨rfl, _⟩, h1, rfl⟩ := h'
    refine ⟨?_, hb, hn, hcm⟩
    rw [hg]
    have : cur.toList = l.map (Value.int .i64) := by
      rw [← htake, List.take_of_length_le (by simp; omega)]
    rw [← this]
theorem Owns.ofWhole {w : World} {base g : Nat} {l : List Int} (hg : w.heap[g]? = some (.cells (l.map (Value.int .i64)).toArray 2 (0, 0))) (hb : base ≤ g) (hm : l.length ≤ maxLen) : Owns w base (.slice (some ⟨g, 0, none⟩) l.length l.length) l := by
  refine ⟨by simp, .inr ⟨g, l.length, _, rfl, hb, hg, Nat.le_refl _, hm, by simp, ?_⟩⟩
  rw [List.take_of_length_le (by simp)]
theorem cells_of_block {w : World} {g o : Nat} {l : List Int} (hg : w.heap[g]? = some (.cells (l.map (Value.int .i64)).toArray 2 (0, 0))) {cs : List Int} (hcs : (l.drop o).take cs.length = cs) :
    ∀ j v, (cs.map (Value.int .i64))[j]? = some v → w.cell? ((⟨g, o, none⟩ : Addr).add j) = some v := by
  intro j v hv
  have hj : j < cs.length := by
    rcases Nat.lt_or_ge j cs.length with h | h
    · exact h
    · rw [List.getElem?_eq_none (by simpa using h)] at hv; cases hv
  rw [show (⟨g, o, none⟩ : Addr).add j = ⟨g, o + j, none⟩ by unfold Addr.add; split <;> simp_all, Lib.cell_of_heap hg]
  rw [List.getElem?_toArray, List.getElem?_map]
  rw [List.getElem?_map] at hv
  rw [← hv]
  congr 1
  have : (l.drop o)[j]? = cs[j]? := by
    conv => rhs; rw [← hcs]
    rw [List.getElem?_take, if_pos hj]
  rw [← this, List.getElem?_drop]
theorem l03Power_any (v : Value) (l : List Int) (n : Nat) (w : World) (h : Sl w v l) (hn : n * l.length ≤ 1000000) (hn2 : n ≤ 1000000) :
    Calls Try.prog 68 #[v, .int .i64 (n : Int)] w (RetOwn w (powL l n)) := by
  have HS := Lib.hid h
  clear h
  have HO := Lib.hid (Owns.empty w w.heap.size (Nat.le_refl _))
  have hB0 : Below w.heap.size w (w.alloc (.cells #[] 2)) := (Below.refl _ _).alloc (Nat.le_refl _) _
  go_enter Try.func68, Try.ntmps68
  go_wp2_with fail
  go_loopw [1, 5] (fun i u wr => ∃ j k : Nat, j + k = n ∧ i = .int .i64 (j : Int) ∧ Hid (Owns wr w.heap.size u (powL l k)) ∧ Below w.heap.size w wr) (fun i _ _ => (intOf i).toNat)
  case atStart => exact ⟨n, 0, rfl, rfl, HO, hB0⟩
  case round =>
    clear HO hB0
    obtain ⟨j, k, hjk, rfl, HO, hB⟩ := hrel
    have HL := powL_len l k
    have hkl : (powL l k).length + l.length ≤ 1000000 ∨ j = 0 := by
      rcases Nat.eq_zero_or_pos j with h0 | h0
      · exact .inr h0
      · left
        have := Nat.mul_le_mul_right l.length (show k + 1 ≤ n by omega)
        rw [Nat.succ_mul] at this
        omega
    clear HL
    by_cases h0 : 0 < j
    · have hkl2 : (powL l k).length + l.length ≤ 1000000000 := by omega
      clear hkl
      have e1 : (0 : Int) < (j : Int) := by omega
      go_wp2_with (at_builtin; refine wpList_cat rfl _ _ rfl w.heap.size _ (powL l k) rfl HO.out _ l rfl (HS.out.next hB) hkl2 hB.size ?_; intro v1 w1 o1 hg1 _)
      have hB1 := hB.grown hg1 hB.size (fun k hk => (HO.out.lt k hk).1)
      have HO1 : Hid (Owns w1 w.heap.size v1 (powL l (k + 1))) := Lib.hid o1
      clear o1 hg1
      go_wp2_with fail
      go_roundw
      case rel => exact ⟨j - 1, k + 1, by omega, by go_num, HO1, hB1⟩
      case measure => simp [intOf] <;> omega
    · obtain rfl : j = 0 := by omega
      obtain rfl : k = n := by omega
      have hd : decide ((0 : Int) < ((0 : Nat) : Int)) = false := by simp
      clear hkl
      go_wp2_with fail
      go_ret
      exact ⟨_, rfl, HO.out, hB⟩
theorem sl_cells {w : World} {A : Option Addr} {n c : Nat} {src : List Int} (h : Sl w (.slice A n c) src) : src.length = n ∧ (0 < n → ∃ ad, A = some ad ∧ ∀ k, k ≤ n → ∀ j v, ((src.take k).map (Value.int .i64))[j]? = some v → w.cell? (ad.add j) = some v) := by
  obtain ⟨A', c', e, _, _, hr⟩ := h
  simp only [Value.slice.injEq] at e
  obtain ⟨rfl, rfl, rfl⟩ := e
  refine ⟨rfl, fun h0 => ?_⟩
  obtain ⟨ad, rfl, _, hc⟩ := hr.2 h0
  refine ⟨ad, rfl, fun k hk j v hv => ?_⟩
  have hj : j < k := by
    rcases Nat.lt_or_ge j k with h | h
    · exact h
    · rw [List.getElem?_eq_none (by simp; omega)] at hv; cases hv
  rw [List.map_take, List.getElem?_take, if_pos hj, getD_map_int src j (by omega)] at hv
  rw [hc j (by omega)]; exact hv
theorem Try.sizeI : (Try.prog.info? 2).map (·.size) = some 1 := by kernel_rfl
theorem wpList_copy_ints {ops : Array Oper} {rest : List Oper} {o : Oper} {a : Act} {Q : Exit → Act → World → Prop} {wr : World} (hgd : o.guard = none) (d s : Operand)
    (ho : o.op = .call { callee := .builtin .copy, args := #[d, s], argTypes := #[22, 22] }) (g off dLen dCap : Nat) (cur src : List Int) (A : Option Addr) (sLen sCap : Nat)
    (hd : a.eval d = .slice (some ⟨g, off, none⟩) dLen dCap) (hs : a.eval s = .slice A sLen sCap) (hsl : Sl wr (.slice A sLen sCap) src)
    (hg : wr.heap[g]? = some (.cells (cur.map (Value.int .i64)).toArray 2 (0, 0))) (hlen : off + dLen ≤ cur.length) (B : Nat) (w0 : World) (hb : Below B w0 wr) (hBg : B ≤ g)
    (h : ∀ w', Hid (w'.heap[g]? = some (.cells ((splice cur off (src.take dLen)).map (Value.int .i64)).toArray 2 (0, 0))) → Below B w0 w' → wpList Try.prog ops Q rest (a.put o.dst (.int .i64 ((min src.length dLen : Nat) : Int))) w') :
    wpList Try.prog ops Q (o :: rest) a wr := by
  obtain ⟨hl, hc⟩ := sl_cells hsl
  have hcl : ((src.take dLen).map (Value.int .i64)).length = Nat.min sLen dLen := by rw [List.length_map, List.length_take, ← hl, Nat.min_comm]
  refine wpList_copy_splice hgd d s _ _ ho 2 Try.underlying22 Try.sizeI _ _ dLen dCap sLen sCap hd hs g off (cur.map (Value.int .i64)) 2 hg ((src.take dLen).map (Value.int .i64)) hcl (fun h0 => ?_) ?_ (ints_oneCell .i64 _) B w0 hb hBg ?_
  · have : 0 < sLen := by
      rw [List.length_map, List.length_take] at h0; omega
    obtain ⟨ad, rfl, hcc⟩ := hc this
    refine ⟨rfl, ad, rfl, ?_⟩
    rcases Nat.le_total dLen sLen with h1 | h1
    · exact hcc dLen h1
    · have e : src.take dLen = src.take sLen := by rw [List.take_of_length_le (by omega), List.take_of_length_le (by omega)]
      rw [e]
      exact hcc sLen (Nat.le_refl _)
  · have : Nat.min sLen dLen ≤ dLen := Nat.min_le_right _ _
    rw [hcl, List.length_map]; omega
  · intro w' hw hb'
    have := h w' (by rw [splice_map] at hw; exact hw) hb'
    rw [hcl]
    rw [hl] at this
    exact this
theorem step_copy_ints {ops : Array Oper} {o : Oper} {a : Act} {wr : World} {K : Act → World → Prop} {Q : Exit → Act → World → Prop} {E : Prop} (hgd : o.guard = none) (d s : Operand)
    (ho : o.op = .call { callee := .builtin .copy, args := #[d, s], argTypes := #[22, 22] }) (g off dLen dCap : Nat) (cur src : List Int) (A : Option Addr) (sLen sCap : Nat)
    (hd : a.eval d = .slice (some ⟨g, off, none⟩) dLen dCap) (hs : a.eval s = .slice A sLen sCap) (hsl : Sl wr (.slice A sLen sCap) src)
    (hg : wr.heap[g]? = some (.cells (cur.map (Value.int .i64)).toArray 2 (0, 0))) (hlen : off + dLen ≤ cur.length) (B : Nat) (w0 : World) (hb : Below B w0 wr) (hBg : B ≤ g)
    (h : ∀ w', Hid (w'.heap[g]? = some (.cells ((splice cur off (src.take dLen)).map (Value.int .i64)).toArray 2 (0, 0))) → Below B w0 w' → K (a.put o.dst (.int .i64 ((min src.length dLen : Nat) : Int))) w') :
    if Region.wanted o (yielded ops a.tmps) = true then Oper.wp Try.prog o a wr K Q else E := by
  obtain ⟨hl, hc⟩ := sl_cells hsl
  have hcl : ((src.take dLen).map (Value.int .i64)).length = Nat.min sLen dLen := by rw [List.length_map, List.length_take, ← hl, Nat.min_comm]
  refine step_copy_splice hgd d s _ _ ho 2 Try.underlying22 Try.sizeI _ _ dLen dCap sLen sCap hd hs g off (cur.map (Value.int .i64)) 2 hg ((src.take dLen).map (Value.int .i64)) hcl (fun h0 => ?_) ?_ (ints_oneCell .i64 _) B w0 hb hBg ?_
  · have : 0 < sLen := by
      rw [List.length_map, List.length_take] at h0; omega
    obtain ⟨ad, rfl, hcc⟩ := hc this
    refine ⟨rfl, ad, rfl, ?_⟩
    rcases Nat.le_total dLen sLen with h1 | h1
    · exact hcc dLen h1
    · have e : src.take dLen = src.take sLen := by rw [List.take_of_length_le (by omega), List.take_of_length_le (by omega)]
      rw [e]
      exact hcc sLen (Nat.le_refl _)
  · have : Nat.min sLen dLen ≤ dLen := Nat.min_le_right _ _
    rw [hcl, List.length_map]; omega
  · intro w' hw hb'
    have := h w' (by rw [splice_map] at hw; exact hw) hb'
    rw [hcl]
    rw [hl] at this
    exact this
theorem mul_any (x y : Nat) (hx : x < 18446744073709551616) (hy : y < 18446744073709551616) (hm : x * y < 18446744073709551616) (w : World) :
    Calls Try.prog 82 #[.int .u64 (x : Int), .int .u64 (y : Int)] w fun e w' => e = .returned (.tuple #[.int .u64 0, .int .u64 ((x * y : Nat) : Int)]) ∧ w = w' :=
  (Try.bits_Mul x y hx hy w).mono fun _ _ ⟨he, hw⟩ => ⟨by rw [he, Nat.div_eq_of_lt hm, Nat.mod_eq_of_lt hm]; rfl, hw.symm⟩
theorem pow_one {l : List Int} {n : Nat} : (powL l n).take (min l.length (powL l n).length) = l.take (powL l n).length := by
  rw [powL_len]
  rcases n with _ | n
  · simp [powL]
  · have e : powL l (n + 1) = l ++ powL l n := by
      rw [Nat.add_comm, powL_add]
      simp [powL]
    have h1 : l.length ≤ (n + 1) * l.length := by rw [Nat.succ_mul]; omega
    rw [Nat.min_eq_left h1, e, List.take_of_length_le h1]
    simp
set_option maxHeartbeats 1000000 in
theorem repeat_any (v : Value) (l : List Int) (n : Nat) (w : World) (h : Sl w v l) (hn : n * l.length ≤ 1000) (hn2 : n ≤ 1000) (hl : l.length ≤ 1000) :
    Calls Try.prog 70 #[v, .int .i64 (n : Int)] w (RetOwn w (powL l n)) := by
  obtain ⟨i0, hi0, hz0, hz1, hz2⟩ := info_parts Try.infoI
  have HS := Lib.hid h
  obtain ⟨A, c, rfl, hlc, hcm, hr⟩ := h
  clear hr
  unfold maxLen at hcm
  have HT := Lib.hid (powL_len l n)
  have HP1 := Lib.hid (@pow_one l n)
  have HPER : Hid (∀ m k, m % l.length = 0 → m + k ≤ (powL l n).length → (k ≤ m ∨ m = 0) → (powL l n).take (m + k) = (powL l n).take m ++ (powL l n).take k) := Lib.hid (fun m k a b c => pow_per a b c)
  generalize powL l n = T at *
  have hTl : T.length ≤ 1000 := by have := HT.out; omega
  have hd0 : decide ((n : Int) < 0) = false := decide_eq_false (by omega)
  have hmul : Hid (l.length * n = T.length) := Lib.hid (by rw [HT.out, Nat.mul_comm])
  go_enter Try.func70, Try.ntmps70
  go_wp2_with fail
  refine (mul_any l.length n (by omega) (by omega) (by rw [hmul.out]; omega) _).mono ?_
  rintro e _ ⟨rfl, rfl⟩
  rw [hmul.out]
  have t2 : decide ((9223372036854775807 : Int) < (T.length : Int)) = false := decide_eq_false (by omega)
  go_wp2_with (first
    | (at_make; refine wpList_make_full _ rfl _ _ 22 rfl w.heap.size 2 i0 _ 1 Try.underlying22 hi0 hz0 hz1 _ _ _ _ T.length rfl rfl (by omega) (by omega) (by rw [hz2]; omega) (by unfold maxLen; omega) (Nat.le_refl _) ?_; intro w1 hown hg; (have HG1 : Hid (Owns w1 w.heap.size (.slice (some ⟨w.heap.size, 0, none⟩) T.length T.length) (List.replicate T.length 0)) := Lib.hid (by unfold Owns; rw [made_ints] at hown; simpa using hown)); (have hB1 : Below w.heap.size w w1 := (Below.refl _ _).grown hg (Nat.le_refl _) (by simp)); clear hown hg)
    | (refine wpList_copy_ints rfl (.tmp 31) (.tmp 32) rfl w.heap.size 0 T.length T.length (List.replicate T.length 0) l A l.length c rfl rfl (HS.out.next hB1) HG1.out.whole.1 (by simp) w.heap.size w hB1 (Nat.le_refl _) ?_; intro w2 HW hB2))
  have HG2 : Hid (w2.heap[w.heap.size]? = some (.cells ((repRow T (min l.length T.length)).map (Value.int .i64)).toArray 2 (0, 0))) := Lib.hid (by
    have h1 := HW.out
    have h2 := repRow_step (T := T) (m := 0) (k := min l.length T.length) (by omega) (by simp)
    rw [HP1.out] at h2
    rw [Nat.zero_add] at h2
    rw [← h2]
    have h3 : repRow T 0 = List.replicate T.length 0 := by unfold repRow; simp
    rw [h3]
    exact h1)
  have hm0 : Hid (min l.length T.length % l.length = 0 ∧ (0 < min l.length T.length ∨ T.length = 0)) := Lib.hid (by
    have h1 := HT.out
    rcases Nat.eq_zero_or_pos n with h0 | h0
    · subst h0; rw [Nat.zero_mul] at h1; rw [h1]; simp
    · have h2 : l.length ≤ T.length := by rw [h1]; have := Nat.mul_le_mul_right l.length (show 1 ≤ n by omega); omega
      rw [Nat.min_eq_left h2, Nat.mod_self]
      refine ⟨rfl, ?_⟩
      rcases Nat.eq_zero_or_pos l.length with h3 | h3
      · right; rw [h1, h3]; rfl
      · exact .inl h3)
  clear HW HG1 hB1 HP1 t2 hd0
  go_loopw [8] (fun i wr => ∃ m : Nat, m ≤ T.length ∧ i = .int .i64 (m : Int) ∧ Hid (m % l.length = 0 ∧ (0 < m ∨ T.length = 0)) ∧ Hid (wr.heap[w.heap.size]? = some (.cells ((repRow T m).map (Value.int .i64)).toArray 2 (0, 0))) ∧ Below w.heap.size w wr) (fun i _ => T.length - (intOf i).toNat)
  case atStart => exact ⟨min l.length T.length, by omega, rfl, hm0, HG2, hB2⟩
  case round =>
    clear hm0 HG2 hB2
    obtain ⟨m, hm, rfl, HM, HG, hB⟩ := hrel
    by_cases hlt : m < T.length
    · have hm1 : 0 < m := by have := HM.out.2; omega
      have e0 : (0 : Int) ≤ (m : Int) := by omega
      have e1 : (m : Int) < (T.length : Int) := by omega
      have e2 : (m : Int) ≤ (T.length : Int) := by omega
      have hS : Hid (Sl wr.drew (.slice (some ⟨w.heap.size, 0, none⟩) m T.length) (T.take m)) := Lib.hid (by
        have h1 := Owns.ofWhole HG.out (Nat.le_refl _) (by rw [repRow_len hm]; unfold maxLen; omega)
        have h2 := Owns.cut h1 (k := m) (by rw [repRow_len hm]; exact hm)
        rw [repRow_take (Nat.le_refl _) hm, repRow_len hm] at h2
        exact h2.drew.sl)
      go_wp2_with fail
      have hne1 : ¬ T.length = m := by omega
      have hne2 : ¬ m = 0 := by omega
      go_region_law ((refine step_copy_ints rfl (.tmp 41) (.tmp 44) rfl w.heap.size m (T.length - m) (T.length - m) (repRow T m) (T.take m) (some ⟨w.heap.size, 0, none⟩) m T.length (by simp [Act.eval, Act.put]) (by simp [Act.eval, Act.put]) (by exact hS.out) HG.out (by rw [repRow_len hm]; omega) w.heap.size w hB.drew (Nat.le_refl _) ?_; intro w3 HW hB3))
      have HN : Hid (w3.heap[w.heap.size]? = some (.cells ((repRow T (m + min m (T.length - m))).map (Value.int .i64)).toArray 2 (0, 0))) := Lib.hid (by
        have h1 := HW.out
        rw [List.take_take, Nat.min_comm] at h1
        rw [repRow_step (by omega) (HPER.out m _ HM.out.1 (by omega) (.inl (by omega)))] at h1
        exact h1)
      have HM2 : Hid ((m + min m (T.length - m)) % l.length = 0 ∧ (0 < m + min m (T.length - m) ∨ T.length = 0)) := Lib.hid (by
        refine ⟨?_, .inl (by omega)⟩
        rcases Nat.le_total m (T.length - m) with h1 | h1
        · rw [Nat.min_eq_left h1, Nat.add_mod, HM.out.1]; simp
        · rw [Nat.min_eq_right h1, show m + (T.length - m) = T.length by omega, HT.out]; simp)
      have hk0 : 0 < min m (T.length - m) := by omega
      have hk1 : min m (T.length - m) ≤ T.length - m := by omega
      generalize min m (T.length - m) = k at *
      clear HW hne1 hne2 hS
      go_frame
      rw [IntWalk.i64_in _ (by omega)]
      go_roundw
      case rel => first | exact ⟨m + k, by omega, by go_num, HM2, HN, hB3⟩ | ((repeat apply Exists.intro); exact ⟨⟨m + k, by omega, by go_num, HM2, HN, hB3⟩, rfl⟩)
      case measure => simp [intOf] <;> omega
    · obtain rfl : m = T.length := by omega
      have HF : Hid (Owns wr w.heap.size (.slice (some ⟨w.heap.size, 0, none⟩) T.length T.length) T) := Lib.hid (by
        have h1 := HG.out
        rw [repRow_all] at h1
        exact Owns.ofWhole h1 (Nat.le_refl _) (by unfold maxLen; omega))
      have hd : decide ((T.length : Int) < (T.length : Int)) = false := by simp
      go_wp2_with fail
      go_ret
      exact ⟨_, rfl, HF.out, hB⟩
end Go.Proofs.Ytndddmichogaoaa
