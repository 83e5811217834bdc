/- Slices of slices of integers that a call makes: the contracts of szInt64SS, toInt64SS, eqInt64SS, markInt64SS. No condition beyond the stated bounds. -/
import Derived.Test.YtanjpkcacgjgfaaMany
import Derived.Test.YtanjpkcacgjgfaaCat
import Derived.Deep.RegionHeld3
namespace Go.Proofs.Ytanjpkcacgjgfaa
open Go.RowKit
/-- How many elements there are in all lists together. -/
def totL : List (List Int) → Nat
  | [] => 0
  | l :: t => l.length + totL t
theorem totL_append : ∀ (a b : List (List Int)), totL (a ++ b) = totL a + totL b
  | [], b => by simp [totL]
  | l :: t, b => by rw [List.cons_append, totL, totL, totL_append t b]; omega
theorem getl_eq {ls : List (List Int)} {k : Nat} (h : k < ls.length) : getl ls k = ls[k] := by
  unfold getl; rw [List.getD_eq_getElem?_getD, List.getElem?_eq_getElem h]; rfl
theorem totL_take {ls : List (List Int)} {k : Nat} (h : k < ls.length) : totL (ls.take (k + 1)) = totL (ls.take k) + (getl ls k).length := by
  rw [List.take_succ_eq_append_getElem h, totL_append, getl_eq h]; simp [totL]
theorem totL_le (ls : List (List Int)) (k : Nat) : totL (ls.take k) ≤ totL ls := by
  have := totL_append (ls.take k) (ls.drop k)
  rw [List.take_append_drop] at this
  omega
theorem totL_mem {ls : List (List Int)} {k : Nat} (h : k < ls.length) : (getl ls k).length ≤ totL ls := by
  have h1 := totL_take h
  have h2 := totL_le ls (k + 1)
  omega
theorem getv_eq {vs : List Value} {k : Nat} (h : k < vs.length) : vs[k]? = some (getv vs k) := by
  unfold getv; rw [List.getD_eq_getElem?_getD, List.getElem?_eq_getElem h]; rfl
theorem getv_append_lt {vs us : List Value} {k : Nat} (h : k < vs.length) : getv (vs ++ us) k = getv vs k := by
  unfold getv; rw [List.getD_eq_getElem?_getD, List.getD_eq_getElem?_getD, List.getElem?_append_left h]
theorem getv_append_at (vs us : List Value) (u : Value) : getv (vs ++ u :: us) vs.length = u := by
  unfold getv; simp
/-- How many elements may still come. -/
def szJ (left : Int) (n : Nat) : Int := if left < (n : Int) then -1 else left - (n : Int)
/-- What szInt64SS leaves: a number that is not negative only if the lists are not too many or too long. -/
def SzPost (ls : List (List Int)) (w : World) (e : Ending) (w' : World) : Prop := ∃ r : Int, e = .returned (.int .i64 r) ∧ -1 ≤ r ∧ (0 ≤ r → ls.length + totL ls ≤ 1048576) ∧ w = w'
theorem szRow_any (A : Option Addr) (n c : Nat) (left : Int) (w : World) (h0 : 0 ≤ left) (h1 : left ≤ 1048576) (hn : n ≤ c) (hc : c ≤ maxLen) :
    Calls Try.prog 79 #[.slice A n c, .int .i64 left] w fun e w' => e = .returned (.int .i64 (szJ left n)) ∧ w = w' := by
  unfold maxLen at hc
  by_cases h : left < (n : Int)
  · have HF : Hid (szJ left n = -1) := Lib.hid (by unfold szJ; rw [if_pos h])
    have hd : decide (left - (n : Int) < 0) = true := decide_eq_true (by omega)
    go_enter Try.func79, Try.ntmps79
    go_wp2
    go_ret
    exact ⟨ret_int HF.out.symm, rfl⟩
  · have HF : Hid (szJ left n = left - (n : Int)) := Lib.hid (by unfold szJ; rw [if_neg h])
    have hd : decide (left - (n : Int) < 0) = false := decide_eq_false (by omega)
    go_enter Try.func79, Try.ntmps79
    go_wp2
    go_ret
    exact ⟨ret_int HF.out.symm, rfl⟩
theorem szInt64SS_any (v : Value) (ls : List (List Int)) (w : World) (h : SlL w v ls) :
    Calls Try.prog 46 #[v, .int .i64 1048576] w (SzPost ls w) := by
  obtain ⟨A, c, vs, rfl, hlc, hcm, h3, h4⟩ := h
  have H3 := Lib.hid h3
  have H4 := Lib.hid h4
  clear h3 h4
  unfold maxLen at hcm
  by_cases hbig : (1048576 : Int) < (ls.length : Int)
  · have hd : decide ((1048576 : Int) - (ls.length : Int) < 0) = true := decide_eq_true (by omega)
    go_enter Try.func46, Try.ntmps46
    go_wp2
    go_ret
    exact ⟨-1, rfl, by omega, by omega, rfl⟩
  · have hd : decide ((1048576 : Int) - (ls.length : Int) < 0) = false := decide_eq_false (by omega)
    go_enter Try.func46, Try.ntmps46
    go_wp2_with fail
    go_loop [1, 5] (fun t i => ∃ (k : Nat) (L : Int), k ≤ ls.length ∧ i = .int .i64 k ∧ t = .int .i64 L ∧ 0 ≤ L ∧ L ≤ 1048576 ∧ Hid (L + (totL (ls.take k) : Int) + (ls.length : Int) = 1048576)) (fun _ i => ls.length - (intOf i).toNat)
    case atStart => exact ⟨0, _, Nat.zero_le _, rfl, rfl, by omega, by omega, Lib.hid (by simp [totL])⟩
    case round =>
      obtain ⟨k, L, hk, rfl, rfl, hL0, hL1, HT⟩ := hrel
      by_cases hlt : k < ls.length
      · obtain ⟨ad, rfl, hb1, hc⟩ := H3.out (by omega)
        have hck := hc k hlt
        obtain ⟨A2, c2, he, hl2, hc2, _⟩ := H4.out k hlt
        rw [he] at hck
        have HTK := Lib.hid (totL_take hlt)
        clear hc he
        by_cases hn : L < ((getl ls k).length : Int)
        · have HF : Hid (szJ L (getl ls k).length = -1) := Lib.hid (by unfold szJ; rw [if_pos hn])
          go_wp2_with fail
          refine (szRow_any _ _ _ _ _ hL0 hL1 hl2 hc2).mono ?_
          rintro e w' ⟨rfl, rfl⟩
          rw [HF.out]
          go_wp2_with fail
          go_ret
          exact ⟨-1, rfl, by omega, by omega, rfl⟩
        · have HF : Hid (szJ L (getl ls k).length = L - ((getl ls k).length : Int)) := Lib.hid (by unfold szJ; rw [if_neg hn])
          have hd2 : decide (L - ((getl ls k).length : Int) < 0) = false := decide_eq_false (by omega)
          go_wp2_with fail
          refine (szRow_any _ _ _ _ _ hL0 hL1 hl2 hc2).mono ?_
          rintro e w' ⟨rfl, rfl⟩
          rw [HF.out]
          go_wp2_with fail
          go_round
          case rel => exact ⟨k + 1, _, by omega, by go_num, rfl, by omega, by omega, Lib.hid (by have := HT.out; rw [HTK.out]; omega)⟩
          case measure => simp [intOf] <;> omega
      · have hE : Hid (ls.length + totL ls ≤ 1048576) := Lib.hid (by
          have := HT.out
          rw [List.take_of_length_le (by omega)] at this
          omega)
        go_wp2_with fail
        go_ret
        exact ⟨L, rfl, by omega, fun _ => hE.out, rfl⟩
/-- A slice of slices of the call's own: all its blocks lie from base to below top, apart from each other. -/
structure OwnLL (w : World) (base top g : Nat) (vs : List Value) (v : Value) (ls : List (List Int)) : Prop where
  val : v = .slice (some ⟨g, 0, none⟩) ls.length ls.length
  tp : top ≤ w.heap.size
  lo : base ≤ g
  hi : g < top
  num : vs.length = ls.length
  short : ls.length ≤ maxLen
  row : w.ownsRow base 39 1 v ls.length vs
  rows : ∀ j, j < ls.length → Fresh w base (getv vs j) (getl ls j)
  lie : ∀ j k, j < ls.length → blk (getv vs j) = some k → g < k ∧ k < top
  apart : ∀ i j k, i < j → j < ls.length → blk (getv vs i) = some k → blk (getv vs j) ≠ some k
theorem OwnLL.sl {w : World} {base top g : Nat} {vs : List Value} {v : Value} {ls : List (List Int)} (h : OwnLL w base top g vs v ls) : SlL w v ls := by
  refine ⟨some ⟨g, 0, none⟩, ls.length, vs, h.val, Nat.le_refl _, h.short, fun _ => ⟨⟨g, 0, none⟩, rfl, Nat.lt_of_lt_of_le h.hi h.tp, fun j hj => ?_⟩, fun j hj => (h.rows j hj).sl⟩
  exact World.ownsRow.cells h.row (g := g) (by rw [h.val]; rfl) j _ (getv_eq (by rw [h.num]; exact hj))
theorem OwnLL.next {w w' : World} {base top g : Nat} {vs : List Value} {v : Value} {ls : List (List Int)} (h : OwnLL w base top g vs v ls) (hb : Below w.heap.size w w') : OwnLL w' base top g vs v ls :=
  ⟨h.val, Nat.le_trans h.tp hb.size, h.lo, h.hi, h.num, h.short,
    World.ownsRow.kept (row := none) h.row ⟨hb.os, hb.tape, hb.output, hb.size, fun k hk _ => hb.block k hk⟩ (by cases v.ownBlock <;> simp),
    fun j hj => (h.rows j hj).next hb, h.lie, h.apart⟩
/-- What a call does that writes only blocks from base to below top. -/
def Harm (base top : Nat) (w w' : World) : Prop :=
  Below base w w' ∧ w.heap.size ≤ w'.heap.size ∧ ∀ (b : Nat) (v : Value) (l : List Int), Fresh w b v l → (∀ k, blk v = some k → k < base ∨ top ≤ k) → Fresh w' b v l
theorem Harm.refl (base top : Nat) (w : World) : Harm base top w w := ⟨Below.refl _ _, Nat.le_refl _, fun _ _ _ h _ => h⟩
theorem Harm.trans {base top : Nat} {w w1 w2 : World} (h : Harm base top w w1) (k : Harm base top w1 w2) : Harm base top w w2 :=
  ⟨h.1.trans k.1, Nat.le_trans h.2.1 k.2.1, fun b v l f a => k.2.2 b v l (h.2.2 b v l f a) a⟩
theorem Harm.of_grown {base top : Nat} {w w' : World} {row : Option Nat} (hg : w.grownBy w' row) (hb : base ≤ w.heap.size) (hr : ∀ k, row = some k → base ≤ k ∧ k < top) : Harm base top w w' :=
  ⟨(Below.refl _ _).grown hg hb (fun k hk => (hr k hk).1), hg.size, fun b v l f a => f.kept hg (fun k hk e => by have h1 := hr k e; have h2 := a k hk; omega)⟩
/-- What a call leaves that returns a new slice of slices. -/
def RetLL (w : World) (ls : List (List Int)) (e : Ending) (w' : World) : Prop := ∃ (v : Value) (vs : List Value), e = .returned v ∧ OwnLL w' w.heap.size w'.heap.size w.heap.size vs v ls ∧ Below w.heap.size w w'
theorem Try.infoL : (Try.prog.info? 39).map (fun i => (i.zero, i.size, i.bytes)) = some (some (.slice none 0 0), 1, 24) := by kernel_rfl
theorem made_slices (n : Nat) : (madeCells (Value.slice none 0 0).cells (n * 1)).toList = List.replicate n (Value.slice none 0 0) := by
  rw [Nat.mul_one]
  exact toList_madeCells_one _ _
theorem set_rest (vs : List Value) (n : Nat) (u z : Value) : (vs ++ List.replicate (n + 1) z).set vs.length u = (vs ++ [u]) ++ List.replicate n z := by
  rw [List.set_append, if_neg (by omega), Nat.sub_self, List.replicate_succ, List.set_cons_zero, List.append_assoc]; rfl
/-- How toInt64SS stands behind k rows. -/
structure ToLL (w wr : World) (ls : List (List Int)) (k : Nat) (vs : List Value) : Prop where
  num : vs.length = k
  row : wr.ownsRow w.heap.size 39 1 (.slice (some ⟨w.heap.size, 0, none⟩) ls.length ls.length) ls.length (vs ++ List.replicate (ls.length - k) (.slice none 0 0))
  rows : ∀ j, j < k → Fresh wr w.heap.size (getv vs j) (getl ls j)
  lie : ∀ j i, j < k → blk (getv vs j) = some i → w.heap.size < i ∧ i < wr.heap.size
  apart : ∀ i j b, i < j → j < k → blk (getv vs i) = some b → blk (getv vs j) ≠ some b
  below : Below w.heap.size w wr
theorem ToLL.step {w wr wx : World} {ls : List (List Int)} {k : Nat} {vs : List Value} (h : ToLL w wr ls k vs) (hk : k < ls.length) (hb : Below wr.heap.size wr wx) {u : Value} (hu : Fresh wx wr.heap.size u (getl ls k)) :
    ToLL w (wx.setCell ⟨w.heap.size, k, none⟩ u) ls (k + 1) (vs ++ [u]) := by
  have hlt : w.heap.size < wr.heap.size := (World.ownsRow.lt h.row w.heap.size rfl).2
  have hrow : wx.ownsRow w.heap.size 39 1 (.slice (some ⟨w.heap.size, 0, none⟩) ls.length ls.length) ls.length (vs ++ List.replicate (ls.length - k) (.slice none 0 0)) :=
    World.ownsRow.kept (row := none) h.row ⟨hb.os, hb.tape, hb.output, hb.size, fun k hk _ => hb.block k hk⟩ (by simp [Value.ownBlock])
  have hst := World.ownsRow.stored hrow k u
  have hsz : (wx.setCell ⟨w.heap.size, k, none⟩ u).heap.size = wx.heap.size := by simp [World.setCell]
  have hn := h.num
  have hold : ∀ j, j < k → getv (vs ++ [u]) j = getv vs j := fun j hj => getv_append_lt (by omega)
  have hnew : getv (vs ++ [u]) k = u := by have := getv_append_at vs [] u; rwa [hn] at this
  refine ⟨by simp [hn], ?_, fun j hj => ?_, fun j i hj hi => ?_, fun i j b hij hj hi => ?_, (below_next h.below hb).setCell (by simp) _⟩
  · have e : vs ++ List.replicate (ls.length - k) (Value.slice none 0 0) = vs ++ List.replicate (ls.length - (k + 1) + 1) (Value.slice none 0 0) := by rw [show ls.length - k = ls.length - (k + 1) + 1 by omega]
    have h1 := hst.1
    rw [e, ← hn, set_rest, hn] at h1
    exact h1
  · rcases Nat.lt_or_ge j k with h1 | h1
    · rw [hold j h1]
      exact ((h.rows j h1).next hb).kept hst.2 (fun i hi e => by have := (h.lie j i h1 hi).1; injection e with e; omega)
    · obtain rfl : j = k := by omega
      rw [hnew]
      exact (hu.lower (by omega)).kept hst.2 (fun i hi e => by have := (hu.lt i hi).1; injection e with e; omega)
  · rw [hsz]
    rcases Nat.lt_or_ge j k with h1 | h1
    · rw [hold j h1] at hi
      have := h.lie j i h1 hi
      have := hb.size
      omega
    · obtain rfl : j = k := by omega
      rw [hnew] at hi
      have := hu.lt i hi
      omega
  · rw [hold i (by omega)] at hi
    rcases Nat.lt_or_ge j k with h1 | h1
    · rw [hold j h1]; exact h.apart i j b hij h1 hi
    · obtain rfl : j = k := by omega
      rw [hnew]
      intro e
      have h2 := (h.lie i b (by omega) hi).2
      have h3 := (hu.lt b e).1
      omega
set_option maxHeartbeats 1000000 in
theorem toInt64SS_any (v : Value) (ls : List (List Int)) (w : World) (h : SlL w v ls) (hn : ls.length + totL ls ≤ 1048576) :
    Calls Try.prog 48 #[v] w (RetLL w ls) := by
  obtain ⟨i0, hi0, hz0, hz1, hz2⟩ := info_parts Try.infoL
  obtain ⟨A, c, vs0, rfl, hlc, hcm, h3, h4⟩ := h
  have H3 := Lib.hid h3
  have H4 := Lib.hid h4
  clear h3 h4
  go_enter Try.func48, Try.ntmps48
  go_wp2_with (at_make; refine wpList_make_full _ rfl _ _ 64 rfl w.heap.size 39 i0 _ 1 Try.underlying64 hi0 hz0 hz1 _ _ _ _ ls.length rfl rfl rfl rfl (by rw [hz2]; omega) (by unfold maxLen; omega) (Nat.le_refl _) ?_; intro w1 hown hg)
  have hb1 : Below w.heap.size w w1 := (Below.refl _ _).grown hg (Nat.le_refl _) (by simp)
  have HO : Hid (ToLL w w1 ls 0 []) := Lib.hid ⟨rfl, by rw [made_slices] at hown; simpa using hown, fun j hj => by omega, fun j i hj => by omega, fun i j b _ hj => by omega, hb1⟩
  clear hown hg hi0 hz0 hz1 hz2 hb1
  go_loopw [4] (fun i wr => ∃ (k : Nat) (vs : List Value), k ≤ ls.length ∧ i = .int .i64 k ∧ Hid (ToLL w wr ls k vs)) (fun i _ => ls.length - (intOf i).toNat)
  case atStart => exact ⟨0, [], Nat.zero_le _, rfl, HO⟩
  case round =>
    clear HO
    obtain ⟨k, vs, hk, rfl, HK⟩ := hrel
    by_cases hlt : k < ls.length
    · obtain ⟨ad, rfl, hbk, hc⟩ := H3.out (by omega)
      have hck := (HK.out.below.cell (p := ad.add k) (by rw [block_of_add]; exact hbk)).trans (hc k hlt)
      have HSK := Lib.hid ((H4.out k hlt).next HK.out.below)
      have hmem := totL_mem hlt
      clear hc
      go_wp2_with fail
      refine (toInt64S_any _ _ _ HSK.out (by omega)).mono ?_
      rintro e w2 ⟨u, rfl, ou, hb2⟩
      obtain ⟨A5, c5, rfl, _, _, hq5⟩ := ou.sl
      clear hq5
      have hnm := HK.out.num
      have hrow2 := World.ownsRow.kept (row := none) HK.out.row ⟨hb2.os, hb2.tape, hb2.output, hb2.size, fun k hk _ => hb2.block k hk⟩ (by simp [Value.ownBlock])
      have hcell2 := World.ownsRow.cellAt hrow2 k (by omega)
      rw [List.getElem?_append_right (by omega), hnm, Nat.sub_self, List.getElem?_replicate, if_pos (by omega)] at hcell2
      have hfree := World.ownsRow.frozenAt hrow2 k
      have HS := Lib.hid (HK.out.step hlt hb2 ou)
      clear hrow2 ou hnm hck
      go_wp2_with fail
      go_roundw
      case rel => exact ⟨k + 1, _, by omega, by go_num, HS⟩
      case measure => simp [intOf] <;> omega
    · obtain rfl : k = ls.length := by omega
      go_wp2_with fail
      go_ret
      have hK := HK.out
      have hrow := hK.row
      rw [Nat.sub_self, List.replicate_zero, List.append_nil] at hrow
      have hlt2 := (World.ownsRow.lt hrow w.heap.size rfl).2
      exact ⟨_, vs, rfl, ⟨rfl, Nat.le_refl _, Nat.le_refl _, hlt2, hK.num, by unfold maxLen; omega, hrow, hK.rows, hK.lie, hK.apart⟩, hK.below⟩
set_option maxHeartbeats 1000000 in
theorem eqInt64SS_same (v1 v2 : Value) (ls : List (List Int)) (w : World) (h1 : SlL w v1 ls) (h2 : SlL w v2 ls) :
    Calls Try.prog 50 #[v1, v2] w fun e w' => e = .returned (.bool true) ∧ Below w.heap.size w w' := by
  obtain ⟨A1, c1, vs1, rfl, hlc1, hcm1, h31, h41⟩ := h1
  obtain ⟨A2, c2, vs2, rfl, hlc2, hcm2, h32, h42⟩ := h2
  have H31 := Lib.hid h31
  have H41 := Lib.hid h41
  have H32 := Lib.hid h32
  have H42 := Lib.hid h42
  clear h31 h41 h32 h42
  unfold maxLen at hcm1 hcm2
  go_enter Try.func50, Try.ntmps50
  go_wp2_with fail
  go_loopw [5] (fun i wr => ∃ k : Nat, k ≤ ls.length ∧ i = .int .i64 k ∧ Below w.heap.size w wr) (fun i _ => ls.length - (intOf i).toNat)
  case atStart => exact ⟨0, Nat.zero_le _, rfl, Below.refl _ _⟩
  case round =>
    obtain ⟨k, hk, rfl, hb⟩ := hrel
    by_cases hlt : k < ls.length
    · obtain ⟨a1, rfl, hb1, hc1⟩ := H31.out (by omega)
      obtain ⟨a2, rfl, hb2, hc2⟩ := H32.out (by omega)
      have hcell1 := (hb.cell (p := a1.add k) (by rw [block_of_add]; exact hb1)).trans (hc1 k hlt)
      have hcell2 := (hb.cell (p := a2.add k) (by rw [block_of_add]; exact hb2)).trans (hc2 k hlt)
      have HS1 := Lib.hid ((H41.out k hlt).next hb)
      have HS2 := Lib.hid ((H42.out k hlt).next hb)
      have l1 := cell_lt hcell1
      have l2 := cell_lt hcell2
      have hi1 : (k : Int) < (ls.length : Int) := by omega
      clear hc1 hc2
      go_wp2_with fail
      go_region_held3 (fun w' => w'.cell? (a1.add k) = some (getv vs1 k) ∧ w'.cell? (a2.add k) = some (getv vs2 k))
        (first | go_keep | exact ⟨hcell1, hcell2⟩ | exact ⟨(hb3.cell (p := a1.add k) l1).trans hcell1, (hb3.cell (p := a2.add k) l2).trans hcell2⟩)
        (first | (go_at_call 27; refine (eqInt64S_any _ _ _ _ _ HS1.out.drew HS2.out.drew).mono ?_; rintro e w3 ⟨rfl, hb3⟩; rw [decide_eq_true rfl]))
      go_wp2_with fail
      go_roundw
      case rel => exact ⟨k + 1, by omega, by go_num, below_next hb.drew hb3⟩
      case measure => simp [intOf] <;> omega
    · go_wp2_with fail
      go_ret
      exact ⟨rfl, hb⟩
set_option maxHeartbeats 1000000 in
theorem markInt64SS_any (v : Value) (ls : List (List Int)) (base top g : Nat) (vs : List Value) (k0 : Int) (w : World) (h : OwnLL w base top g vs v ls) (hn : ls.length + totL ls ≤ 1048576) (h00 : 0 ≤ k0) (hk : k0 ≤ 10000000) :
    Calls Try.prog 53 #[v, .int .i64 k0] w fun e w' => e = .returned (.int .i64 (k0 + (totL ls : Int))) ∧ Harm base top w w' := by
  have HO := Lib.hid h
  obtain rfl := h.val
  have hlo := h.lo
  have hhi := h.hi
  have hnum := Lib.hid h.num
  have hlie := Lib.hid h.lie
  have hap := Lib.hid h.apart
  have htop := h.tp
  clear h
  go_enter Try.func53, Try.ntmps53
  go_wp2_with fail
  go_loopw [1, 5] (fun t i wr => ∃ j : Nat, j ≤ ls.length ∧ i = .int .i64 j ∧ t = .int .i64 (k0 + (totL (ls.take j) : Int)) ∧ Hid (wr.ownsRow base 39 1 (.slice (some ⟨g, 0, none⟩) ls.length ls.length) ls.length vs) ∧ Hid (∀ i, j ≤ i → i < ls.length → Fresh wr base (getv vs i) (getl ls i)) ∧ Harm base top w wr) (fun _ i _ => ls.length - (intOf i).toNat)
  case atStart => exact ⟨0, Nat.zero_le _, rfl, by simp [totL], Lib.hid HO.out.row, Lib.hid (fun i _ hi => HO.out.rows i hi), Harm.refl _ _ _⟩
  case round =>
    clear HO
    obtain ⟨j, hj, rfl, rfl, HR, HF, hH⟩ := hrel
    by_cases hlt : j < ls.length
    · have hck := World.ownsRow.cellAt HR.out j (by omega)
      rw [getv_eq (by rw [hnum.out]; exact hlt)] at hck
      have HJ := Lib.hid (HF.out j (Nat.le_refl _) hlt)
      have hmem := totL_mem hlt
      have htk := totL_le ls j
      have HTK := Lib.hid (totL_take hlt)
      have hli : (j : Int) < (ls.length : Int) := by omega
      go_wp2_with fail
      refine (markInt64S_any _ _ _ _ _ HJ.out (by omega) (by omega) (by omega)).mono ?_
      rintro e w2 ⟨rfl, _, hg⟩
      have HR2 := Lib.hid (World.ownsRow.kept HR.out hg (by
        right
        intro e
        have := hlie.out j g hlt e.symm
        omega))
      have HF2 : Hid (∀ i, j + 1 ≤ i → i < ls.length → Fresh w2 base (getv vs i) (getl ls i)) := Lib.hid (fun i h1 h2 => (HF.out i (by omega) h2).kept hg (fun k hk e => hap.out j i k (by omega) h2 e hk))
      have hH2 := hH.trans (Harm.of_grown (base := base) (top := top) hg (by have := hH.2.1; omega) (fun k hk => by have := hlie.out j k hlt hk; omega))
      clear hck HR HF hg
      go_wp2_with fail
      go_roundw
      case rel => exact ⟨j + 1, by omega, by go_num, by rw [HTK.out]; go_num, HR2, HF2, hH2⟩
      case measure => simp [intOf] <;> omega
    · have HE : Hid (totL (ls.take j) = totL ls) := Lib.hid (by rw [List.take_of_length_le (by omega)])
      go_wp2_with fail
      go_ret
      exact ⟨ret_int (by rw [HE.out]), hH⟩
end Go.Proofs.Ytanjpkcacgjgfaa
