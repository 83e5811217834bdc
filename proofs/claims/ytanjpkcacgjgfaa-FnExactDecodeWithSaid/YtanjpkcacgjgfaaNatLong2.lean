/- Naturals: the program's search for a digit and its long division. No condition beyond the stated bounds. -/
import Derived.Test.YtanjpkcacgjgfaaNatLong
import Derived.Deep.RegionLaw
import Derived.Deep.RegionHeld3
import Derived.Deep.DeepCutAuto
namespace Go.Proofs.Ytanjpkcacgjgfaa
open Go.RowKit
/-- A variable in a block of its own. -/
def Var1 (w : World) (b : Nat) (v : Value) : Prop := w.cell? ⟨b, 0, none⟩ = some v ∧ w.frozen? ⟨b, 0, none⟩ = false
theorem Var1.next {w w' : World} {b : Nat} {v : Value} (h : Var1 w b v) (hb : Below w.heap.size w w') : Var1 w' b v :=
  ⟨(hb.cell (p := ⟨b, 0, none⟩) (cell_lt h.1)).trans h.1, (hb.frozen (p := ⟨b, 0, none⟩) (cell_lt h.1)).trans h.2⟩
theorem Var1.set {w : World} {b : Nat} {v : Value} (h : Var1 w b v) {p : Addr} (hp : p.block ≠ b) (u : Value) : Var1 (w.setCell p u) b v :=
  ⟨(World.cell?_setCell_other w _ _ u (fun e => hp (by rw [e]))).trans h.1, by rw [World.frozen?_setCell]; exact h.2⟩
theorem Var1.put {w : World} {b : Nat} {v : Value} (h : Var1 w b v) (u : Value) : Var1 (w.setCell ⟨b, 0, none⟩ u) b u :=
  ⟨World.cell?_setCell_same w _ u h.1, by rw [World.frozen?_setCell]; exact h.2⟩
theorem Var1.drew {w : World} {b : Nat} {v : Value} (h : Var1 w b v) : Var1 w.drew b v := h
theorem below_grown {w w' : World} {row : Option Nat} (hg : w.grownBy w' row) {B : Nat} (hB : B ≤ w.heap.size) (hr : ∀ k, row = some k → B ≤ k) : Below B w w' := (Below.refl B w).grown hg hB hr
theorem Var1.kept {w w' : World} {b : Nat} {v : Value} {row : Option Nat} (h : Var1 w b v) (hg : w.grownBy w' row) (hne : ∀ k, row = some k → b < k) : Var1 w' b v := by
  have hl := cell_lt h.1
  have hb : Below (b + 1) w w' := below_grown hg hl (fun k hk => hne k hk)
  exact ⟨(hb.cell (p := ⟨b, 0, none⟩) (by simp)).trans h.1, (hb.frozen (p := ⟨b, 0, none⟩) (by simp)).trans h.2⟩
/-- Two new rows (or empty ones without room), apart. -/
def RetTwoF (w : World) (l m : List Int) (e : Ending) (w' : World) : Prop :=
  ∃ r s, e = .returned (.tuple #[r, s]) ∧ Fresh w' w.heap.size r l ∧ Fresh w' w.heap.size s m ∧ (∀ k, blk r = some k → blk s ≠ some k) ∧ Below w.heap.size w w'
theorem RetTwo.f {w w' : World} {l m : List Int} {e : Ending} (h : RetTwo w l m e w') : RetTwoF w l m e w' := by
  obtain ⟨r, s, h1, h2, h3, h4, h5⟩ := h
  exact ⟨r, s, h1, .inl h2, .inl h3, fun k hk e => h4 k (blk_own hk) (blk_own e), h5⟩
theorem step_cat {ops : Array Oper} {o : Oper} {a : Act} {wr : World} {K : Act → World → Prop} {Q : Exit → Act → World → Prop} {E : Prop} (hgd : o.guard = none) (s x : Operand)
    (ho : o.op = .call { callee := .builtin .append, args := #[s, x], argTypes := #[39, 39] })
    (base : Nat) (v : Value) (l : List Int) (hs : a.eval s = v) (hown : Owns wr base v l) (xv : Value) (m : List Int) (hx : a.eval x = xv) (hsl : Sl wr xv m)
    (hlen : l.length + m.length ≤ 1000000000) (hbase : base ≤ wr.heap.size)
    (h : ∀ v' w', Owns w' base v' (l ++ m) → wr.grownBy w' v.ownBlock → (v'.ownBlock = v.ownBlock ∨ ∃ k, v'.ownBlock = some k ∧ wr.heap.size ≤ k) → K (a.put o.dst v') w') :
    if Region.wanted o (yielded ops a.tmps) = true then Oper.wp Try.prog o a wr K Q else E := by
  have hw : Region.wanted o (yielded ops a.tmps) = true := by simp [Region.wanted, hgd]
  rw [if_pos hw]
  obtain ⟨v', w', hrun, h2, h3, h4⟩ := run_cat wr o.type base v l hown xv m hsl hlen hbase
  unfold Oper.wp execOp
  simp only [ho, resolve, invoke, builtin, Sem.run_bind, Sem.run_pure, Result.andThen_ok, List.map_toArray, List.map_cons, List.map_nil, hs, hx, hrun]
  exact h v' w' h2 h3 h4
/-- The digit x may be taken. -/
theorem divide_clo (p q : Nat) (bv rv : Value) (b : List Int) (d T x : Int) (w : World) (cp : Var1 w p bv) (cq : Var1 w q rv) (hb : Sl w bv b) (hr : Sl w rv (nl T)) (HB : Lim b) (lb : b.length ≤ 40) (hd : val b = d) (hd0 : 0 ≤ d)
    (T0 : 0 ≤ T) (x0 : 0 ≤ x) (x1 : x ≤ 999999) :
    Calls Try.prog 144 #[.int .i64 x, .pointer (some ⟨p, 0, none⟩), .pointer (some ⟨q, 0, none⟩)] w fun e w' => e = .returned (.bool (decide (d * x ≤ T))) ∧ Below w.heap.size w w' := by
  have c1 := cp.1
  have c2 := cq.1
  have lp : p < w.heap.size := cell_lt c1
  have lq : q < w.heap.size := cell_lt c2
  have HBV := Lib.hid hb
  have HRV := Lib.hid hr
  have HBL := Lib.hid HB
  have HD := Lib.hid hd
  have hbx : 0 ≤ d * x := Int.mul_nonneg hd0 x0
  have hcm := (cmp_nl hbx T0).1
  have HC := Lib.hid hcm
  obtain ⟨Ab, cb, rfl, _, _, hqb⟩ := hb
  obtain ⟨Ar, cr, rfl, _, _, hqr⟩ := hr
  clear hqb hqr HB cp cq hcm hbx hd
  go_enter Try.func144, Try.ntmps144
  go_wp2_with fail
  go_region_held3 (fun w' => w'.cell? ⟨p, 0, none⟩ = some (.slice Ab b.length cb) ∧ w'.cell? ⟨q, 0, none⟩ = some (.slice Ar (nl T).length cr))
    (first
      | go_keep
      | exact ⟨((Below.refl _ _).alloc (Nat.le_refl _) _).cell (p := ⟨p, 0, none⟩) lp |>.trans c1, ((Below.refl _ _).alloc (Nat.le_refl _) _).cell (p := ⟨q, 0, none⟩) lq |>.trans c2⟩
      | exact ⟨(hb1.cell (by simp; omega)).trans (((Below.refl _ _).alloc (Nat.le_refl _) _).cell (p := ⟨p, 0, none⟩) lp |>.trans c1), (hb1.cell (by simp; omega)).trans (((Below.refl _ _).alloc (Nat.le_refl _) _).cell (p := ⟨q, 0, none⟩) lq |>.trans c2)⟩
      | exact ⟨(hb2.cell (by have := hb1.size; simp at *; omega)).trans ((hb1.cell (by simp; omega)).trans (((Below.refl _ _).alloc (Nat.le_refl _) _).cell (p := ⟨p, 0, none⟩) lp |>.trans c1)), (hb2.cell (by have := hb1.size; simp at *; omega)).trans ((hb1.cell (by simp; omega)).trans (((Below.refl _ _).alloc (Nat.le_refl _) _).cell (p := ⟨q, 0, none⟩) lq |>.trans c2))⟩)
    (first
      | (go_at_call 145; refine (multiply_nl _ _ b x _ (HBV.out.drew.next ((Below.refl _ _).alloc (Nat.le_refl _) _)) (own_lit0 _ x).sl HBL.out lb x0 x1).mono ?_; rintro e w1 ⟨v1, rfl, o1, hb1⟩)
      | (go_at_call 98; refine (compareNaturals_any _ _ _ _ _ o1.sl ((HRV.out.drew.next ((Below.refl _ _).alloc (Nat.le_refl _) _)).next hb1)).mono ?_; rintro e w2 ⟨rfl, hb2⟩))
  go_wp2_with fail
  go_ret
  refine ⟨ret_bool ?_, ?_⟩
  · have h := HC.out
    rw [HD.out]
    by_cases hle : d * x ≤ T
    · rw [decide_eq_true hle, decide_eq_true (h.2 hle)]
    · rw [decide_eq_false hle, decide_eq_false (fun hh => hle (h.1 hh))]
  · have h0 : Below w.heap.size w.drew (w.drew.alloc (.cells #[.int .i64 x] 2)) := (Below.refl w.heap.size w.drew).alloc (Nat.le_refl _) _
    have h1 : Below w.heap.size w (w.drew.alloc (.cells #[.int .i64 x] 2)) := ⟨h0.os, h0.tape, h0.output, h0.size, h0.block⟩
    exact below_next (below_next h1 hb1) hb2
set_option maxHeartbeats 1000000 in
theorem greatest_div (p q : Nat) (bv rv : Value) (b : List Int) (d T : Int) (w : World) (cp : Var1 w p bv) (cq : Var1 w q rv) (hb : Sl w bv b) (hr : Sl w rv (nl T)) (HB : Lim b) (lb : b.length ≤ 40) (hd : val b = d) (hd1 : 1 ≤ d)
    (T0 : 0 ≤ T) (T1 : T < d * 1000000) :
    Calls Try.prog 143 #[.func (.func 144) #[] #[.pointer (some ⟨p, 0, none⟩), .pointer (some ⟨q, 0, none⟩)]] w fun e w' => e = .returned (.int .i64 (T / d)) ∧ Below w.heap.size w w' := by
  have HCP := Lib.hid cp
  have HCQ := Lib.hid cq
  have HBV := Lib.hid hb
  have HRV := Lib.hid hr
  have HBL := Lib.hid HB
  have HD := Lib.hid hd
  have HT1 := Lib.hid T1
  clear cp cq hb hr HB hd T1
  go_enter Try.func143, Try.ntmps143
  go_wp2_with fail
  go_loopw [3, 4] (fun lo hi wr => ∃ x y : Int, lo = .int .i64 x ∧ hi = .int .i64 y ∧ 0 ≤ x ∧ x < y ∧ y ≤ 1000000 ∧ Hid (d * x ≤ T ∧ T < d * y) ∧ Below w.heap.size w wr) (fun lo hi _ => (intOf hi - intOf lo).toNat)
  case atStart => exact ⟨0, 1000000, rfl, rfl, by omega, by omega, by omega, Lib.hid ⟨by omega, HT1.out⟩, Below.refl _ _⟩
  case round =>
    obtain ⟨x, y, rfl, rfl, hx0, hxy, hy1, HI, hbx⟩ := hrel
    by_cases hlt : x + 1 < y
    · have m0 : x < (x + y) / 2 := by omega
      have m1 : (x + y) / 2 < y := by omega
      go_wp2_with fail
      refine (divide_clo p q bv rv b d T _ _ (HCP.out.next hbx) (HCQ.out.next hbx) (HBV.out.next hbx) (HRV.out.next hbx) HBL.out lb HD.out (by omega) T0 (by omega) (by omega)).mono ?_
      rintro e w1 ⟨rfl, hb1⟩
      have hB1 := below_next hbx hb1
      generalize (x + y) / 2 = m at *
      by_cases hle : d * m ≤ T
      · have hc : decide (d * m ≤ T) = true := decide_eq_true hle
        have HI2 : Hid (d * m ≤ T ∧ T < d * y) := Lib.hid ⟨hle, HI.out.2⟩
        rw [hc]
        clear hle hc
        go_wp2_with fail
        go_roundw
        case rel => exact ⟨m, y, rfl, rfl, by omega, by omega, by omega, HI2, hB1⟩
        case measure => simp [intOf] <;> omega
      · have hc : decide (d * m ≤ T) = false := decide_eq_false hle
        have HI2 : Hid (d * x ≤ T ∧ T < d * m) := Lib.hid ⟨HI.out.1, by omega⟩
        rw [hc]
        clear hle hc
        go_wp2_with fail
        go_roundw
        case rel => exact ⟨x, m, rfl, rfl, by omega, by omega, by omega, HI2, hB1⟩
        case measure => simp [intOf] <;> omega
    · obtain rfl : y = x + 1 := by omega
      have hdig := (digit_of hd1 HI.out.1 (by have := HI.out.2; rw [Int.mul_add] at this; omega)).1
      have HDIG := Lib.hid hdig
      clear hdig
      go_wp2_with fail
      go_ret
      exact ⟨ret_int HDIG.out.symm, hbx⟩
set_option maxHeartbeats 4000000 in
theorem divide_one (v1 v2 : Value) (a : List Int) (x : Int) (w : World) (h1 : Sl w v1 a) (h2 : Sl w v2 [x]) (ha : Lim a) (hx : 1 ≤ x) (hx2 : x ≤ 999999) (la : a.length ≤ 1000) :
    Calls Try.prog 105 #[v1, v2] w (RetTwoF w (nl (val a / x)) (nl (val a % x))) := by
  have H1 := Lib.hid h1
  obtain ⟨A2, c2, rfl, hlc2, hcm2, hr2⟩ := h2
  obtain ⟨ad, rfl, hbk, hc⟩ := hr2.at_ (k := 0) (by simp)
  have hadd : ad.add 0 = ad := rfl
  rw [hadd, show geti [x] 0 = x from rfl] at hc
  have hB0 : Below w.heap.size w (w.alloc (.cells #[.slice (some ad) 1 c2] 39)) := (Below.refl _ _).alloc (Nat.le_refl _) _
  have hc2 := (hB0.cell (p := ad) hbk).trans hc
  have HA := Lib.hid ha
  have hm0 : 0 ≤ val a % x := Int.emod_nonneg _ (by omega)
  have hm1 : val a % x < x := Int.emod_lt_of_pos _ (by omega)
  have HN := Lib.hid (natL_nl (n := val a % x) (by omega))
  clear h1 hr2 ha hc
  go_enter Try.func105, Try.ntmps105
  go_wp2_with fail
  refine (divideSmall_any _ a x _ (H1.out.next hB0) la HA.out hx (by omega)).mono ?_
  rintro e w1 ⟨r1, rfl, o1, hb1⟩
  have hB1 := below_next hB0 hb1
  go_wp2_with fail
  refine (naturalOf_any _ _ hm0 (by omega)).mono ?_
  rintro e w2 ⟨r2, rfl, o2, hb2⟩
  rw [HN.out] at o2
  go_wp2_with fail
  go_ret2
  refine ⟨r1, r2, rfl, (o1.next hb2).fresh.lower (by simp), o2.lower (by have := hb1.size; simp at this; omega), fun k hk e => ?_, below_next hB1 hb2⟩
  have h1 := (o1.lt k (blk_own hk)).2
  have h2 := (o2.lt k e).1
  omega
theorem grown_set0 (w : World) (p : Addr) (u : Value) : w.grownBy (w.setCell p u) (some p.block) :=
  ⟨rfl, rfl, rfl, by simp [World.setCell], fun k _ hk => Below.heap_setCell _ _ _ _ (fun e => hk (by simp [e]))⟩

/-- How the program's division stands: its variables and its rows. -/
structure DivS (w wx : World) (P : Nat) (bv rv : Value) (R : Int) (n : Nat) (ql : List Int) : Prop where
  var : Var1 wx P rv
  bvar : Var1 wx w.heap.size bv
  rest : Owns wx (w.heap.size + 2) rv (nl R)
  apart : rv.ownBlock ≠ some P
  quot : Owns wx (w.heap.size + 1) (.slice (some ⟨w.heap.size + 1, 0, none⟩) n n) ql
  below : Below w.heap.size w wx
  big : P < wx.heap.size
  two : w.heap.size + 2 ≤ P
section
variable {w wx wy : World} {P n : Nat} {bv rv : Value} {R T : Int} {ql : List Int}
theorem DivS.next (D : DivS w wx P bv rv R n ql) (hb : Below wx.heap.size wx wy) : DivS w wy P bv rv R n ql :=
  ⟨D.var.next hb, D.bvar.next hb, D.rest.next hb, D.apart, D.quot.next hb, below_next D.below hb, Nat.lt_of_lt_of_le D.big hb.size, D.two⟩
/-- A new rest v4, in a block that was made since, is stored. -/
theorem DivS.store (D : DivS w wx P bv rv R n ql) (hb : Below wx.heap.size wx wy) {v4 : Value} (o4 : Owns wy wx.heap.size v4 (nl T)) : DivS w (wy.setCell ⟨P, 0, none⟩ v4) P bv v4 T n ql := by
  have D2 := D.next hb
  have h1 := D.big
  have h2 := D.two
  have hg := grown_set0 wy ⟨P, 0, none⟩ v4
  have ne : ∀ k, v4.ownBlock = some k → k ≠ P := fun k hk => by have := (o4.lt k hk).1; omega
  refine ⟨D2.var.put v4, D2.bvar.set (by simp; omega) v4, ?_, fun h => ne P h rfl, ?_, D2.below.setCell (by simp; omega) _, ?_, D2.two⟩
  · refine (o4.lower (by omega)).kept hg ?_
    cases e : v4.ownBlock with
    | none => exact .inl rfl
    | some k => exact .inr (fun h => ne k e (by injection h))
  · refine D2.quot.kept hg (.inr fun h => ?_)
    have h : some (w.heap.size + 1) = some P := h
    injection h with h
    omega
  · have : (wy.setCell ⟨P, 0, none⟩ v4).heap.size = wy.heap.size := by simp [World.setCell]
    rw [this]; exact D2.big
/-- A digit is stored. -/
theorem DivS.digit (D : DivS w wx P bv rv R n ql) (j : Nat) (x : Int) : DivS w (wx.setCell ⟨w.heap.size + 1, j, none⟩ (.int .i64 x)) P bv rv R n (ql.set j x) := by
  have h1 := D.two
  have st := D.quot.stored j x
  refine ⟨D.var.set (by simp; omega) _, D.bvar.set (by simp) _, D.rest.kept st.2 ?_, D.apart, st.1, D.below.setCell (by simp) _, ?_, D.two⟩
  · cases e : rv.ownBlock with
    | none => exact .inl rfl
    | some k => exact .inr (fun h => by have := (D.rest.lt k e).1; injection h with h; omega)
  · have : (wx.setCell ⟨w.heap.size + 1, j, none⟩ (.int .i64 x)).heap.size = wx.heap.size := by simp [World.setCell]
    rw [this]; exact D.big
end
theorem lit_cat {w wy : World} {x : Int} {row : Option Nat} (hg : (w.alloc (.cells #[.int .i64 x] 2)).drew.grownBy wy row) (hr : row = some w.heap.size) : Below w.heap.size w wy := by
  have h0 : Below w.heap.size w (w.alloc (.cells #[.int .i64 x] 2)) := (Below.refl w.heap.size w).alloc (Nat.le_refl _) _
  exact h0.drew.grown hg h0.size (fun k hk => by rw [hr] at hk; injection hk with hk; omega)
theorem lit_call {w wy : World} {x : Int} (hb : Below (w.drew.alloc (.cells #[.int .i64 x] 2)).heap.size (w.drew.alloc (.cells #[.int .i64 x] 2)) wy) : Below w.heap.size w wy := by
  have h0 : Below w.heap.size w.drew (w.drew.alloc (.cells #[.int .i64 x] 2)) := (Below.refl w.heap.size w.drew).alloc (Nat.le_refl _) _
  have h1 : Below w.heap.size w (w.drew.alloc (.cells #[.int .i64 x] 2)) := ⟨h0.os, h0.tape, h0.output, h0.size, h0.block⟩
  exact below_next h1 hb
theorem lit_cell {w : World} {x : Int} {p : Nat} {v : Value} (h : w.cell? ⟨p, 0, none⟩ = some v) : (w.alloc (.cells #[.int .i64 x] 2)).cell? ⟨p, 0, none⟩ = some v := by
  have h0 : Below w.heap.size w (w.alloc (.cells #[.int .i64 x] 2)) := (Below.refl w.heap.size w).alloc (Nat.le_refl _) _
  exact (h0.cell (p := ⟨p, 0, none⟩) (cell_lt h)).trans h
set_option maxHeartbeats 4000000 in
set_option maxRecDepth 100000 in
theorem divide_more (v1 v2 : Value) (a b : List Int) (w : World) (h1 : Sl w v1 a) (h2 : Sl w v2 b) (ha : Lim a) (hb : Lim b) (tb : trim b = b) (la : a.length ≤ 1000) (lb : b.length ≤ 40) (hl1 : b.length ≠ 1) (hd : 1 ≤ val b) :
    Calls Try.prog 105 #[v1, v2] w (RetTwoF w (nl (val a / val b)) (nl (val a % val b))) := by
  obtain ⟨i0, hi0, hz0, hz1, hz2⟩ := info_parts Try.infoI
  have H2 := Lib.hid h2
  obtain ⟨A1, c1, rfl, hlc1, hcm1, hr1⟩ := h1
  obtain ⟨A2, c2, rfl, hlc2, hcm2, hr2⟩ := h2
  have HR1 := Lib.hid hr1
  have HA := Lib.hid ha
  have HB := Lib.hid hb
  have HF := Lib.hid (dvs_div hd ha)
  have HFT := Lib.hid (dvs_trim hd ha)
  have HTB : Hid (nl (val b) = b) := Lib.hid (nl_val hb tb)
  obtain ⟨d, hdd⟩ : ∃ d, val b = d := ⟨_, rfl⟩
  have HD := Lib.hid hdd
  rw [hdd] at hd HF HFT HTB ⊢
  have hlb : ((b.length : Int) == 1) = false := by rw [beq_eq_false_iff_ne]; omega
  have hlb2 : (b.length == 1) = false := by rw [beq_eq_false_iff_ne]; exact hl1
  have hB0 : Below w.heap.size w (w.alloc (.cells #[.slice A2 b.length c2] 39)) := (Below.refl _ _).alloc (Nat.le_refl _) _
  have hV0 : Var1 (w.alloc (.cells #[.slice A2 b.length c2] 39)) w.heap.size (.slice A2 b.length c2) := ⟨by rw [World.cell?_alloc_at _ _ _ _ rfl]; rfl, by simp⟩
  clear hr1 hr2 ha hb hdd tb
  go_enter Try.func105, Try.ntmps105
  go_wp2_with (at_make; go_loud (refine wpList_make_full _ rfl _ _ 39 rfl (w.heap.size + 1) 2 i0 _ 1 Try.underlying39 hi0 hz0 hz1 _ _ _ _ a.length rfl rfl rfl rfl (by rw [hz2]; omega) (by unfold maxLen; omega) (by simp) ?_); intro w1 hown hg)
  have hO1 : Owns w1 (w.heap.size + 1) (.slice (some ⟨w.heap.size + 1, 0, none⟩) a.length a.length) (List.replicate a.length 0 ++ (dvs (a.drop a.length) d).1) := by
    unfold Owns
    rw [made_ints] at hown
    rw [List.drop_length]
    simpa [dvs] using hown
  have hs1 : w.heap.size + 2 ≤ w1.heap.size := by have := (hO1.lt (w.heap.size + 1) rfl).2; omega
  have HS0 : Hid (DivS w ((w1.alloc (.cells #[] 2)).alloc (.cells #[.slice (some ⟨w1.heap.size, 0, none⟩) 0 0] 39)) (w1.heap.size + 1) (.slice A2 b.length c2) (.slice (some ⟨w1.heap.size, 0, none⟩) 0 0) (dvs (a.drop a.length) d).2 a.length (List.replicate a.length 0 ++ (dvs (a.drop a.length) d).1)) := Lib.hid (by
    have b1 : Below w1.heap.size w1 (w1.alloc (.cells #[] 2)) := (Below.refl _ _).alloc (Nat.le_refl _) _
    have b2 : Below (w1.alloc (.cells #[] 2)).heap.size (w1.alloc (.cells #[] 2)) ((w1.alloc (.cells #[] 2)).alloc (.cells #[.slice (some ⟨w1.heap.size, 0, none⟩) 0 0] 39)) := (Below.refl _ _).alloc (Nat.le_refl _) _
    have bw : Below w.heap.size w w1 := hB0.grown hg (by simp) (by simp)
    refine ⟨⟨?_, by simp⟩, ((hV0.kept hg (by simp)).next b1).next b2, ?_, by simp [Value.ownBlock], (hO1.next b1).next b2, below_next (below_next bw b1) b2, by simp, by omega⟩
    · have : (w1.alloc (.cells #[] 2)).heap.size = w1.heap.size + 1 := by simp
      rw [← this, World.cell?_alloc_at _ _ _ _ rfl]; rfl
    · rw [List.drop_length]; exact (Owns.empty w1 _ hs1).alloc _)
  clear hown hg hi0 hz0 hz1 hz2 hO1 hV0 hB0 hlb hlb2
  generalize w1.heap.size + 1 = P at *
  go_loopg [10] a.length (fun k i wr => ∃ rv : Value, k ≤ a.length ∧ i = .int .i64 ((k : Int) - 1) ∧ Hid (DivS w wr P (.slice A2 b.length c2) rv (dvs (a.drop k) d).2 a.length (List.replicate k 0 ++ (dvs (a.drop k) d).1)))
  case atStart => exact ⟨_, Nat.le_refl _, rfl, HS0⟩
  case round =>
    clear HS0
    obtain ⟨rv, hk, rfl, HS⟩ := hrel
    have cP := HS.out.var.1
    have cB := HS.out.bvar.1
    by_cases h0 : 0 < gk
    · obtain ⟨j, rfl⟩ : ∃ j, gk = j + 1 := ⟨gk - 1, by omega⟩
      rw [show (((j + 1 : Nat) : Int) - 1) = (j : Int) by omega]
      have hlt : j < a.length := by omega
      have hli : (j : Int) < (a.length : Int) := by omega
      obtain ⟨ad, rfl, hbk, hc⟩ := HR1.out.at_ hlt
      have hcell := (HS.out.below.cell (p := ad.add j) (by rw [block_of_add]; exact hbk)).trans hc
      have hstep := dvs_step hlt d
      have hrest := dvs_rest hd (a.drop (j + 1))
      have hlen : (List.replicate (j + 1) (0 : Int) ++ (dvs (a.drop (j + 1)) d).1).length = a.length := by rw [List.length_append, List.length_replicate, dvs_len, List.length_drop]; omega
      generalize dvs (a.drop (j + 1)) d = qr at *
      obtain ⟨q, r⟩ := qr
      simp only at hstep hrest hlen HS
      have r0 := hrest.1
      have r1 := hrest.2
      have hxj := HA.out.geti j
      have x0 := hxj.1
      have x1 := hxj.2
      obtain ⟨A9, c9, rfl, _, _, hq9⟩ := HS.out.rest.sl
      clear hq9
      have HLEN := Lib.hid hlen
      have HST := Lib.hid hstep
      clear hrest hxj hc hlen hstep
      obtain ⟨T, hT⟩ : ∃ T, r * 1000000 + geti a j = T := ⟨_, rfl⟩
      have T0 : 0 ≤ T := by omega
      have HT1 : Hid (T < d * 1000000) := Lib.hid (by omega)
      have HT := Lib.hid hT
      have HTL := Lib.hid (nl_len41 HB.out lb HD.out T0 HT1.out)
      have HTR := Lib.hid (trim_cons_nl x0 x1 r0)
      clear hT
      have hnr : (nl r).length ≤ 41 := nl_len41 HB.out lb HD.out r0 (show r < d * 1000000 by omega)
      have cP2 := lit_cell (x := geti a j) cP
      have HOL := Lib.hid (own_lit0 wr (geti a j)).drew
      have HSL := Lib.hid (HS.out.rest.sl.next ((Below.refl _ _).alloc (Nat.le_refl _) (.cells #[.int .i64 (geti a j)] 2))).drew
      go_upto_region 8 with fail
      go_cut [10] (fun i wx => i = .int .i64 (j : Int) ∧ ∃ rv : Value, Hid (DivS w wx P (.slice A2 b.length c2) rv T a.length (List.replicate (j + 1) 0 ++ q)))
      case first =>
        go_region_law (first
          | (refine step_cat (by rfl) (.tmp 40) (.tmp 41) (by rfl) wr.heap.size (.slice (some ⟨wr.heap.size, 0, none⟩) 1 1) [geti a j] (by simp [Act.eval]) HOL.out (.slice A9 (nl r).length c9) (nl r) (by simp [Act.eval]) HSL.out (by simp; omega) (by simp) ?_; intro v3 w3 o3 hg3 _; have hb3 := lit_cat hg3 rfl; have hv3 := HS.out.var.next hb3; have cP3 := hv3.1; have fP3 := hv3.2)
          | (go_simp; go_at_call 77; refine (trimmed_own _ _ _ _ o3).mono ?_; rintro e w' ⟨⟨v4, rfl, o4, _⟩, rfl⟩; rw [HTR.out, HT.out] at o4; obtain ⟨A4, c4, rfl, _, _, hq4⟩ := o4.sl; clear hq4))
        all_goals (
          go_wp2_with fail
          go_meet
          case rel => exact ⟨rfl, _, Lib.hid (HS.out.store hb3 o4)⟩)
      case rest =>
        obtain ⟨rfl, rv4, HS4⟩ := hcut
        clear cP cB cP2 HS hcell
        have cP := HS4.out.var.1
        have cB := HS4.out.bvar.1
        have hB4 := HS4.out.below
        go_wp2_with fail
        refine (compareNaturals_any _ _ _ _ _ HS4.out.rest.sl (H2.out.next hB4)).mono ?_
        rintro e w5 ⟨rfl, hb5⟩
        have HS5 := Lib.hid (HS4.out.next hb5)
        have hcm := (cmp_nl T0 (show 0 ≤ d by omega)).2
        rw [HTB.out] at hcm
        clear cP cB hB4
        generalize cmpN (nl T) b = c at *
        by_cases hTd : T < d
        · have hc0 : c < 0 := hcm.2 hTd
          have hdig := digit_of hd (show d * 0 ≤ T by omega) (show T < d * 0 + d by omega)
          have HE : Hid (dvs (a.drop j) d = (0 :: q, T)) := Lib.hid (by rw [HST.out, HT.out, hdig.1, hdig.2]; simp)
          have HS6 : Hid (DivS w w5 P (.slice A2 b.length c2) rv4 (dvs (a.drop j) d).2 a.length (List.replicate j 0 ++ (dvs (a.drop j) d).1)) := Lib.hid (by
            rw [HE.out]
            have := HS5.out
            rw [List.replicate_succ', List.append_assoc] at this
            exact this)
          clear hcm hTd hdig HS5
          go_wp2_with fail
          go_roundg j
          case measure => omega
          case rel => exact ⟨rv4, by omega, rfl, HS6⟩
        · have hc0 : 0 ≤ c := by
            rcases Int.lt_or_le c 0 with h | h
            · exact absurd (hcm.1 h) hTd
            · exact h
          clear hcm
          go_wp2_with fail
          refine (greatest_div w.heap.size P (.slice A2 b.length c2) rv4 b d T _ HS5.out.bvar HS5.out.var (H2.out.next HS5.out.below) HS5.out.rest.sl HB.out lb HD.out hd T0 HT1.out).mono ?_
          rintro e w6 ⟨rfl, hb6⟩
          have HS6 := Lib.hid (HS5.out.next hb6)
          have hq0 : 0 ≤ T / d := Int.ediv_nonneg T0 (by omega)
          have hq1 : T / d ≤ 999999 := by have := Int.ediv_lt_of_lt_mul (show 0 < d by omega) (show T < 1000000 * d by have := HT1.out; omega); omega
          have hdq : Hid (0 ≤ d * (T / d) ∧ d * (T / d) ≤ T ∧ T % d = T - d * (T / d)) := Lib.hid ⟨Int.mul_nonneg (by omega) hq0, Int.mul_ediv_self_le (by omega), by have := Int.emod_add_mul_ediv T d; omega⟩
          have cQ := HS6.out.quot.cellAt (j := j) (by rw [HLEN.out]; omega)
          have fQ := HS6.out.quot.free j
          have HS7 := Lib.hid (HS6.out.digit j (T / d))
          rw [set_rep j q] at HS7
          have HE : Hid (dvs (a.drop j) d = (T / d :: q, T - d * (T / d))) := Lib.hid (by rw [HST.out, HT.out, hdq.out.2.2])
          generalize T / d = x at *
          have cQ7 : (w6.setCell ⟨w.heap.size + 1, j, none⟩ (.int .i64 x)).cell? ⟨w.heap.size + 1, j, none⟩ = some (.int .i64 x) := World.cell?_setCell_same _ _ _ cQ
          go_upto_region 11 with fail
          generalize w6.setCell ⟨w.heap.size + 1, j, none⟩ (.int .i64 x) = w7 at *
          have cP := HS7.out.var.1
          have cB := HS7.out.bvar.1
          have cP2 := lit_cell (x := x) cP
          have cB2 := lit_cell (x := x) cB
          clear HS6 HS5 HS4 cQ fQ
          go_region_law (first
            | (go_simp; go_at_call 145; refine (multiply_nl _ _ b x _ ((H2.out.next HS7.out.below).drew.next ((Below.refl _ _).alloc (Nat.le_refl _) _)) (own_lit0 _ x).sl HB.out lb hq0 hq1).mono ?_; rintro e w8 ⟨v8, rfl, o8, hb8⟩; rw [HD.out] at o8; have hb8' := lit_call hb8; have hv8 := HS7.out.var.next hb8'; have cP8 := hv8.1)
            | (go_simp; go_at_call 146; refine (subtract_nl _ _ _ _ _ (HS7.out.rest.sl.next hb8') o8.sl hdq.out.1 hdq.out.2.1 (by have := HTL.out; omega)).mono ?_; rintro e w9 ⟨v9, rfl, o9, hb9⟩; have hv9 := hv8.next hb9; have cP9 := hv9.1; have fP9 := hv9.2; obtain ⟨A5, c5, rfl, _, _, hq5⟩ := o9.sl; clear hq5))
          all_goals (
            go_wp2_with fail
            go_roundg j
            case measure => omega
            case rel => exact ⟨_, by omega, rfl, Lib.hid (by rw [HE.out]; exact HS7.out.store (below_next hb8' hb9) (o9.lower hb8'.size))⟩)
    · obtain rfl : gk = 0 := by omega
      rw [show (((0 : Nat) : Int) - 1) = (-1 : Int) by omega]
      rw [show a.drop 0 = a from rfl, HF.out.2] at HS
      have HQ : Hid (Owns wr (w.heap.size + 1) (.slice (some ⟨w.heap.size + 1, 0, none⟩) a.length a.length) (dvs a d).1) := Lib.hid (by have := HS.out.quot; simpa using this)
      go_wp2_with fail
      go_region_held3 (fun w' => w'.cell? ⟨P, 0, none⟩ = some rv) (first | go_keep | exact cP)
        (first | (go_at_call 77; refine (trimmed_own _ _ _ _ HQ.out.drew).mono ?_; rintro e w' ⟨⟨v4, rfl, o4, ob4⟩, rfl⟩))
      go_wp2_with fail
      go_ret2
      rw [HFT.out] at o4
      refine ⟨v4, rv, rfl, .inl (o4.lower (by omega)), .inl ((HS.out.rest.drew).lower (by omega)), fun k hk e => ?_, HS.out.below.drew⟩
      have h1 := blk_own hk
      have h2 := (HS.out.rest.lt k (blk_own e)).1
      rw [ob4] at h1
      have h1 : some (w.heap.size + 1) = some k := h1
      injection h1 with h1
      omega
theorem divide_any (v1 v2 : Value) (a b : List Int) (w : World) (h1 : Sl w v1 a) (h2 : Sl w v2 b) (ha : Lim a) (hb : Lim b) (tb : trim b = b) (la : a.length ≤ 1000) (lb : b.length ≤ 40) (hd : 1 ≤ val b) :
    Calls Try.prog 105 #[v1, v2] w (RetTwoF w (nl (val a / val b)) (nl (val a % val b))) := by
  by_cases hl : b.length = 1
  · rcases b with _ | ⟨x, _ | ⟨y, t⟩⟩
    · simp at hl
    · have hv : val [x] = x := by simp [val]
      rw [hv] at hd ⊢
      exact divide_one v1 v2 a x w h1 h2 ha hd (hb x (by simp)).2 la
    · simp at hl
  · exact divide_more v1 v2 a b w h1 h2 ha hb tb la lb hl hd
end Go.Proofs.Ytanjpkcacgjgfaa
