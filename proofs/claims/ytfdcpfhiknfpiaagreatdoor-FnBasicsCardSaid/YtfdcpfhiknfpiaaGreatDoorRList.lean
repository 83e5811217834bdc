/- ReadList of the reference and of the program: numerals between commas, read. Where the listed variables are laid. -/
import Derived.Test.YtfdcpfhiknfpiaaGreatDoorSplit
import Derived.Test.YtfdcpfhiknfpiaaGreatDoorLTextP
import Derived.Test.YtfdcpfhiknfpiaaGreatDoorReadDec
namespace Go.Proofs.YtfdcpfhiknfpiaaGreatDoor
open Go.RowKit Go.Joins
theorem splitC_mem (c : UInt8) (l : List UInt8) : ∀ p ∈ splitC c l, p.length ≤ l.length := by
  induction l with
  | nil => intro p hp; rw [splitC_nil] at hp; rw [List.mem_singleton.1 hp]; exact Nat.le_refl _
  | cons x l ih =>
    intro p hp
    by_cases h : x = c
    · subst h
      rw [splitC_hit] at hp
      rcases List.mem_cons.1 hp with rfl | hp
      · simp
      · have := ih p hp; simp; omega
    · obtain ⟨q, qs, e⟩ := splitC_ne c l
      rw [splitC_miss h e] at hp
      rw [e] at ih
      rcases List.mem_cons.1 hp with rfl | hp
      · have := ih q (by simp); simp; omega
      · have := ih p (by simp [hp]); simp; omega
/-- May a part stand in a list's text? -/
def partB (p : List UInt8) : Bool := numOk p && inB (numV p) (-1000000000000) 1000000000000
/-- The parts are a list's text. -/
def partsB (P : List (List UInt8)) : Bool := decide (P.length ≤ 64) && P.all partB
/-- What ReadList answers. -/
def readL (s : ByteArray) : List Int × Bool := if s.toList == [45] then ([], true) else if partsB (splitC 44 s.data.toList) then ((splitC 44 s.data.toList).map numV, true) else ([], false)
theorem readL_dash {s : ByteArray} (h : (s.toList == [45]) = true) : readL s = ([], true) := by unfold readL; rw [if_pos h]
theorem readL_yes {s : ByteArray} (h : (s.toList == [45]) = false) (h2 : partsB (splitC 44 s.data.toList) = true) : readL s = ((splitC 44 s.data.toList).map numV, true) := by
  unfold readL; rw [if_neg (by rw [h]; simp), if_pos h2]
theorem readL_no {s : ByteArray} (h : (s.toList == [45]) = false) (h2 : partsB (splitC 44 s.data.toList) = false) : readL s = ([], false) := by
  unfold readL; rw [if_neg (by rw [h]; simp), if_neg (by rw [h2]; simp)]
theorem readL_len (s : ByteArray) : (readL s).1.length ≤ s.size + 1 := by
  unfold readL
  have h2 := splitC_len 44 s.data.toList
  have : s.data.toList.length = s.size := rfl
  split
  · simp
  · split
    · simp; omega
    · simp
theorem partsB_long {P : List (List UInt8)} (h : ¬ P.length ≤ 64) : partsB P = false := by unfold partsB; rw [decide_eq_false h]; rfl
theorem partsB_bad {P : List (List UInt8)} {k : Nat} (hk : k < P.length) (h : partB (gets P k) = false) : partsB P = false := by
  unfold partsB
  have : P.all partB = false := by rw [List.all_eq_false]; exact ⟨_, gets_mem hk, by simp [h]⟩
  rw [this, Bool.and_false]
theorem partsB_yes {P : List (List UInt8)} (h : P.length ≤ 64) (h2 : ∀ k, k < P.length → partB (gets P k) = true) : partsB P = true := by
  unfold partsB
  rw [decide_eq_true h, Bool.true_and, List.all_eq_true]
  intro x hx
  obtain ⟨k, hk, rfl⟩ := List.getElem_of_mem hx
  have := h2 k hk
  rwa [gets_eq hk] at this
theorem numV_fit {p : List UInt8} (h : numOk p = true) : -9223372036854775808 ≤ numV p ∧ numV p ≤ 9223372036854775807 := by
  have := (num_good h).2.2; omega
theorem numR_bd (p : List UInt8) : -9223372036854775808 ≤ numR p ∧ numR p ≤ 9223372036854775807 := by
  cases h : numOk p with
  | true => rw [numR_yes h]; exact numV_fit h
  | false => rw [numR_no h]; omega
theorem vals_snoc {P : List (List UInt8)} {k : Nat} (hk : k < P.length) : (P.take k).map numV ++ [numV (gets P k)] = (P.take (k + 1)).map numV := by
  rw [takes_snoc hk, List.map_append]; rfl
/-- A row of which the caller owns all, beside a bool. -/
def RetOwnB (w : World) (l : List Int) (b : Bool) (e : Ending) (w' : World) : Prop := ∃ r, e = .returned (.tuple #[r, .bool b]) ∧ Owns w' w.heap.size r l ∧ Below w.heap.size w w'
/-- What readDecimals answers. -/
def allNum (P : List (List UInt8)) : Bool := P.all numOk
def readN (P : List (List UInt8)) : List Int := if allNum P then P.map numV else []
theorem allNum_no {P : List (List UInt8)} {k : Nat} (hk : k < P.length) (h : numOk (gets P k) = false) : allNum P = false := by
  unfold allNum; rw [List.all_eq_false]; exact ⟨_, gets_mem hk, by simp [h]⟩
theorem allNum_yes {P : List (List UInt8)} (h2 : ∀ k, k < P.length → numOk (gets P k) = true) : allNum P = true := by
  unfold allNum
  rw [List.all_eq_true]
  intro x hx
  obtain ⟨k, hk, rfl⟩ := List.getElem_of_mem hx
  have := h2 k hk
  rwa [gets_eq hk] at this
theorem OwnsS.cell_ {w : World} {base g n cap : Nat} {l : List (List UInt8)} (h : OwnsS w base (.slice (some ⟨g, 0, none⟩) n cap) l) {j : Nat} (hj : j < l.length) :
    w.cell? ⟨g, j, none⟩ = some (strV (gets l j)) := by
  rcases h.shape with ⟨h', _⟩ | ⟨g', c', h', _, _, _, _, hc⟩
  · simp at h'
  · simp only [Value.slice.injEq, Option.some.injEq, Addr.mk.injEq] at h'
    obtain ⟨⟨rfl, _⟩, _⟩ := h'
    exact hc j hj
set_option maxHeartbeats 1000000 in
theorem readDecimals_any (s : ByteArray) (w : World) (hp : Pow w) (he : Errs w) (hm : MaxL w) (hs : s.size ≤ 100000000) :
    Calls Tryz.prog 21 #[.string s] w (RetOwnB w (readN (splitC 44 s.data.toList)) (allNum (splitC 44 s.data.toList))) := by
  obtain ⟨P, hP⟩ : ∃ P, splitC 44 s.data.toList = P := ⟨_, rfl⟩
  have hPl : P.length ≤ 100000001 := by rw [← hP]; have := splitC_len 44 s.data.toList; have : s.data.toList.length = s.size := rfl; omega
  have HM : Hid (∀ k, k < P.length → (str (gets P k)).size ≤ 100000000) := Lib.hid (fun k hk => by
    have h := splitC_mem 44 s.data.toList (gets P k) (by rw [hP]; exact gets_mem hk)
    have h1 : s.data.toList.length = s.size := rfl
    have h2 : (str (gets P k)).size = (gets P k).length := rfl
    omega)
  have HP := Lib.hid hP
  rw [hP]
  clear hP
  have hPp : 0 < P.length := by obtain ⟨p, ps, e⟩ := splitC_ne 44 s.data.toList; rw [HP.out] at e; rw [e]; simp
  have HE := Lib.hid (And.intro hp (And.intro he hm))
  clear hp he hm
  have HO := Lib.hid (Owns.empty w w.heap.size (Nat.le_refl _))
  have hB0 : Below w.heap.size w (w.alloc (.cells #[] 2)) := (Below.refl _ _).alloc (Nat.le_refl _) _
  have hmx := HE.out.2.2.next hB0
  have HMX := Lib.hid hmx
  clear hmx
  go_enter Tryz.func21, Tryz.ntmps21
  go_wp2_with (go_at_call 35; refine (split_any s 44 _ HMX.out hs).mono ?_; rintro e w1 ⟨r1, rfl, o1, hb1⟩; rw [HP.out] at o1; have HO1 := Lib.hid (HO.out.next hb1); have hB1 := hB0.trans (hb1.mono (by simp)); (rcases o1.shape with ⟨_, h9⟩ | ⟨g, c1, rfl, hbg, hgl, hlc1, hcm1, _⟩; (· rw [h9] at hPp; simp at hPp)); unfold maxLen at hcm1; have HS1 := Lib.hid (o1.lower (base' := w.heap.size) (by simp)); clear o1)
  clear HO hB0
  simp only [World.size_alloc] at hbg
  go_loopw [4, 13] (fun u i wr => ∃ k : Nat, k ≤ P.length ∧ i = .int .i64 k ∧ Hid (∀ j, j < k → numOk (gets P j) = true) ∧ Hid (Owns wr w.heap.size u ((P.take k).map numV)) ∧ Hid (∀ k', u.ownBlock = some k' → k' ≠ g) ∧ Hid (OwnsS wr w.heap.size (.slice (some ⟨g, 0, none⟩) P.length c1) P) ∧ w1.heap.size ≤ wr.heap.size ∧ Below w.heap.size w wr) (fun _ i _ => P.length - (intOf i).toNat)
  case atStart => exact ⟨0, Nat.zero_le _, rfl, Lib.hid (fun j hj => by omega), HO1, Lib.hid (fun k' h => by simp [Value.ownBlock] at h; omega), HS1, Nat.le_refl _, hB1⟩
  case round =>
    clear HO1 HS1 hB1
    obtain ⟨k, hk, rfl, HI, HO, HNE, HS, hz, hB⟩ := hrel
    by_cases hlt : k < P.length
    · have hcell := HS.out.cell_ (j := k) hlt
      unfold strV at hcell
      have hqs := HM.out k hlt
      obtain ⟨q, hq⟩ : ∃ q, str (gets P k) = q := ⟨_, rfl⟩
      rw [hq] at hcell hqs
      have HQ : Hid (q.data.toList = gets P k) := Lib.hid (by rw [← hq]; rfl)
      have HEw := Lib.hid (And.intro (HE.out.1.next hB) (HE.out.2.1.next hB))
      clear hq
      cases hok : numOk (gets P k) with
      | false =>
        have HF : Hid (readN P = [] ∧ allNum P = false) := Lib.hid ⟨by unfold readN; rw [allNum_no hlt hok]; rfl, allNum_no hlt hok⟩
        have HK := Lib.hid hok
        clear hok
        go_wp2_with (go_at_call 6; refine (implReadDecimal_any _ _ HEw.out.1 HEw.out.2 hqs).mono ?_; rintro e w2 ⟨rfl, hb2⟩; rw [HQ.out, HK.out, numR_no HK.out])
        go_ret2
        exact ⟨_, by rw [HF.out.2]; rfl, by rw [HF.out.1]; exact Owns.nil_ _ _, below_next hB hb2⟩
      | true =>
        have HK := Lib.hid hok
        obtain ⟨v, hv⟩ : ∃ v, numV (gets P k) = v := ⟨_, rfl⟩
        have HV := Lib.hid hv
        have hvb := numV_fit hok
        rw [hv] at hvb
        have v0 := hvb.1
        have v1 := hvb.2
        clear hv hvb
        have HI2 : Hid (∀ j, j < k + 1 → numOk (gets P j) = true) := Lib.hid (fun j hj => by
          rcases Nat.lt_or_ge j k with h | h
          · exact HI.out j h
          · obtain rfl : j = k := by omega
            exact hok)
        have HSN := Lib.hid (vals_snoc hlt)
        have hvl : ((P.take k).map numV).length ≤ 1000000000 := by rw [List.length_map, List.length_take]; omega
        clear hok
        go_wp2_with (first
          | (go_at_call 6; refine (implReadDecimal_any _ _ HEw.out.1 HEw.out.2 hqs).mono ?_; rintro e w2 ⟨rfl, hb2⟩; rw [HQ.out, HK.out, numR_yes HK.out, HV.out]; have hB2 := below_next hB hb2; have HO2 := Lib.hid (HO.out.next hb2); have HS2 := Lib.hid (HS.out.next hb2); have hz2 := hb2.size)
          | (at_builtin; refine wpList_push rfl _ _ rfl w.heap.size _ ((P.take k).map numV) rfl HO2.out v rfl hvl hB2.size ?_; intro v3 w3 o3 hg3 hv3; have hB3 := hB2.grown hg3 hB2.size (fun k hk => (HO2.out.lt k hk).1); have HO3 : Hid (Owns w3 w.heap.size v3 ((P.take (k + 1)).map numV)) := Lib.hid (by rw [← HSN.out, HV.out]; exact o3); have HS3 := Lib.hid (HS2.out.kept hg3 (.inr (fun e => HNE.out g e.symm rfl))); have HNE3 : Hid (∀ k', v3.ownBlock = some k' → k' ≠ g) := Lib.hid (fun k' hk' => by rcases hv3 with h | ⟨k9, h, h'⟩; (· rw [h] at hk'; exact HNE.out k' hk'); (· rw [h] at hk'; injection hk' with hk'; omega)); have hz3 := hg3.size; clear o3 hg3 hv3))
        go_roundw
        case rel => exact ⟨k + 1, by omega, by go_num, HI2, HO3, HNE3, HS3, by omega, hB3⟩
        case measure => simp [intOf] <;> omega
    · have hall := allNum_yes (P := P) (fun j hj => HI.out j (by omega))
      have HF : Hid (readN P = P.map numV ∧ allNum P = true) := Lib.hid ⟨by unfold readN; rw [hall]; rfl, hall⟩
      have hdk : decide (k < P.length) = false := decide_eq_false hlt
      have ho := HO.out
      rw [List.take_of_length_le (by omega)] at ho
      have HO9 := Lib.hid ho
      clear ho hall
      go_wp2_with fail
      go_ret2
      exact ⟨_, by rw [HF.out.2]; rfl, by rw [HF.out.1]; exact HO9.out, hB⟩
end Go.Proofs.YtfdcpfhiknfpiaaGreatDoor
