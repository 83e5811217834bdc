/- StartConfig: the reference and the program give the same results. No condition beyond the stated bounds. -/
import Derived.Test.YtbjkhnajnbmnlaaMConf2
import Derived.Test.YtbjkhnajnbmnlaaMMirror
import Derived.Test.YtbjkhnajnbmnlaaNat1
import Derived.Test.YtbjkhnajnbmnlaaRanks
namespace Go.Proofs.Ytbjkhnajnbmnlaa
open Go.RowKit
theorem l00Own_st (v : Value) (l : List Int) (w : World) (h : Sl w v l) (hn : l.length ≤ 4000000) :
    Calls Try.prog 53 #[v] w (RetOwn w l) := by
  have HO := Lib.hid (Owns.empty w w.heap.size (Nat.le_refl _))
  have hB0 : Below w.heap.size w (w.alloc (.cells #[] 2)) := (Below.refl _ _).alloc (Nat.le_refl _) _
  have HS := Lib.hid h
  clear h
  go_enter Try.func53, Try.ntmps53
  go_wp2_with (at_builtin; refine wpList_cat rfl _ _ rfl w.heap.size _ [] rfl HO.out _ l rfl (HS.out.next hB0) (by simp; omega) (by simp) ?_; intro v1 w1 o1 hg1 _)
  have hB1 := hB0.grown hg1 (by simp) (fun k hk => (HO.out.lt k hk).1)
  go_wp2
  go_ret
  exact ⟨_, rfl, by simpa using o1, hB1⟩
theorem Sl.head {w : World} {A : Option Addr} {c k : Nat} {l : List Int} (hr : Ints w w.heap.size A l.length l) (hlc : l.length ≤ c) (hcm : c ≤ maxLen) (hk : k ≤ l.length) : Sl w (.slice A k c) (l.take k) := Sl.of (hr.take hk) (by omega) hcm
theorem l05Trim_any (v : Value) (l : List Int) (w : World) (h : Sl w v l) (hn : l.length ≤ 1000000) :
    Calls Try.prog 54 #[v] w (RetOwn w (trim l)) := by
  obtain ⟨A, c, rfl, hlc, hcm, hr⟩ := h
  have HR := Lib.hid hr
  have HCM := Lib.hid hcm
  clear hr
  unfold maxLen at hcm
  have htl := trim_len l
  have HT : Hid (Sl w (.slice A (trim l).length c) (trim l)) := Lib.hid (by have h := Sl.head HR.out hlc HCM.out (trim_len l); rwa [← trim_take] at h)
  go_enter Try.func54, Try.ntmps54
  go_wp2_with fail
  go_loop [3] (fun t => ∃ k : Nat, k ≤ l.length ∧ Hid (trim (l.take k) = trim l) ∧ t = .int .i64 k) (fun t => (intOf t).toNat)
  case atStart => exact ⟨l.length, Nat.le_refl _, by rw [List.take_length]; exact Lib.hid rfl, rfl⟩
  case round =>
    obtain ⟨k, hk, H, rfl⟩ := hrel
    by_cases h0 : 0 < k
    · obtain ⟨j, rfl⟩ : ∃ j, k = j + 1 := ⟨k - 1, by omega⟩
      have hj : j < l.length := by omega
      obtain ⟨ad, rfl, hb1, hc1⟩ := HR.out.at_ hj
      by_cases hz : geti l j = 0
      · have hzb : (geti l j == 0) = true := by simpa using hz
        have HN : Hid (trim (l.take j) = trim l) := Lib.hid (by rw [← H.out, trim_step hj hz])
        clear hz
        go_wp2_with fail
        go_round
        case rel => exact ⟨j, by omega, HN, by go_num⟩
        case measure => simp [intOf] <;> omega
      · have hzb : (geti l j == 0) = false := by simpa using hz
        have HN : Hid (trim l = l.take (j + 1)) := Lib.hid (by rw [← H.out, trim_stop hj hz])
        have HT2 : Hid (Sl w (.slice (some ad) (j + 1) c) (l.take (j + 1))) := Lib.hid (Sl.head HR.out hlc HCM.out (by omega))
        have hjc : j + 1 ≤ c := by omega
        clear hz
        go_wp2_with fail
        refine (l00Own_st _ _ _ HT2.out (by simp; omega)).mono ?_
        rintro e w1 ⟨r, rfl, o1, hb1⟩
        go_wp2_with fail
        go_ret
        exact ⟨r, rfl, by rw [HN.out]; exact o1, hb1⟩
    · obtain rfl : k = 0 := by omega
      have HN : Hid (trim l = l.take 0) := Lib.hid (by rw [← H.out]; rfl)
      have HT2 : Hid (Sl w (.slice A 0 c) (l.take 0)) := Lib.hid (Sl.head HR.out hlc HCM.out (by omega))
      have hd : decide ((0 : Int) < ((0 : Nat) : Int)) = false := by simp
      go_wp2_with fail
      refine (l00Own_st _ _ _ HT2.out (by simp)).mono ?_
      rintro e w1 ⟨r, rfl, o1, hb1⟩
      go_wp2_with fail
      go_ret
      exact ⟨r, rfl, by rw [HN.out]; exact o1, hb1⟩

end Go.Proofs.Ytbjkhnajnbmnlaa
