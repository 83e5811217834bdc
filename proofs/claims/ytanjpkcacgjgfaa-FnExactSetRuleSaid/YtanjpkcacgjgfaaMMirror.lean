/- MirrorMachine, SetRule: l05Own, l05Mirror, mirrored and what the laws need. No condition beyond the stated bounds. -/
import Derived.Test.YtanjpkcacgjgfaaMOwn
namespace Go.Proofs.Ytanjpkcacgjgfaa
open Go.RowKit
theorem C3.set {w : World} {b : Nat} {x y z : Value} (h : C3 w b x y z) {p : Addr} (hne : p.block ≠ b) (u : Value) : C3 (w.setCell p u) b x y z :=
  C3.kept h (grown_set w p u) (fun k hk => by injection hk with hk; omega)
set_option maxHeartbeats 1000000 in
theorem l05Own_any (b : Nat) (sy st : Int) (rv : Value) (l : List Int) (w : World) (h : C3 w b (.int .i64 sy) (.int .i64 st) rv) (hs : Sl3 w rv l) (hn : l.length ≤ 4000000) :
    Calls Try.prog 62 #[.pointer (some ⟨b, 0, none⟩)] w (RetMO w sy st l) := by
  have HS := Lib.hid hs
  have HC := Lib.hid h
  have hlt : b < w.heap.size := cell_lt h.1
  obtain ⟨A, n, c, rfl, hnc, hcm, hr⟩ := hs
  clear hr h
  have HO := Lib.hid (Own3.empty (w.alloc (.cells #[.int .i64 0, .int .i64 0, .slice none 0 0] 30)) (w.heap.size + 1) (by simp))
  simp only [World.size_alloc] at HO
  have hB2 := below_two w (.cells #[.int .i64 0, .int .i64 0, .slice none 0 0] 30) (.cells #[] 34)
  have HK : Hid (((w.alloc (.cells #[.int .i64 0, .int .i64 0, .slice none 0 0] 30)).alloc (.cells #[] 34)).heap[w.heap.size]? = some (.cells #[.int .i64 0, .int .i64 0, .slice none 0 0] 30 (0, 0))) := Lib.hid (by
    rw [Lib.alloc_old _ _ _ (by simp)]; exact heap_alloc_new w _)
  have hc1 := C3.next HC.out (below_one w (.cells #[.int .i64 0, .int .i64 0, .slice none 0 0] 30))
  have hc2 := C3.next hc1 (below_one _ (.cells #[] 34))
  have HC1 := Lib.hid hc1
  have HC2 := Lib.hid hc2
  obtain ⟨c0, c1, c2⟩ := hc1
  clear hc2
  go_enter Try.func62, Try.ntmps62
  go_wp2_with fail
  go_region_held3 (fun w' => (w'.cell? ⟨b, 0, none⟩ = some (.int .i64 sy) ∧ w'.cell? ⟨b, 1, none⟩ = some (.int .i64 st) ∧ w'.cell? ⟨b, 2, none⟩ = some (.slice A n c)))
    (first
      | go_keep
      | exact HC2.out
      | exact C3.kept (C3.drew HC2.out) hg1 (fun k hk => by simp [Value.ownBlock] at hk; omega)
      | exact C3.set (C3.set (C3.set (C3.kept (C3.drew HC2.out) hg1 (fun k hk => by simp [Value.ownBlock] at hk; omega)) (by simp; omega) _) (by simp; omega) _) (by simp; omega) _)
    ((refine step_cat3 (by rfl) (.tmp 11) (.tmp 15) (by rfl) (w.heap.size + 1) (.slice (some ⟨w.heap.size + 1, 0, none⟩) 0 0) [] (by simp [Act.eval]) HO.out.drew (.slice A n c) l (by simp [Act.eval]) (HS.out.next hB2).drew (by simp; omega) (by simp) ?_; intro v1 w1 o1 hg1 _; obtain ⟨A1, n1, cc1, rfl, _, _, hq⟩ := o1.sl; clear hq; obtain ⟨x0, x1, x2, y0, y1, y2⟩ := Box.of ((hg1.block w.heap.size (by simp; omega) (by simp [Value.ownBlock])).trans HK.out)))
  go_wp2_with fail
  refine bodyPost_ret (v := .agg #[.int .i64 sy, .int .i64 st, .slice A1 n1 cc1]) (by simp [results, Try.results62, go_sem, x0, x1, x2]) rfl ⟨_, rfl, ?_, ?_⟩
  · refine Own3.lower (base := w.heap.size + 1) ?_ (by omega)
    have h0 : Own3 w1 (w.heap.size + 1) (.slice A1 n1 cc1) l := by simpa using o1
    repeat refine Own3.set_ ?_ (by simp) _
    exact h0
  · repeat refine Below.setCell ?_ (by first | (simp; done) | (simp; omega)) _
    exact hB2.drew.grown hg1 (by simp; omega) (fun k hk => by simp [Value.ownBlock] at hk; omega)
/-- The flat list in which the moves of the first k rules are turned. -/
def mirUp (l : List Int) (k : Nat) : List Int := (List.range l.length).map (fun j => if j % 3 = 1 ∧ j / 3 < k then - geti l j else geti l j)
theorem mirUp_len (l : List Int) (k : Nat) : (mirUp l k).length = l.length := by simp [mirUp]
theorem mirUp_at {l : List Int} {k j : Nat} (h : j < l.length) : geti (mirUp l k) j = if j % 3 = 1 ∧ j / 3 < k then - geti l j else geti l j := by
  rw [geti_eq (by rw [mirUp_len]; exact h)]; simp [mirUp]
theorem mirUp_zero (l : List Int) : mirUp l 0 = l := by
  apply ext_geti' (mirUp_len l 0)
  intro j hj
  rw [mirUp_len] at hj
  rw [mirUp_at hj, if_neg (by omega)]
theorem mirUp_step {l : List Int} {k : Nat} (h : k * 3 + 1 < l.length) : (mirUp l k).set (k * 3 + 1) (- geti l (k * 3 + 1)) = mirUp l (k + 1) := by
  apply ext_geti' (by rw [List.length_set, mirUp_len, mirUp_len])
  intro j hj
  rw [List.length_set, mirUp_len] at hj
  rw [geti_set (by rw [mirUp_len]; exact h), mirUp_at hj, mirUp_at hj]
  by_cases e : k * 3 + 1 = j
  · subst e
    rw [if_pos rfl, if_pos (by omega)]
  · rw [if_neg e]
    by_cases h1 : j % 3 = 1 ∧ j / 3 < k
    · rw [if_pos h1, if_pos (by omega)]
    · rw [if_neg h1, if_neg (by omega)]
/-- Every move is small. -/
def Moves (l : List Int) : Prop := ∀ k, k * 3 + 1 < l.length → -1 ≤ geti l (k * 3 + 1) ∧ geti l (k * 3 + 1) ≤ 1
theorem moves_of {sy st : Int} {l : List Int} (h : validB sy st l = true) (h3 : l.length % 3 = 0) : Moves l := by
  obtain ⟨s1, s2, s3, s4⟩ := validB_true h
  intro k hk
  unfold rulesB at s4
  rw [List.all_eq_true] at s4
  have := s4 k (by simp; omega)
  unfold ruleAt ruleB noneB at this
  simp only [Bool.or_eq_true, Bool.and_eq_true, decide_eq_true_eq] at this
  omega
end Go.Proofs.Ytanjpkcacgjgfaa
