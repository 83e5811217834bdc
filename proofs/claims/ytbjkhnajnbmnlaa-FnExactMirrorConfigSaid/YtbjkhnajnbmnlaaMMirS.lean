/- MirrorConfig of the reference. No condition beyond the stated bounds. -/
import Derived.Test.YtbjkhnajnbmnlaaMMirI
namespace Go.Proofs.Ytbjkhnajnbmnlaa
open Go.RowKit
theorem below_drew {B : Nat} {a w : World} (h : Below B a w) : Below B a w.drew := ⟨h.os, h.tape, h.output, h.size, h.block⟩
theorem StC.gen {wc wf : World} {vb : Nat} {st : Int} {va vr z0 z1 z2 : Value} {l r : List Int} (hq : Below wc.heap.size wc wf) (bx : Box wf vb z0 z1 z2) (lo : wc.heap.size ≤ vb) (o : Fresh wf wc.heap.size va l) (o2 : Fresh wf wc.heap.size vr r) (ap : ∀ k, blk va = some k → blk vr ≠ some k)
    (nea : ∀ k, blk va = some k → k ≠ vb) (neb : ∀ k, blk vr = some k → k ≠ vb) : StC wc (((wf.setCell ⟨vb, 0, none⟩ (.int .i64 st)).setCell ⟨vb, 1, none⟩ va).setCell ⟨vb, 2, none⟩ vr) vb st va vr l r := by
  have hl : vb < wf.heap.size := cell_lt bx.c0
  have keep : ∀ (W : World) (v : Value) (m : List Int) (p : Addr) (u : Value), p.block = vb → (∀ k, blk v = some k → k ≠ vb) → Fresh W wc.heap.size v m → Fresh (W.setCell p u) wc.heap.size v m := fun W v m p u hp hne h =>
    h.kept (grown_set W p u) (fun k hk e => hne k hk (by injection e with e; omega))
  refine ⟨bx.all _ _ _, ?_, ?_, ap, below_set3 hq lo _ _ _, lo, by rw [size_set3]; exact hl, nea, neb⟩
  · exact keep _ _ _ _ _ rfl nea (keep _ _ _ _ _ rfl nea (keep _ _ _ _ _ rfl nea o))
  · exact keep _ _ _ _ _ rfl neb (keep _ _ _ _ _ rfl neb (keep _ _ _ _ _ rfl neb o2))
set_option maxHeartbeats 1000000 in
theorem specMirror_bad (sy st s : Int) (mv va vb : Value) (ml l r : List Int) (w : World) (hm : Sl3 w mv ml) (ha : Sl w va l) (hb : Sl w vb r) (hv : vconfB sy st ml s l r = false) :
    Calls Try.prog 8 #[.agg #[.int .i64 sy, .int .i64 st, mv], .agg #[.int .i64 s, va, vb]] w (RetCC w 0 [] [] 1) := by
  have HM := Lib.hid hm
  have HA := Lib.hid ha
  have HB := Lib.hid hb
  have HC1 := Lib.hid (C3.next (C3.next (C3.made w (.int .i64 sy) (.int .i64 st) mv 35) (below_one _ (.cells #[.int .i64 s, va, vb] 30))) (below_one _ (.cells #[.int .i64 0, .slice none 0 0, .slice none 0 0] 30)))
  have HC2 := Lib.hid (C3.next (C3.made (w.alloc (.cells #[.int .i64 sy, .int .i64 st, mv] 35)) (.int .i64 s) va vb 30) (below_one _ (.cells #[.int .i64 0, .slice none 0 0, .slice none 0 0] 30)))
  simp only [World.size_alloc] at HC2
  clear hm ha hb
  cases hv1 : validB sy st ml with
  | false =>
    have HV := Lib.hid hv1
    clear hv1 hv
    go_enter Try.func8, Try.ntmps8
    go_wp2_with fail
    refine (l05Is_any _ sy st mv ml _ HC1.out (HM.out.next (below_three _ _ _ _))).mono ?_
    rintro e w1 ⟨rfl, hb⟩
    have hB1 := (below_three w _ _ _).trans (hb.mono (by simp; omega))
    have hh := heap_three hb
    obtain ⟨z0, z1, z2, zf0, zf1, zf2⟩ := Box.of hh.2.2
    clear hh
    rw [HV.out]
    go_wp2_with fail
    refine bodyPost_ret (v := .tuple #[.agg #[.int .i64 0, .slice none 0 0, .slice none 0 0], .int .i64 1]) (by simp [results, Try.results8, go_sem, z0, z1, z2]) rfl ⟨_, _, rfl, Fresh.nil_ _ _, Fresh.nil_ _ _, (fun k hk => by cases hk), ?_⟩
    repeat refine Below.setCell ?_ (by first | (simp; done) | (simp; omega)) _
    exact hB1
  | true =>
    obtain ⟨⟨s1, s2⟩, ⟨s3, s4⟩, _, _⟩ := validB_true hv1
    have HG : Hid (goodB sy st s l r = false) := Lib.hid (by unfold vconfB at hv; rw [hv1] at hv; simpa using hv)
    have HV := Lib.hid hv1
    clear hv1 hv
    go_enter Try.func8, Try.ntmps8
    go_wp2_with fail
    refine (l05Is_any _ sy st mv ml _ HC1.out (HM.out.next (below_three _ _ _ _))).mono ?_
    rintro e w1 ⟨rfl, hb⟩
    have hB1 := (below_three w _ _ _).trans (hb.mono (by simp; omega))
    have hz1 : w.heap.size + 3 ≤ w1.heap.size := by have := hb.size; simp at this; omega
    have hh := heap_three hb
    have HBZ := Lib.hid (Box.of hh.2.2)
    clear hh
    rw [HV.out]
    go_wp2_with fail
    refine (l05Good_any _ _ sy st s mv va vb l r _ (HC1.out.next hb) (HC2.out.next hb) (HA.out.next hB1) (HB.out.next hB1) (by omega) (by omega) (by omega) (by omega)).mono ?_
    rintro e w2 ⟨rfl, hb2⟩
    have hB2 := below_next hB1 hb2
    obtain ⟨z0, z1, z2, zf0, zf1, zf2⟩ := HBZ.out.next hb2
    rw [HG.out]
    go_wp2_with fail
    refine bodyPost_ret (v := .tuple #[.agg #[.int .i64 0, .slice none 0 0, .slice none 0 0], .int .i64 1]) (by simp [results, Try.results8, go_sem, z0, z1, z2]) rfl ⟨_, _, rfl, Fresh.nil_ _ _, Fresh.nil_ _ _, (fun k hk => by cases hk), ?_⟩
    repeat refine Below.setCell ?_ (by first | (simp; done) | (simp; omega)) _
    exact hB2
set_option maxHeartbeats 4000000 in
set_option maxRecDepth 100000 in
theorem specMirror_any (sy st s : Int) (mv va vb : Value) (ml l r : List Int) (w : World) (hm : Sl3 w mv ml) (ha : Sl w va l) (hb : Sl w vb r) (hv : vconfB sy st ml s l r = true) (hl : l.length ≤ 200) (hr : r.length ≤ 200) :
    Calls Try.prog 8 #[.agg #[.int .i64 sy, .int .i64 st, mv], .agg #[.int .i64 s, va, vb]] w (RetMir w s l r) := by
  have HM := Lib.hid hm
  have HA := Lib.hid ha
  have HB := Lib.hid hb
  have hv1 : validB sy st ml = true := by unfold vconfB at hv; cases h : validB sy st ml with | false => rw [h] at hv; cases hv | true => rfl
  have HG : Hid (goodB sy st s l r = true) := Lib.hid (by unfold vconfB at hv; rw [hv1] at hv; simpa using hv)
  obtain ⟨⟨s1, s2⟩, ⟨s3, s4⟩, _, _⟩ := validB_true hv1
  have HV := Lib.hid hv1
  clear hv1 hv
  obtain ⟨A1, c1, rfl, hlc1, hcm1, hr1⟩ := ha
  obtain ⟨A2, c2, rfl, hlc2, hcm2, hr2⟩ := hb
  clear hr1 hr2
  have HC1 := Lib.hid (C3.next (C3.next (C3.made w (.int .i64 sy) (.int .i64 st) mv 35) (below_one _ (.cells #[.int .i64 s, .slice A1 l.length c1, .slice A2 r.length c2] 30))) (below_one _ (.cells #[.int .i64 0, .slice none 0 0, .slice none 0 0] 30)))
  have HC2 := Lib.hid (C3.next (C3.made (w.alloc (.cells #[.int .i64 sy, .int .i64 st, mv] 35)) (.int .i64 s) (.slice A1 l.length c1) (.slice A2 r.length c2) 30) (below_one _ (.cells #[.int .i64 0, .slice none 0 0, .slice none 0 0] 30)))
  simp only [World.size_alloc] at HC2
  go_enter Try.func8, Try.ntmps8
  go_wp2_with fail
  refine (l05Is_any _ sy st mv ml _ HC1.out (HM.out.next (below_three _ _ _ _))).mono ?_
  rintro e w1 ⟨rfl, hb⟩
  have hB1 := (below_three w _ _ _).trans (hb.mono (by simp; omega))
  have hz1 : w.heap.size + 3 ≤ w1.heap.size := by have := hb.size; simp at this; omega
  have hh := heap_three hb
  have HBZ := Lib.hid (Box.of hh.2.2)
  clear hh
  rw [HV.out]
  go_wp2_with fail
  refine (l05Good_any _ _ sy st s mv _ _ l r _ (HC1.out.next hb) (HC2.out.next hb) (HA.out.next hB1) (HB.out.next hB1) (by omega) (by omega) (by omega) (by omega)).mono ?_
  rintro e w2 ⟨rfl, hb2⟩
  rw [HG.out]
  have hB2 := below_next hB1 hb2
  have hz2 := hb2.size
  replace HBZ := Lib.hid (HBZ.out.next hb2)
  replace HC2 := Lib.hid ((HC2.out.next hb).next hb2)
  have HAs := Lib.hid (HA.out.next hB2)
  have HBs := Lib.hid (HB.out.next hB2)
  clear HC1 hb hb2 HA HB HM
  have hld : Hid ((r.drop 1).length = r.length - 1) := Lib.hid (by simp)
  go_upto_region 3 with fail
  obtain ⟨p0, p1, p2⟩ := HC2.out
  go_cut [6] (fun p wx => ∃ (vb : Nat) (Aq Dq : Option Addr) (Cq Eq : Nat), p = .pointer (some ⟨vb, 0, none⟩) ∧ Hid (StC w2 wx vb s (.slice Aq (r.length - 1) Cq) (.slice Dq (trim (headI r :: l)).length Eq) (r.drop 1) (trim (headI r :: l))))
  case first =>
    go_region_held3 (fun w' => (w'.cell? ⟨w.heap.size + 1, 0, none⟩ = some (.int .i64 s) ∧ w'.cell? ⟨w.heap.size + 1, 1, none⟩ = some (.slice A1 l.length c1) ∧ w'.cell? ⟨w.heap.size + 1, 2, none⟩ = some (.slice A2 r.length c2)))
      (first | (with_reducible assumption) | (with_reducible refine (ka1 (by assumption))) | (with_reducible refine (kda1 (by assumption))) | (with_reducible refine (ks1 (by assumption) (by omega))) | go_keep)
      (first | (go_at_call 32; (with_reducible refine (l05Head_any _ _ _ _ r _ (HC2.out.drew) (HBs.out.drew)).mono ?_); rintro e _ ⟨rfl, rfl⟩) | (go_at_call 32; (with_reducible refine (l05Head_any _ _ _ _ r _ ((HC2.out.next (below_one w2 (.cells #[.int .i64 0, .slice none 0 0, .slice none 0 0] 30))).drew) ((HBs.out.next (below_one w2 (.cells #[.int .i64 0, .slice none 0 0, .slice none 0 0] 30))).drew)).mono ?_); rintro e _ ⟨rfl, rfl⟩) | (go_at_call 32; (with_reducible refine (l05Head_any _ _ _ _ r _ (HC2.out.next hqR) (HBs.out.next hqR)).mono ?_); rintro e _ ⟨rfl, rfl⟩) | (go_at_call 32; (with_reducible refine (l05Head_any _ _ _ _ r _ ((HC2.out.next hqR).next (below_one wR (.cells #[.int .i64 0, .slice none 0 0, .slice none 0 0] 30))) ((HBs.out.next hqR).next (below_one wR (.cells #[.int .i64 0, .slice none 0 0, .slice none 0 0] 30)))).mono ?_); rintro e _ ⟨rfl, rfl⟩) | (go_at_call 30; (with_reducible refine (l05Rest_any _ r _ ((HBs.out.drew)) (by omega)).mono ?_); rintro e wR ⟨vR, rfl, oR, hbR⟩; obtain ⟨BR, dR, rfl, _, _, htR⟩ := oR.sl; clear htR; rw [hld.out] at oR ⊢; have hpR : Below w2.heap.size w2 wR := ⟨hbR.os, hbR.tape, hbR.output, hbR.size, hbR.block⟩; have obR : Fresh wR w2.heap.size _ (r.drop 1) := .inl oR; have rgR : ∀ k, blk (.slice BR (r.length - 1) dR) = some k → w2.heap.size ≤ k ∧ k < wR.heap.size := (fun k hk => Fresh.lt (.inl oR) k hk); have hzR := hpR.size; have hqR := hpR; have kkR : (wR.cell? ⟨w.heap.size + 1, 0, none⟩ = some (.int .i64 s) ∧ wR.cell? ⟨w.heap.size + 1, 1, none⟩ = some (.slice A1 l.length c1) ∧ wR.cell? ⟨w.heap.size + 1, 2, none⟩ = some (.slice A2 r.length c2)) := C3.next (HC2.out) hqR) | (go_at_call 30; (with_reducible refine (l05Rest_any _ r _ (((HBs.out.next (below_one w2 (.cells #[.int .i64 0, .slice none 0 0, .slice none 0 0] 30))).drew)) (by omega)).mono ?_); rintro e wR ⟨vR, rfl, oR, hbR⟩; obtain ⟨BR, dR, rfl, _, _, htR⟩ := oR.sl; clear htR; rw [hld.out] at oR ⊢; have hcR : Below (w2.alloc (.cells #[.int .i64 0, .slice none 0 0, .slice none 0 0] 30)).heap.size (w2.alloc (.cells #[.int .i64 0, .slice none 0 0, .slice none 0 0] 30)) wR := ⟨hbR.os, hbR.tape, hbR.output, hbR.size, hbR.block⟩; have hpR : Below w2.heap.size w2 wR := (below_one w2 (.cells #[.int .i64 0, .slice none 0 0, .slice none 0 0] 30)).trans (hcR.mono (by simp)); have bx := Box.of (heap_one hcR); have obR : Fresh wR w2.heap.size _ (r.drop 1) := .inl (oR.lower (by simp)); have rgR : ∀ k, blk (.slice BR (r.length - 1) dR) = some k → w2.heap.size < k ∧ k < wR.heap.size := (fun k hk => by have h := Fresh.lt (.inl oR) k hk; simp at h; omega); have vlo : w2.heap.size ≤ w2.heap.size := (by omega); have vbe : w2.heap.size < wR.heap.size := (by have h := hcR.size; simp at h; omega); have hzR := hpR.size; have hqR := hpR; have kkR : (wR.cell? ⟨w.heap.size + 1, 0, none⟩ = some (.int .i64 s) ∧ wR.cell? ⟨w.heap.size + 1, 1, none⟩ = some (.slice A1 l.length c1) ∧ wR.cell? ⟨w.heap.size + 1, 2, none⟩ = some (.slice A2 r.length c2)) := C3.next (HC2.out) hqR) | (go_at_call 30; (with_reducible refine (l05Rest_any _ r _ ((HBs.out.next hqP)) (by omega)).mono ?_); rintro e wR ⟨vR, rfl, oR, hbR⟩; obtain ⟨BR, dR, rfl, _, _, htR⟩ := oR.sl; clear htR; rw [hld.out] at oR ⊢; have hpR : Below wP.heap.size wP wR := ⟨hbR.os, hbR.tape, hbR.output, hbR.size, hbR.block⟩; have obR : Fresh wR wP.heap.size _ (r.drop 1) := .inl oR; have rgR : ∀ k, blk (.slice BR (r.length - 1) dR) = some k → wP.heap.size ≤ k ∧ k < wR.heap.size := (fun k hk => Fresh.lt (.inl oR) k hk); replace bx := bx.next hpR; have hzR := hpR.size; have hqR := below_next hqP hpR; replace obP := (obP.next hpR).lower (by omega : w2.heap.size ≤ w2.heap.size); replace obR := obR.lower (by omega : w2.heap.size ≤ wP.heap.size); have HX := Lib.hid bx; obtain ⟨xc0, xc1, xc2, xf0, xf1, xf2⟩ := bx; have kkR : (wR.cell? ⟨w.heap.size + 1, 0, none⟩ = some (.int .i64 s) ∧ wR.cell? ⟨w.heap.size + 1, 1, none⟩ = some (.slice A1 l.length c1) ∧ wR.cell? ⟨w.heap.size + 1, 2, none⟩ = some (.slice A2 r.length c2)) := C3.next (HC2.out) hqR) | (go_at_call 30; (with_reducible refine (l05Rest_any _ r _ ((HBs.out.next hqP)) (by omega)).mono ?_); rintro e wR ⟨vR, rfl, oR, hbR⟩; obtain ⟨BR, dR, rfl, _, _, htR⟩ := oR.sl; clear htR; rw [hld.out] at oR ⊢; have hpR : Below wP.heap.size wP wR := ⟨hbR.os, hbR.tape, hbR.output, hbR.size, hbR.block⟩; have obR : Fresh wR wP.heap.size _ (r.drop 1) := .inl oR; have rgR : ∀ k, blk (.slice BR (r.length - 1) dR) = some k → wP.heap.size ≤ k ∧ k < wR.heap.size := (fun k hk => Fresh.lt (.inl oR) k hk); have hzR := hpR.size; have hqR := below_next hqP hpR; replace obP := (obP.next hpR).lower (by omega : w2.heap.size ≤ w2.heap.size); replace obR := obR.lower (by omega : w2.heap.size ≤ wP.heap.size); have kkR : (wR.cell? ⟨w.heap.size + 1, 0, none⟩ = some (.int .i64 s) ∧ wR.cell? ⟨w.heap.size + 1, 1, none⟩ = some (.slice A1 l.length c1) ∧ wR.cell? ⟨w.heap.size + 1, 2, none⟩ = some (.slice A2 r.length c2)) := C3.next (HC2.out) hqR) | (go_at_call 30; (with_reducible refine (l05Rest_any _ r _ (((HBs.out.next hqP).next (below_one wP (.cells #[.int .i64 0, .slice none 0 0, .slice none 0 0] 30)))) (by omega)).mono ?_); rintro e wR ⟨vR, rfl, oR, hbR⟩; obtain ⟨BR, dR, rfl, _, _, htR⟩ := oR.sl; clear htR; rw [hld.out] at oR ⊢; have hcR : Below (wP.alloc (.cells #[.int .i64 0, .slice none 0 0, .slice none 0 0] 30)).heap.size (wP.alloc (.cells #[.int .i64 0, .slice none 0 0, .slice none 0 0] 30)) wR := ⟨hbR.os, hbR.tape, hbR.output, hbR.size, hbR.block⟩; have hpR : Below wP.heap.size wP wR := (below_one wP (.cells #[.int .i64 0, .slice none 0 0, .slice none 0 0] 30)).trans (hcR.mono (by simp)); have bx := Box.of (heap_one hcR); have obR : Fresh wR wP.heap.size _ (r.drop 1) := .inl (oR.lower (by simp)); have rgR : ∀ k, blk (.slice BR (r.length - 1) dR) = some k → wP.heap.size < k ∧ k < wR.heap.size := (fun k hk => by have h := Fresh.lt (.inl oR) k hk; simp at h; omega); have vlo : w2.heap.size ≤ wP.heap.size := (by omega); have vbe : wP.heap.size < wR.heap.size := (by have h := hcR.size; simp at h; omega); have hzR := hpR.size; have hqR := below_next hqP hpR; replace obP := (obP.next hpR).lower (by omega : w2.heap.size ≤ w2.heap.size); replace obR := obR.lower (by omega : w2.heap.size ≤ wP.heap.size); have HX := Lib.hid bx; obtain ⟨xc0, xc1, xc2, xf0, xf1, xf2⟩ := bx; have kkR : (wR.cell? ⟨w.heap.size + 1, 0, none⟩ = some (.int .i64 s) ∧ wR.cell? ⟨w.heap.size + 1, 1, none⟩ = some (.slice A1 l.length c1) ∧ wR.cell? ⟨w.heap.size + 1, 2, none⟩ = some (.slice A2 r.length c2)) := C3.next (HC2.out) hqR) | (go_at_call 31; (with_reducible refine (l05Push_any (headI r) _ l _ ((HAs.out.drew)) (by omega)).mono ?_); rintro e wP ⟨vP, rfl, oP, hbP⟩; obtain ⟨BP, dP, rfl, _, _, htP⟩ := oP.sl; clear htP; have hpP : Below w2.heap.size w2 wP := ⟨hbP.os, hbP.tape, hbP.output, hbP.size, hbP.block⟩; have obP : Fresh wP w2.heap.size _ (trim (headI r :: l)) := .inl oP; have rgP : ∀ k, blk (.slice BP (trim (headI r :: l)).length dP) = some k → w2.heap.size ≤ k ∧ k < wP.heap.size := (fun k hk => Fresh.lt (.inl oP) k hk); have hzP := hpP.size; have hqP := hpP; have kkP : (wP.cell? ⟨w.heap.size + 1, 0, none⟩ = some (.int .i64 s) ∧ wP.cell? ⟨w.heap.size + 1, 1, none⟩ = some (.slice A1 l.length c1) ∧ wP.cell? ⟨w.heap.size + 1, 2, none⟩ = some (.slice A2 r.length c2)) := C3.next (HC2.out) hqP) | (go_at_call 31; (with_reducible refine (l05Push_any (headI r) _ l _ (((HAs.out.next (below_one w2 (.cells #[.int .i64 0, .slice none 0 0, .slice none 0 0] 30))).drew)) (by omega)).mono ?_); rintro e wP ⟨vP, rfl, oP, hbP⟩; obtain ⟨BP, dP, rfl, _, _, htP⟩ := oP.sl; clear htP; have hcP : Below (w2.alloc (.cells #[.int .i64 0, .slice none 0 0, .slice none 0 0] 30)).heap.size (w2.alloc (.cells #[.int .i64 0, .slice none 0 0, .slice none 0 0] 30)) wP := ⟨hbP.os, hbP.tape, hbP.output, hbP.size, hbP.block⟩; have hpP : Below w2.heap.size w2 wP := (below_one w2 (.cells #[.int .i64 0, .slice none 0 0, .slice none 0 0] 30)).trans (hcP.mono (by simp)); have bx := Box.of (heap_one hcP); have obP : Fresh wP w2.heap.size _ (trim (headI r :: l)) := .inl (oP.lower (by simp)); have rgP : ∀ k, blk (.slice BP (trim (headI r :: l)).length dP) = some k → w2.heap.size < k ∧ k < wP.heap.size := (fun k hk => by have h := Fresh.lt (.inl oP) k hk; simp at h; omega); have vlo : w2.heap.size ≤ w2.heap.size := (by omega); have vbe : w2.heap.size < wP.heap.size := (by have h := hcP.size; simp at h; omega); have hzP := hpP.size; have hqP := hpP; have kkP : (wP.cell? ⟨w.heap.size + 1, 0, none⟩ = some (.int .i64 s) ∧ wP.cell? ⟨w.heap.size + 1, 1, none⟩ = some (.slice A1 l.length c1) ∧ wP.cell? ⟨w.heap.size + 1, 2, none⟩ = some (.slice A2 r.length c2)) := C3.next (HC2.out) hqP) | (go_at_call 31; (with_reducible refine (l05Push_any (headI r) _ l _ ((HAs.out.next hqR)) (by omega)).mono ?_); rintro e wP ⟨vP, rfl, oP, hbP⟩; obtain ⟨BP, dP, rfl, _, _, htP⟩ := oP.sl; clear htP; have hpP : Below wR.heap.size wR wP := ⟨hbP.os, hbP.tape, hbP.output, hbP.size, hbP.block⟩; have obP : Fresh wP wR.heap.size _ (trim (headI r :: l)) := .inl oP; have rgP : ∀ k, blk (.slice BP (trim (headI r :: l)).length dP) = some k → wR.heap.size ≤ k ∧ k < wP.heap.size := (fun k hk => Fresh.lt (.inl oP) k hk); replace bx := bx.next hpP; have hzP := hpP.size; have hqP := below_next hqR hpP; replace obR := (obR.next hpP).lower (by omega : w2.heap.size ≤ w2.heap.size); replace obP := obP.lower (by omega : w2.heap.size ≤ wR.heap.size); have HX := Lib.hid bx; obtain ⟨xc0, xc1, xc2, xf0, xf1, xf2⟩ := bx; have kkP : (wP.cell? ⟨w.heap.size + 1, 0, none⟩ = some (.int .i64 s) ∧ wP.cell? ⟨w.heap.size + 1, 1, none⟩ = some (.slice A1 l.length c1) ∧ wP.cell? ⟨w.heap.size + 1, 2, none⟩ = some (.slice A2 r.length c2)) := C3.next (HC2.out) hqP) | (go_at_call 31; (with_reducible refine (l05Push_any (headI r) _ l _ ((HAs.out.next hqR)) (by omega)).mono ?_); rintro e wP ⟨vP, rfl, oP, hbP⟩; obtain ⟨BP, dP, rfl, _, _, htP⟩ := oP.sl; clear htP; have hpP : Below wR.heap.size wR wP := ⟨hbP.os, hbP.tape, hbP.output, hbP.size, hbP.block⟩; have obP : Fresh wP wR.heap.size _ (trim (headI r :: l)) := .inl oP; have rgP : ∀ k, blk (.slice BP (trim (headI r :: l)).length dP) = some k → wR.heap.size ≤ k ∧ k < wP.heap.size := (fun k hk => Fresh.lt (.inl oP) k hk); have hzP := hpP.size; have hqP := below_next hqR hpP; replace obR := (obR.next hpP).lower (by omega : w2.heap.size ≤ w2.heap.size); replace obP := obP.lower (by omega : w2.heap.size ≤ wR.heap.size); have kkP : (wP.cell? ⟨w.heap.size + 1, 0, none⟩ = some (.int .i64 s) ∧ wP.cell? ⟨w.heap.size + 1, 1, none⟩ = some (.slice A1 l.length c1) ∧ wP.cell? ⟨w.heap.size + 1, 2, none⟩ = some (.slice A2 r.length c2)) := C3.next (HC2.out) hqP) | (go_at_call 31; (with_reducible refine (l05Push_any (headI r) _ l _ (((HAs.out.next hqR).next (below_one wR (.cells #[.int .i64 0, .slice none 0 0, .slice none 0 0] 30)))) (by omega)).mono ?_); rintro e wP ⟨vP, rfl, oP, hbP⟩; obtain ⟨BP, dP, rfl, _, _, htP⟩ := oP.sl; clear htP; have hcP : Below (wR.alloc (.cells #[.int .i64 0, .slice none 0 0, .slice none 0 0] 30)).heap.size (wR.alloc (.cells #[.int .i64 0, .slice none 0 0, .slice none 0 0] 30)) wP := ⟨hbP.os, hbP.tape, hbP.output, hbP.size, hbP.block⟩; have hpP : Below wR.heap.size wR wP := (below_one wR (.cells #[.int .i64 0, .slice none 0 0, .slice none 0 0] 30)).trans (hcP.mono (by simp)); have bx := Box.of (heap_one hcP); have obP : Fresh wP wR.heap.size _ (trim (headI r :: l)) := .inl (oP.lower (by simp)); have rgP : ∀ k, blk (.slice BP (trim (headI r :: l)).length dP) = some k → wR.heap.size < k ∧ k < wP.heap.size := (fun k hk => by have h := Fresh.lt (.inl oP) k hk; simp at h; omega); have vlo : w2.heap.size ≤ wR.heap.size := (by omega); have vbe : wR.heap.size < wP.heap.size := (by have h := hcP.size; simp at h; omega); have hzP := hpP.size; have hqP := below_next hqR hpP; replace obR := (obR.next hpP).lower (by omega : w2.heap.size ≤ w2.heap.size); replace obP := obP.lower (by omega : w2.heap.size ≤ wR.heap.size); have HX := Lib.hid bx; obtain ⟨xc0, xc1, xc2, xf0, xf1, xf2⟩ := bx; have kkP : (wP.cell? ⟨w.heap.size + 1, 0, none⟩ = some (.int .i64 s) ∧ wP.cell? ⟨w.heap.size + 1, 1, none⟩ = some (.slice A1 l.length c1) ∧ wP.cell? ⟨w.heap.size + 1, 2, none⟩ = some (.slice A2 r.length c2)) := C3.next (HC2.out) hqP))
    all_goals (
      go_wp2_with fail
      go_meet
      case rel =>
        refine ⟨_, BR, BP, dR, dP, rfl, ?_⟩
        first
          | ((with_reducible refine Lib.hid (StC.late hqP 30 obR obP ?_ (Nat.le_refl _))); intro k h1 h2; have h3 := rgR k h1; have h4 := rgP k h2; omega)
          | ((with_reducible refine Lib.hid (StC.gen hqP HX.out ?_ obR obP ?_ ?_ ?_)); (· omega); (· intro k h1 h2; have h3 := rgR k h1; have h4 := rgP k h2; omega); (· intro k h1; have h3 := rgR k h1; omega); (· intro k h1; have h3 := rgP k h1; omega))
          | ((with_reducible refine Lib.hid (StC.late hqR 30 obR obP ?_ (Nat.le_refl _))); intro k h1 h2; have h3 := rgR k h1; have h4 := rgP k h2; omega)
          | ((with_reducible refine Lib.hid (StC.gen hqR HX.out ?_ obR obP ?_ ?_ ?_)); (· omega); (· intro k h1 h2; have h3 := rgR k h1; have h4 := rgP k h2; omega); (· intro k h1; have h3 := rgR k h1; omega); (· intro k h1; have h3 := rgP k h1; omega)))
  case rest =>
    obtain ⟨vb, Aq, Dq, Cq, Eq, rfl, HST⟩ := hcut
    rename World => w3
    have hB3 := below_next hB2 HST.out.below
    have HBZ3 := Lib.hid (HBZ.out.next HST.out.below)
    clear p0 p1 p2
    obtain ⟨y0, y1, y2⟩ := HST.out.box
    obtain ⟨z0, z1, z2, zf0, zf1, zf2⟩ := HBZ3.out
    have hlo := HST.out.lo
    have ne1 : ¬ w.heap.size + 2 = vb := by omega
    have ne2 : ¬ vb = w.heap.size + 2 := by omega
    have hml := mirR_len l r
    have hOA := Lib.hid HST.out.rowa
    have hOB := Lib.hid HST.out.rowb
    have hAP := Lib.hid HST.out.ap
    by_cases ht : 200 < (mirR l r).length
    · have t1 : (200 : Int) < ((trim (headI r :: l)).length : Int) := by have : (mirR l r).length = (trim (headI r :: l)).length := rfl; omega
      have HT := Lib.hid ht
      go_wp2_with fail
      refine bodyPost_ret (v := .tuple #[.agg #[.int .i64 0, .slice none 0 0, .slice none 0 0], .int .i64 5]) (by simp [results, Try.results8, go_sem, z0, z1, z2]) rfl (RetMir.full HT.out ⟨_, _, rfl, Fresh.nil_ _ _, Fresh.nil_ _ _, (fun k hk => by cases hk), ?_⟩)
      repeat refine Below.setCell ?_ (by first | (simp; done) | (simp; omega)) _
      exact hB3
    · have t1 : decide ((200 : Int) < ((trim (headI r :: l)).length : Int)) = false := decide_eq_false (by have : (mirR l r).length = (trim (headI r :: l)).length := rfl; omega)
      have t2 : decide (200 < (trim (headI r :: l)).length) = false := decide_eq_false ht
      have HT := Lib.hid ht
      clear ht
      go_wp2_with fail
      refine bodyPost_ret (v := .tuple #[.agg #[.int .i64 s, .slice Aq (r.length - 1) Cq, .slice Dq (trim (headI r :: l)).length Eq], .int .i64 0]) (by simp [results, Try.results8, go_sem, z0, z1, z2]) rfl (RetMir.ok HT.out ⟨_, _, rfl, ?_, ?_, hAP.out, ?_⟩)
      · refine Fresh.lower (base := w.heap.size + 3) ?_ (by omega)
        refine Fresh.set (Fresh.set (Fresh.set ?_ (by simp) _) (by simp) _) (by simp) _
        exact hOA.out.lower (by omega)
      · refine Fresh.lower (base := w.heap.size + 3) ?_ (by omega)
        refine Fresh.set (Fresh.set (Fresh.set ?_ (by simp) _) (by simp) _) (by simp) _
        exact hOB.out.lower (by omega)
      · repeat refine Below.setCell ?_ (by first | (simp; done) | (simp; omega)) _
        exact hB3
end Go.Proofs.Ytbjkhnajnbmnlaa
