/- SortList: the program's answer; both are the same. No condition beyond the stated bounds. -/
import Derived.Test.YtfdcpfhiknfpiaaGreatDoorSortI
import Derived.Test.YtfdcpfhiknfpiaaGreatDoorShelf
import Derived.Sort.OwnSortedInts
import Derived.Shelf.SortM.SortNone
namespace Go.Proofs.YtfdcpfhiknfpiaaGreatDoor
open Go.RowKit Go.Sort
theorem implSortList_any (v : Value) (l : List Int) (w : World) (h : Sl w v l) (hn : l.length ≤ 1048576) :
    Calls Tryz.prog 13 #[v] w (RetOwn w (sortL l)) := by
  go_enter Tryz.func13, Tryz.ntmps13
  go_wp2_with fail
  refine (clone_own _ l _ h (by omega)).mono ?_
  rintro e w1 ⟨r, rfl, o1, hb1⟩
  rcases o1.2 with ⟨rfl, hn0⟩ | ⟨g, cap, cur, rfl, hbg, hg, hnc, hcm, hcs, htake⟩
  · have hl : l = [] := List.eq_nil_of_length_eq_zero hn0
    subst hl
    have HO := Lib.hid o1
    clear o1 hn0
    go_wp2_with (go_at_call 27; refine (AnyM.slices_Sort_int_none Tryz.laysSlM5_f27 _ _ _).mono ?_; rintro e w' ⟨rfl, rfl⟩)
    go_ret
    exact ⟨_, rfl, by have : sortL [] = [] := by simp [sortL]
                      rw [this]; exact HO.out, hb1⟩
  · have HH := Lib.hid (holds_of_blockI (ss := l) hg (by simpa using htake))
    have hgl : g < w1.heap.size := (o1.lt g rfl).2
    have HG := Lib.hid hg
    have HCS := Lib.hid hcs
    clear hg htake hcs o1
    have hcall := Tryz.slices_Sort_int g 0 cap l w1 HH.out hgl (by omega)
    go_wp2_with fail
    refine hcall.mono ?_
    rintro e w2 ⟨rfl, nn, os, hw2⟩
    have HO2 : Hid (Owns w2 w.heap.size (.slice (some ⟨g, 0, none⟩) l.length cap) (sortL l)) := Lib.hid (by
      have h := ownsRow_sortedI (n := nn) (os := os) (ss := l) (ts := sortL l) (sortL_len l) hbg HG.out hnc hcm HCS.out
      unfold Owns
      rw [hw2, sortL_len]
      exact h)
    have hg2 : w1.grownBy w2 (some g) := by rw [hw2]; exact grownBy_sortedI _
    have hB2 := hb1.grown hg2 hb1.size (fun k hk => by injection hk with hk; omega)
    clear hcall hw2
    go_wp2_with fail
    go_ret
    exact ⟨_, rfl, HO2.out, hB2⟩
end Go.Proofs.YtfdcpfhiknfpiaaGreatDoor
