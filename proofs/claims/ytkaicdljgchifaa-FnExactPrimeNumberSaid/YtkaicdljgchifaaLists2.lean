/- Shortlex order, reversing, ranks: contracts and what the laws need. No condition beyond the stated bounds. -/
import Derived.Test.YtkaicdljgchifaaLists
namespace Go.Proofs.Ytkaicdljgchifaa
open Go.RowKit
theorem reversed_any (v : Value) (l : List Int) (w : World) (h : Sl w v l) (hn : l.length ≤ 4000000) :
    Calls Try.prog 75 #[v] w (RetRow w l.reverse) := by
  go_enter Try.func75, Try.ntmps75
  go_wp2_with fail
  refine (clone_own _ _ _ h hn).mono ?_
  rintro e w1 ⟨r, rfl, o1, hb1⟩
  go_wp2_with fail
  refine (reverse_own _ _ _ _ o1 (by omega)).mono ?_
  rintro e w2 ⟨rfl, o2, hg2⟩
  have hB := (hb1.grown hg2 hb1.size (fun k hk => (o1.lt k hk).1))
  go_wp2_with fail
  go_ret
  exact ⟨_, rfl, .inl o2, hB⟩
end Go.Proofs.Ytkaicdljgchifaa
