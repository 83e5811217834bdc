/-
  No cell of these rows narrows 'for every input' (looked for: loops, veiled, ifaces, maps, wideKeys, modest, calm, conditions, laid).
  DERIVED. THE GIVEN ROWS OF THIS SEAT. 12 by the template 'for every input the law returns true; each argument reads behind the call as it read before'; 0 by the template 'total and deterministic' (their statements: YtedeblnodeabiaaTotals.lean).
  GIVEN WITH THE SEED: the statements are not yours to turn. If you find one false, say at which input.
  Laid BY PROGRAM, IN A SANDBOX (cutbox-rows.mjs): the forced cells as the released guide's own fill.sh prints them over the translation 0bb37385c1135b26… (all of the seat's roots in one cut). By AI agents, Wed Nov 11 2026. No macro, syntax, notation, axiom, sorry.
-/
import Derived.Test.YtedeblnodeabiaaChecked
import GoSem.Claim
import GoSem.ClaimJoined
import GoSem.ClaimMapViews
import Derived.JoinedTies
import Derived.KernelRfl
namespace Go.Proofs.Ytedeblnodeabiaa
/- THE CELL 'sum', in the pinned program and in every row, IS THE sha256 OF THE DUMP (.gsa) THAT YtedeblnodeabiaaProg.lean LOADS. Nothing in Lean hashes anything: it is a label: what it is worth is what the hold of that sum in a sandbox is worth. -/
noncomputable def Try.pinned : Pinned := { name := "ytedeblnodeabiaa", sum := "0bb37385c1135b26a342ac3bbb137b1857b8c036d1ff15646cffefdbb241b7ef", checked := Try.checked }
namespace Rows
def none {H : Type} : Left H := { results := [], args := [] }

/-- 'laws.FnExactConstants': WHATEVER THE INPUT: true; the input reads as it did. -/
def fnExactConstantsSpec : ChangeSpec := { name := "fnExactConstants", fn := fun _ => fun
  | [] => { results := [.lit (.bool true)], args := [] }
  | _ => none }
def fnExactConstantsRow : OpenClaim := { program := "ytedeblnodeabiaa", sum := "0bb37385c1135b26a342ac3bbb137b1857b8c036d1ff15646cffefdbb241b7ef", func := "loop.example/g01079/laws.FnExactConstants", spec := "fnExactConstants", apart := false }
def FnExactConstantsSaid : Prop := fnExactConstantsRow.holds Try.pinned (OpenSpec.ofChange fnExactConstantsSpec)

/-- ITS FALSE NEIGHBOUR: 'it returns false'. Refute it at one input. -/
def fnExactConstantsWrong : ChangeSpec := { name := "fnExactConstants", fn := fun _ => fun
  | [] => { results := [.lit (.bool false)], args := [] }
  | _ => none }
def FnExactConstantsWrongFalsely : Prop := fnExactConstantsRow.holds Try.pinned (OpenSpec.ofChange fnExactConstantsWrong)

/-- 'laws.FnExactCodeName': WHATEVER THE INPUT: true; the input reads as it did. -/
def fnExactCodeNameSpec : ChangeSpec := { name := "fnExactCodeName", fn := fun _ => fun
  | [d] => { results := [.lit (.bool true)], args := [d] }
  | _ => none }
def fnExactCodeNameRow : OpenClaim := { program := "ytedeblnodeabiaa", sum := "0bb37385c1135b26a342ac3bbb137b1857b8c036d1ff15646cffefdbb241b7ef", func := "loop.example/g01079/laws.FnExactCodeName", spec := "fnExactCodeName", apart := false }
def FnExactCodeNameSaid : Prop := fnExactCodeNameRow.holds Try.pinned (OpenSpec.ofChange fnExactCodeNameSpec)

/-- ITS FALSE NEIGHBOUR: 'it returns false'. Refute it at one input. -/
def fnExactCodeNameWrong : ChangeSpec := { name := "fnExactCodeName", fn := fun _ => fun
  | [d] => { results := [.lit (.bool false)], args := [d] }
  | _ => none }
def FnExactCodeNameWrongFalsely : Prop := fnExactCodeNameRow.holds Try.pinned (OpenSpec.ofChange fnExactCodeNameWrong)

/-- 'laws.FnExactIsPrime': WHATEVER THE INPUT: true; the input reads as it did. -/
def fnExactIsPrimeSpec : ChangeSpec := { name := "fnExactIsPrime", fn := fun _ => fun
  | [d] => { results := [.lit (.bool true)], args := [d] }
  | _ => none }
def fnExactIsPrimeRow : OpenClaim := { program := "ytedeblnodeabiaa", sum := "0bb37385c1135b26a342ac3bbb137b1857b8c036d1ff15646cffefdbb241b7ef", func := "loop.example/g01079/laws.FnExactIsPrime", spec := "fnExactIsPrime", apart := false }
def FnExactIsPrimeSaid : Prop := fnExactIsPrimeRow.holds Try.pinned (OpenSpec.ofChange fnExactIsPrimeSpec)

/-- ITS FALSE NEIGHBOUR: 'it returns false'. Refute it at one input. -/
def fnExactIsPrimeWrong : ChangeSpec := { name := "fnExactIsPrime", fn := fun _ => fun
  | [d] => { results := [.lit (.bool false)], args := [d] }
  | _ => none }
def FnExactIsPrimeWrongFalsely : Prop := fnExactIsPrimeRow.holds Try.pinned (OpenSpec.ofChange fnExactIsPrimeWrong)

/-- 'laws.FnExactIsName': WHATEVER THE INPUT: true; the input reads as it did. -/
def fnExactIsNameSpec : ChangeSpec := { name := "fnExactIsName", fn := fun _ => fun
  | [d] => { results := [.lit (.bool true)], args := [d] }
  | _ => none }
def fnExactIsNameRow : OpenClaim := { program := "ytedeblnodeabiaa", sum := "0bb37385c1135b26a342ac3bbb137b1857b8c036d1ff15646cffefdbb241b7ef", func := "loop.example/g01079/laws.FnExactIsName", spec := "fnExactIsName", apart := false }
def FnExactIsNameSaid : Prop := fnExactIsNameRow.holds Try.pinned (OpenSpec.ofChange fnExactIsNameSpec)

/-- ITS FALSE NEIGHBOUR: 'it returns false'. Refute it at one input. -/
def fnExactIsNameWrong : ChangeSpec := { name := "fnExactIsName", fn := fun _ => fun
  | [d] => { results := [.lit (.bool false)], args := [d] }
  | _ => none }
def FnExactIsNameWrongFalsely : Prop := fnExactIsNameRow.holds Try.pinned (OpenSpec.ofChange fnExactIsNameWrong)

/-- 'laws.FnExactExponentOf': WHATEVER THE INPUT: true; the input reads as it did. -/
def fnExactExponentOfSpec : ChangeSpec := { name := "fnExactExponentOf", fn := fun _ => fun
  | [d1, d2] => { results := [.lit (.bool true)], args := [d1, d2] }
  | _ => none }
def fnExactExponentOfRow : OpenClaim := { program := "ytedeblnodeabiaa", sum := "0bb37385c1135b26a342ac3bbb137b1857b8c036d1ff15646cffefdbb241b7ef", func := "loop.example/g01079/laws.FnExactExponentOf", spec := "fnExactExponentOf", apart := false }
def FnExactExponentOfSaid : Prop := fnExactExponentOfRow.holds Try.pinned (OpenSpec.ofChange fnExactExponentOfSpec)

/-- ITS FALSE NEIGHBOUR: 'it returns false'. Refute it at one input. -/
def fnExactExponentOfWrong : ChangeSpec := { name := "fnExactExponentOf", fn := fun _ => fun
  | [d1, d2] => { results := [.lit (.bool false)], args := [d1, d2] }
  | _ => none }
def FnExactExponentOfWrongFalsely : Prop := fnExactExponentOfRow.holds Try.pinned (OpenSpec.ofChange fnExactExponentOfWrong)

/-- 'laws.FnExactCrc16': WHATEVER THE INPUT: true; the input reads as it did. -/
def fnExactCrc16Spec : ChangeSpec := { name := "fnExactCrc16", fn := fun _ => fun
  | [d1, d2] => { results := [.lit (.bool true)], args := [d1, d2] }
  | _ => none }
def fnExactCrc16Row : OpenClaim := { program := "ytedeblnodeabiaa", sum := "0bb37385c1135b26a342ac3bbb137b1857b8c036d1ff15646cffefdbb241b7ef", func := "loop.example/g01079/laws.FnExactCrc16", spec := "fnExactCrc16", apart := false }
def FnExactCrc16Said : Prop := fnExactCrc16Row.holds Try.pinned (OpenSpec.ofChange fnExactCrc16Spec)

/-- ITS FALSE NEIGHBOUR: 'it returns false'. Refute it at one input. -/
def fnExactCrc16Wrong : ChangeSpec := { name := "fnExactCrc16", fn := fun _ => fun
  | [d1, d2] => { results := [.lit (.bool false)], args := [d1, d2] }
  | _ => none }
def FnExactCrc16WrongFalsely : Prop := fnExactCrc16Row.holds Try.pinned (OpenSpec.ofChange fnExactCrc16Wrong)

/-- 'laws.FnExactPowerOf': WHATEVER THE INPUT: true; the input reads as it did. -/
def fnExactPowerOfSpec : ChangeSpec := { name := "fnExactPowerOf", fn := fun _ => fun
  | [d1, d2] => { results := [.lit (.bool true)], args := [d1, d2] }
  | _ => none }
def fnExactPowerOfRow : OpenClaim := { program := "ytedeblnodeabiaa", sum := "0bb37385c1135b26a342ac3bbb137b1857b8c036d1ff15646cffefdbb241b7ef", func := "loop.example/g01079/laws.FnExactPowerOf", spec := "fnExactPowerOf", apart := false }
def FnExactPowerOfSaid : Prop := fnExactPowerOfRow.holds Try.pinned (OpenSpec.ofChange fnExactPowerOfSpec)

/-- ITS FALSE NEIGHBOUR: 'it returns false'. Refute it at one input. -/
def fnExactPowerOfWrong : ChangeSpec := { name := "fnExactPowerOf", fn := fun _ => fun
  | [d1, d2] => { results := [.lit (.bool false)], args := [d1, d2] }
  | _ => none }
def FnExactPowerOfWrongFalsely : Prop := fnExactPowerOfRow.holds Try.pinned (OpenSpec.ofChange fnExactPowerOfWrong)

/-- 'laws.FnExactIsWord': WHATEVER THE INPUT: true; the input reads as it did. -/
def fnExactIsWordSpec : ChangeSpec := { name := "fnExactIsWord", fn := fun _ => fun
  | [d] => { results := [.lit (.bool true)], args := [d] }
  | _ => none }
def fnExactIsWordRow : OpenClaim := { program := "ytedeblnodeabiaa", sum := "0bb37385c1135b26a342ac3bbb137b1857b8c036d1ff15646cffefdbb241b7ef", func := "loop.example/g01079/laws.FnExactIsWord", spec := "fnExactIsWord", apart := false }
def FnExactIsWordSaid : Prop := fnExactIsWordRow.holds Try.pinned (OpenSpec.ofChange fnExactIsWordSpec)

/-- ITS FALSE NEIGHBOUR: 'it returns false'. Refute it at one input. -/
def fnExactIsWordWrong : ChangeSpec := { name := "fnExactIsWord", fn := fun _ => fun
  | [d] => { results := [.lit (.bool false)], args := [d] }
  | _ => none }
def FnExactIsWordWrongFalsely : Prop := fnExactIsWordRow.holds Try.pinned (OpenSpec.ofChange fnExactIsWordWrong)

/-- 'laws.FnExactIsNatural': WHATEVER THE INPUT: true; the input reads as it did. -/
def fnExactIsNaturalSpec : ChangeSpec := { name := "fnExactIsNatural", fn := fun _ => fun
  | [d] => { results := [.lit (.bool true)], args := [d] }
  | _ => none }
def fnExactIsNaturalRow : OpenClaim := { program := "ytedeblnodeabiaa", sum := "0bb37385c1135b26a342ac3bbb137b1857b8c036d1ff15646cffefdbb241b7ef", func := "loop.example/g01079/laws.FnExactIsNatural", spec := "fnExactIsNatural", apart := false }
def FnExactIsNaturalSaid : Prop := fnExactIsNaturalRow.holds Try.pinned (OpenSpec.ofChange fnExactIsNaturalSpec)

/-- ITS FALSE NEIGHBOUR: 'it returns false'. Refute it at one input. -/
def fnExactIsNaturalWrong : ChangeSpec := { name := "fnExactIsNatural", fn := fun _ => fun
  | [d] => { results := [.lit (.bool false)], args := [d] }
  | _ => none }
def FnExactIsNaturalWrongFalsely : Prop := fnExactIsNaturalRow.holds Try.pinned (OpenSpec.ofChange fnExactIsNaturalWrong)

/-- 'laws.FnExactPrimeAt': WHATEVER THE INPUT: true; the input reads as it did. -/
def fnExactPrimeAtSpec : ChangeSpec := { name := "fnExactPrimeAt", fn := fun _ => fun
  | [d] => { results := [.lit (.bool true)], args := [d] }
  | _ => none }
def fnExactPrimeAtRow : OpenClaim := { program := "ytedeblnodeabiaa", sum := "0bb37385c1135b26a342ac3bbb137b1857b8c036d1ff15646cffefdbb241b7ef", func := "loop.example/g01079/laws.FnExactPrimeAt", spec := "fnExactPrimeAt", apart := false }
def FnExactPrimeAtSaid : Prop := fnExactPrimeAtRow.holds Try.pinned (OpenSpec.ofChange fnExactPrimeAtSpec)

/-- ITS FALSE NEIGHBOUR: 'it returns false'. Refute it at one input. -/
def fnExactPrimeAtWrong : ChangeSpec := { name := "fnExactPrimeAt", fn := fun _ => fun
  | [d] => { results := [.lit (.bool false)], args := [d] }
  | _ => none }
def FnExactPrimeAtWrongFalsely : Prop := fnExactPrimeAtRow.holds Try.pinned (OpenSpec.ofChange fnExactPrimeAtWrong)

/-- 'laws.FnExactNaturalOf': WHATEVER THE INPUT: true; the input reads as it did. -/
def fnExactNaturalOfSpec : ChangeSpec := { name := "fnExactNaturalOf", fn := fun _ => fun
  | [d] => { results := [.lit (.bool true)], args := [d] }
  | _ => none }
def fnExactNaturalOfRow : OpenClaim := { program := "ytedeblnodeabiaa", sum := "0bb37385c1135b26a342ac3bbb137b1857b8c036d1ff15646cffefdbb241b7ef", func := "loop.example/g01079/laws.FnExactNaturalOf", spec := "fnExactNaturalOf", apart := false }
def FnExactNaturalOfSaid : Prop := fnExactNaturalOfRow.holds Try.pinned (OpenSpec.ofChange fnExactNaturalOfSpec)

/-- ITS FALSE NEIGHBOUR: 'it returns false'. Refute it at one input. -/
def fnExactNaturalOfWrong : ChangeSpec := { name := "fnExactNaturalOf", fn := fun _ => fun
  | [d] => { results := [.lit (.bool false)], args := [d] }
  | _ => none }
def FnExactNaturalOfWrongFalsely : Prop := fnExactNaturalOfRow.holds Try.pinned (OpenSpec.ofChange fnExactNaturalOfWrong)

/-- 'laws.FnExactReadWord': WHATEVER THE INPUT: true; the input reads as it did. -/
def fnExactReadWordSpec : ChangeSpec := { name := "fnExactReadWord", fn := fun _ => fun
  | [d] => { results := [.lit (.bool true)], args := [d] }
  | _ => none }
def fnExactReadWordRow : OpenClaim := { program := "ytedeblnodeabiaa", sum := "0bb37385c1135b26a342ac3bbb137b1857b8c036d1ff15646cffefdbb241b7ef", func := "loop.example/g01079/laws.FnExactReadWord", spec := "fnExactReadWord", apart := false }
def FnExactReadWordSaid : Prop := fnExactReadWordRow.holds Try.pinned (OpenSpec.ofChange fnExactReadWordSpec)

/-- ITS FALSE NEIGHBOUR: 'it returns false'. Refute it at one input. -/
def fnExactReadWordWrong : ChangeSpec := { name := "fnExactReadWord", fn := fun _ => fun
  | [d] => { results := [.lit (.bool false)], args := [d] }
  | _ => none }
def FnExactReadWordWrongFalsely : Prop := fnExactReadWordRow.holds Try.pinned (OpenSpec.ofChange fnExactReadWordWrong)

/- THE SECOND FORM. 'bulk': how many values and letters a reading holds, each counted each time it is reached (what is shared counts as often as it is met; a slice's spare places count too). A statement '..UptoSaid' is the law's where the arguments, and the package variables that the reading takes, are together of bulk at most 1048576: NARROWER than '..Said'. Prove '..Said' where nothing that the law and all that it calls make is longer than what came in: it says more and counts as full. Else prove '..UptoSaid'. A law counts once. -/
mutual
def uptoBulk {H : Type} : DataW H → Nat
  | .lit (.string bytes) => bytes.length + 1
  | .lit _ => 1
  | .nil => 1
  | .ptr d => uptoBulk d + 1
  | .slice elems spare => uptoBulkAll elems + uptoBulkAll spare + 1
  | .agg parts => uptoBulkAll parts + 1
  | .iface _ d => uptoBulk d + 1
  | .map entries => uptoBulkEntries entries + 1
  | .held _ => 1
def uptoBulkAll {H : Type} : List (DataW H) → Nat
  | [] => 0
  | d :: r => uptoBulk d + uptoBulkAll r
def uptoBulkEntries {H : Type} : List (Lit × DataW H) → Nat
  | [] => 0
  | x :: r => uptoBulkEntry x + uptoBulkEntries r
def uptoBulkEntry {H : Type} : Lit × DataW H → Nat
  | (.string bytes, d) => bytes.length + uptoBulk d + 1
  | (_, d) => uptoBulk d + 1
 end
def uptoSmall : (H : Type) → List (DataW H) → Bool := fun _ ds => decide (uptoBulkAll ds ≤ 1048576)
def OpenSpec.upto (s : _root_.Go.ChangeSpec) : _root_.Go.OpenSpec := { _root_.Go.OpenSpec.ofChange s with cond := some uptoSmall }

/-- 'laws.FnExactConstants', WHERE WHAT IT READS IS OF BULK AT MOST 1048576: true; the input reads as it did. -/
def fnExactConstantsUptoRow : OpenClaim := { program := "ytedeblnodeabiaa", sum := "0bb37385c1135b26a342ac3bbb137b1857b8c036d1ff15646cffefdbb241b7ef", func := "loop.example/g01079/laws.FnExactConstants", spec := "fnExactConstants", apart := false, narrowed := true }
def FnExactConstantsUptoSaid : Prop := fnExactConstantsUptoRow.holds Try.pinned (OpenSpec.upto fnExactConstantsSpec)

/-- 'laws.FnExactCodeName', WHERE WHAT IT READS IS OF BULK AT MOST 1048576: true; the input reads as it did. -/
def fnExactCodeNameUptoRow : OpenClaim := { program := "ytedeblnodeabiaa", sum := "0bb37385c1135b26a342ac3bbb137b1857b8c036d1ff15646cffefdbb241b7ef", func := "loop.example/g01079/laws.FnExactCodeName", spec := "fnExactCodeName", apart := false, narrowed := true }
def FnExactCodeNameUptoSaid : Prop := fnExactCodeNameUptoRow.holds Try.pinned (OpenSpec.upto fnExactCodeNameSpec)

/-- 'laws.FnExactIsPrime', WHERE WHAT IT READS IS OF BULK AT MOST 1048576: true; the input reads as it did. -/
def fnExactIsPrimeUptoRow : OpenClaim := { program := "ytedeblnodeabiaa", sum := "0bb37385c1135b26a342ac3bbb137b1857b8c036d1ff15646cffefdbb241b7ef", func := "loop.example/g01079/laws.FnExactIsPrime", spec := "fnExactIsPrime", apart := false, narrowed := true }
def FnExactIsPrimeUptoSaid : Prop := fnExactIsPrimeUptoRow.holds Try.pinned (OpenSpec.upto fnExactIsPrimeSpec)

/-- 'laws.FnExactIsName', WHERE WHAT IT READS IS OF BULK AT MOST 1048576: true; the input reads as it did. -/
def fnExactIsNameUptoRow : OpenClaim := { program := "ytedeblnodeabiaa", sum := "0bb37385c1135b26a342ac3bbb137b1857b8c036d1ff15646cffefdbb241b7ef", func := "loop.example/g01079/laws.FnExactIsName", spec := "fnExactIsName", apart := false, narrowed := true }
def FnExactIsNameUptoSaid : Prop := fnExactIsNameUptoRow.holds Try.pinned (OpenSpec.upto fnExactIsNameSpec)

/-- 'laws.FnExactExponentOf', WHERE WHAT IT READS IS OF BULK AT MOST 1048576: true; the input reads as it did. -/
def fnExactExponentOfUptoRow : OpenClaim := { program := "ytedeblnodeabiaa", sum := "0bb37385c1135b26a342ac3bbb137b1857b8c036d1ff15646cffefdbb241b7ef", func := "loop.example/g01079/laws.FnExactExponentOf", spec := "fnExactExponentOf", apart := false, narrowed := true }
def FnExactExponentOfUptoSaid : Prop := fnExactExponentOfUptoRow.holds Try.pinned (OpenSpec.upto fnExactExponentOfSpec)

/-- 'laws.FnExactCrc16', WHERE WHAT IT READS IS OF BULK AT MOST 1048576: true; the input reads as it did. -/
def fnExactCrc16UptoRow : OpenClaim := { program := "ytedeblnodeabiaa", sum := "0bb37385c1135b26a342ac3bbb137b1857b8c036d1ff15646cffefdbb241b7ef", func := "loop.example/g01079/laws.FnExactCrc16", spec := "fnExactCrc16", apart := false, narrowed := true }
def FnExactCrc16UptoSaid : Prop := fnExactCrc16UptoRow.holds Try.pinned (OpenSpec.upto fnExactCrc16Spec)

/-- 'laws.FnExactPowerOf', WHERE WHAT IT READS IS OF BULK AT MOST 1048576: true; the input reads as it did. -/
def fnExactPowerOfUptoRow : OpenClaim := { program := "ytedeblnodeabiaa", sum := "0bb37385c1135b26a342ac3bbb137b1857b8c036d1ff15646cffefdbb241b7ef", func := "loop.example/g01079/laws.FnExactPowerOf", spec := "fnExactPowerOf", apart := false, narrowed := true }
def FnExactPowerOfUptoSaid : Prop := fnExactPowerOfUptoRow.holds Try.pinned (OpenSpec.upto fnExactPowerOfSpec)

/-- 'laws.FnExactIsWord', WHERE WHAT IT READS IS OF BULK AT MOST 1048576: true; the input reads as it did. -/
def fnExactIsWordUptoRow : OpenClaim := { program := "ytedeblnodeabiaa", sum := "0bb37385c1135b26a342ac3bbb137b1857b8c036d1ff15646cffefdbb241b7ef", func := "loop.example/g01079/laws.FnExactIsWord", spec := "fnExactIsWord", apart := false, narrowed := true }
def FnExactIsWordUptoSaid : Prop := fnExactIsWordUptoRow.holds Try.pinned (OpenSpec.upto fnExactIsWordSpec)

/-- 'laws.FnExactIsNatural', WHERE WHAT IT READS IS OF BULK AT MOST 1048576: true; the input reads as it did. -/
def fnExactIsNaturalUptoRow : OpenClaim := { program := "ytedeblnodeabiaa", sum := "0bb37385c1135b26a342ac3bbb137b1857b8c036d1ff15646cffefdbb241b7ef", func := "loop.example/g01079/laws.FnExactIsNatural", spec := "fnExactIsNatural", apart := false, narrowed := true }
def FnExactIsNaturalUptoSaid : Prop := fnExactIsNaturalUptoRow.holds Try.pinned (OpenSpec.upto fnExactIsNaturalSpec)

/-- 'laws.FnExactPrimeAt', WHERE WHAT IT READS IS OF BULK AT MOST 1048576: true; the input reads as it did. -/
def fnExactPrimeAtUptoRow : OpenClaim := { program := "ytedeblnodeabiaa", sum := "0bb37385c1135b26a342ac3bbb137b1857b8c036d1ff15646cffefdbb241b7ef", func := "loop.example/g01079/laws.FnExactPrimeAt", spec := "fnExactPrimeAt", apart := false, narrowed := true }
def FnExactPrimeAtUptoSaid : Prop := fnExactPrimeAtUptoRow.holds Try.pinned (OpenSpec.upto fnExactPrimeAtSpec)

/-- 'laws.FnExactNaturalOf', WHERE WHAT IT READS IS OF BULK AT MOST 1048576: true; the input reads as it did. -/
def fnExactNaturalOfUptoRow : OpenClaim := { program := "ytedeblnodeabiaa", sum := "0bb37385c1135b26a342ac3bbb137b1857b8c036d1ff15646cffefdbb241b7ef", func := "loop.example/g01079/laws.FnExactNaturalOf", spec := "fnExactNaturalOf", apart := false, narrowed := true }
def FnExactNaturalOfUptoSaid : Prop := fnExactNaturalOfUptoRow.holds Try.pinned (OpenSpec.upto fnExactNaturalOfSpec)

/-- 'laws.FnExactReadWord', WHERE WHAT IT READS IS OF BULK AT MOST 1048576: true; the input reads as it did. -/
def fnExactReadWordUptoRow : OpenClaim := { program := "ytedeblnodeabiaa", sum := "0bb37385c1135b26a342ac3bbb137b1857b8c036d1ff15646cffefdbb241b7ef", func := "loop.example/g01079/laws.FnExactReadWord", spec := "fnExactReadWord", apart := false, narrowed := true }
def FnExactReadWordUptoSaid : Prop := fnExactReadWordUptoRow.holds Try.pinned (OpenSpec.upto fnExactReadWordSpec)

end Rows
end Go.Proofs.Ytedeblnodeabiaa
