/-
  No cell of these rows narrows 'for every input' (looked for: loops, veiled, ifaces, maps, wideKeys, modest, calm, conditions, laid).
  DERIVED. THE GIVEN ROWS OF THIS SEAT. 14 by the template 'for every input the law returns true; each argument reads behind the call as it read before'; 0 by the template 'total and deterministic' (their statements: YtkaicdljgchifaaTotals.lean).
  GIVEN WITH THE SEED: the statements are not yours to turn. If you find one false, say at which input.
  Laid BY PROGRAM, IN A SANDBOX (cutbox-rows.mjs): the forced cells as the released guide's own fill.sh prints them over the translation f793072a4934d9fe… (all of the seat's roots in one cut). By AI agents, Wed Nov 11 2026. No macro, syntax, notation, axiom, sorry.
-/
import Derived.Test.YtkaicdljgchifaaChecked
import GoSem.Claim
import GoSem.ClaimJoined
import GoSem.ClaimMapViews
import Derived.JoinedTies
import Derived.KernelRfl
namespace Go.Proofs.Ytkaicdljgchifaa
/- THE CELL 'sum', in the pinned program and in every row, IS THE sha256 OF THE DUMP (.gsa) THAT YtkaicdljgchifaaProg.lean LOADS. Nothing in Lean hashes anything: it is a label: what it is worth is what the hold of that sum in a sandbox is worth. -/
noncomputable def Try.pinned : Pinned := { name := "ytkaicdljgchifaa", sum := "f793072a4934d9fe2b77e1b1eb7b0764d6cc496c81bdd4dc78c6bc3941dcfb48", checked := Try.checked }
namespace Rows
def none {H : Type} : Left H := { results := [], args := [] }

/-- 'laws.FnExactCompareNaturals': WHATEVER THE INPUT: true; the input reads as it did. -/
def fnExactCompareNaturalsSpec : ChangeSpec := { name := "fnExactCompareNaturals", fn := fun _ => fun
  | [d1, d2] => { results := [.lit (.bool true)], args := [d1, d2] }
  | _ => none }
def fnExactCompareNaturalsRow : OpenClaim := { program := "ytkaicdljgchifaa", sum := "f793072a4934d9fe2b77e1b1eb7b0764d6cc496c81bdd4dc78c6bc3941dcfb48", func := "loop.example/g01079/laws.FnExactCompareNaturals", spec := "fnExactCompareNaturals", unfollowed := true, recurses := true, apart := false }
def FnExactCompareNaturalsSaid : Prop := fnExactCompareNaturalsRow.holds Try.pinned (OpenSpec.ofChange fnExactCompareNaturalsSpec)

/-- ITS FALSE NEIGHBOUR: 'it returns false'. Refute it at one input. -/
def fnExactCompareNaturalsWrong : ChangeSpec := { name := "fnExactCompareNaturals", fn := fun _ => fun
  | [d1, d2] => { results := [.lit (.bool false)], args := [d1, d2] }
  | _ => none }
def FnExactCompareNaturalsWrongFalsely : Prop := fnExactCompareNaturalsRow.holds Try.pinned (OpenSpec.ofChange fnExactCompareNaturalsWrong)

/-- 'laws.FnExactValuationOf': WHATEVER THE INPUT: true; the input reads as it did. -/
def fnExactValuationOfSpec : ChangeSpec := { name := "fnExactValuationOf", fn := fun _ => fun
  | [d1, d2] => { results := [.lit (.bool true)], args := [d1, d2] }
  | _ => none }
def fnExactValuationOfRow : OpenClaim := { program := "ytkaicdljgchifaa", sum := "f793072a4934d9fe2b77e1b1eb7b0764d6cc496c81bdd4dc78c6bc3941dcfb48", func := "loop.example/g01079/laws.FnExactValuationOf", spec := "fnExactValuationOf", apart := false }
def FnExactValuationOfSaid : Prop := fnExactValuationOfRow.holds Try.pinned (OpenSpec.ofChange fnExactValuationOfSpec)

/-- ITS FALSE NEIGHBOUR: 'it returns false'. Refute it at one input. -/
def fnExactValuationOfWrong : ChangeSpec := { name := "fnExactValuationOf", fn := fun _ => fun
  | [d1, d2] => { results := [.lit (.bool false)], args := [d1, d2] }
  | _ => none }
def FnExactValuationOfWrongFalsely : Prop := fnExactValuationOfRow.holds Try.pinned (OpenSpec.ofChange fnExactValuationOfWrong)

/-- 'laws.FnExactSmallOf': WHATEVER THE INPUT: true; the input reads as it did. -/
def fnExactSmallOfSpec : ChangeSpec := { name := "fnExactSmallOf", fn := fun _ => fun
  | [d] => { results := [.lit (.bool true)], args := [d] }
  | _ => none }
def fnExactSmallOfRow : OpenClaim := { program := "ytkaicdljgchifaa", sum := "f793072a4934d9fe2b77e1b1eb7b0764d6cc496c81bdd4dc78c6bc3941dcfb48", func := "loop.example/g01079/laws.FnExactSmallOf", spec := "fnExactSmallOf", apart := false }
def FnExactSmallOfSaid : Prop := fnExactSmallOfRow.holds Try.pinned (OpenSpec.ofChange fnExactSmallOfSpec)

/-- ITS FALSE NEIGHBOUR: 'it returns false'. Refute it at one input. -/
def fnExactSmallOfWrong : ChangeSpec := { name := "fnExactSmallOf", fn := fun _ => fun
  | [d] => { results := [.lit (.bool false)], args := [d] }
  | _ => none }
def FnExactSmallOfWrongFalsely : Prop := fnExactSmallOfRow.holds Try.pinned (OpenSpec.ofChange fnExactSmallOfWrong)

/-- 'laws.FnExactDigitsOf': WHATEVER THE INPUT: true; the input reads as it did. -/
def fnExactDigitsOfSpec : ChangeSpec := { name := "fnExactDigitsOf", fn := fun _ => fun
  | [d1, d2] => { results := [.lit (.bool true)], args := [d1, d2] }
  | _ => none }
def fnExactDigitsOfRow : OpenClaim := { program := "ytkaicdljgchifaa", sum := "f793072a4934d9fe2b77e1b1eb7b0764d6cc496c81bdd4dc78c6bc3941dcfb48", func := "loop.example/g01079/laws.FnExactDigitsOf", spec := "fnExactDigitsOf", apart := false }
def FnExactDigitsOfSaid : Prop := fnExactDigitsOfRow.holds Try.pinned (OpenSpec.ofChange fnExactDigitsOfSpec)

/-- ITS FALSE NEIGHBOUR: 'it returns false'. Refute it at one input. -/
def fnExactDigitsOfWrong : ChangeSpec := { name := "fnExactDigitsOf", fn := fun _ => fun
  | [d1, d2] => { results := [.lit (.bool false)], args := [d1, d2] }
  | _ => none }
def FnExactDigitsOfWrongFalsely : Prop := fnExactDigitsOfRow.holds Try.pinned (OpenSpec.ofChange fnExactDigitsOfWrong)

/-- 'laws.FnExactSetOf': WHATEVER THE INPUT: true; the input reads as it did. -/
def fnExactSetOfSpec : ChangeSpec := { name := "fnExactSetOf", fn := fun _ => fun
  | [d] => { results := [.lit (.bool true)], args := [d] }
  | _ => none }
def fnExactSetOfRow : OpenClaim := { program := "ytkaicdljgchifaa", sum := "f793072a4934d9fe2b77e1b1eb7b0764d6cc496c81bdd4dc78c6bc3941dcfb48", func := "loop.example/g01079/laws.FnExactSetOf", spec := "fnExactSetOf", apart := false }
def FnExactSetOfSaid : Prop := fnExactSetOfRow.holds Try.pinned (OpenSpec.ofChange fnExactSetOfSpec)

/-- ITS FALSE NEIGHBOUR: 'it returns false'. Refute it at one input. -/
def fnExactSetOfWrong : ChangeSpec := { name := "fnExactSetOf", fn := fun _ => fun
  | [d] => { results := [.lit (.bool false)], args := [d] }
  | _ => none }
def FnExactSetOfWrongFalsely : Prop := fnExactSetOfRow.holds Try.pinned (OpenSpec.ofChange fnExactSetOfWrong)

/-- 'laws.FnExactMultiplyNaturals': WHATEVER THE INPUT: true; the input reads as it did. -/
def fnExactMultiplyNaturalsSpec : ChangeSpec := { name := "fnExactMultiplyNaturals", fn := fun _ => fun
  | [d1, d2] => { results := [.lit (.bool true)], args := [d1, d2] }
  | _ => none }
def fnExactMultiplyNaturalsRow : OpenClaim := { program := "ytkaicdljgchifaa", sum := "f793072a4934d9fe2b77e1b1eb7b0764d6cc496c81bdd4dc78c6bc3941dcfb48", func := "loop.example/g01079/laws.FnExactMultiplyNaturals", spec := "fnExactMultiplyNaturals", unfollowed := true, recurses := true, apart := false }
def FnExactMultiplyNaturalsSaid : Prop := fnExactMultiplyNaturalsRow.holds Try.pinned (OpenSpec.ofChange fnExactMultiplyNaturalsSpec)

/-- ITS FALSE NEIGHBOUR: 'it returns false'. Refute it at one input. -/
def fnExactMultiplyNaturalsWrong : ChangeSpec := { name := "fnExactMultiplyNaturals", fn := fun _ => fun
  | [d1, d2] => { results := [.lit (.bool false)], args := [d1, d2] }
  | _ => none }
def FnExactMultiplyNaturalsWrongFalsely : Prop := fnExactMultiplyNaturalsRow.holds Try.pinned (OpenSpec.ofChange fnExactMultiplyNaturalsWrong)

/-- 'laws.FnExactPowerNatural': WHATEVER THE INPUT: true; the input reads as it did. -/
def fnExactPowerNaturalSpec : ChangeSpec := { name := "fnExactPowerNatural", fn := fun _ => fun
  | [d1, d2] => { results := [.lit (.bool true)], args := [d1, d2] }
  | _ => none }
def fnExactPowerNaturalRow : OpenClaim := { program := "ytkaicdljgchifaa", sum := "f793072a4934d9fe2b77e1b1eb7b0764d6cc496c81bdd4dc78c6bc3941dcfb48", func := "loop.example/g01079/laws.FnExactPowerNatural", spec := "fnExactPowerNatural", apart := false }
def FnExactPowerNaturalSaid : Prop := fnExactPowerNaturalRow.holds Try.pinned (OpenSpec.ofChange fnExactPowerNaturalSpec)

/-- ITS FALSE NEIGHBOUR: 'it returns false'. Refute it at one input. -/
def fnExactPowerNaturalWrong : ChangeSpec := { name := "fnExactPowerNatural", fn := fun _ => fun
  | [d1, d2] => { results := [.lit (.bool false)], args := [d1, d2] }
  | _ => none }
def FnExactPowerNaturalWrongFalsely : Prop := fnExactPowerNaturalRow.holds Try.pinned (OpenSpec.ofChange fnExactPowerNaturalWrong)

/-- 'laws.FnExactSubtractNaturals': WHATEVER THE INPUT: true; the input reads as it did. -/
def fnExactSubtractNaturalsSpec : ChangeSpec := { name := "fnExactSubtractNaturals", fn := fun _ => fun
  | [d1, d2] => { results := [.lit (.bool true)], args := [d1, d2] }
  | _ => none }
def fnExactSubtractNaturalsRow : OpenClaim := { program := "ytkaicdljgchifaa", sum := "f793072a4934d9fe2b77e1b1eb7b0764d6cc496c81bdd4dc78c6bc3941dcfb48", func := "loop.example/g01079/laws.FnExactSubtractNaturals", spec := "fnExactSubtractNaturals", unfollowed := true, recurses := true, apart := false }
def FnExactSubtractNaturalsSaid : Prop := fnExactSubtractNaturalsRow.holds Try.pinned (OpenSpec.ofChange fnExactSubtractNaturalsSpec)

/-- ITS FALSE NEIGHBOUR: 'it returns false'. Refute it at one input. -/
def fnExactSubtractNaturalsWrong : ChangeSpec := { name := "fnExactSubtractNaturals", fn := fun _ => fun
  | [d1, d2] => { results := [.lit (.bool false)], args := [d1, d2] }
  | _ => none }
def FnExactSubtractNaturalsWrongFalsely : Prop := fnExactSubtractNaturalsRow.holds Try.pinned (OpenSpec.ofChange fnExactSubtractNaturalsWrong)

/-- 'laws.FnExactPrimeNumber': WHATEVER THE INPUT: true; the input reads as it did. -/
def fnExactPrimeNumberSpec : ChangeSpec := { name := "fnExactPrimeNumber", fn := fun _ => fun
  | [d] => { results := [.lit (.bool true)], args := [d] }
  | _ => none }
def fnExactPrimeNumberRow : OpenClaim := { program := "ytkaicdljgchifaa", sum := "f793072a4934d9fe2b77e1b1eb7b0764d6cc496c81bdd4dc78c6bc3941dcfb48", func := "loop.example/g01079/laws.FnExactPrimeNumber", spec := "fnExactPrimeNumber", apart := false }
def FnExactPrimeNumberSaid : Prop := fnExactPrimeNumberRow.holds Try.pinned (OpenSpec.ofChange fnExactPrimeNumberSpec)

/-- ITS FALSE NEIGHBOUR: 'it returns false'. Refute it at one input. -/
def fnExactPrimeNumberWrong : ChangeSpec := { name := "fnExactPrimeNumber", fn := fun _ => fun
  | [d] => { results := [.lit (.bool false)], args := [d] }
  | _ => none }
def FnExactPrimeNumberWrongFalsely : Prop := fnExactPrimeNumberRow.holds Try.pinned (OpenSpec.ofChange fnExactPrimeNumberWrong)

/-- 'laws.FnExactWordOf': WHATEVER THE INPUT: true; the input reads as it did. -/
def fnExactWordOfSpec : ChangeSpec := { name := "fnExactWordOf", fn := fun _ => fun
  | [d1, d2] => { results := [.lit (.bool true)], args := [d1, d2] }
  | _ => none }
def fnExactWordOfRow : OpenClaim := { program := "ytkaicdljgchifaa", sum := "f793072a4934d9fe2b77e1b1eb7b0764d6cc496c81bdd4dc78c6bc3941dcfb48", func := "loop.example/g01079/laws.FnExactWordOf", spec := "fnExactWordOf", apart := false }
def FnExactWordOfSaid : Prop := fnExactWordOfRow.holds Try.pinned (OpenSpec.ofChange fnExactWordOfSpec)

/-- ITS FALSE NEIGHBOUR: 'it returns false'. Refute it at one input. -/
def fnExactWordOfWrong : ChangeSpec := { name := "fnExactWordOf", fn := fun _ => fun
  | [d1, d2] => { results := [.lit (.bool false)], args := [d1, d2] }
  | _ => none }
def FnExactWordOfWrongFalsely : Prop := fnExactWordOfRow.holds Try.pinned (OpenSpec.ofChange fnExactWordOfWrong)

/-- 'laws.FnExactRootNatural': WHATEVER THE INPUT: true; the input reads as it did. -/
def fnExactRootNaturalSpec : ChangeSpec := { name := "fnExactRootNatural", fn := fun _ => fun
  | [d] => { results := [.lit (.bool true)], args := [d] }
  | _ => none }
def fnExactRootNaturalRow : OpenClaim := { program := "ytkaicdljgchifaa", sum := "f793072a4934d9fe2b77e1b1eb7b0764d6cc496c81bdd4dc78c6bc3941dcfb48", func := "loop.example/g01079/laws.FnExactRootNatural", spec := "fnExactRootNatural", unfollowed := true, recurses := true, apart := false }
def FnExactRootNaturalSaid : Prop := fnExactRootNaturalRow.holds Try.pinned (OpenSpec.ofChange fnExactRootNaturalSpec)

/-- ITS FALSE NEIGHBOUR: 'it returns false'. Refute it at one input. -/
def fnExactRootNaturalWrong : ChangeSpec := { name := "fnExactRootNatural", fn := fun _ => fun
  | [d] => { results := [.lit (.bool false)], args := [d] }
  | _ => none }
def FnExactRootNaturalWrongFalsely : Prop := fnExactRootNaturalRow.holds Try.pinned (OpenSpec.ofChange fnExactRootNaturalWrong)

/-- 'laws.FnExactPrimeList': WHATEVER THE INPUT: true; the input reads as it did. -/
def fnExactPrimeListSpec : ChangeSpec := { name := "fnExactPrimeList", fn := fun _ => fun
  | [d] => { results := [.lit (.bool true)], args := [d] }
  | _ => none }
def fnExactPrimeListRow : OpenClaim := { program := "ytkaicdljgchifaa", sum := "f793072a4934d9fe2b77e1b1eb7b0764d6cc496c81bdd4dc78c6bc3941dcfb48", func := "loop.example/g01079/laws.FnExactPrimeList", spec := "fnExactPrimeList", apart := false }
def FnExactPrimeListSaid : Prop := fnExactPrimeListRow.holds Try.pinned (OpenSpec.ofChange fnExactPrimeListSpec)

/-- ITS FALSE NEIGHBOUR: 'it returns false'. Refute it at one input. -/
def fnExactPrimeListWrong : ChangeSpec := { name := "fnExactPrimeList", fn := fun _ => fun
  | [d] => { results := [.lit (.bool false)], args := [d] }
  | _ => none }
def FnExactPrimeListWrongFalsely : Prop := fnExactPrimeListRow.holds Try.pinned (OpenSpec.ofChange fnExactPrimeListWrong)

/-- 'laws.FnExactDivideNaturals': WHATEVER THE INPUT: true; the input reads as it did. -/
def fnExactDivideNaturalsSpec : ChangeSpec := { name := "fnExactDivideNaturals", fn := fun _ => fun
  | [d1, d2] => { results := [.lit (.bool true)], args := [d1, d2] }
  | _ => none }
def fnExactDivideNaturalsRow : OpenClaim := { program := "ytkaicdljgchifaa", sum := "f793072a4934d9fe2b77e1b1eb7b0764d6cc496c81bdd4dc78c6bc3941dcfb48", func := "loop.example/g01079/laws.FnExactDivideNaturals", spec := "fnExactDivideNaturals", unfollowed := true, recurses := true, apart := false }
def FnExactDivideNaturalsSaid : Prop := fnExactDivideNaturalsRow.holds Try.pinned (OpenSpec.ofChange fnExactDivideNaturalsSpec)

/-- ITS FALSE NEIGHBOUR: 'it returns false'. Refute it at one input. -/
def fnExactDivideNaturalsWrong : ChangeSpec := { name := "fnExactDivideNaturals", fn := fun _ => fun
  | [d1, d2] => { results := [.lit (.bool false)], args := [d1, d2] }
  | _ => none }
def FnExactDivideNaturalsWrongFalsely : Prop := fnExactDivideNaturalsRow.holds Try.pinned (OpenSpec.ofChange fnExactDivideNaturalsWrong)

/-- 'laws.FnExactGcdNaturals': WHATEVER THE INPUT: true; the input reads as it did. -/
def fnExactGcdNaturalsSpec : ChangeSpec := { name := "fnExactGcdNaturals", fn := fun _ => fun
  | [d1, d2] => { results := [.lit (.bool true)], args := [d1, d2] }
  | _ => none }
def fnExactGcdNaturalsRow : OpenClaim := { program := "ytkaicdljgchifaa", sum := "f793072a4934d9fe2b77e1b1eb7b0764d6cc496c81bdd4dc78c6bc3941dcfb48", func := "loop.example/g01079/laws.FnExactGcdNaturals", spec := "fnExactGcdNaturals", unfollowed := true, recurses := true, apart := false }
def FnExactGcdNaturalsSaid : Prop := fnExactGcdNaturalsRow.holds Try.pinned (OpenSpec.ofChange fnExactGcdNaturalsSpec)

/-- ITS FALSE NEIGHBOUR: 'it returns false'. Refute it at one input. -/
def fnExactGcdNaturalsWrong : ChangeSpec := { name := "fnExactGcdNaturals", fn := fun _ => fun
  | [d1, d2] => { results := [.lit (.bool false)], args := [d1, d2] }
  | _ => none }
def FnExactGcdNaturalsWrongFalsely : Prop := fnExactGcdNaturalsRow.holds Try.pinned (OpenSpec.ofChange fnExactGcdNaturalsWrong)

/- THE SECOND FORM. 'bulk': how many values and letters a reading holds, each counted each time it is reached (what is shared counts as often as it is met; a slice's spare places count too). A statement '..UptoSaid' is the law's where the arguments, and the package variables that the reading takes, are together of bulk at most 1048576: NARROWER than '..Said'. Prove '..Said' where nothing that the law and all that it calls make is longer than what came in: it says more and counts as full. Else prove '..UptoSaid'. A law counts once. -/
mutual
def uptoBulk {H : Type} : DataW H → Nat
  | .lit (.string bytes) => bytes.length + 1
  | .lit _ => 1
  | .nil => 1
  | .ptr d => uptoBulk d + 1
  | .slice elems spare => uptoBulkAll elems + uptoBulkAll spare + 1
  | .agg parts => uptoBulkAll parts + 1
  | .iface _ d => uptoBulk d + 1
  | .map entries => uptoBulkEntries entries + 1
  | .held _ => 1
def uptoBulkAll {H : Type} : List (DataW H) → Nat
  | [] => 0
  | d :: r => uptoBulk d + uptoBulkAll r
def uptoBulkEntries {H : Type} : List (Lit × DataW H) → Nat
  | [] => 0
  | x :: r => uptoBulkEntry x + uptoBulkEntries r
def uptoBulkEntry {H : Type} : Lit × DataW H → Nat
  | (.string bytes, d) => bytes.length + uptoBulk d + 1
  | (_, d) => uptoBulk d + 1
 end
def uptoSmall : (H : Type) → List (DataW H) → Bool := fun _ ds => decide (uptoBulkAll ds ≤ 1048576)
def OpenSpec.upto (s : _root_.Go.ChangeSpec) : _root_.Go.OpenSpec := { _root_.Go.OpenSpec.ofChange s with cond := some uptoSmall }

/-- 'laws.FnExactCompareNaturals', WHERE WHAT IT READS IS OF BULK AT MOST 1048576: true; the input reads as it did. -/
def fnExactCompareNaturalsUptoRow : OpenClaim := { program := "ytkaicdljgchifaa", sum := "f793072a4934d9fe2b77e1b1eb7b0764d6cc496c81bdd4dc78c6bc3941dcfb48", func := "loop.example/g01079/laws.FnExactCompareNaturals", spec := "fnExactCompareNaturals", unfollowed := true, recurses := true, apart := false, narrowed := true }
def FnExactCompareNaturalsUptoSaid : Prop := fnExactCompareNaturalsUptoRow.holds Try.pinned (OpenSpec.upto fnExactCompareNaturalsSpec)

/-- 'laws.FnExactValuationOf', WHERE WHAT IT READS IS OF BULK AT MOST 1048576: true; the input reads as it did. -/
def fnExactValuationOfUptoRow : OpenClaim := { program := "ytkaicdljgchifaa", sum := "f793072a4934d9fe2b77e1b1eb7b0764d6cc496c81bdd4dc78c6bc3941dcfb48", func := "loop.example/g01079/laws.FnExactValuationOf", spec := "fnExactValuationOf", apart := false, narrowed := true }
def FnExactValuationOfUptoSaid : Prop := fnExactValuationOfUptoRow.holds Try.pinned (OpenSpec.upto fnExactValuationOfSpec)

/-- 'laws.FnExactSmallOf', WHERE WHAT IT READS IS OF BULK AT MOST 1048576: true; the input reads as it did. -/
def fnExactSmallOfUptoRow : OpenClaim := { program := "ytkaicdljgchifaa", sum := "f793072a4934d9fe2b77e1b1eb7b0764d6cc496c81bdd4dc78c6bc3941dcfb48", func := "loop.example/g01079/laws.FnExactSmallOf", spec := "fnExactSmallOf", apart := false, narrowed := true }
def FnExactSmallOfUptoSaid : Prop := fnExactSmallOfUptoRow.holds Try.pinned (OpenSpec.upto fnExactSmallOfSpec)

/-- 'laws.FnExactDigitsOf', WHERE WHAT IT READS IS OF BULK AT MOST 1048576: true; the input reads as it did. -/
def fnExactDigitsOfUptoRow : OpenClaim := { program := "ytkaicdljgchifaa", sum := "f793072a4934d9fe2b77e1b1eb7b0764d6cc496c81bdd4dc78c6bc3941dcfb48", func := "loop.example/g01079/laws.FnExactDigitsOf", spec := "fnExactDigitsOf", apart := false, narrowed := true }
def FnExactDigitsOfUptoSaid : Prop := fnExactDigitsOfUptoRow.holds Try.pinned (OpenSpec.upto fnExactDigitsOfSpec)

/-- 'laws.FnExactSetOf', WHERE WHAT IT READS IS OF BULK AT MOST 1048576: true; the input reads as it did. -/
def fnExactSetOfUptoRow : OpenClaim := { program := "ytkaicdljgchifaa", sum := "f793072a4934d9fe2b77e1b1eb7b0764d6cc496c81bdd4dc78c6bc3941dcfb48", func := "loop.example/g01079/laws.FnExactSetOf", spec := "fnExactSetOf", apart := false, narrowed := true }
def FnExactSetOfUptoSaid : Prop := fnExactSetOfUptoRow.holds Try.pinned (OpenSpec.upto fnExactSetOfSpec)

/-- 'laws.FnExactMultiplyNaturals', WHERE WHAT IT READS IS OF BULK AT MOST 1048576: true; the input reads as it did. -/
def fnExactMultiplyNaturalsUptoRow : OpenClaim := { program := "ytkaicdljgchifaa", sum := "f793072a4934d9fe2b77e1b1eb7b0764d6cc496c81bdd4dc78c6bc3941dcfb48", func := "loop.example/g01079/laws.FnExactMultiplyNaturals", spec := "fnExactMultiplyNaturals", unfollowed := true, recurses := true, apart := false, narrowed := true }
def FnExactMultiplyNaturalsUptoSaid : Prop := fnExactMultiplyNaturalsUptoRow.holds Try.pinned (OpenSpec.upto fnExactMultiplyNaturalsSpec)

/-- 'laws.FnExactPowerNatural', WHERE WHAT IT READS IS OF BULK AT MOST 1048576: true; the input reads as it did. -/
def fnExactPowerNaturalUptoRow : OpenClaim := { program := "ytkaicdljgchifaa", sum := "f793072a4934d9fe2b77e1b1eb7b0764d6cc496c81bdd4dc78c6bc3941dcfb48", func := "loop.example/g01079/laws.FnExactPowerNatural", spec := "fnExactPowerNatural", apart := false, narrowed := true }
def FnExactPowerNaturalUptoSaid : Prop := fnExactPowerNaturalUptoRow.holds Try.pinned (OpenSpec.upto fnExactPowerNaturalSpec)

/-- 'laws.FnExactSubtractNaturals', WHERE WHAT IT READS IS OF BULK AT MOST 1048576: true; the input reads as it did. -/
def fnExactSubtractNaturalsUptoRow : OpenClaim := { program := "ytkaicdljgchifaa", sum := "f793072a4934d9fe2b77e1b1eb7b0764d6cc496c81bdd4dc78c6bc3941dcfb48", func := "loop.example/g01079/laws.FnExactSubtractNaturals", spec := "fnExactSubtractNaturals", unfollowed := true, recurses := true, apart := false, narrowed := true }
def FnExactSubtractNaturalsUptoSaid : Prop := fnExactSubtractNaturalsUptoRow.holds Try.pinned (OpenSpec.upto fnExactSubtractNaturalsSpec)

/-- 'laws.FnExactPrimeNumber', WHERE WHAT IT READS IS OF BULK AT MOST 1048576: true; the input reads as it did. -/
def fnExactPrimeNumberUptoRow : OpenClaim := { program := "ytkaicdljgchifaa", sum := "f793072a4934d9fe2b77e1b1eb7b0764d6cc496c81bdd4dc78c6bc3941dcfb48", func := "loop.example/g01079/laws.FnExactPrimeNumber", spec := "fnExactPrimeNumber", apart := false, narrowed := true }
def FnExactPrimeNumberUptoSaid : Prop := fnExactPrimeNumberUptoRow.holds Try.pinned (OpenSpec.upto fnExactPrimeNumberSpec)

/-- 'laws.FnExactWordOf', WHERE WHAT IT READS IS OF BULK AT MOST 1048576: true; the input reads as it did. -/
def fnExactWordOfUptoRow : OpenClaim := { program := "ytkaicdljgchifaa", sum := "f793072a4934d9fe2b77e1b1eb7b0764d6cc496c81bdd4dc78c6bc3941dcfb48", func := "loop.example/g01079/laws.FnExactWordOf", spec := "fnExactWordOf", apart := false, narrowed := true }
def FnExactWordOfUptoSaid : Prop := fnExactWordOfUptoRow.holds Try.pinned (OpenSpec.upto fnExactWordOfSpec)

/-- 'laws.FnExactRootNatural', WHERE WHAT IT READS IS OF BULK AT MOST 1048576: true; the input reads as it did. -/
def fnExactRootNaturalUptoRow : OpenClaim := { program := "ytkaicdljgchifaa", sum := "f793072a4934d9fe2b77e1b1eb7b0764d6cc496c81bdd4dc78c6bc3941dcfb48", func := "loop.example/g01079/laws.FnExactRootNatural", spec := "fnExactRootNatural", unfollowed := true, recurses := true, apart := false, narrowed := true }
def FnExactRootNaturalUptoSaid : Prop := fnExactRootNaturalUptoRow.holds Try.pinned (OpenSpec.upto fnExactRootNaturalSpec)

/-- 'laws.FnExactPrimeList', WHERE WHAT IT READS IS OF BULK AT MOST 1048576: true; the input reads as it did. -/
def fnExactPrimeListUptoRow : OpenClaim := { program := "ytkaicdljgchifaa", sum := "f793072a4934d9fe2b77e1b1eb7b0764d6cc496c81bdd4dc78c6bc3941dcfb48", func := "loop.example/g01079/laws.FnExactPrimeList", spec := "fnExactPrimeList", apart := false, narrowed := true }
def FnExactPrimeListUptoSaid : Prop := fnExactPrimeListUptoRow.holds Try.pinned (OpenSpec.upto fnExactPrimeListSpec)

/-- 'laws.FnExactDivideNaturals', WHERE WHAT IT READS IS OF BULK AT MOST 1048576: true; the input reads as it did. -/
def fnExactDivideNaturalsUptoRow : OpenClaim := { program := "ytkaicdljgchifaa", sum := "f793072a4934d9fe2b77e1b1eb7b0764d6cc496c81bdd4dc78c6bc3941dcfb48", func := "loop.example/g01079/laws.FnExactDivideNaturals", spec := "fnExactDivideNaturals", unfollowed := true, recurses := true, apart := false, narrowed := true }
def FnExactDivideNaturalsUptoSaid : Prop := fnExactDivideNaturalsUptoRow.holds Try.pinned (OpenSpec.upto fnExactDivideNaturalsSpec)

/-- 'laws.FnExactGcdNaturals', WHERE WHAT IT READS IS OF BULK AT MOST 1048576: true; the input reads as it did. -/
def fnExactGcdNaturalsUptoRow : OpenClaim := { program := "ytkaicdljgchifaa", sum := "f793072a4934d9fe2b77e1b1eb7b0764d6cc496c81bdd4dc78c6bc3941dcfb48", func := "loop.example/g01079/laws.FnExactGcdNaturals", spec := "fnExactGcdNaturals", unfollowed := true, recurses := true, apart := false, narrowed := true }
def FnExactGcdNaturalsUptoSaid : Prop := fnExactGcdNaturalsUptoRow.holds Try.pinned (OpenSpec.upto fnExactGcdNaturalsSpec)

end Rows
end Go.Proofs.Ytkaicdljgchifaa
