/-
  No cell of these rows narrows 'for every input' (looked for: loops, veiled, ifaces, maps, wideKeys, modest, calm, conditions, laid).
  DERIVED. THE GIVEN ROWS OF THIS SEAT. 12 by the template 'for every input the law returns true; each argument reads behind the call as it read before'; 0 by the template 'total and deterministic' (their statements: YtanjpkcacgjgfaaTotals.lean).
  GIVEN WITH THE SEED: the statements are not yours to turn. If you find one false, say at which input.
  Laid BY PROGRAM, IN A SANDBOX (cutbox-rows.mjs): the forced cells as the released guide's own fill.sh prints them over the translation 3b9ec9e2d9559072… (all of the seat's roots in one cut). By AI agents, Wed Nov 11 2026. No macro, syntax, notation, axiom, sorry.
-/
import Derived.Test.YtanjpkcacgjgfaaChecked
import GoSem.Claim
import GoSem.ClaimJoined
import GoSem.ClaimMapViews
import Derived.JoinedTies
import Derived.KernelRfl
namespace Go.Proofs.Ytanjpkcacgjgfaa
/- THE CELL 'sum', in the pinned program and in every row, IS THE sha256 OF THE DUMP (.gsa) THAT YtanjpkcacgjgfaaProg.lean LOADS. Nothing in Lean hashes anything: it is a label: what it is worth is what the hold of that sum in a sandbox is worth. -/
noncomputable def Try.pinned : Pinned := { name := "ytanjpkcacgjgfaa", sum := "3b9ec9e2d9559072aaed3094e84c0877617e7cc14067e9e2bd6eaa4083ac0525", checked := Try.checked }
namespace Rows
def none {H : Type} : Left H := { results := [], args := [] }

/-- 'laws.FnExactSetRule': WHATEVER THE INPUT: true; the input reads as it did. -/
def fnExactSetRuleSpec : ChangeSpec := { name := "fnExactSetRule", fn := fun _ => fun
  | [d1, d2, d3] => { results := [.lit (.bool true)], args := [d1, d2, d3] }
  | _ => none }
def fnExactSetRuleRow : OpenClaim := { program := "ytanjpkcacgjgfaa", sum := "3b9ec9e2d9559072aaed3094e84c0877617e7cc14067e9e2bd6eaa4083ac0525", func := "loop.example/g01079/laws.FnExactSetRule", spec := "fnExactSetRule", unfollowed := true, recurses := true, apart := false }
def FnExactSetRuleSaid : Prop := fnExactSetRuleRow.holds Try.pinned (OpenSpec.ofChange fnExactSetRuleSpec)

/-- ITS FALSE NEIGHBOUR: 'it returns false'. Refute it at one input. -/
def fnExactSetRuleWrong : ChangeSpec := { name := "fnExactSetRule", fn := fun _ => fun
  | [d1, d2, d3] => { results := [.lit (.bool false)], args := [d1, d2, d3] }
  | _ => none }
def FnExactSetRuleWrongFalsely : Prop := fnExactSetRuleRow.holds Try.pinned (OpenSpec.ofChange fnExactSetRuleWrong)

/-- 'laws.FnExactStartConfig': WHATEVER THE INPUT: true; the input reads as it did. -/
def fnExactStartConfigSpec : ChangeSpec := { name := "fnExactStartConfig", fn := fun _ => fun
  | [d1, d2] => { results := [.lit (.bool true)], args := [d1, d2] }
  | _ => none }
def fnExactStartConfigRow : OpenClaim := { program := "ytanjpkcacgjgfaa", sum := "3b9ec9e2d9559072aaed3094e84c0877617e7cc14067e9e2bd6eaa4083ac0525", func := "loop.example/g01079/laws.FnExactStartConfig", spec := "fnExactStartConfig", unfollowed := true, recurses := true, apart := false }
def FnExactStartConfigSaid : Prop := fnExactStartConfigRow.holds Try.pinned (OpenSpec.ofChange fnExactStartConfigSpec)

/-- ITS FALSE NEIGHBOUR: 'it returns false'. Refute it at one input. -/
def fnExactStartConfigWrong : ChangeSpec := { name := "fnExactStartConfig", fn := fun _ => fun
  | [d1, d2] => { results := [.lit (.bool false)], args := [d1, d2] }
  | _ => none }
def FnExactStartConfigWrongFalsely : Prop := fnExactStartConfigRow.holds Try.pinned (OpenSpec.ofChange fnExactStartConfigWrong)

/-- 'laws.FnExactMirrorConfig': WHATEVER THE INPUT: true; the input reads as it did. -/
def fnExactMirrorConfigSpec : ChangeSpec := { name := "fnExactMirrorConfig", fn := fun _ => fun
  | [d1, d2] => { results := [.lit (.bool true)], args := [d1, d2] }
  | _ => none }
def fnExactMirrorConfigRow : OpenClaim := { program := "ytanjpkcacgjgfaa", sum := "3b9ec9e2d9559072aaed3094e84c0877617e7cc14067e9e2bd6eaa4083ac0525", func := "loop.example/g01079/laws.FnExactMirrorConfig", spec := "fnExactMirrorConfig", unfollowed := true, recurses := true, apart := false }
def FnExactMirrorConfigSaid : Prop := fnExactMirrorConfigRow.holds Try.pinned (OpenSpec.ofChange fnExactMirrorConfigSpec)

/-- ITS FALSE NEIGHBOUR: 'it returns false'. Refute it at one input. -/
def fnExactMirrorConfigWrong : ChangeSpec := { name := "fnExactMirrorConfig", fn := fun _ => fun
  | [d1, d2] => { results := [.lit (.bool false)], args := [d1, d2] }
  | _ => none }
def FnExactMirrorConfigWrongFalsely : Prop := fnExactMirrorConfigRow.holds Try.pinned (OpenSpec.ofChange fnExactMirrorConfigWrong)

/-- 'laws.FnExactPruneMachine': WHATEVER THE INPUT: true; the input reads as it did. -/
def fnExactPruneMachineSpec : ChangeSpec := { name := "fnExactPruneMachine", fn := fun _ => fun
  | [d] => { results := [.lit (.bool true)], args := [d] }
  | _ => none }
def fnExactPruneMachineRow : OpenClaim := { program := "ytanjpkcacgjgfaa", sum := "3b9ec9e2d9559072aaed3094e84c0877617e7cc14067e9e2bd6eaa4083ac0525", func := "loop.example/g01079/laws.FnExactPruneMachine", spec := "fnExactPruneMachine", unfollowed := true, recurses := true, apart := false }
def FnExactPruneMachineSaid : Prop := fnExactPruneMachineRow.holds Try.pinned (OpenSpec.ofChange fnExactPruneMachineSpec)

/-- ITS FALSE NEIGHBOUR: 'it returns false'. Refute it at one input. -/
def fnExactPruneMachineWrong : ChangeSpec := { name := "fnExactPruneMachine", fn := fun _ => fun
  | [d] => { results := [.lit (.bool false)], args := [d] }
  | _ => none }
def FnExactPruneMachineWrongFalsely : Prop := fnExactPruneMachineRow.holds Try.pinned (OpenSpec.ofChange fnExactPruneMachineWrong)

/-- 'laws.FnExactPrimeList': WHATEVER THE INPUT: true; the input reads as it did. -/
def fnExactPrimeListSpec : ChangeSpec := { name := "fnExactPrimeList", fn := fun _ => fun
  | [d] => { results := [.lit (.bool true)], args := [d] }
  | _ => none }
def fnExactPrimeListRow : OpenClaim := { program := "ytanjpkcacgjgfaa", sum := "3b9ec9e2d9559072aaed3094e84c0877617e7cc14067e9e2bd6eaa4083ac0525", func := "loop.example/g01079/laws.FnExactPrimeList", spec := "fnExactPrimeList", apart := false }
def FnExactPrimeListSaid : Prop := fnExactPrimeListRow.holds Try.pinned (OpenSpec.ofChange fnExactPrimeListSpec)

/-- ITS FALSE NEIGHBOUR: 'it returns false'. Refute it at one input. -/
def fnExactPrimeListWrong : ChangeSpec := { name := "fnExactPrimeList", fn := fun _ => fun
  | [d] => { results := [.lit (.bool false)], args := [d] }
  | _ => none }
def FnExactPrimeListWrongFalsely : Prop := fnExactPrimeListRow.holds Try.pinned (OpenSpec.ofChange fnExactPrimeListWrong)

/-- 'laws.FnExactDivideNaturals': WHATEVER THE INPUT: true; the input reads as it did. -/
def fnExactDivideNaturalsSpec : ChangeSpec := { name := "fnExactDivideNaturals", fn := fun _ => fun
  | [d1, d2] => { results := [.lit (.bool true)], args := [d1, d2] }
  | _ => none }
def fnExactDivideNaturalsRow : OpenClaim := { program := "ytanjpkcacgjgfaa", sum := "3b9ec9e2d9559072aaed3094e84c0877617e7cc14067e9e2bd6eaa4083ac0525", func := "loop.example/g01079/laws.FnExactDivideNaturals", spec := "fnExactDivideNaturals", unfollowed := true, recurses := true, apart := false }
def FnExactDivideNaturalsSaid : Prop := fnExactDivideNaturalsRow.holds Try.pinned (OpenSpec.ofChange fnExactDivideNaturalsSpec)

/-- ITS FALSE NEIGHBOUR: 'it returns false'. Refute it at one input. -/
def fnExactDivideNaturalsWrong : ChangeSpec := { name := "fnExactDivideNaturals", fn := fun _ => fun
  | [d1, d2] => { results := [.lit (.bool false)], args := [d1, d2] }
  | _ => none }
def FnExactDivideNaturalsWrongFalsely : Prop := fnExactDivideNaturalsRow.holds Try.pinned (OpenSpec.ofChange fnExactDivideNaturalsWrong)

/-- 'laws.FnExactGcdNaturals': WHATEVER THE INPUT: true; the input reads as it did. -/
def fnExactGcdNaturalsSpec : ChangeSpec := { name := "fnExactGcdNaturals", fn := fun _ => fun
  | [d1, d2] => { results := [.lit (.bool true)], args := [d1, d2] }
  | _ => none }
def fnExactGcdNaturalsRow : OpenClaim := { program := "ytanjpkcacgjgfaa", sum := "3b9ec9e2d9559072aaed3094e84c0877617e7cc14067e9e2bd6eaa4083ac0525", func := "loop.example/g01079/laws.FnExactGcdNaturals", spec := "fnExactGcdNaturals", unfollowed := true, recurses := true, apart := false }
def FnExactGcdNaturalsSaid : Prop := fnExactGcdNaturalsRow.holds Try.pinned (OpenSpec.ofChange fnExactGcdNaturalsSpec)

/-- ITS FALSE NEIGHBOUR: 'it returns false'. Refute it at one input. -/
def fnExactGcdNaturalsWrong : ChangeSpec := { name := "fnExactGcdNaturals", fn := fun _ => fun
  | [d1, d2] => { results := [.lit (.bool false)], args := [d1, d2] }
  | _ => none }
def FnExactGcdNaturalsWrongFalsely : Prop := fnExactGcdNaturalsRow.holds Try.pinned (OpenSpec.ofChange fnExactGcdNaturalsWrong)

/-- 'laws.FnExactRootNatural': WHATEVER THE INPUT: true; the input reads as it did. -/
def fnExactRootNaturalSpec : ChangeSpec := { name := "fnExactRootNatural", fn := fun _ => fun
  | [d] => { results := [.lit (.bool true)], args := [d] }
  | _ => none }
def fnExactRootNaturalRow : OpenClaim := { program := "ytanjpkcacgjgfaa", sum := "3b9ec9e2d9559072aaed3094e84c0877617e7cc14067e9e2bd6eaa4083ac0525", func := "loop.example/g01079/laws.FnExactRootNatural", spec := "fnExactRootNatural", unfollowed := true, recurses := true, apart := false }
def FnExactRootNaturalSaid : Prop := fnExactRootNaturalRow.holds Try.pinned (OpenSpec.ofChange fnExactRootNaturalSpec)

/-- ITS FALSE NEIGHBOUR: 'it returns false'. Refute it at one input. -/
def fnExactRootNaturalWrong : ChangeSpec := { name := "fnExactRootNatural", fn := fun _ => fun
  | [d] => { results := [.lit (.bool false)], args := [d] }
  | _ => none }
def FnExactRootNaturalWrongFalsely : Prop := fnExactRootNaturalRow.holds Try.pinned (OpenSpec.ofChange fnExactRootNaturalWrong)

/-- 'laws.FnExactIsPrefixCode': WHATEVER THE INPUT: true; the input reads as it did. -/
def fnExactIsPrefixCodeSpec : ChangeSpec := { name := "fnExactIsPrefixCode", fn := fun _ => fun
  | [d] => { results := [.lit (.bool true)], args := [d] }
  | _ => none }
def fnExactIsPrefixCodeRow : OpenClaim := { program := "ytanjpkcacgjgfaa", sum := "3b9ec9e2d9559072aaed3094e84c0877617e7cc14067e9e2bd6eaa4083ac0525", func := "loop.example/g01079/laws.FnExactIsPrefixCode", spec := "fnExactIsPrefixCode", unfollowed := true, recurses := true, apart := false }
def FnExactIsPrefixCodeSaid : Prop := fnExactIsPrefixCodeRow.holds Try.pinned (OpenSpec.ofChange fnExactIsPrefixCodeSpec)

/-- ITS FALSE NEIGHBOUR: 'it returns false'. Refute it at one input. -/
def fnExactIsPrefixCodeWrong : ChangeSpec := { name := "fnExactIsPrefixCode", fn := fun _ => fun
  | [d] => { results := [.lit (.bool false)], args := [d] }
  | _ => none }
def FnExactIsPrefixCodeWrongFalsely : Prop := fnExactIsPrefixCodeRow.holds Try.pinned (OpenSpec.ofChange fnExactIsPrefixCodeWrong)

/-- 'laws.FnExactDecodeWith': WHATEVER THE INPUT: true; the input reads as it did. -/
def fnExactDecodeWithSpec : ChangeSpec := { name := "fnExactDecodeWith", fn := fun _ => fun
  | [d1, d2] => { results := [.lit (.bool true)], args := [d1, d2] }
  | _ => none }
def fnExactDecodeWithRow : OpenClaim := { program := "ytanjpkcacgjgfaa", sum := "3b9ec9e2d9559072aaed3094e84c0877617e7cc14067e9e2bd6eaa4083ac0525", func := "loop.example/g01079/laws.FnExactDecodeWith", spec := "fnExactDecodeWith", unfollowed := true, recurses := true, apart := false }
def FnExactDecodeWithSaid : Prop := fnExactDecodeWithRow.holds Try.pinned (OpenSpec.ofChange fnExactDecodeWithSpec)

/-- ITS FALSE NEIGHBOUR: 'it returns false'. Refute it at one input. -/
def fnExactDecodeWithWrong : ChangeSpec := { name := "fnExactDecodeWith", fn := fun _ => fun
  | [d1, d2] => { results := [.lit (.bool false)], args := [d1, d2] }
  | _ => none }
def FnExactDecodeWithWrongFalsely : Prop := fnExactDecodeWithRow.holds Try.pinned (OpenSpec.ofChange fnExactDecodeWithWrong)

/-- 'laws.FnExactEncodeWith': WHATEVER THE INPUT: true; the input reads as it did. -/
def fnExactEncodeWithSpec : ChangeSpec := { name := "fnExactEncodeWith", fn := fun _ => fun
  | [d1, d2] => { results := [.lit (.bool true)], args := [d1, d2] }
  | _ => none }
def fnExactEncodeWithRow : OpenClaim := { program := "ytanjpkcacgjgfaa", sum := "3b9ec9e2d9559072aaed3094e84c0877617e7cc14067e9e2bd6eaa4083ac0525", func := "loop.example/g01079/laws.FnExactEncodeWith", spec := "fnExactEncodeWith", unfollowed := true, recurses := true, apart := false }
def FnExactEncodeWithSaid : Prop := fnExactEncodeWithRow.holds Try.pinned (OpenSpec.ofChange fnExactEncodeWithSpec)

/-- ITS FALSE NEIGHBOUR: 'it returns false'. Refute it at one input. -/
def fnExactEncodeWithWrong : ChangeSpec := { name := "fnExactEncodeWith", fn := fun _ => fun
  | [d1, d2] => { results := [.lit (.bool false)], args := [d1, d2] }
  | _ => none }
def FnExactEncodeWithWrongFalsely : Prop := fnExactEncodeWithRow.holds Try.pinned (OpenSpec.ofChange fnExactEncodeWithWrong)

/-- 'laws.FnExactSortList': WHATEVER THE INPUT: true; the input reads as it did. -/
def fnExactSortListSpec : ChangeSpec := { name := "fnExactSortList", fn := fun _ => fun
  | [d] => { results := [.lit (.bool true)], args := [d] }
  | _ => none }
def fnExactSortListRow : OpenClaim := { program := "ytanjpkcacgjgfaa", sum := "3b9ec9e2d9559072aaed3094e84c0877617e7cc14067e9e2bd6eaa4083ac0525", func := "loop.example/g01079/laws.FnExactSortList", spec := "fnExactSortList", recurses := true, apart := false }
def FnExactSortListSaid : Prop := fnExactSortListRow.holds Try.pinned (OpenSpec.ofChange fnExactSortListSpec)

/-- ITS FALSE NEIGHBOUR: 'it returns false'. Refute it at one input. -/
def fnExactSortListWrong : ChangeSpec := { name := "fnExactSortList", fn := fun _ => fun
  | [d] => { results := [.lit (.bool false)], args := [d] }
  | _ => none }
def FnExactSortListWrongFalsely : Prop := fnExactSortListRow.holds Try.pinned (OpenSpec.ofChange fnExactSortListWrong)

/- THE SECOND FORM. 'bulk': how many values and letters a reading holds, each counted each time it is reached (what is shared counts as often as it is met; a slice's spare places count too). A statement '..UptoSaid' is the law's where the arguments, and the package variables that the reading takes, are together of bulk at most 1048576: NARROWER than '..Said'. Prove '..Said' where nothing that the law and all that it calls make is longer than what came in: it says more and counts as full. Else prove '..UptoSaid'. A law counts once. -/
mutual
def uptoBulk {H : Type} : DataW H → Nat
  | .lit (.string bytes) => bytes.length + 1
  | .lit _ => 1
  | .nil => 1
  | .ptr d => uptoBulk d + 1
  | .slice elems spare => uptoBulkAll elems + uptoBulkAll spare + 1
  | .agg parts => uptoBulkAll parts + 1
  | .iface _ d => uptoBulk d + 1
  | .map entries => uptoBulkEntries entries + 1
  | .held _ => 1
def uptoBulkAll {H : Type} : List (DataW H) → Nat
  | [] => 0
  | d :: r => uptoBulk d + uptoBulkAll r
def uptoBulkEntries {H : Type} : List (Lit × DataW H) → Nat
  | [] => 0
  | x :: r => uptoBulkEntry x + uptoBulkEntries r
def uptoBulkEntry {H : Type} : Lit × DataW H → Nat
  | (.string bytes, d) => bytes.length + uptoBulk d + 1
  | (_, d) => uptoBulk d + 1
 end
def uptoSmall : (H : Type) → List (DataW H) → Bool := fun _ ds => decide (uptoBulkAll ds ≤ 1048576)
def OpenSpec.upto (s : _root_.Go.ChangeSpec) : _root_.Go.OpenSpec := { _root_.Go.OpenSpec.ofChange s with cond := some uptoSmall }

/-- 'laws.FnExactSetRule', WHERE WHAT IT READS IS OF BULK AT MOST 1048576: true; the input reads as it did. -/
def fnExactSetRuleUptoRow : OpenClaim := { program := "ytanjpkcacgjgfaa", sum := "3b9ec9e2d9559072aaed3094e84c0877617e7cc14067e9e2bd6eaa4083ac0525", func := "loop.example/g01079/laws.FnExactSetRule", spec := "fnExactSetRule", unfollowed := true, recurses := true, apart := false, narrowed := true }
def FnExactSetRuleUptoSaid : Prop := fnExactSetRuleUptoRow.holds Try.pinned (OpenSpec.upto fnExactSetRuleSpec)

/-- 'laws.FnExactStartConfig', WHERE WHAT IT READS IS OF BULK AT MOST 1048576: true; the input reads as it did. -/
def fnExactStartConfigUptoRow : OpenClaim := { program := "ytanjpkcacgjgfaa", sum := "3b9ec9e2d9559072aaed3094e84c0877617e7cc14067e9e2bd6eaa4083ac0525", func := "loop.example/g01079/laws.FnExactStartConfig", spec := "fnExactStartConfig", unfollowed := true, recurses := true, apart := false, narrowed := true }
def FnExactStartConfigUptoSaid : Prop := fnExactStartConfigUptoRow.holds Try.pinned (OpenSpec.upto fnExactStartConfigSpec)

/-- 'laws.FnExactMirrorConfig', WHERE WHAT IT READS IS OF BULK AT MOST 1048576: true; the input reads as it did. -/
def fnExactMirrorConfigUptoRow : OpenClaim := { program := "ytanjpkcacgjgfaa", sum := "3b9ec9e2d9559072aaed3094e84c0877617e7cc14067e9e2bd6eaa4083ac0525", func := "loop.example/g01079/laws.FnExactMirrorConfig", spec := "fnExactMirrorConfig", unfollowed := true, recurses := true, apart := false, narrowed := true }
def FnExactMirrorConfigUptoSaid : Prop := fnExactMirrorConfigUptoRow.holds Try.pinned (OpenSpec.upto fnExactMirrorConfigSpec)

/-- 'laws.FnExactPruneMachine', WHERE WHAT IT READS IS OF BULK AT MOST 1048576: true; the input reads as it did. -/
def fnExactPruneMachineUptoRow : OpenClaim := { program := "ytanjpkcacgjgfaa", sum := "3b9ec9e2d9559072aaed3094e84c0877617e7cc14067e9e2bd6eaa4083ac0525", func := "loop.example/g01079/laws.FnExactPruneMachine", spec := "fnExactPruneMachine", unfollowed := true, recurses := true, apart := false, narrowed := true }
def FnExactPruneMachineUptoSaid : Prop := fnExactPruneMachineUptoRow.holds Try.pinned (OpenSpec.upto fnExactPruneMachineSpec)

/-- 'laws.FnExactPrimeList', WHERE WHAT IT READS IS OF BULK AT MOST 1048576: true; the input reads as it did. -/
def fnExactPrimeListUptoRow : OpenClaim := { program := "ytanjpkcacgjgfaa", sum := "3b9ec9e2d9559072aaed3094e84c0877617e7cc14067e9e2bd6eaa4083ac0525", func := "loop.example/g01079/laws.FnExactPrimeList", spec := "fnExactPrimeList", apart := false, narrowed := true }
def FnExactPrimeListUptoSaid : Prop := fnExactPrimeListUptoRow.holds Try.pinned (OpenSpec.upto fnExactPrimeListSpec)

/-- 'laws.FnExactDivideNaturals', WHERE WHAT IT READS IS OF BULK AT MOST 1048576: true; the input reads as it did. -/
def fnExactDivideNaturalsUptoRow : OpenClaim := { program := "ytanjpkcacgjgfaa", sum := "3b9ec9e2d9559072aaed3094e84c0877617e7cc14067e9e2bd6eaa4083ac0525", func := "loop.example/g01079/laws.FnExactDivideNaturals", spec := "fnExactDivideNaturals", unfollowed := true, recurses := true, apart := false, narrowed := true }
def FnExactDivideNaturalsUptoSaid : Prop := fnExactDivideNaturalsUptoRow.holds Try.pinned (OpenSpec.upto fnExactDivideNaturalsSpec)

/-- 'laws.FnExactGcdNaturals', WHERE WHAT IT READS IS OF BULK AT MOST 1048576: true; the input reads as it did. -/
def fnExactGcdNaturalsUptoRow : OpenClaim := { program := "ytanjpkcacgjgfaa", sum := "3b9ec9e2d9559072aaed3094e84c0877617e7cc14067e9e2bd6eaa4083ac0525", func := "loop.example/g01079/laws.FnExactGcdNaturals", spec := "fnExactGcdNaturals", unfollowed := true, recurses := true, apart := false, narrowed := true }
def FnExactGcdNaturalsUptoSaid : Prop := fnExactGcdNaturalsUptoRow.holds Try.pinned (OpenSpec.upto fnExactGcdNaturalsSpec)

/-- 'laws.FnExactRootNatural', WHERE WHAT IT READS IS OF BULK AT MOST 1048576: true; the input reads as it did. -/
def fnExactRootNaturalUptoRow : OpenClaim := { program := "ytanjpkcacgjgfaa", sum := "3b9ec9e2d9559072aaed3094e84c0877617e7cc14067e9e2bd6eaa4083ac0525", func := "loop.example/g01079/laws.FnExactRootNatural", spec := "fnExactRootNatural", unfollowed := true, recurses := true, apart := false, narrowed := true }
def FnExactRootNaturalUptoSaid : Prop := fnExactRootNaturalUptoRow.holds Try.pinned (OpenSpec.upto fnExactRootNaturalSpec)

/-- 'laws.FnExactIsPrefixCode', WHERE WHAT IT READS IS OF BULK AT MOST 1048576: true; the input reads as it did. -/
def fnExactIsPrefixCodeUptoRow : OpenClaim := { program := "ytanjpkcacgjgfaa", sum := "3b9ec9e2d9559072aaed3094e84c0877617e7cc14067e9e2bd6eaa4083ac0525", func := "loop.example/g01079/laws.FnExactIsPrefixCode", spec := "fnExactIsPrefixCode", unfollowed := true, recurses := true, apart := false, narrowed := true }
def FnExactIsPrefixCodeUptoSaid : Prop := fnExactIsPrefixCodeUptoRow.holds Try.pinned (OpenSpec.upto fnExactIsPrefixCodeSpec)

/-- 'laws.FnExactDecodeWith', WHERE WHAT IT READS IS OF BULK AT MOST 1048576: true; the input reads as it did. -/
def fnExactDecodeWithUptoRow : OpenClaim := { program := "ytanjpkcacgjgfaa", sum := "3b9ec9e2d9559072aaed3094e84c0877617e7cc14067e9e2bd6eaa4083ac0525", func := "loop.example/g01079/laws.FnExactDecodeWith", spec := "fnExactDecodeWith", unfollowed := true, recurses := true, apart := false, narrowed := true }
def FnExactDecodeWithUptoSaid : Prop := fnExactDecodeWithUptoRow.holds Try.pinned (OpenSpec.upto fnExactDecodeWithSpec)

/-- 'laws.FnExactEncodeWith', WHERE WHAT IT READS IS OF BULK AT MOST 1048576: true; the input reads as it did. -/
def fnExactEncodeWithUptoRow : OpenClaim := { program := "ytanjpkcacgjgfaa", sum := "3b9ec9e2d9559072aaed3094e84c0877617e7cc14067e9e2bd6eaa4083ac0525", func := "loop.example/g01079/laws.FnExactEncodeWith", spec := "fnExactEncodeWith", unfollowed := true, recurses := true, apart := false, narrowed := true }
def FnExactEncodeWithUptoSaid : Prop := fnExactEncodeWithUptoRow.holds Try.pinned (OpenSpec.upto fnExactEncodeWithSpec)

/-- 'laws.FnExactSortList', WHERE WHAT IT READS IS OF BULK AT MOST 1048576: true; the input reads as it did. -/
def fnExactSortListUptoRow : OpenClaim := { program := "ytanjpkcacgjgfaa", sum := "3b9ec9e2d9559072aaed3094e84c0877617e7cc14067e9e2bd6eaa4083ac0525", func := "loop.example/g01079/laws.FnExactSortList", spec := "fnExactSortList", recurses := true, apart := false, narrowed := true }
def FnExactSortListUptoSaid : Prop := fnExactSortListUptoRow.holds Try.pinned (OpenSpec.upto fnExactSortListSpec)

end Rows
end Go.Proofs.Ytanjpkcacgjgfaa
