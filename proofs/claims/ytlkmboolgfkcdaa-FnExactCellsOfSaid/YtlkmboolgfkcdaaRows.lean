/-
  No cell of these rows narrows 'for every input' (looked for: loops, veiled, ifaces, maps, wideKeys, modest, calm, conditions, laid).
  DERIVED. THE GIVEN ROWS OF THIS SEAT. 10 by the template 'for every input the law returns true; each argument reads behind the call as it read before'; 0 by the template 'total and deterministic' (their statements: YtlkmboolgfkcdaaTotals.lean).
  GIVEN WITH THE SEED: the statements are not yours to turn. If you find one false, say at which input.
  Laid BY PROGRAM, IN A SANDBOX (cutbox-rows.mjs): the forced cells as the released guide's own fill.sh prints them over the translation b07d50c70a711ea4… (all of the seat's roots in one cut). By AI agents, Wed Nov 11 2026. No macro, syntax, notation, axiom, sorry.
-/
import Derived.Test.YtlkmboolgfkcdaaChecked
import GoSem.Claim
import GoSem.ClaimJoined
import GoSem.ClaimMapViews
import Derived.JoinedTies
import Derived.KernelRfl
namespace Go.Proofs.Ytlkmboolgfkcdaa
/- THE CELL 'sum', in the pinned program and in every row, IS THE sha256 OF THE DUMP (.gsa) THAT YtlkmboolgfkcdaaProg.lean LOADS. Nothing in Lean hashes anything: it is a label: what it is worth is what the hold of that sum in a sandbox is worth. -/
noncomputable def Try.pinned : Pinned := { name := "ytlkmboolgfkcdaa", sum := "b07d50c70a711ea4763780b0cd044068787e40bce11c1b69c8530240c4506fbb", checked := Try.checked }
namespace Rows
def none {H : Type} : Left H := { results := [], args := [] }

/-- 'laws.FnExactSameMachine': WHATEVER THE INPUT: true; the input reads as it did. -/
def fnExactSameMachineSpec : ChangeSpec := { name := "fnExactSameMachine", fn := fun _ => fun
  | [d1, d2] => { results := [.lit (.bool true)], args := [d1, d2] }
  | _ => none }
def fnExactSameMachineRow : OpenClaim := { program := "ytlkmboolgfkcdaa", sum := "b07d50c70a711ea4763780b0cd044068787e40bce11c1b69c8530240c4506fbb", func := "loop.example/g01079/laws.FnExactSameMachine", spec := "fnExactSameMachine", apart := false }
def FnExactSameMachineSaid : Prop := fnExactSameMachineRow.holds Try.pinned (OpenSpec.ofChange fnExactSameMachineSpec)

/-- ITS FALSE NEIGHBOUR: 'it returns false'. Refute it at one input. -/
def fnExactSameMachineWrong : ChangeSpec := { name := "fnExactSameMachine", fn := fun _ => fun
  | [d1, d2] => { results := [.lit (.bool false)], args := [d1, d2] }
  | _ => none }
def FnExactSameMachineWrongFalsely : Prop := fnExactSameMachineRow.holds Try.pinned (OpenSpec.ofChange fnExactSameMachineWrong)

/-- 'laws.FnExactValidMachine': WHATEVER THE INPUT: true; the input reads as it did. -/
def fnExactValidMachineSpec : ChangeSpec := { name := "fnExactValidMachine", fn := fun _ => fun
  | [d] => { results := [.lit (.bool true)], args := [d] }
  | _ => none }
def fnExactValidMachineRow : OpenClaim := { program := "ytlkmboolgfkcdaa", sum := "b07d50c70a711ea4763780b0cd044068787e40bce11c1b69c8530240c4506fbb", func := "loop.example/g01079/laws.FnExactValidMachine", spec := "fnExactValidMachine", unfollowed := true, recurses := true, apart := false }
def FnExactValidMachineSaid : Prop := fnExactValidMachineRow.holds Try.pinned (OpenSpec.ofChange fnExactValidMachineSpec)

/-- ITS FALSE NEIGHBOUR: 'it returns false'. Refute it at one input. -/
def fnExactValidMachineWrong : ChangeSpec := { name := "fnExactValidMachine", fn := fun _ => fun
  | [d] => { results := [.lit (.bool false)], args := [d] }
  | _ => none }
def FnExactValidMachineWrongFalsely : Prop := fnExactValidMachineRow.holds Try.pinned (OpenSpec.ofChange fnExactValidMachineWrong)

/-- 'laws.FnExactFreeRules': WHATEVER THE INPUT: true; the input reads as it did. -/
def fnExactFreeRulesSpec : ChangeSpec := { name := "fnExactFreeRules", fn := fun _ => fun
  | [d] => { results := [.lit (.bool true)], args := [d] }
  | _ => none }
def fnExactFreeRulesRow : OpenClaim := { program := "ytlkmboolgfkcdaa", sum := "b07d50c70a711ea4763780b0cd044068787e40bce11c1b69c8530240c4506fbb", func := "loop.example/g01079/laws.FnExactFreeRules", spec := "fnExactFreeRules", unfollowed := true, recurses := true, apart := false }
def FnExactFreeRulesSaid : Prop := fnExactFreeRulesRow.holds Try.pinned (OpenSpec.ofChange fnExactFreeRulesSpec)

/-- ITS FALSE NEIGHBOUR: 'it returns false'. Refute it at one input. -/
def fnExactFreeRulesWrong : ChangeSpec := { name := "fnExactFreeRules", fn := fun _ => fun
  | [d] => { results := [.lit (.bool false)], args := [d] }
  | _ => none }
def FnExactFreeRulesWrongFalsely : Prop := fnExactFreeRulesRow.holds Try.pinned (OpenSpec.ofChange fnExactFreeRulesWrong)

/-- 'laws.FnExactMirrorMachine': WHATEVER THE INPUT: true; the input reads as it did. -/
def fnExactMirrorMachineSpec : ChangeSpec := { name := "fnExactMirrorMachine", fn := fun _ => fun
  | [d] => { results := [.lit (.bool true)], args := [d] }
  | _ => none }
def fnExactMirrorMachineRow : OpenClaim := { program := "ytlkmboolgfkcdaa", sum := "b07d50c70a711ea4763780b0cd044068787e40bce11c1b69c8530240c4506fbb", func := "loop.example/g01079/laws.FnExactMirrorMachine", spec := "fnExactMirrorMachine", unfollowed := true, recurses := true, apart := false }
def FnExactMirrorMachineSaid : Prop := fnExactMirrorMachineRow.holds Try.pinned (OpenSpec.ofChange fnExactMirrorMachineSpec)

/-- ITS FALSE NEIGHBOUR: 'it returns false'. Refute it at one input. -/
def fnExactMirrorMachineWrong : ChangeSpec := { name := "fnExactMirrorMachine", fn := fun _ => fun
  | [d] => { results := [.lit (.bool false)], args := [d] }
  | _ => none }
def FnExactMirrorMachineWrongFalsely : Prop := fnExactMirrorMachineRow.holds Try.pinned (OpenSpec.ofChange fnExactMirrorMachineWrong)

/-- 'laws.FnExactSetRule': WHATEVER THE INPUT: true; the input reads as it did. -/
def fnExactSetRuleSpec : ChangeSpec := { name := "fnExactSetRule", fn := fun _ => fun
  | [d1, d2, d3] => { results := [.lit (.bool true)], args := [d1, d2, d3] }
  | _ => none }
def fnExactSetRuleRow : OpenClaim := { program := "ytlkmboolgfkcdaa", sum := "b07d50c70a711ea4763780b0cd044068787e40bce11c1b69c8530240c4506fbb", func := "loop.example/g01079/laws.FnExactSetRule", spec := "fnExactSetRule", unfollowed := true, recurses := true, apart := false }
def FnExactSetRuleSaid : Prop := fnExactSetRuleRow.holds Try.pinned (OpenSpec.ofChange fnExactSetRuleSpec)

/-- ITS FALSE NEIGHBOUR: 'it returns false'. Refute it at one input. -/
def fnExactSetRuleWrong : ChangeSpec := { name := "fnExactSetRule", fn := fun _ => fun
  | [d1, d2, d3] => { results := [.lit (.bool false)], args := [d1, d2, d3] }
  | _ => none }
def FnExactSetRuleWrongFalsely : Prop := fnExactSetRuleRow.holds Try.pinned (OpenSpec.ofChange fnExactSetRuleWrong)

/-- 'laws.FnExactValidConfig': WHATEVER THE INPUT: true; the input reads as it did. -/
def fnExactValidConfigSpec : ChangeSpec := { name := "fnExactValidConfig", fn := fun _ => fun
  | [d1, d2] => { results := [.lit (.bool true)], args := [d1, d2] }
  | _ => none }
def fnExactValidConfigRow : OpenClaim := { program := "ytlkmboolgfkcdaa", sum := "b07d50c70a711ea4763780b0cd044068787e40bce11c1b69c8530240c4506fbb", func := "loop.example/g01079/laws.FnExactValidConfig", spec := "fnExactValidConfig", unfollowed := true, recurses := true, apart := false }
def FnExactValidConfigSaid : Prop := fnExactValidConfigRow.holds Try.pinned (OpenSpec.ofChange fnExactValidConfigSpec)

/-- ITS FALSE NEIGHBOUR: 'it returns false'. Refute it at one input. -/
def fnExactValidConfigWrong : ChangeSpec := { name := "fnExactValidConfig", fn := fun _ => fun
  | [d1, d2] => { results := [.lit (.bool false)], args := [d1, d2] }
  | _ => none }
def FnExactValidConfigWrongFalsely : Prop := fnExactValidConfigRow.holds Try.pinned (OpenSpec.ofChange fnExactValidConfigWrong)

/-- 'laws.FnExactStartConfig': WHATEVER THE INPUT: true; the input reads as it did. -/
def fnExactStartConfigSpec : ChangeSpec := { name := "fnExactStartConfig", fn := fun _ => fun
  | [d1, d2] => { results := [.lit (.bool true)], args := [d1, d2] }
  | _ => none }
def fnExactStartConfigRow : OpenClaim := { program := "ytlkmboolgfkcdaa", sum := "b07d50c70a711ea4763780b0cd044068787e40bce11c1b69c8530240c4506fbb", func := "loop.example/g01079/laws.FnExactStartConfig", spec := "fnExactStartConfig", unfollowed := true, recurses := true, apart := false }
def FnExactStartConfigSaid : Prop := fnExactStartConfigRow.holds Try.pinned (OpenSpec.ofChange fnExactStartConfigSpec)

/-- ITS FALSE NEIGHBOUR: 'it returns false'. Refute it at one input. -/
def fnExactStartConfigWrong : ChangeSpec := { name := "fnExactStartConfig", fn := fun _ => fun
  | [d1, d2] => { results := [.lit (.bool false)], args := [d1, d2] }
  | _ => none }
def FnExactStartConfigWrongFalsely : Prop := fnExactStartConfigRow.holds Try.pinned (OpenSpec.ofChange fnExactStartConfigWrong)

/-- 'laws.FnExactMirrorConfig': WHATEVER THE INPUT: true; the input reads as it did. -/
def fnExactMirrorConfigSpec : ChangeSpec := { name := "fnExactMirrorConfig", fn := fun _ => fun
  | [d1, d2] => { results := [.lit (.bool true)], args := [d1, d2] }
  | _ => none }
def fnExactMirrorConfigRow : OpenClaim := { program := "ytlkmboolgfkcdaa", sum := "b07d50c70a711ea4763780b0cd044068787e40bce11c1b69c8530240c4506fbb", func := "loop.example/g01079/laws.FnExactMirrorConfig", spec := "fnExactMirrorConfig", unfollowed := true, recurses := true, apart := false }
def FnExactMirrorConfigSaid : Prop := fnExactMirrorConfigRow.holds Try.pinned (OpenSpec.ofChange fnExactMirrorConfigSpec)

/-- ITS FALSE NEIGHBOUR: 'it returns false'. Refute it at one input. -/
def fnExactMirrorConfigWrong : ChangeSpec := { name := "fnExactMirrorConfig", fn := fun _ => fun
  | [d1, d2] => { results := [.lit (.bool false)], args := [d1, d2] }
  | _ => none }
def FnExactMirrorConfigWrongFalsely : Prop := fnExactMirrorConfigRow.holds Try.pinned (OpenSpec.ofChange fnExactMirrorConfigWrong)

/-- 'laws.FnExactPruneMachine': WHATEVER THE INPUT: true; the input reads as it did. -/
def fnExactPruneMachineSpec : ChangeSpec := { name := "fnExactPruneMachine", fn := fun _ => fun
  | [d] => { results := [.lit (.bool true)], args := [d] }
  | _ => none }
def fnExactPruneMachineRow : OpenClaim := { program := "ytlkmboolgfkcdaa", sum := "b07d50c70a711ea4763780b0cd044068787e40bce11c1b69c8530240c4506fbb", func := "loop.example/g01079/laws.FnExactPruneMachine", spec := "fnExactPruneMachine", unfollowed := true, recurses := true, apart := false }
def FnExactPruneMachineSaid : Prop := fnExactPruneMachineRow.holds Try.pinned (OpenSpec.ofChange fnExactPruneMachineSpec)

/-- ITS FALSE NEIGHBOUR: 'it returns false'. Refute it at one input. -/
def fnExactPruneMachineWrong : ChangeSpec := { name := "fnExactPruneMachine", fn := fun _ => fun
  | [d] => { results := [.lit (.bool false)], args := [d] }
  | _ => none }
def FnExactPruneMachineWrongFalsely : Prop := fnExactPruneMachineRow.holds Try.pinned (OpenSpec.ofChange fnExactPruneMachineWrong)

/-- 'laws.FnExactCellsOf': WHATEVER THE INPUT: true; the input reads as it did. -/
def fnExactCellsOfSpec : ChangeSpec := { name := "fnExactCellsOf", fn := fun _ => fun
  | [d1, d2] => { results := [.lit (.bool true)], args := [d1, d2] }
  | _ => none }
def fnExactCellsOfRow : OpenClaim := { program := "ytlkmboolgfkcdaa", sum := "b07d50c70a711ea4763780b0cd044068787e40bce11c1b69c8530240c4506fbb", func := "loop.example/g01079/laws.FnExactCellsOf", spec := "fnExactCellsOf", unfollowed := true, recurses := true, apart := false }
def FnExactCellsOfSaid : Prop := fnExactCellsOfRow.holds Try.pinned (OpenSpec.ofChange fnExactCellsOfSpec)

/-- ITS FALSE NEIGHBOUR: 'it returns false'. Refute it at one input. -/
def fnExactCellsOfWrong : ChangeSpec := { name := "fnExactCellsOf", fn := fun _ => fun
  | [d1, d2] => { results := [.lit (.bool false)], args := [d1, d2] }
  | _ => none }
def FnExactCellsOfWrongFalsely : Prop := fnExactCellsOfRow.holds Try.pinned (OpenSpec.ofChange fnExactCellsOfWrong)

/- THE SECOND FORM. 'bulk': how many values and letters a reading holds, each counted each time it is reached (what is shared counts as often as it is met; a slice's spare places count too). A statement '..UptoSaid' is the law's where the arguments, and the package variables that the reading takes, are together of bulk at most 1048576: NARROWER than '..Said'. Prove '..Said' where nothing that the law and all that it calls make is longer than what came in: it says more and counts as full. Else prove '..UptoSaid'. A law counts once. -/
mutual
def uptoBulk {H : Type} : DataW H → Nat
  | .lit (.string bytes) => bytes.length + 1
  | .lit _ => 1
  | .nil => 1
  | .ptr d => uptoBulk d + 1
  | .slice elems spare => uptoBulkAll elems + uptoBulkAll spare + 1
  | .agg parts => uptoBulkAll parts + 1
  | .iface _ d => uptoBulk d + 1
  | .map entries => uptoBulkEntries entries + 1
  | .held _ => 1
def uptoBulkAll {H : Type} : List (DataW H) → Nat
  | [] => 0
  | d :: r => uptoBulk d + uptoBulkAll r
def uptoBulkEntries {H : Type} : List (Lit × DataW H) → Nat
  | [] => 0
  | x :: r => uptoBulkEntry x + uptoBulkEntries r
def uptoBulkEntry {H : Type} : Lit × DataW H → Nat
  | (.string bytes, d) => bytes.length + uptoBulk d + 1
  | (_, d) => uptoBulk d + 1
 end
def uptoSmall : (H : Type) → List (DataW H) → Bool := fun _ ds => decide (uptoBulkAll ds ≤ 1048576)
def OpenSpec.upto (s : _root_.Go.ChangeSpec) : _root_.Go.OpenSpec := { _root_.Go.OpenSpec.ofChange s with cond := some uptoSmall }

/-- 'laws.FnExactSameMachine', WHERE WHAT IT READS IS OF BULK AT MOST 1048576: true; the input reads as it did. -/
def fnExactSameMachineUptoRow : OpenClaim := { program := "ytlkmboolgfkcdaa", sum := "b07d50c70a711ea4763780b0cd044068787e40bce11c1b69c8530240c4506fbb", func := "loop.example/g01079/laws.FnExactSameMachine", spec := "fnExactSameMachine", apart := false, narrowed := true }
def FnExactSameMachineUptoSaid : Prop := fnExactSameMachineUptoRow.holds Try.pinned (OpenSpec.upto fnExactSameMachineSpec)

/-- 'laws.FnExactValidMachine', WHERE WHAT IT READS IS OF BULK AT MOST 1048576: true; the input reads as it did. -/
def fnExactValidMachineUptoRow : OpenClaim := { program := "ytlkmboolgfkcdaa", sum := "b07d50c70a711ea4763780b0cd044068787e40bce11c1b69c8530240c4506fbb", func := "loop.example/g01079/laws.FnExactValidMachine", spec := "fnExactValidMachine", unfollowed := true, recurses := true, apart := false, narrowed := true }
def FnExactValidMachineUptoSaid : Prop := fnExactValidMachineUptoRow.holds Try.pinned (OpenSpec.upto fnExactValidMachineSpec)

/-- 'laws.FnExactFreeRules', WHERE WHAT IT READS IS OF BULK AT MOST 1048576: true; the input reads as it did. -/
def fnExactFreeRulesUptoRow : OpenClaim := { program := "ytlkmboolgfkcdaa", sum := "b07d50c70a711ea4763780b0cd044068787e40bce11c1b69c8530240c4506fbb", func := "loop.example/g01079/laws.FnExactFreeRules", spec := "fnExactFreeRules", unfollowed := true, recurses := true, apart := false, narrowed := true }
def FnExactFreeRulesUptoSaid : Prop := fnExactFreeRulesUptoRow.holds Try.pinned (OpenSpec.upto fnExactFreeRulesSpec)

/-- 'laws.FnExactMirrorMachine', WHERE WHAT IT READS IS OF BULK AT MOST 1048576: true; the input reads as it did. -/
def fnExactMirrorMachineUptoRow : OpenClaim := { program := "ytlkmboolgfkcdaa", sum := "b07d50c70a711ea4763780b0cd044068787e40bce11c1b69c8530240c4506fbb", func := "loop.example/g01079/laws.FnExactMirrorMachine", spec := "fnExactMirrorMachine", unfollowed := true, recurses := true, apart := false, narrowed := true }
def FnExactMirrorMachineUptoSaid : Prop := fnExactMirrorMachineUptoRow.holds Try.pinned (OpenSpec.upto fnExactMirrorMachineSpec)

/-- 'laws.FnExactSetRule', WHERE WHAT IT READS IS OF BULK AT MOST 1048576: true; the input reads as it did. -/
def fnExactSetRuleUptoRow : OpenClaim := { program := "ytlkmboolgfkcdaa", sum := "b07d50c70a711ea4763780b0cd044068787e40bce11c1b69c8530240c4506fbb", func := "loop.example/g01079/laws.FnExactSetRule", spec := "fnExactSetRule", unfollowed := true, recurses := true, apart := false, narrowed := true }
def FnExactSetRuleUptoSaid : Prop := fnExactSetRuleUptoRow.holds Try.pinned (OpenSpec.upto fnExactSetRuleSpec)

/-- 'laws.FnExactValidConfig', WHERE WHAT IT READS IS OF BULK AT MOST 1048576: true; the input reads as it did. -/
def fnExactValidConfigUptoRow : OpenClaim := { program := "ytlkmboolgfkcdaa", sum := "b07d50c70a711ea4763780b0cd044068787e40bce11c1b69c8530240c4506fbb", func := "loop.example/g01079/laws.FnExactValidConfig", spec := "fnExactValidConfig", unfollowed := true, recurses := true, apart := false, narrowed := true }
def FnExactValidConfigUptoSaid : Prop := fnExactValidConfigUptoRow.holds Try.pinned (OpenSpec.upto fnExactValidConfigSpec)

/-- 'laws.FnExactStartConfig', WHERE WHAT IT READS IS OF BULK AT MOST 1048576: true; the input reads as it did. -/
def fnExactStartConfigUptoRow : OpenClaim := { program := "ytlkmboolgfkcdaa", sum := "b07d50c70a711ea4763780b0cd044068787e40bce11c1b69c8530240c4506fbb", func := "loop.example/g01079/laws.FnExactStartConfig", spec := "fnExactStartConfig", unfollowed := true, recurses := true, apart := false, narrowed := true }
def FnExactStartConfigUptoSaid : Prop := fnExactStartConfigUptoRow.holds Try.pinned (OpenSpec.upto fnExactStartConfigSpec)

/-- 'laws.FnExactMirrorConfig', WHERE WHAT IT READS IS OF BULK AT MOST 1048576: true; the input reads as it did. -/
def fnExactMirrorConfigUptoRow : OpenClaim := { program := "ytlkmboolgfkcdaa", sum := "b07d50c70a711ea4763780b0cd044068787e40bce11c1b69c8530240c4506fbb", func := "loop.example/g01079/laws.FnExactMirrorConfig", spec := "fnExactMirrorConfig", unfollowed := true, recurses := true, apart := false, narrowed := true }
def FnExactMirrorConfigUptoSaid : Prop := fnExactMirrorConfigUptoRow.holds Try.pinned (OpenSpec.upto fnExactMirrorConfigSpec)

/-- 'laws.FnExactPruneMachine', WHERE WHAT IT READS IS OF BULK AT MOST 1048576: true; the input reads as it did. -/
def fnExactPruneMachineUptoRow : OpenClaim := { program := "ytlkmboolgfkcdaa", sum := "b07d50c70a711ea4763780b0cd044068787e40bce11c1b69c8530240c4506fbb", func := "loop.example/g01079/laws.FnExactPruneMachine", spec := "fnExactPruneMachine", unfollowed := true, recurses := true, apart := false, narrowed := true }
def FnExactPruneMachineUptoSaid : Prop := fnExactPruneMachineUptoRow.holds Try.pinned (OpenSpec.upto fnExactPruneMachineSpec)

/-- 'laws.FnExactCellsOf', WHERE WHAT IT READS IS OF BULK AT MOST 1048576: true; the input reads as it did. -/
def fnExactCellsOfUptoRow : OpenClaim := { program := "ytlkmboolgfkcdaa", sum := "b07d50c70a711ea4763780b0cd044068787e40bce11c1b69c8530240c4506fbb", func := "loop.example/g01079/laws.FnExactCellsOf", spec := "fnExactCellsOf", unfollowed := true, recurses := true, apart := false, narrowed := true }
def FnExactCellsOfUptoSaid : Prop := fnExactCellsOfUptoRow.holds Try.pinned (OpenSpec.upto fnExactCellsOfSpec)

end Rows
end Go.Proofs.Ytlkmboolgfkcdaa
