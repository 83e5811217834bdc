/-
  No cell of these rows narrows 'for every input' (looked for: loops, veiled, ifaces, maps, wideKeys, modest, calm, conditions, laid).
  DERIVED. THE GIVEN ROWS OF THIS SEAT. 12 by the template 'for every input the law returns true; each argument reads behind the call as it read before'; 0 by the template 'total and deterministic' (their statements: YtndddmichogaoaaTotals.lean).
  GIVEN WITH THE SEED: the statements are not yours to turn. If you find one false, say at which input.
  Laid BY PROGRAM, IN A SANDBOX (cutbox-rows.mjs): the forced cells as the released guide's own fill.sh prints them over the translation 4a01d61544454d9e… (all of the seat's roots in one cut). By AI agents, Wed Nov 11 2026. No macro, syntax, notation, axiom, sorry.
-/
import Derived.Test.YtndddmichogaoaaChecked
import GoSem.Claim
import GoSem.ClaimJoined
import GoSem.ClaimMapViews
import Derived.JoinedTies
import Derived.KernelRfl
namespace Go.Proofs.Ytndddmichogaoaa
/- THE CELL 'sum', in the pinned program and in every row, IS THE sha256 OF THE DUMP (.gsa) THAT YtndddmichogaoaaProg.lean LOADS. Nothing in Lean hashes anything: it is a label: what it is worth is what the hold of that sum in a sandbox is worth. -/
noncomputable def Try.pinned : Pinned := { name := "ytndddmichogaoaa", sum := "4a01d61544454d9e6555ffa8853139256ff3248828163a51aa7135078697045c", checked := Try.checked }
namespace Rows
def none {H : Type} : Left H := { results := [], args := [] }

/-- 'laws.FnExactCompareLists': WHATEVER THE INPUT: true; the input reads as it did. -/
def fnExactCompareListsSpec : ChangeSpec := { name := "fnExactCompareLists", fn := fun _ => fun
  | [d1, d2] => { results := [.lit (.bool true)], args := [d1, d2] }
  | _ => none }
def fnExactCompareListsRow : OpenClaim := { program := "ytndddmichogaoaa", sum := "4a01d61544454d9e6555ffa8853139256ff3248828163a51aa7135078697045c", func := "loop.example/g01079/laws.FnExactCompareLists", spec := "fnExactCompareLists", apart := false }
def FnExactCompareListsSaid : Prop := fnExactCompareListsRow.holds Try.pinned (OpenSpec.ofChange fnExactCompareListsSpec)

/-- ITS FALSE NEIGHBOUR: 'it returns false'. Refute it at one input. -/
def fnExactCompareListsWrong : ChangeSpec := { name := "fnExactCompareLists", fn := fun _ => fun
  | [d1, d2] => { results := [.lit (.bool false)], args := [d1, d2] }
  | _ => none }
def FnExactCompareListsWrongFalsely : Prop := fnExactCompareListsRow.holds Try.pinned (OpenSpec.ofChange fnExactCompareListsWrong)

/-- 'laws.FnExactRankWord': WHATEVER THE INPUT: true; the input reads as it did. -/
def fnExactRankWordSpec : ChangeSpec := { name := "fnExactRankWord", fn := fun _ => fun
  | [d1, d2] => { results := [.lit (.bool true)], args := [d1, d2] }
  | _ => none }
def fnExactRankWordRow : OpenClaim := { program := "ytndddmichogaoaa", sum := "4a01d61544454d9e6555ffa8853139256ff3248828163a51aa7135078697045c", func := "loop.example/g01079/laws.FnExactRankWord", spec := "fnExactRankWord", apart := false }
def FnExactRankWordSaid : Prop := fnExactRankWordRow.holds Try.pinned (OpenSpec.ofChange fnExactRankWordSpec)

/-- ITS FALSE NEIGHBOUR: 'it returns false'. Refute it at one input. -/
def fnExactRankWordWrong : ChangeSpec := { name := "fnExactRankWord", fn := fun _ => fun
  | [d1, d2] => { results := [.lit (.bool false)], args := [d1, d2] }
  | _ => none }
def FnExactRankWordWrongFalsely : Prop := fnExactRankWordRow.holds Try.pinned (OpenSpec.ofChange fnExactRankWordWrong)

/-- 'laws.FnExactWordAt': WHATEVER THE INPUT: true; the input reads as it did. -/
def fnExactWordAtSpec : ChangeSpec := { name := "fnExactWordAt", fn := fun _ => fun
  | [d1, d2] => { results := [.lit (.bool true)], args := [d1, d2] }
  | _ => none }
def fnExactWordAtRow : OpenClaim := { program := "ytndddmichogaoaa", sum := "4a01d61544454d9e6555ffa8853139256ff3248828163a51aa7135078697045c", func := "loop.example/g01079/laws.FnExactWordAt", spec := "fnExactWordAt", apart := false }
def FnExactWordAtSaid : Prop := fnExactWordAtRow.holds Try.pinned (OpenSpec.ofChange fnExactWordAtSpec)

/-- ITS FALSE NEIGHBOUR: 'it returns false'. Refute it at one input. -/
def fnExactWordAtWrong : ChangeSpec := { name := "fnExactWordAt", fn := fun _ => fun
  | [d1, d2] => { results := [.lit (.bool false)], args := [d1, d2] }
  | _ => none }
def FnExactWordAtWrongFalsely : Prop := fnExactWordAtRow.holds Try.pinned (OpenSpec.ofChange fnExactWordAtWrong)

/-- 'laws.FnExactPeriodOf': WHATEVER THE INPUT: true; the input reads as it did. -/
def fnExactPeriodOfSpec : ChangeSpec := { name := "fnExactPeriodOf", fn := fun _ => fun
  | [d] => { results := [.lit (.bool true)], args := [d] }
  | _ => none }
def fnExactPeriodOfRow : OpenClaim := { program := "ytndddmichogaoaa", sum := "4a01d61544454d9e6555ffa8853139256ff3248828163a51aa7135078697045c", func := "loop.example/g01079/laws.FnExactPeriodOf", spec := "fnExactPeriodOf", apart := false }
def FnExactPeriodOfSaid : Prop := fnExactPeriodOfRow.holds Try.pinned (OpenSpec.ofChange fnExactPeriodOfSpec)

/-- ITS FALSE NEIGHBOUR: 'it returns false'. Refute it at one input. -/
def fnExactPeriodOfWrong : ChangeSpec := { name := "fnExactPeriodOf", fn := fun _ => fun
  | [d] => { results := [.lit (.bool false)], args := [d] }
  | _ => none }
def FnExactPeriodOfWrongFalsely : Prop := fnExactPeriodOfRow.holds Try.pinned (OpenSpec.ofChange fnExactPeriodOfWrong)

/-- 'laws.FnExactReverseWord': WHATEVER THE INPUT: true; the input reads as it did. -/
def fnExactReverseWordSpec : ChangeSpec := { name := "fnExactReverseWord", fn := fun _ => fun
  | [d] => { results := [.lit (.bool true)], args := [d] }
  | _ => none }
def fnExactReverseWordRow : OpenClaim := { program := "ytndddmichogaoaa", sum := "4a01d61544454d9e6555ffa8853139256ff3248828163a51aa7135078697045c", func := "loop.example/g01079/laws.FnExactReverseWord", spec := "fnExactReverseWord", apart := false }
def FnExactReverseWordSaid : Prop := fnExactReverseWordRow.holds Try.pinned (OpenSpec.ofChange fnExactReverseWordSpec)

/-- ITS FALSE NEIGHBOUR: 'it returns false'. Refute it at one input. -/
def fnExactReverseWordWrong : ChangeSpec := { name := "fnExactReverseWord", fn := fun _ => fun
  | [d] => { results := [.lit (.bool false)], args := [d] }
  | _ => none }
def FnExactReverseWordWrongFalsely : Prop := fnExactReverseWordRow.holds Try.pinned (OpenSpec.ofChange fnExactReverseWordWrong)

/-- 'laws.FnExactCompareShortlex': WHATEVER THE INPUT: true; the input reads as it did. -/
def fnExactCompareShortlexSpec : ChangeSpec := { name := "fnExactCompareShortlex", fn := fun _ => fun
  | [d1, d2] => { results := [.lit (.bool true)], args := [d1, d2] }
  | _ => none }
def fnExactCompareShortlexRow : OpenClaim := { program := "ytndddmichogaoaa", sum := "4a01d61544454d9e6555ffa8853139256ff3248828163a51aa7135078697045c", func := "loop.example/g01079/laws.FnExactCompareShortlex", spec := "fnExactCompareShortlex", apart := false }
def FnExactCompareShortlexSaid : Prop := fnExactCompareShortlexRow.holds Try.pinned (OpenSpec.ofChange fnExactCompareShortlexSpec)

/-- ITS FALSE NEIGHBOUR: 'it returns false'. Refute it at one input. -/
def fnExactCompareShortlexWrong : ChangeSpec := { name := "fnExactCompareShortlex", fn := fun _ => fun
  | [d1, d2] => { results := [.lit (.bool false)], args := [d1, d2] }
  | _ => none }
def FnExactCompareShortlexWrongFalsely : Prop := fnExactCompareShortlexRow.holds Try.pinned (OpenSpec.ofChange fnExactCompareShortlexWrong)

/-- 'laws.FnExactBordersOf': WHATEVER THE INPUT: true; the input reads as it did. -/
def fnExactBordersOfSpec : ChangeSpec := { name := "fnExactBordersOf", fn := fun _ => fun
  | [d] => { results := [.lit (.bool true)], args := [d] }
  | _ => none }
def fnExactBordersOfRow : OpenClaim := { program := "ytndddmichogaoaa", sum := "4a01d61544454d9e6555ffa8853139256ff3248828163a51aa7135078697045c", func := "loop.example/g01079/laws.FnExactBordersOf", spec := "fnExactBordersOf", apart := false }
def FnExactBordersOfSaid : Prop := fnExactBordersOfRow.holds Try.pinned (OpenSpec.ofChange fnExactBordersOfSpec)

/-- ITS FALSE NEIGHBOUR: 'it returns false'. Refute it at one input. -/
def fnExactBordersOfWrong : ChangeSpec := { name := "fnExactBordersOf", fn := fun _ => fun
  | [d] => { results := [.lit (.bool false)], args := [d] }
  | _ => none }
def FnExactBordersOfWrongFalsely : Prop := fnExactBordersOfRow.holds Try.pinned (OpenSpec.ofChange fnExactBordersOfWrong)

/-- 'laws.FnExactRootOf': WHATEVER THE INPUT: true; the input reads as it did. -/
def fnExactRootOfSpec : ChangeSpec := { name := "fnExactRootOf", fn := fun _ => fun
  | [d] => { results := [.lit (.bool true)], args := [d] }
  | _ => none }
def fnExactRootOfRow : OpenClaim := { program := "ytndddmichogaoaa", sum := "4a01d61544454d9e6555ffa8853139256ff3248828163a51aa7135078697045c", func := "loop.example/g01079/laws.FnExactRootOf", spec := "fnExactRootOf", apart := false }
def FnExactRootOfSaid : Prop := fnExactRootOfRow.holds Try.pinned (OpenSpec.ofChange fnExactRootOfSpec)

/-- ITS FALSE NEIGHBOUR: 'it returns false'. Refute it at one input. -/
def fnExactRootOfWrong : ChangeSpec := { name := "fnExactRootOf", fn := fun _ => fun
  | [d] => { results := [.lit (.bool false)], args := [d] }
  | _ => none }
def FnExactRootOfWrongFalsely : Prop := fnExactRootOfRow.holds Try.pinned (OpenSpec.ofChange fnExactRootOfWrong)

/-- 'laws.FnExactOccurrencesOf': WHATEVER THE INPUT: true; the input reads as it did. -/
def fnExactOccurrencesOfSpec : ChangeSpec := { name := "fnExactOccurrencesOf", fn := fun _ => fun
  | [d1, d2] => { results := [.lit (.bool true)], args := [d1, d2] }
  | _ => none }
def fnExactOccurrencesOfRow : OpenClaim := { program := "ytndddmichogaoaa", sum := "4a01d61544454d9e6555ffa8853139256ff3248828163a51aa7135078697045c", func := "loop.example/g01079/laws.FnExactOccurrencesOf", spec := "fnExactOccurrencesOf", unfollowed := true, recurses := true, apart := false }
def FnExactOccurrencesOfSaid : Prop := fnExactOccurrencesOfRow.holds Try.pinned (OpenSpec.ofChange fnExactOccurrencesOfSpec)

/-- ITS FALSE NEIGHBOUR: 'it returns false'. Refute it at one input. -/
def fnExactOccurrencesOfWrong : ChangeSpec := { name := "fnExactOccurrencesOf", fn := fun _ => fun
  | [d1, d2] => { results := [.lit (.bool false)], args := [d1, d2] }
  | _ => none }
def FnExactOccurrencesOfWrongFalsely : Prop := fnExactOccurrencesOfRow.holds Try.pinned (OpenSpec.ofChange fnExactOccurrencesOfWrong)

/-- 'laws.FnExactPowerWord': WHATEVER THE INPUT: true; the input reads as it did. -/
def fnExactPowerWordSpec : ChangeSpec := { name := "fnExactPowerWord", fn := fun _ => fun
  | [d1, d2] => { results := [.lit (.bool true)], args := [d1, d2] }
  | _ => none }
def fnExactPowerWordRow : OpenClaim := { program := "ytndddmichogaoaa", sum := "4a01d61544454d9e6555ffa8853139256ff3248828163a51aa7135078697045c", func := "loop.example/g01079/laws.FnExactPowerWord", spec := "fnExactPowerWord", apart := false }
def FnExactPowerWordSaid : Prop := fnExactPowerWordRow.holds Try.pinned (OpenSpec.ofChange fnExactPowerWordSpec)

/-- ITS FALSE NEIGHBOUR: 'it returns false'. Refute it at one input. -/
def fnExactPowerWordWrong : ChangeSpec := { name := "fnExactPowerWord", fn := fun _ => fun
  | [d1, d2] => { results := [.lit (.bool false)], args := [d1, d2] }
  | _ => none }
def FnExactPowerWordWrongFalsely : Prop := fnExactPowerWordRow.holds Try.pinned (OpenSpec.ofChange fnExactPowerWordWrong)

/-- 'laws.FnExactWordText': WHATEVER THE INPUT: true; the input reads as it did. -/
def fnExactWordTextSpec : ChangeSpec := { name := "fnExactWordText", fn := fun _ => fun
  | [d] => { results := [.lit (.bool true)], args := [d] }
  | _ => none }
def fnExactWordTextRow : OpenClaim := { program := "ytndddmichogaoaa", sum := "4a01d61544454d9e6555ffa8853139256ff3248828163a51aa7135078697045c", func := "loop.example/g01079/laws.FnExactWordText", spec := "fnExactWordText", inPlace := ["internal/abi.NoEscape"], apart := false }
def FnExactWordTextSaid : Prop := fnExactWordTextRow.holds Try.pinned (OpenSpec.ofChange fnExactWordTextSpec)

/-- ITS FALSE NEIGHBOUR: 'it returns false'. Refute it at one input. -/
def fnExactWordTextWrong : ChangeSpec := { name := "fnExactWordText", fn := fun _ => fun
  | [d] => { results := [.lit (.bool false)], args := [d] }
  | _ => none }
def FnExactWordTextWrongFalsely : Prop := fnExactWordTextRow.holds Try.pinned (OpenSpec.ofChange fnExactWordTextWrong)

/-- 'laws.FnExactIsPrefixCode': WHATEVER THE INPUT: true; the input reads as it did. -/
def fnExactIsPrefixCodeSpec : ChangeSpec := { name := "fnExactIsPrefixCode", fn := fun _ => fun
  | [d] => { results := [.lit (.bool true)], args := [d] }
  | _ => none }
def fnExactIsPrefixCodeRow : OpenClaim := { program := "ytndddmichogaoaa", sum := "4a01d61544454d9e6555ffa8853139256ff3248828163a51aa7135078697045c", func := "loop.example/g01079/laws.FnExactIsPrefixCode", spec := "fnExactIsPrefixCode", unfollowed := true, recurses := true, apart := false }
def FnExactIsPrefixCodeSaid : Prop := fnExactIsPrefixCodeRow.holds Try.pinned (OpenSpec.ofChange fnExactIsPrefixCodeSpec)

/-- ITS FALSE NEIGHBOUR: 'it returns false'. Refute it at one input. -/
def fnExactIsPrefixCodeWrong : ChangeSpec := { name := "fnExactIsPrefixCode", fn := fun _ => fun
  | [d] => { results := [.lit (.bool false)], args := [d] }
  | _ => none }
def FnExactIsPrefixCodeWrongFalsely : Prop := fnExactIsPrefixCodeRow.holds Try.pinned (OpenSpec.ofChange fnExactIsPrefixCodeWrong)

/- THE SECOND FORM. 'bulk': how many values and letters a reading holds, each counted each time it is reached (what is shared counts as often as it is met; a slice's spare places count too). A statement '..UptoSaid' is the law's where the arguments, and the package variables that the reading takes, are together of bulk at most 1048576: NARROWER than '..Said'. Prove '..Said' where nothing that the law and all that it calls make is longer than what came in: it says more and counts as full. Else prove '..UptoSaid'. A law counts once. -/
mutual
def uptoBulk {H : Type} : DataW H → Nat
  | .lit (.string bytes) => bytes.length + 1
  | .lit _ => 1
  | .nil => 1
  | .ptr d => uptoBulk d + 1
  | .slice elems spare => uptoBulkAll elems + uptoBulkAll spare + 1
  | .agg parts => uptoBulkAll parts + 1
  | .iface _ d => uptoBulk d + 1
  | .map entries => uptoBulkEntries entries + 1
  | .held _ => 1
def uptoBulkAll {H : Type} : List (DataW H) → Nat
  | [] => 0
  | d :: r => uptoBulk d + uptoBulkAll r
def uptoBulkEntries {H : Type} : List (Lit × DataW H) → Nat
  | [] => 0
  | x :: r => uptoBulkEntry x + uptoBulkEntries r
def uptoBulkEntry {H : Type} : Lit × DataW H → Nat
  | (.string bytes, d) => bytes.length + uptoBulk d + 1
  | (_, d) => uptoBulk d + 1
 end
def uptoSmall : (H : Type) → List (DataW H) → Bool := fun _ ds => decide (uptoBulkAll ds ≤ 1048576)
def OpenSpec.upto (s : _root_.Go.ChangeSpec) : _root_.Go.OpenSpec := { _root_.Go.OpenSpec.ofChange s with cond := some uptoSmall }

/-- 'laws.FnExactCompareLists', WHERE WHAT IT READS IS OF BULK AT MOST 1048576: true; the input reads as it did. -/
def fnExactCompareListsUptoRow : OpenClaim := { program := "ytndddmichogaoaa", sum := "4a01d61544454d9e6555ffa8853139256ff3248828163a51aa7135078697045c", func := "loop.example/g01079/laws.FnExactCompareLists", spec := "fnExactCompareLists", apart := false, narrowed := true }
def FnExactCompareListsUptoSaid : Prop := fnExactCompareListsUptoRow.holds Try.pinned (OpenSpec.upto fnExactCompareListsSpec)

/-- 'laws.FnExactRankWord', WHERE WHAT IT READS IS OF BULK AT MOST 1048576: true; the input reads as it did. -/
def fnExactRankWordUptoRow : OpenClaim := { program := "ytndddmichogaoaa", sum := "4a01d61544454d9e6555ffa8853139256ff3248828163a51aa7135078697045c", func := "loop.example/g01079/laws.FnExactRankWord", spec := "fnExactRankWord", apart := false, narrowed := true }
def FnExactRankWordUptoSaid : Prop := fnExactRankWordUptoRow.holds Try.pinned (OpenSpec.upto fnExactRankWordSpec)

/-- 'laws.FnExactWordAt', WHERE WHAT IT READS IS OF BULK AT MOST 1048576: true; the input reads as it did. -/
def fnExactWordAtUptoRow : OpenClaim := { program := "ytndddmichogaoaa", sum := "4a01d61544454d9e6555ffa8853139256ff3248828163a51aa7135078697045c", func := "loop.example/g01079/laws.FnExactWordAt", spec := "fnExactWordAt", apart := false, narrowed := true }
def FnExactWordAtUptoSaid : Prop := fnExactWordAtUptoRow.holds Try.pinned (OpenSpec.upto fnExactWordAtSpec)

/-- 'laws.FnExactPeriodOf', WHERE WHAT IT READS IS OF BULK AT MOST 1048576: true; the input reads as it did. -/
def fnExactPeriodOfUptoRow : OpenClaim := { program := "ytndddmichogaoaa", sum := "4a01d61544454d9e6555ffa8853139256ff3248828163a51aa7135078697045c", func := "loop.example/g01079/laws.FnExactPeriodOf", spec := "fnExactPeriodOf", apart := false, narrowed := true }
def FnExactPeriodOfUptoSaid : Prop := fnExactPeriodOfUptoRow.holds Try.pinned (OpenSpec.upto fnExactPeriodOfSpec)

/-- 'laws.FnExactReverseWord', WHERE WHAT IT READS IS OF BULK AT MOST 1048576: true; the input reads as it did. -/
def fnExactReverseWordUptoRow : OpenClaim := { program := "ytndddmichogaoaa", sum := "4a01d61544454d9e6555ffa8853139256ff3248828163a51aa7135078697045c", func := "loop.example/g01079/laws.FnExactReverseWord", spec := "fnExactReverseWord", apart := false, narrowed := true }
def FnExactReverseWordUptoSaid : Prop := fnExactReverseWordUptoRow.holds Try.pinned (OpenSpec.upto fnExactReverseWordSpec)

/-- 'laws.FnExactCompareShortlex', WHERE WHAT IT READS IS OF BULK AT MOST 1048576: true; the input reads as it did. -/
def fnExactCompareShortlexUptoRow : OpenClaim := { program := "ytndddmichogaoaa", sum := "4a01d61544454d9e6555ffa8853139256ff3248828163a51aa7135078697045c", func := "loop.example/g01079/laws.FnExactCompareShortlex", spec := "fnExactCompareShortlex", apart := false, narrowed := true }
def FnExactCompareShortlexUptoSaid : Prop := fnExactCompareShortlexUptoRow.holds Try.pinned (OpenSpec.upto fnExactCompareShortlexSpec)

/-- 'laws.FnExactBordersOf', WHERE WHAT IT READS IS OF BULK AT MOST 1048576: true; the input reads as it did. -/
def fnExactBordersOfUptoRow : OpenClaim := { program := "ytndddmichogaoaa", sum := "4a01d61544454d9e6555ffa8853139256ff3248828163a51aa7135078697045c", func := "loop.example/g01079/laws.FnExactBordersOf", spec := "fnExactBordersOf", apart := false, narrowed := true }
def FnExactBordersOfUptoSaid : Prop := fnExactBordersOfUptoRow.holds Try.pinned (OpenSpec.upto fnExactBordersOfSpec)

/-- 'laws.FnExactRootOf', WHERE WHAT IT READS IS OF BULK AT MOST 1048576: true; the input reads as it did. -/
def fnExactRootOfUptoRow : OpenClaim := { program := "ytndddmichogaoaa", sum := "4a01d61544454d9e6555ffa8853139256ff3248828163a51aa7135078697045c", func := "loop.example/g01079/laws.FnExactRootOf", spec := "fnExactRootOf", apart := false, narrowed := true }
def FnExactRootOfUptoSaid : Prop := fnExactRootOfUptoRow.holds Try.pinned (OpenSpec.upto fnExactRootOfSpec)

/-- 'laws.FnExactOccurrencesOf', WHERE WHAT IT READS IS OF BULK AT MOST 1048576: true; the input reads as it did. -/
def fnExactOccurrencesOfUptoRow : OpenClaim := { program := "ytndddmichogaoaa", sum := "4a01d61544454d9e6555ffa8853139256ff3248828163a51aa7135078697045c", func := "loop.example/g01079/laws.FnExactOccurrencesOf", spec := "fnExactOccurrencesOf", unfollowed := true, recurses := true, apart := false, narrowed := true }
def FnExactOccurrencesOfUptoSaid : Prop := fnExactOccurrencesOfUptoRow.holds Try.pinned (OpenSpec.upto fnExactOccurrencesOfSpec)

/-- 'laws.FnExactPowerWord', WHERE WHAT IT READS IS OF BULK AT MOST 1048576: true; the input reads as it did. -/
def fnExactPowerWordUptoRow : OpenClaim := { program := "ytndddmichogaoaa", sum := "4a01d61544454d9e6555ffa8853139256ff3248828163a51aa7135078697045c", func := "loop.example/g01079/laws.FnExactPowerWord", spec := "fnExactPowerWord", apart := false, narrowed := true }
def FnExactPowerWordUptoSaid : Prop := fnExactPowerWordUptoRow.holds Try.pinned (OpenSpec.upto fnExactPowerWordSpec)

/-- 'laws.FnExactWordText', WHERE WHAT IT READS IS OF BULK AT MOST 1048576: true; the input reads as it did. -/
def fnExactWordTextUptoRow : OpenClaim := { program := "ytndddmichogaoaa", sum := "4a01d61544454d9e6555ffa8853139256ff3248828163a51aa7135078697045c", func := "loop.example/g01079/laws.FnExactWordText", spec := "fnExactWordText", inPlace := ["internal/abi.NoEscape"], apart := false, narrowed := true }
def FnExactWordTextUptoSaid : Prop := fnExactWordTextUptoRow.holds Try.pinned (OpenSpec.upto fnExactWordTextSpec)

/-- 'laws.FnExactIsPrefixCode', WHERE WHAT IT READS IS OF BULK AT MOST 1048576: true; the input reads as it did. -/
def fnExactIsPrefixCodeUptoRow : OpenClaim := { program := "ytndddmichogaoaa", sum := "4a01d61544454d9e6555ffa8853139256ff3248828163a51aa7135078697045c", func := "loop.example/g01079/laws.FnExactIsPrefixCode", spec := "fnExactIsPrefixCode", unfollowed := true, recurses := true, apart := false, narrowed := true }
def FnExactIsPrefixCodeUptoSaid : Prop := fnExactIsPrefixCodeUptoRow.holds Try.pinned (OpenSpec.upto fnExactIsPrefixCodeSpec)

end Rows
end Go.Proofs.Ytndddmichogaoaa
