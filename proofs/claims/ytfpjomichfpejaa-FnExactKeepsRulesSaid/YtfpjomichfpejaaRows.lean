/-
  No cell of these rows narrows 'for every input' (looked for: loops, veiled, ifaces, maps, wideKeys, modest, calm, conditions, laid).
  DERIVED. THE GIVEN ROWS OF THIS SEAT. 12 by the template 'for every input the law returns true; each argument reads behind the call as it read before'; 0 by the template 'total and deterministic' (their statements: YtfpjomichfpejaaTotals.lean).
  GIVEN WITH THE SEED: the statements are not yours to turn. If you find one false, say at which input.
  Laid BY PROGRAM, IN A SANDBOX (cutbox-rows.mjs): the forced cells as the released guide's own fill.sh prints them over the translation b374f5955bb96ab5… (all of the seat's roots in one cut). By AI agents, Wed Nov 11 2026. No macro, syntax, notation, axiom, sorry.
-/
import Derived.Test.YtfpjomichfpejaaChecked
import GoSem.Claim
import GoSem.ClaimJoined
import GoSem.ClaimMapViews
import Derived.JoinedTies
import Derived.KernelRfl
namespace Go.Proofs.Ytfpjomichfpejaa
/- THE CELL 'sum', in the pinned program and in every row, IS THE sha256 OF THE DUMP (.gsa) THAT YtfpjomichfpejaaProg.lean LOADS. Nothing in Lean hashes anything: it is a label: what it is worth is what the hold of that sum in a sandbox is worth. -/
noncomputable def Try.pinned : Pinned := { name := "ytfpjomichfpejaa", sum := "b374f5955bb96ab57a8e1f389e59de4a4bb57568a625b1d4c252cc6e80b0b363", checked := Try.checked }
namespace Rows
def none {H : Type} : Left H := { results := [], args := [] }

/-- 'laws.FnExactIsValidArms': WHATEVER THE INPUT: true; the input reads as it did. -/
def fnExactIsValidArmsSpec : ChangeSpec := { name := "fnExactIsValidArms", fn := fun _ => fun
  | [d] => { results := [.lit (.bool true)], args := [d] }
  | _ => none }
def fnExactIsValidArmsRow : OpenClaim := { program := "ytfpjomichfpejaa", sum := "b374f5955bb96ab57a8e1f389e59de4a4bb57568a625b1d4c252cc6e80b0b363", func := "loop.example/g00884/laws.FnExactIsValidArms", spec := "fnExactIsValidArms", apart := false }
def FnExactIsValidArmsSaid : Prop := fnExactIsValidArmsRow.holds Try.pinned (OpenSpec.ofChange fnExactIsValidArmsSpec)

/-- ITS FALSE NEIGHBOUR: 'it returns false'. Refute it at one input. -/
def fnExactIsValidArmsWrong : ChangeSpec := { name := "fnExactIsValidArms", fn := fun _ => fun
  | [d] => { results := [.lit (.bool false)], args := [d] }
  | _ => none }
def FnExactIsValidArmsWrongFalsely : Prop := fnExactIsValidArmsRow.holds Try.pinned (OpenSpec.ofChange fnExactIsValidArmsWrong)

/-- 'laws.FnExactChargeTotal': WHATEVER THE INPUT: true; the input reads as it did. -/
def fnExactChargeTotalSpec : ChangeSpec := { name := "fnExactChargeTotal", fn := fun _ => fun
  | [d] => { results := [.lit (.bool true)], args := [d] }
  | _ => none }
def fnExactChargeTotalRow : OpenClaim := { program := "ytfpjomichfpejaa", sum := "b374f5955bb96ab57a8e1f389e59de4a4bb57568a625b1d4c252cc6e80b0b363", func := "loop.example/g00884/laws.FnExactChargeTotal", spec := "fnExactChargeTotal", apart := false }
def FnExactChargeTotalSaid : Prop := fnExactChargeTotalRow.holds Try.pinned (OpenSpec.ofChange fnExactChargeTotalSpec)

/-- ITS FALSE NEIGHBOUR: 'it returns false'. Refute it at one input. -/
def fnExactChargeTotalWrong : ChangeSpec := { name := "fnExactChargeTotal", fn := fun _ => fun
  | [d] => { results := [.lit (.bool false)], args := [d] }
  | _ => none }
def FnExactChargeTotalWrongFalsely : Prop := fnExactChargeTotalRow.holds Try.pinned (OpenSpec.ofChange fnExactChargeTotalWrong)

/-- 'laws.FnExactSameShape': WHATEVER THE INPUT: true; the input reads as it did. -/
def fnExactSameShapeSpec : ChangeSpec := { name := "fnExactSameShape", fn := fun _ => fun
  | [d1, d2] => { results := [.lit (.bool true)], args := [d1, d2] }
  | _ => none }
def fnExactSameShapeRow : OpenClaim := { program := "ytfpjomichfpejaa", sum := "b374f5955bb96ab57a8e1f389e59de4a4bb57568a625b1d4c252cc6e80b0b363", func := "loop.example/g00884/laws.FnExactSameShape", spec := "fnExactSameShape", unfollowed := true, recurses := true, apart := false }
def FnExactSameShapeSaid : Prop := fnExactSameShapeRow.holds Try.pinned (OpenSpec.ofChange fnExactSameShapeSpec)

/-- ITS FALSE NEIGHBOUR: 'it returns false'. Refute it at one input. -/
def fnExactSameShapeWrong : ChangeSpec := { name := "fnExactSameShape", fn := fun _ => fun
  | [d1, d2] => { results := [.lit (.bool false)], args := [d1, d2] }
  | _ => none }
def FnExactSameShapeWrongFalsely : Prop := fnExactSameShapeRow.holds Try.pinned (OpenSpec.ofChange fnExactSameShapeWrong)

/-- 'laws.FnExactLayerCount': WHATEVER THE INPUT: true; the input reads as it did. -/
def fnExactLayerCountSpec : ChangeSpec := { name := "fnExactLayerCount", fn := fun _ => fun
  | [d] => { results := [.lit (.bool true)], args := [d] }
  | _ => none }
def fnExactLayerCountRow : OpenClaim := { program := "ytfpjomichfpejaa", sum := "b374f5955bb96ab57a8e1f389e59de4a4bb57568a625b1d4c252cc6e80b0b363", func := "loop.example/g00884/laws.FnExactLayerCount", spec := "fnExactLayerCount", apart := false }
def FnExactLayerCountSaid : Prop := fnExactLayerCountRow.holds Try.pinned (OpenSpec.ofChange fnExactLayerCountSpec)

/-- ITS FALSE NEIGHBOUR: 'it returns false'. Refute it at one input. -/
def fnExactLayerCountWrong : ChangeSpec := { name := "fnExactLayerCount", fn := fun _ => fun
  | [d] => { results := [.lit (.bool false)], args := [d] }
  | _ => none }
def FnExactLayerCountWrongFalsely : Prop := fnExactLayerCountRow.holds Try.pinned (OpenSpec.ofChange fnExactLayerCountWrong)

/-- 'laws.FnExactArmsTinctures': WHATEVER THE INPUT: true; the input reads as it did. -/
def fnExactArmsTincturesSpec : ChangeSpec := { name := "fnExactArmsTinctures", fn := fun _ => fun
  | [d] => { results := [.lit (.bool true)], args := [d] }
  | _ => none }
def fnExactArmsTincturesRow : OpenClaim := { program := "ytfpjomichfpejaa", sum := "b374f5955bb96ab57a8e1f389e59de4a4bb57568a625b1d4c252cc6e80b0b363", func := "loop.example/g00884/laws.FnExactArmsTinctures", spec := "fnExactArmsTinctures", apart := false }
def FnExactArmsTincturesSaid : Prop := fnExactArmsTincturesRow.holds Try.pinned (OpenSpec.ofChange fnExactArmsTincturesSpec)

/-- ITS FALSE NEIGHBOUR: 'it returns false'. Refute it at one input. -/
def fnExactArmsTincturesWrong : ChangeSpec := { name := "fnExactArmsTinctures", fn := fun _ => fun
  | [d] => { results := [.lit (.bool false)], args := [d] }
  | _ => none }
def FnExactArmsTincturesWrongFalsely : Prop := fnExactArmsTincturesRow.holds Try.pinned (OpenSpec.ofChange fnExactArmsTincturesWrong)

/-- 'laws.FnExactWithField': WHATEVER THE INPUT: true; the input reads as it did. -/
def fnExactWithFieldSpec : ChangeSpec := { name := "fnExactWithField", fn := fun _ => fun
  | [d1, d2] => { results := [.lit (.bool true)], args := [d1, d2] }
  | _ => none }
def fnExactWithFieldRow : OpenClaim := { program := "ytfpjomichfpejaa", sum := "b374f5955bb96ab57a8e1f389e59de4a4bb57568a625b1d4c252cc6e80b0b363", func := "loop.example/g00884/laws.FnExactWithField", spec := "fnExactWithField", apart := false }
def FnExactWithFieldSaid : Prop := fnExactWithFieldRow.holds Try.pinned (OpenSpec.ofChange fnExactWithFieldSpec)

/-- ITS FALSE NEIGHBOUR: 'it returns false'. Refute it at one input. -/
def fnExactWithFieldWrong : ChangeSpec := { name := "fnExactWithField", fn := fun _ => fun
  | [d1, d2] => { results := [.lit (.bool false)], args := [d1, d2] }
  | _ => none }
def FnExactWithFieldWrongFalsely : Prop := fnExactWithFieldRow.holds Try.pinned (OpenSpec.ofChange fnExactWithFieldWrong)

/-- 'laws.FnExactWithGroups': WHATEVER THE INPUT: true; the input reads as it did. -/
def fnExactWithGroupsSpec : ChangeSpec := { name := "fnExactWithGroups", fn := fun _ => fun
  | [d1, d2, d3] => { results := [.lit (.bool true)], args := [d1, d2, d3] }
  | _ => none }
def fnExactWithGroupsRow : OpenClaim := { program := "ytfpjomichfpejaa", sum := "b374f5955bb96ab57a8e1f389e59de4a4bb57568a625b1d4c252cc6e80b0b363", func := "loop.example/g00884/laws.FnExactWithGroups", spec := "fnExactWithGroups", apart := false }
def FnExactWithGroupsSaid : Prop := fnExactWithGroupsRow.holds Try.pinned (OpenSpec.ofChange fnExactWithGroupsSpec)

/-- ITS FALSE NEIGHBOUR: 'it returns false'. Refute it at one input. -/
def fnExactWithGroupsWrong : ChangeSpec := { name := "fnExactWithGroups", fn := fun _ => fun
  | [d1, d2, d3] => { results := [.lit (.bool false)], args := [d1, d2, d3] }
  | _ => none }
def FnExactWithGroupsWrongFalsely : Prop := fnExactWithGroupsRow.holds Try.pinned (OpenSpec.ofChange fnExactWithGroupsWrong)

/-- 'laws.FnExactWithOrdinary': WHATEVER THE INPUT: true; the input reads as it did. -/
def fnExactWithOrdinarySpec : ChangeSpec := { name := "fnExactWithOrdinary", fn := fun _ => fun
  | [d1, d2, d3, d4] => { results := [.lit (.bool true)], args := [d1, d2, d3, d4] }
  | _ => none }
def fnExactWithOrdinaryRow : OpenClaim := { program := "ytfpjomichfpejaa", sum := "b374f5955bb96ab57a8e1f389e59de4a4bb57568a625b1d4c252cc6e80b0b363", func := "loop.example/g00884/laws.FnExactWithOrdinary", spec := "fnExactWithOrdinary", apart := false }
def FnExactWithOrdinarySaid : Prop := fnExactWithOrdinaryRow.holds Try.pinned (OpenSpec.ofChange fnExactWithOrdinarySpec)

/-- ITS FALSE NEIGHBOUR: 'it returns false'. Refute it at one input. -/
def fnExactWithOrdinaryWrong : ChangeSpec := { name := "fnExactWithOrdinary", fn := fun _ => fun
  | [d1, d2, d3, d4] => { results := [.lit (.bool false)], args := [d1, d2, d3, d4] }
  | _ => none }
def FnExactWithOrdinaryWrongFalsely : Prop := fnExactWithOrdinaryRow.holds Try.pinned (OpenSpec.ofChange fnExactWithOrdinaryWrong)

/-- 'laws.FnExactKeepsRules': WHATEVER THE INPUT: true; the input reads as it did. -/
def fnExactKeepsRulesSpec : ChangeSpec := { name := "fnExactKeepsRules", fn := fun _ => fun
  | [d] => { results := [.lit (.bool true)], args := [d] }
  | _ => none }
def fnExactKeepsRulesRow : OpenClaim := { program := "ytfpjomichfpejaa", sum := "b374f5955bb96ab57a8e1f389e59de4a4bb57568a625b1d4c252cc6e80b0b363", func := "loop.example/g00884/laws.FnExactKeepsRules", spec := "fnExactKeepsRules", apart := false }
def FnExactKeepsRulesSaid : Prop := fnExactKeepsRulesRow.holds Try.pinned (OpenSpec.ofChange fnExactKeepsRulesSpec)

/-- ITS FALSE NEIGHBOUR: 'it returns false'. Refute it at one input. -/
def fnExactKeepsRulesWrong : ChangeSpec := { name := "fnExactKeepsRules", fn := fun _ => fun
  | [d] => { results := [.lit (.bool false)], args := [d] }
  | _ => none }
def FnExactKeepsRulesWrongFalsely : Prop := fnExactKeepsRulesRow.holds Try.pinned (OpenSpec.ofChange fnExactKeepsRulesWrong)

/-- 'laws.FnExactReplaceTincture': WHATEVER THE INPUT: true; the input reads as it did. -/
def fnExactReplaceTinctureSpec : ChangeSpec := { name := "fnExactReplaceTincture", fn := fun _ => fun
  | [d1, d2, d3] => { results := [.lit (.bool true)], args := [d1, d2, d3] }
  | _ => none }
def fnExactReplaceTinctureRow : OpenClaim := { program := "ytfpjomichfpejaa", sum := "b374f5955bb96ab57a8e1f389e59de4a4bb57568a625b1d4c252cc6e80b0b363", func := "loop.example/g00884/laws.FnExactReplaceTincture", spec := "fnExactReplaceTincture", unfollowed := true, recurses := true, apart := false }
def FnExactReplaceTinctureSaid : Prop := fnExactReplaceTinctureRow.holds Try.pinned (OpenSpec.ofChange fnExactReplaceTinctureSpec)

/-- ITS FALSE NEIGHBOUR: 'it returns false'. Refute it at one input. -/
def fnExactReplaceTinctureWrong : ChangeSpec := { name := "fnExactReplaceTincture", fn := fun _ => fun
  | [d1, d2, d3] => { results := [.lit (.bool false)], args := [d1, d2, d3] }
  | _ => none }
def FnExactReplaceTinctureWrongFalsely : Prop := fnExactReplaceTinctureRow.holds Try.pinned (OpenSpec.ofChange fnExactReplaceTinctureWrong)

/-- 'laws.FnExactAllowedAt': WHATEVER THE INPUT: true; the input reads as it did. -/
def fnExactAllowedAtSpec : ChangeSpec := { name := "fnExactAllowedAt", fn := fun _ => fun
  | [d1, d2] => { results := [.lit (.bool true)], args := [d1, d2] }
  | _ => none }
def fnExactAllowedAtRow : OpenClaim := { program := "ytfpjomichfpejaa", sum := "b374f5955bb96ab57a8e1f389e59de4a4bb57568a625b1d4c252cc6e80b0b363", func := "loop.example/g00884/laws.FnExactAllowedAt", spec := "fnExactAllowedAt", apart := false }
def FnExactAllowedAtSaid : Prop := fnExactAllowedAtRow.holds Try.pinned (OpenSpec.ofChange fnExactAllowedAtSpec)

/-- ITS FALSE NEIGHBOUR: 'it returns false'. Refute it at one input. -/
def fnExactAllowedAtWrong : ChangeSpec := { name := "fnExactAllowedAt", fn := fun _ => fun
  | [d1, d2] => { results := [.lit (.bool false)], args := [d1, d2] }
  | _ => none }
def FnExactAllowedAtWrongFalsely : Prop := fnExactAllowedAtRow.holds Try.pinned (OpenSpec.ofChange fnExactAllowedAtWrong)

/-- 'laws.FnExactSimplest': WHATEVER THE INPUT: true; the input reads as it did. -/
def fnExactSimplestSpec : ChangeSpec := { name := "fnExactSimplest", fn := fun _ => fun
  | [d] => { results := [.lit (.bool true)], args := [d] }
  | _ => none }
def fnExactSimplestRow : OpenClaim := { program := "ytfpjomichfpejaa", sum := "b374f5955bb96ab57a8e1f389e59de4a4bb57568a625b1d4c252cc6e80b0b363", func := "loop.example/g00884/laws.FnExactSimplest", spec := "fnExactSimplest", apart := false }
def FnExactSimplestSaid : Prop := fnExactSimplestRow.holds Try.pinned (OpenSpec.ofChange fnExactSimplestSpec)

/-- ITS FALSE NEIGHBOUR: 'it returns false'. Refute it at one input. -/
def fnExactSimplestWrong : ChangeSpec := { name := "fnExactSimplest", fn := fun _ => fun
  | [d] => { results := [.lit (.bool false)], args := [d] }
  | _ => none }
def FnExactSimplestWrongFalsely : Prop := fnExactSimplestRow.holds Try.pinned (OpenSpec.ofChange fnExactSimplestWrong)

/- THE SECOND FORM. 'bulk': how many values and letters a reading holds, each counted each time it is reached (what is shared counts as often as it is met; a slice's spare places count too). A statement '..UptoSaid' is the law's where the arguments, and the package variables that the reading takes, are together of bulk at most 1048576: NARROWER than '..Said'. Prove '..Said' where nothing that the law and all that it calls make is longer than what came in: it says more and counts as full. Else prove '..UptoSaid'. A law counts once. -/
mutual
def uptoBulk {H : Type} : DataW H → Nat
  | .lit (.string bytes) => bytes.length + 1
  | .lit _ => 1
  | .nil => 1
  | .ptr d => uptoBulk d + 1
  | .slice elems spare => uptoBulkAll elems + uptoBulkAll spare + 1
  | .agg parts => uptoBulkAll parts + 1
  | .iface _ d => uptoBulk d + 1
  | .map entries => uptoBulkEntries entries + 1
  | .held _ => 1
def uptoBulkAll {H : Type} : List (DataW H) → Nat
  | [] => 0
  | d :: r => uptoBulk d + uptoBulkAll r
def uptoBulkEntries {H : Type} : List (Lit × DataW H) → Nat
  | [] => 0
  | x :: r => uptoBulkEntry x + uptoBulkEntries r
def uptoBulkEntry {H : Type} : Lit × DataW H → Nat
  | (.string bytes, d) => bytes.length + uptoBulk d + 1
  | (_, d) => uptoBulk d + 1
 end
def uptoSmall : (H : Type) → List (DataW H) → Bool := fun _ ds => decide (uptoBulkAll ds ≤ 1048576)
def OpenSpec.upto (s : _root_.Go.ChangeSpec) : _root_.Go.OpenSpec := { _root_.Go.OpenSpec.ofChange s with cond := some uptoSmall }

/-- 'laws.FnExactIsValidArms', WHERE WHAT IT READS IS OF BULK AT MOST 1048576: true; the input reads as it did. -/
def fnExactIsValidArmsUptoRow : OpenClaim := { program := "ytfpjomichfpejaa", sum := "b374f5955bb96ab57a8e1f389e59de4a4bb57568a625b1d4c252cc6e80b0b363", func := "loop.example/g00884/laws.FnExactIsValidArms", spec := "fnExactIsValidArms", apart := false, narrowed := true }
def FnExactIsValidArmsUptoSaid : Prop := fnExactIsValidArmsUptoRow.holds Try.pinned (OpenSpec.upto fnExactIsValidArmsSpec)

/-- 'laws.FnExactChargeTotal', WHERE WHAT IT READS IS OF BULK AT MOST 1048576: true; the input reads as it did. -/
def fnExactChargeTotalUptoRow : OpenClaim := { program := "ytfpjomichfpejaa", sum := "b374f5955bb96ab57a8e1f389e59de4a4bb57568a625b1d4c252cc6e80b0b363", func := "loop.example/g00884/laws.FnExactChargeTotal", spec := "fnExactChargeTotal", apart := false, narrowed := true }
def FnExactChargeTotalUptoSaid : Prop := fnExactChargeTotalUptoRow.holds Try.pinned (OpenSpec.upto fnExactChargeTotalSpec)

/-- 'laws.FnExactSameShape', WHERE WHAT IT READS IS OF BULK AT MOST 1048576: true; the input reads as it did. -/
def fnExactSameShapeUptoRow : OpenClaim := { program := "ytfpjomichfpejaa", sum := "b374f5955bb96ab57a8e1f389e59de4a4bb57568a625b1d4c252cc6e80b0b363", func := "loop.example/g00884/laws.FnExactSameShape", spec := "fnExactSameShape", unfollowed := true, recurses := true, apart := false, narrowed := true }
def FnExactSameShapeUptoSaid : Prop := fnExactSameShapeUptoRow.holds Try.pinned (OpenSpec.upto fnExactSameShapeSpec)

/-- 'laws.FnExactLayerCount', WHERE WHAT IT READS IS OF BULK AT MOST 1048576: true; the input reads as it did. -/
def fnExactLayerCountUptoRow : OpenClaim := { program := "ytfpjomichfpejaa", sum := "b374f5955bb96ab57a8e1f389e59de4a4bb57568a625b1d4c252cc6e80b0b363", func := "loop.example/g00884/laws.FnExactLayerCount", spec := "fnExactLayerCount", apart := false, narrowed := true }
def FnExactLayerCountUptoSaid : Prop := fnExactLayerCountUptoRow.holds Try.pinned (OpenSpec.upto fnExactLayerCountSpec)

/-- 'laws.FnExactArmsTinctures', WHERE WHAT IT READS IS OF BULK AT MOST 1048576: true; the input reads as it did. -/
def fnExactArmsTincturesUptoRow : OpenClaim := { program := "ytfpjomichfpejaa", sum := "b374f5955bb96ab57a8e1f389e59de4a4bb57568a625b1d4c252cc6e80b0b363", func := "loop.example/g00884/laws.FnExactArmsTinctures", spec := "fnExactArmsTinctures", apart := false, narrowed := true }
def FnExactArmsTincturesUptoSaid : Prop := fnExactArmsTincturesUptoRow.holds Try.pinned (OpenSpec.upto fnExactArmsTincturesSpec)

/-- 'laws.FnExactWithField', WHERE WHAT IT READS IS OF BULK AT MOST 1048576: true; the input reads as it did. -/
def fnExactWithFieldUptoRow : OpenClaim := { program := "ytfpjomichfpejaa", sum := "b374f5955bb96ab57a8e1f389e59de4a4bb57568a625b1d4c252cc6e80b0b363", func := "loop.example/g00884/laws.FnExactWithField", spec := "fnExactWithField", apart := false, narrowed := true }
def FnExactWithFieldUptoSaid : Prop := fnExactWithFieldUptoRow.holds Try.pinned (OpenSpec.upto fnExactWithFieldSpec)

/-- 'laws.FnExactWithGroups', WHERE WHAT IT READS IS OF BULK AT MOST 1048576: true; the input reads as it did. -/
def fnExactWithGroupsUptoRow : OpenClaim := { program := "ytfpjomichfpejaa", sum := "b374f5955bb96ab57a8e1f389e59de4a4bb57568a625b1d4c252cc6e80b0b363", func := "loop.example/g00884/laws.FnExactWithGroups", spec := "fnExactWithGroups", apart := false, narrowed := true }
def FnExactWithGroupsUptoSaid : Prop := fnExactWithGroupsUptoRow.holds Try.pinned (OpenSpec.upto fnExactWithGroupsSpec)

/-- 'laws.FnExactWithOrdinary', WHERE WHAT IT READS IS OF BULK AT MOST 1048576: true; the input reads as it did. -/
def fnExactWithOrdinaryUptoRow : OpenClaim := { program := "ytfpjomichfpejaa", sum := "b374f5955bb96ab57a8e1f389e59de4a4bb57568a625b1d4c252cc6e80b0b363", func := "loop.example/g00884/laws.FnExactWithOrdinary", spec := "fnExactWithOrdinary", apart := false, narrowed := true }
def FnExactWithOrdinaryUptoSaid : Prop := fnExactWithOrdinaryUptoRow.holds Try.pinned (OpenSpec.upto fnExactWithOrdinarySpec)

/-- 'laws.FnExactKeepsRules', WHERE WHAT IT READS IS OF BULK AT MOST 1048576: true; the input reads as it did. -/
def fnExactKeepsRulesUptoRow : OpenClaim := { program := "ytfpjomichfpejaa", sum := "b374f5955bb96ab57a8e1f389e59de4a4bb57568a625b1d4c252cc6e80b0b363", func := "loop.example/g00884/laws.FnExactKeepsRules", spec := "fnExactKeepsRules", apart := false, narrowed := true }
def FnExactKeepsRulesUptoSaid : Prop := fnExactKeepsRulesUptoRow.holds Try.pinned (OpenSpec.upto fnExactKeepsRulesSpec)

/-- 'laws.FnExactReplaceTincture', WHERE WHAT IT READS IS OF BULK AT MOST 1048576: true; the input reads as it did. -/
def fnExactReplaceTinctureUptoRow : OpenClaim := { program := "ytfpjomichfpejaa", sum := "b374f5955bb96ab57a8e1f389e59de4a4bb57568a625b1d4c252cc6e80b0b363", func := "loop.example/g00884/laws.FnExactReplaceTincture", spec := "fnExactReplaceTincture", unfollowed := true, recurses := true, apart := false, narrowed := true }
def FnExactReplaceTinctureUptoSaid : Prop := fnExactReplaceTinctureUptoRow.holds Try.pinned (OpenSpec.upto fnExactReplaceTinctureSpec)

/-- 'laws.FnExactAllowedAt', WHERE WHAT IT READS IS OF BULK AT MOST 1048576: true; the input reads as it did. -/
def fnExactAllowedAtUptoRow : OpenClaim := { program := "ytfpjomichfpejaa", sum := "b374f5955bb96ab57a8e1f389e59de4a4bb57568a625b1d4c252cc6e80b0b363", func := "loop.example/g00884/laws.FnExactAllowedAt", spec := "fnExactAllowedAt", apart := false, narrowed := true }
def FnExactAllowedAtUptoSaid : Prop := fnExactAllowedAtUptoRow.holds Try.pinned (OpenSpec.upto fnExactAllowedAtSpec)

/-- 'laws.FnExactSimplest', WHERE WHAT IT READS IS OF BULK AT MOST 1048576: true; the input reads as it did. -/
def fnExactSimplestUptoRow : OpenClaim := { program := "ytfpjomichfpejaa", sum := "b374f5955bb96ab57a8e1f389e59de4a4bb57568a625b1d4c252cc6e80b0b363", func := "loop.example/g00884/laws.FnExactSimplest", spec := "fnExactSimplest", apart := false, narrowed := true }
def FnExactSimplestUptoSaid : Prop := fnExactSimplestUptoRow.holds Try.pinned (OpenSpec.upto fnExactSimplestSpec)

end Rows
end Go.Proofs.Ytfpjomichfpejaa
