/-
  No cell of these rows narrows 'for every input' (looked for: loops, veiled, ifaces, maps, wideKeys, modest, calm, conditions, laid).
  DERIVED. THE GIVEN ROWS OF THIS SEAT. 12 by the template 'for every input the law returns true; each argument reads behind the call as it read before'; 0 by the template 'total and deterministic' (their statements: YtdipfenakmlkhaaTotals.lean).
  GIVEN WITH THE SEED: the statements are not yours to turn. If you find one false, say at which input.
  Laid BY PROGRAM, IN A SANDBOX (cutbox-rows.mjs): the forced cells as the released guide's own fill.sh prints them over the translation 5c2b08abb3d5af18… (all of the seat's roots in one cut). By AI agents, Wed Nov 11 2026. No macro, syntax, notation, axiom, sorry.
-/
import Derived.Test.YtdipfenakmlkhaaChecked
import GoSem.Claim
import GoSem.ClaimJoined
import GoSem.ClaimMapViews
import Derived.JoinedTies
import Derived.KernelRfl
namespace Go.Proofs.Ytdipfenakmlkhaa
/- THE CELL 'sum', in the pinned program and in every row, IS THE sha256 OF THE DUMP (.gsa) THAT YtdipfenakmlkhaaProg.lean LOADS. Nothing in Lean hashes anything: it is a label: what it is worth is what the hold of that sum in a sandbox is worth. -/
noncomputable def Try.pinned : Pinned := { name := "ytdipfenakmlkhaa", sum := "5c2b08abb3d5af1889e238fe90d0e25cd3fa6c08b22cec61c2e9062951331a4f", checked := Try.checked }
namespace Rows
def none {H : Type} : Left H := { results := [], args := [] }

/-- 'laws.FnExactIsValidGroup': WHATEVER THE INPUT: true; the input reads as it did. -/
def fnExactIsValidGroupSpec : ChangeSpec := { name := "fnExactIsValidGroup", fn := fun _ => fun
  | [d] => { results := [.lit (.bool true)], args := [d] }
  | _ => none }
def fnExactIsValidGroupRow : OpenClaim := { program := "ytdipfenakmlkhaa", sum := "5c2b08abb3d5af1889e238fe90d0e25cd3fa6c08b22cec61c2e9062951331a4f", func := "loop.example/g00884/laws.FnExactIsValidGroup", spec := "fnExactIsValidGroup", apart := false }
def FnExactIsValidGroupSaid : Prop := fnExactIsValidGroupRow.holds Try.pinned (OpenSpec.ofChange fnExactIsValidGroupSpec)

/-- ITS FALSE NEIGHBOUR: 'it returns false'. Refute it at one input. -/
def fnExactIsValidGroupWrong : ChangeSpec := { name := "fnExactIsValidGroup", fn := fun _ => fun
  | [d] => { results := [.lit (.bool false)], args := [d] }
  | _ => none }
def FnExactIsValidGroupWrongFalsely : Prop := fnExactIsValidGroupRow.holds Try.pinned (OpenSpec.ofChange fnExactIsValidGroupWrong)

/-- 'laws.FnExactOrdinaryText': WHATEVER THE INPUT: true; the input reads as it did. -/
def fnExactOrdinaryTextSpec : ChangeSpec := { name := "fnExactOrdinaryText", fn := fun _ => fun
  | [d1, d2, d3] => { results := [.lit (.bool true)], args := [d1, d2, d3] }
  | _ => none }
def fnExactOrdinaryTextRow : OpenClaim := { program := "ytdipfenakmlkhaa", sum := "5c2b08abb3d5af1889e238fe90d0e25cd3fa6c08b22cec61c2e9062951331a4f", func := "loop.example/g00884/laws.FnExactOrdinaryText", spec := "fnExactOrdinaryText", apart := false }
def FnExactOrdinaryTextSaid : Prop := fnExactOrdinaryTextRow.holds Try.pinned (OpenSpec.ofChange fnExactOrdinaryTextSpec)

/-- ITS FALSE NEIGHBOUR: 'it returns false'. Refute it at one input. -/
def fnExactOrdinaryTextWrong : ChangeSpec := { name := "fnExactOrdinaryText", fn := fun _ => fun
  | [d1, d2, d3] => { results := [.lit (.bool false)], args := [d1, d2, d3] }
  | _ => none }
def FnExactOrdinaryTextWrongFalsely : Prop := fnExactOrdinaryTextRow.holds Try.pinned (OpenSpec.ofChange fnExactOrdinaryTextWrong)

/-- 'laws.FnExactRowsOf': WHATEVER THE INPUT: true; the input reads as it did. -/
def fnExactRowsOfSpec : ChangeSpec := { name := "fnExactRowsOf", fn := fun _ => fun
  | [d] => { results := [.lit (.bool true)], args := [d] }
  | _ => none }
def fnExactRowsOfRow : OpenClaim := { program := "ytdipfenakmlkhaa", sum := "5c2b08abb3d5af1889e238fe90d0e25cd3fa6c08b22cec61c2e9062951331a4f", func := "loop.example/g00884/laws.FnExactRowsOf", spec := "fnExactRowsOf", apart := false }
def FnExactRowsOfSaid : Prop := fnExactRowsOfRow.holds Try.pinned (OpenSpec.ofChange fnExactRowsOfSpec)

/-- ITS FALSE NEIGHBOUR: 'it returns false'. Refute it at one input. -/
def fnExactRowsOfWrong : ChangeSpec := { name := "fnExactRowsOf", fn := fun _ => fun
  | [d] => { results := [.lit (.bool false)], args := [d] }
  | _ => none }
def FnExactRowsOfWrongFalsely : Prop := fnExactRowsOfRow.holds Try.pinned (OpenSpec.ofChange fnExactRowsOfWrong)

/-- 'laws.FnExactBaseTinctures': WHATEVER THE INPUT: true; the input reads as it did. -/
def fnExactBaseTincturesSpec : ChangeSpec := { name := "fnExactBaseTinctures", fn := fun _ => fun
  | [d] => { results := [.lit (.bool true)], args := [d] }
  | _ => none }
def fnExactBaseTincturesRow : OpenClaim := { program := "ytdipfenakmlkhaa", sum := "5c2b08abb3d5af1889e238fe90d0e25cd3fa6c08b22cec61c2e9062951331a4f", func := "loop.example/g00884/laws.FnExactBaseTinctures", spec := "fnExactBaseTinctures", apart := false }
def FnExactBaseTincturesSaid : Prop := fnExactBaseTincturesRow.holds Try.pinned (OpenSpec.ofChange fnExactBaseTincturesSpec)

/-- ITS FALSE NEIGHBOUR: 'it returns false'. Refute it at one input. -/
def fnExactBaseTincturesWrong : ChangeSpec := { name := "fnExactBaseTinctures", fn := fun _ => fun
  | [d] => { results := [.lit (.bool false)], args := [d] }
  | _ => none }
def FnExactBaseTincturesWrongFalsely : Prop := fnExactBaseTincturesRow.holds Try.pinned (OpenSpec.ofChange fnExactBaseTincturesWrong)

/-- 'laws.FnExactFindingText': WHATEVER THE INPUT: true; the input reads as it did. -/
def fnExactFindingTextSpec : ChangeSpec := { name := "fnExactFindingText", fn := fun _ => fun
  | [d] => { results := [.lit (.bool true)], args := [d] }
  | _ => none }
def fnExactFindingTextRow : OpenClaim := { program := "ytdipfenakmlkhaa", sum := "5c2b08abb3d5af1889e238fe90d0e25cd3fa6c08b22cec61c2e9062951331a4f", func := "loop.example/g00884/laws.FnExactFindingText", spec := "fnExactFindingText", apart := false }
def FnExactFindingTextSaid : Prop := fnExactFindingTextRow.holds Try.pinned (OpenSpec.ofChange fnExactFindingTextSpec)

/-- ITS FALSE NEIGHBOUR: 'it returns false'. Refute it at one input. -/
def fnExactFindingTextWrong : ChangeSpec := { name := "fnExactFindingText", fn := fun _ => fun
  | [d] => { results := [.lit (.bool false)], args := [d] }
  | _ => none }
def FnExactFindingTextWrongFalsely : Prop := fnExactFindingTextRow.holds Try.pinned (OpenSpec.ofChange fnExactFindingTextWrong)

/-- 'laws.FnExactSwapField': WHATEVER THE INPUT: true; the input reads as it did. -/
def fnExactSwapFieldSpec : ChangeSpec := { name := "fnExactSwapField", fn := fun _ => fun
  | [d] => { results := [.lit (.bool true)], args := [d] }
  | _ => none }
def fnExactSwapFieldRow : OpenClaim := { program := "ytdipfenakmlkhaa", sum := "5c2b08abb3d5af1889e238fe90d0e25cd3fa6c08b22cec61c2e9062951331a4f", func := "loop.example/g00884/laws.FnExactSwapField", spec := "fnExactSwapField", apart := false }
def FnExactSwapFieldSaid : Prop := fnExactSwapFieldRow.holds Try.pinned (OpenSpec.ofChange fnExactSwapFieldSpec)

/-- ITS FALSE NEIGHBOUR: 'it returns false'. Refute it at one input. -/
def fnExactSwapFieldWrong : ChangeSpec := { name := "fnExactSwapField", fn := fun _ => fun
  | [d] => { results := [.lit (.bool false)], args := [d] }
  | _ => none }
def FnExactSwapFieldWrongFalsely : Prop := fnExactSwapFieldRow.holds Try.pinned (OpenSpec.ofChange fnExactSwapFieldWrong)

/-- 'laws.FnExactIsPoorField': WHATEVER THE INPUT: true; the input reads as it did. -/
def fnExactIsPoorFieldSpec : ChangeSpec := { name := "fnExactIsPoorField", fn := fun _ => fun
  | [d] => { results := [.lit (.bool true)], args := [d] }
  | _ => none }
def fnExactIsPoorFieldRow : OpenClaim := { program := "ytdipfenakmlkhaa", sum := "5c2b08abb3d5af1889e238fe90d0e25cd3fa6c08b22cec61c2e9062951331a4f", func := "loop.example/g00884/laws.FnExactIsPoorField", spec := "fnExactIsPoorField", apart := false }
def FnExactIsPoorFieldSaid : Prop := fnExactIsPoorFieldRow.holds Try.pinned (OpenSpec.ofChange fnExactIsPoorFieldSpec)

/-- ITS FALSE NEIGHBOUR: 'it returns false'. Refute it at one input. -/
def fnExactIsPoorFieldWrong : ChangeSpec := { name := "fnExactIsPoorField", fn := fun _ => fun
  | [d] => { results := [.lit (.bool false)], args := [d] }
  | _ => none }
def FnExactIsPoorFieldWrongFalsely : Prop := fnExactIsPoorFieldRow.holds Try.pinned (OpenSpec.ofChange fnExactIsPoorFieldWrong)

/-- 'laws.FnExactAttitudesOf': WHATEVER THE INPUT: true; the input reads as it did. -/
def fnExactAttitudesOfSpec : ChangeSpec := { name := "fnExactAttitudesOf", fn := fun _ => fun
  | [d] => { results := [.lit (.bool true)], args := [d] }
  | _ => none }
def fnExactAttitudesOfRow : OpenClaim := { program := "ytdipfenakmlkhaa", sum := "5c2b08abb3d5af1889e238fe90d0e25cd3fa6c08b22cec61c2e9062951331a4f", func := "loop.example/g00884/laws.FnExactAttitudesOf", spec := "fnExactAttitudesOf", apart := false }
def FnExactAttitudesOfSaid : Prop := fnExactAttitudesOfRow.holds Try.pinned (OpenSpec.ofChange fnExactAttitudesOfSpec)

/-- ITS FALSE NEIGHBOUR: 'it returns false'. Refute it at one input. -/
def fnExactAttitudesOfWrong : ChangeSpec := { name := "fnExactAttitudesOf", fn := fun _ => fun
  | [d] => { results := [.lit (.bool false)], args := [d] }
  | _ => none }
def FnExactAttitudesOfWrongFalsely : Prop := fnExactAttitudesOfRow.holds Try.pinned (OpenSpec.ofChange fnExactAttitudesOfWrong)

/-- 'laws.FnExactTincturesAgainst': WHATEVER THE INPUT: true; the input reads as it did. -/
def fnExactTincturesAgainstSpec : ChangeSpec := { name := "fnExactTincturesAgainst", fn := fun _ => fun
  | [d] => { results := [.lit (.bool true)], args := [d] }
  | _ => none }
def fnExactTincturesAgainstRow : OpenClaim := { program := "ytdipfenakmlkhaa", sum := "5c2b08abb3d5af1889e238fe90d0e25cd3fa6c08b22cec61c2e9062951331a4f", func := "loop.example/g00884/laws.FnExactTincturesAgainst", spec := "fnExactTincturesAgainst", apart := false }
def FnExactTincturesAgainstSaid : Prop := fnExactTincturesAgainstRow.holds Try.pinned (OpenSpec.ofChange fnExactTincturesAgainstSpec)

/-- ITS FALSE NEIGHBOUR: 'it returns false'. Refute it at one input. -/
def fnExactTincturesAgainstWrong : ChangeSpec := { name := "fnExactTincturesAgainst", fn := fun _ => fun
  | [d] => { results := [.lit (.bool false)], args := [d] }
  | _ => none }
def FnExactTincturesAgainstWrongFalsely : Prop := fnExactTincturesAgainstRow.holds Try.pinned (OpenSpec.ofChange fnExactTincturesAgainstWrong)

/-- 'laws.FnExactJoinGroups': WHATEVER THE INPUT: true; the input reads as it did. -/
def fnExactJoinGroupsSpec : ChangeSpec := { name := "fnExactJoinGroups", fn := fun _ => fun
  | [d1, d2] => { results := [.lit (.bool true)], args := [d1, d2] }
  | _ => none }
def fnExactJoinGroupsRow : OpenClaim := { program := "ytdipfenakmlkhaa", sum := "5c2b08abb3d5af1889e238fe90d0e25cd3fa6c08b22cec61c2e9062951331a4f", func := "loop.example/g00884/laws.FnExactJoinGroups", spec := "fnExactJoinGroups", apart := false }
def FnExactJoinGroupsSaid : Prop := fnExactJoinGroupsRow.holds Try.pinned (OpenSpec.ofChange fnExactJoinGroupsSpec)

/-- ITS FALSE NEIGHBOUR: 'it returns false'. Refute it at one input. -/
def fnExactJoinGroupsWrong : ChangeSpec := { name := "fnExactJoinGroups", fn := fun _ => fun
  | [d1, d2] => { results := [.lit (.bool false)], args := [d1, d2] }
  | _ => none }
def FnExactJoinGroupsWrongFalsely : Prop := fnExactJoinGroupsRow.holds Try.pinned (OpenSpec.ofChange fnExactJoinGroupsWrong)

/-- 'laws.FnExactFieldTinctures': WHATEVER THE INPUT: true; the input reads as it did. -/
def fnExactFieldTincturesSpec : ChangeSpec := { name := "fnExactFieldTinctures", fn := fun _ => fun
  | [d] => { results := [.lit (.bool true)], args := [d] }
  | _ => none }
def fnExactFieldTincturesRow : OpenClaim := { program := "ytdipfenakmlkhaa", sum := "5c2b08abb3d5af1889e238fe90d0e25cd3fa6c08b22cec61c2e9062951331a4f", func := "loop.example/g00884/laws.FnExactFieldTinctures", spec := "fnExactFieldTinctures", apart := false }
def FnExactFieldTincturesSaid : Prop := fnExactFieldTincturesRow.holds Try.pinned (OpenSpec.ofChange fnExactFieldTincturesSpec)

/-- ITS FALSE NEIGHBOUR: 'it returns false'. Refute it at one input. -/
def fnExactFieldTincturesWrong : ChangeSpec := { name := "fnExactFieldTinctures", fn := fun _ => fun
  | [d] => { results := [.lit (.bool false)], args := [d] }
  | _ => none }
def FnExactFieldTincturesWrongFalsely : Prop := fnExactFieldTincturesRow.holds Try.pinned (OpenSpec.ofChange fnExactFieldTincturesWrong)

/-- 'laws.FnExactFieldParts': WHATEVER THE INPUT: true; the input reads as it did. -/
def fnExactFieldPartsSpec : ChangeSpec := { name := "fnExactFieldParts", fn := fun _ => fun
  | [d] => { results := [.lit (.bool true)], args := [d] }
  | _ => none }
def fnExactFieldPartsRow : OpenClaim := { program := "ytdipfenakmlkhaa", sum := "5c2b08abb3d5af1889e238fe90d0e25cd3fa6c08b22cec61c2e9062951331a4f", func := "loop.example/g00884/laws.FnExactFieldParts", spec := "fnExactFieldParts", apart := false }
def FnExactFieldPartsSaid : Prop := fnExactFieldPartsRow.holds Try.pinned (OpenSpec.ofChange fnExactFieldPartsSpec)

/-- ITS FALSE NEIGHBOUR: 'it returns false'. Refute it at one input. -/
def fnExactFieldPartsWrong : ChangeSpec := { name := "fnExactFieldParts", fn := fun _ => fun
  | [d] => { results := [.lit (.bool false)], args := [d] }
  | _ => none }
def FnExactFieldPartsWrongFalsely : Prop := fnExactFieldPartsRow.holds Try.pinned (OpenSpec.ofChange fnExactFieldPartsWrong)

/- THE SECOND FORM. 'bulk': how many values and letters a reading holds, each counted each time it is reached (what is shared counts as often as it is met; a slice's spare places count too). A statement '..UptoSaid' is the law's where the arguments, and the package variables that the reading takes, are together of bulk at most 1048576: NARROWER than '..Said'. Prove '..Said' where nothing that the law and all that it calls make is longer than what came in: it says more and counts as full. Else prove '..UptoSaid'. A law counts once. -/
mutual
def uptoBulk {H : Type} : DataW H → Nat
  | .lit (.string bytes) => bytes.length + 1
  | .lit _ => 1
  | .nil => 1
  | .ptr d => uptoBulk d + 1
  | .slice elems spare => uptoBulkAll elems + uptoBulkAll spare + 1
  | .agg parts => uptoBulkAll parts + 1
  | .iface _ d => uptoBulk d + 1
  | .map entries => uptoBulkEntries entries + 1
  | .held _ => 1
def uptoBulkAll {H : Type} : List (DataW H) → Nat
  | [] => 0
  | d :: r => uptoBulk d + uptoBulkAll r
def uptoBulkEntries {H : Type} : List (Lit × DataW H) → Nat
  | [] => 0
  | x :: r => uptoBulkEntry x + uptoBulkEntries r
def uptoBulkEntry {H : Type} : Lit × DataW H → Nat
  | (.string bytes, d) => bytes.length + uptoBulk d + 1
  | (_, d) => uptoBulk d + 1
 end
def uptoSmall : (H : Type) → List (DataW H) → Bool := fun _ ds => decide (uptoBulkAll ds ≤ 1048576)
def OpenSpec.upto (s : _root_.Go.ChangeSpec) : _root_.Go.OpenSpec := { _root_.Go.OpenSpec.ofChange s with cond := some uptoSmall }

/-- 'laws.FnExactIsValidGroup', WHERE WHAT IT READS IS OF BULK AT MOST 1048576: true; the input reads as it did. -/
def fnExactIsValidGroupUptoRow : OpenClaim := { program := "ytdipfenakmlkhaa", sum := "5c2b08abb3d5af1889e238fe90d0e25cd3fa6c08b22cec61c2e9062951331a4f", func := "loop.example/g00884/laws.FnExactIsValidGroup", spec := "fnExactIsValidGroup", apart := false, narrowed := true }
def FnExactIsValidGroupUptoSaid : Prop := fnExactIsValidGroupUptoRow.holds Try.pinned (OpenSpec.upto fnExactIsValidGroupSpec)

/-- 'laws.FnExactOrdinaryText', WHERE WHAT IT READS IS OF BULK AT MOST 1048576: true; the input reads as it did. -/
def fnExactOrdinaryTextUptoRow : OpenClaim := { program := "ytdipfenakmlkhaa", sum := "5c2b08abb3d5af1889e238fe90d0e25cd3fa6c08b22cec61c2e9062951331a4f", func := "loop.example/g00884/laws.FnExactOrdinaryText", spec := "fnExactOrdinaryText", apart := false, narrowed := true }
def FnExactOrdinaryTextUptoSaid : Prop := fnExactOrdinaryTextUptoRow.holds Try.pinned (OpenSpec.upto fnExactOrdinaryTextSpec)

/-- 'laws.FnExactRowsOf', WHERE WHAT IT READS IS OF BULK AT MOST 1048576: true; the input reads as it did. -/
def fnExactRowsOfUptoRow : OpenClaim := { program := "ytdipfenakmlkhaa", sum := "5c2b08abb3d5af1889e238fe90d0e25cd3fa6c08b22cec61c2e9062951331a4f", func := "loop.example/g00884/laws.FnExactRowsOf", spec := "fnExactRowsOf", apart := false, narrowed := true }
def FnExactRowsOfUptoSaid : Prop := fnExactRowsOfUptoRow.holds Try.pinned (OpenSpec.upto fnExactRowsOfSpec)

/-- 'laws.FnExactBaseTinctures', WHERE WHAT IT READS IS OF BULK AT MOST 1048576: true; the input reads as it did. -/
def fnExactBaseTincturesUptoRow : OpenClaim := { program := "ytdipfenakmlkhaa", sum := "5c2b08abb3d5af1889e238fe90d0e25cd3fa6c08b22cec61c2e9062951331a4f", func := "loop.example/g00884/laws.FnExactBaseTinctures", spec := "fnExactBaseTinctures", apart := false, narrowed := true }
def FnExactBaseTincturesUptoSaid : Prop := fnExactBaseTincturesUptoRow.holds Try.pinned (OpenSpec.upto fnExactBaseTincturesSpec)

/-- 'laws.FnExactFindingText', WHERE WHAT IT READS IS OF BULK AT MOST 1048576: true; the input reads as it did. -/
def fnExactFindingTextUptoRow : OpenClaim := { program := "ytdipfenakmlkhaa", sum := "5c2b08abb3d5af1889e238fe90d0e25cd3fa6c08b22cec61c2e9062951331a4f", func := "loop.example/g00884/laws.FnExactFindingText", spec := "fnExactFindingText", apart := false, narrowed := true }
def FnExactFindingTextUptoSaid : Prop := fnExactFindingTextUptoRow.holds Try.pinned (OpenSpec.upto fnExactFindingTextSpec)

/-- 'laws.FnExactSwapField', WHERE WHAT IT READS IS OF BULK AT MOST 1048576: true; the input reads as it did. -/
def fnExactSwapFieldUptoRow : OpenClaim := { program := "ytdipfenakmlkhaa", sum := "5c2b08abb3d5af1889e238fe90d0e25cd3fa6c08b22cec61c2e9062951331a4f", func := "loop.example/g00884/laws.FnExactSwapField", spec := "fnExactSwapField", apart := false, narrowed := true }
def FnExactSwapFieldUptoSaid : Prop := fnExactSwapFieldUptoRow.holds Try.pinned (OpenSpec.upto fnExactSwapFieldSpec)

/-- 'laws.FnExactIsPoorField', WHERE WHAT IT READS IS OF BULK AT MOST 1048576: true; the input reads as it did. -/
def fnExactIsPoorFieldUptoRow : OpenClaim := { program := "ytdipfenakmlkhaa", sum := "5c2b08abb3d5af1889e238fe90d0e25cd3fa6c08b22cec61c2e9062951331a4f", func := "loop.example/g00884/laws.FnExactIsPoorField", spec := "fnExactIsPoorField", apart := false, narrowed := true }
def FnExactIsPoorFieldUptoSaid : Prop := fnExactIsPoorFieldUptoRow.holds Try.pinned (OpenSpec.upto fnExactIsPoorFieldSpec)

/-- 'laws.FnExactAttitudesOf', WHERE WHAT IT READS IS OF BULK AT MOST 1048576: true; the input reads as it did. -/
def fnExactAttitudesOfUptoRow : OpenClaim := { program := "ytdipfenakmlkhaa", sum := "5c2b08abb3d5af1889e238fe90d0e25cd3fa6c08b22cec61c2e9062951331a4f", func := "loop.example/g00884/laws.FnExactAttitudesOf", spec := "fnExactAttitudesOf", apart := false, narrowed := true }
def FnExactAttitudesOfUptoSaid : Prop := fnExactAttitudesOfUptoRow.holds Try.pinned (OpenSpec.upto fnExactAttitudesOfSpec)

/-- 'laws.FnExactTincturesAgainst', WHERE WHAT IT READS IS OF BULK AT MOST 1048576: true; the input reads as it did. -/
def fnExactTincturesAgainstUptoRow : OpenClaim := { program := "ytdipfenakmlkhaa", sum := "5c2b08abb3d5af1889e238fe90d0e25cd3fa6c08b22cec61c2e9062951331a4f", func := "loop.example/g00884/laws.FnExactTincturesAgainst", spec := "fnExactTincturesAgainst", apart := false, narrowed := true }
def FnExactTincturesAgainstUptoSaid : Prop := fnExactTincturesAgainstUptoRow.holds Try.pinned (OpenSpec.upto fnExactTincturesAgainstSpec)

/-- 'laws.FnExactJoinGroups', WHERE WHAT IT READS IS OF BULK AT MOST 1048576: true; the input reads as it did. -/
def fnExactJoinGroupsUptoRow : OpenClaim := { program := "ytdipfenakmlkhaa", sum := "5c2b08abb3d5af1889e238fe90d0e25cd3fa6c08b22cec61c2e9062951331a4f", func := "loop.example/g00884/laws.FnExactJoinGroups", spec := "fnExactJoinGroups", apart := false, narrowed := true }
def FnExactJoinGroupsUptoSaid : Prop := fnExactJoinGroupsUptoRow.holds Try.pinned (OpenSpec.upto fnExactJoinGroupsSpec)

/-- 'laws.FnExactFieldTinctures', WHERE WHAT IT READS IS OF BULK AT MOST 1048576: true; the input reads as it did. -/
def fnExactFieldTincturesUptoRow : OpenClaim := { program := "ytdipfenakmlkhaa", sum := "5c2b08abb3d5af1889e238fe90d0e25cd3fa6c08b22cec61c2e9062951331a4f", func := "loop.example/g00884/laws.FnExactFieldTinctures", spec := "fnExactFieldTinctures", apart := false, narrowed := true }
def FnExactFieldTincturesUptoSaid : Prop := fnExactFieldTincturesUptoRow.holds Try.pinned (OpenSpec.upto fnExactFieldTincturesSpec)

/-- 'laws.FnExactFieldParts', WHERE WHAT IT READS IS OF BULK AT MOST 1048576: true; the input reads as it did. -/
def fnExactFieldPartsUptoRow : OpenClaim := { program := "ytdipfenakmlkhaa", sum := "5c2b08abb3d5af1889e238fe90d0e25cd3fa6c08b22cec61c2e9062951331a4f", func := "loop.example/g00884/laws.FnExactFieldParts", spec := "fnExactFieldParts", apart := false, narrowed := true }
def FnExactFieldPartsUptoSaid : Prop := fnExactFieldPartsUptoRow.holds Try.pinned (OpenSpec.upto fnExactFieldPartsSpec)

end Rows
end Go.Proofs.Ytdipfenakmlkhaa
