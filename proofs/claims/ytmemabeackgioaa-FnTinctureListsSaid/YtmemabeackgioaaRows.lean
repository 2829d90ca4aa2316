/-
  No cell of these rows narrows 'for every input' (looked for: loops, veiled, ifaces, maps, wideKeys, modest, calm, conditions, laid).
  DERIVED. THE GIVEN ROWS OF THIS SEAT. 10 by the template 'for every input the law returns true; each argument reads behind the call as it read before'; 0 by the template 'total and deterministic' (their statements: YtmemabeackgioaaTotals.lean).
  GIVEN WITH THE SEED: the statements are not yours to turn. If you find one false, say at which input.
  Laid BY PROGRAM, IN A SANDBOX (cutbox-rows.mjs): the forced cells as the released guide's own fill.sh prints them over the translation 0460fb6f0dab7fbe… (all of the seat's roots in one cut). By AI agents, Wed Nov 11 2026. No macro, syntax, notation, axiom, sorry.
-/
import Derived.Test.YtmemabeackgioaaChecked
import GoSem.Claim
import GoSem.ClaimJoined
import GoSem.ClaimMapViews
import Derived.JoinedTies
import Derived.KernelRfl
namespace Go.Proofs.Ytmemabeackgioaa
/- THE CELL 'sum', in the pinned program and in every row, IS THE sha256 OF THE DUMP (.gsa) THAT YtmemabeackgioaaProg.lean LOADS. Nothing in Lean hashes anything: it is a label: what it is worth is what the hold of that sum in a sandbox is worth. -/
noncomputable def Try.pinned : Pinned := { name := "ytmemabeackgioaa", sum := "0460fb6f0dab7fbeb69bffe75903448f24e53a147fc6d9c6a5b16c59586a03d4", checked := Try.checked }
namespace Rows
def none {H : Type} : Left H := { results := [], args := [] }

/-- 'laws.FnExactCountTinctures': WHATEVER THE INPUT: true; the input reads as it did. -/
def fnExactCountTincturesSpec : ChangeSpec := { name := "fnExactCountTinctures", fn := fun _ => fun
  | [d] => { results := [.lit (.bool true)], args := [d] }
  | _ => none }
def fnExactCountTincturesRow : OpenClaim := { program := "ytmemabeackgioaa", sum := "0460fb6f0dab7fbeb69bffe75903448f24e53a147fc6d9c6a5b16c59586a03d4", func := "loop.example/g00884/laws.FnExactCountTinctures", spec := "fnExactCountTinctures", unfollowed := true, recurses := true, apart := false }
def FnExactCountTincturesSaid : Prop := fnExactCountTincturesRow.holds Try.pinned (OpenSpec.ofChange fnExactCountTincturesSpec)

/-- ITS FALSE NEIGHBOUR: 'it returns false'. Refute it at one input. -/
def fnExactCountTincturesWrong : ChangeSpec := { name := "fnExactCountTinctures", fn := fun _ => fun
  | [d] => { results := [.lit (.bool false)], args := [d] }
  | _ => none }
def FnExactCountTincturesWrongFalsely : Prop := fnExactCountTincturesRow.holds Try.pinned (OpenSpec.ofChange fnExactCountTincturesWrong)

/-- 'laws.FnExactParseFinding': WHATEVER THE INPUT: true; the input reads as it did. -/
def fnExactParseFindingSpec : ChangeSpec := { name := "fnExactParseFinding", fn := fun _ => fun
  | [d] => { results := [.lit (.bool true)], args := [d] }
  | _ => none }
def fnExactParseFindingRow : OpenClaim := { program := "ytmemabeackgioaa", sum := "0460fb6f0dab7fbeb69bffe75903448f24e53a147fc6d9c6a5b16c59586a03d4", func := "loop.example/g00884/laws.FnExactParseFinding", spec := "fnExactParseFinding", apart := false }
def FnExactParseFindingSaid : Prop := fnExactParseFindingRow.holds Try.pinned (OpenSpec.ofChange fnExactParseFindingSpec)

/-- ITS FALSE NEIGHBOUR: 'it returns false'. Refute it at one input. -/
def fnExactParseFindingWrong : ChangeSpec := { name := "fnExactParseFinding", fn := fun _ => fun
  | [d] => { results := [.lit (.bool false)], args := [d] }
  | _ => none }
def FnExactParseFindingWrongFalsely : Prop := fnExactParseFindingRow.holds Try.pinned (OpenSpec.ofChange fnExactParseFindingWrong)

/-- 'laws.FnExactContrastOf': WHATEVER THE INPUT: true; the input reads as it did. -/
def fnExactContrastOfSpec : ChangeSpec := { name := "fnExactContrastOf", fn := fun _ => fun
  | [d1, d2] => { results := [.lit (.bool true)], args := [d1, d2] }
  | _ => none }
def fnExactContrastOfRow : OpenClaim := { program := "ytmemabeackgioaa", sum := "0460fb6f0dab7fbeb69bffe75903448f24e53a147fc6d9c6a5b16c59586a03d4", func := "loop.example/g00884/laws.FnExactContrastOf", spec := "fnExactContrastOf", apart := false }
def FnExactContrastOfSaid : Prop := fnExactContrastOfRow.holds Try.pinned (OpenSpec.ofChange fnExactContrastOfSpec)

/-- ITS FALSE NEIGHBOUR: 'it returns false'. Refute it at one input. -/
def fnExactContrastOfWrong : ChangeSpec := { name := "fnExactContrastOf", fn := fun _ => fun
  | [d1, d2] => { results := [.lit (.bool false)], args := [d1, d2] }
  | _ => none }
def FnExactContrastOfWrongFalsely : Prop := fnExactContrastOfRow.holds Try.pinned (OpenSpec.ofChange fnExactContrastOfWrong)

/-- 'laws.FnExactGroupDifferences': WHATEVER THE INPUT: true; the input reads as it did. -/
def fnExactGroupDifferencesSpec : ChangeSpec := { name := "fnExactGroupDifferences", fn := fun _ => fun
  | [d1, d2] => { results := [.lit (.bool true)], args := [d1, d2] }
  | _ => none }
def fnExactGroupDifferencesRow : OpenClaim := { program := "ytmemabeackgioaa", sum := "0460fb6f0dab7fbeb69bffe75903448f24e53a147fc6d9c6a5b16c59586a03d4", func := "loop.example/g00884/laws.FnExactGroupDifferences", spec := "fnExactGroupDifferences", apart := false }
def FnExactGroupDifferencesSaid : Prop := fnExactGroupDifferencesRow.holds Try.pinned (OpenSpec.ofChange fnExactGroupDifferencesSpec)

/-- ITS FALSE NEIGHBOUR: 'it returns false'. Refute it at one input. -/
def fnExactGroupDifferencesWrong : ChangeSpec := { name := "fnExactGroupDifferences", fn := fun _ => fun
  | [d1, d2] => { results := [.lit (.bool false)], args := [d1, d2] }
  | _ => none }
def FnExactGroupDifferencesWrongFalsely : Prop := fnExactGroupDifferencesRow.holds Try.pinned (OpenSpec.ofChange fnExactGroupDifferencesWrong)

/-- 'laws.FnExactFieldDifferences': WHATEVER THE INPUT: true; the input reads as it did. -/
def fnExactFieldDifferencesSpec : ChangeSpec := { name := "fnExactFieldDifferences", fn := fun _ => fun
  | [d1, d2] => { results := [.lit (.bool true)], args := [d1, d2] }
  | _ => none }
def fnExactFieldDifferencesRow : OpenClaim := { program := "ytmemabeackgioaa", sum := "0460fb6f0dab7fbeb69bffe75903448f24e53a147fc6d9c6a5b16c59586a03d4", func := "loop.example/g00884/laws.FnExactFieldDifferences", spec := "fnExactFieldDifferences", apart := false }
def FnExactFieldDifferencesSaid : Prop := fnExactFieldDifferencesRow.holds Try.pinned (OpenSpec.ofChange fnExactFieldDifferencesSpec)

/-- ITS FALSE NEIGHBOUR: 'it returns false'. Refute it at one input. -/
def fnExactFieldDifferencesWrong : ChangeSpec := { name := "fnExactFieldDifferences", fn := fun _ => fun
  | [d1, d2] => { results := [.lit (.bool false)], args := [d1, d2] }
  | _ => none }
def FnExactFieldDifferencesWrongFalsely : Prop := fnExactFieldDifferencesRow.holds Try.pinned (OpenSpec.ofChange fnExactFieldDifferencesWrong)

/-- 'laws.FnExactFirstOf': WHATEVER THE INPUT: true; the input reads as it did. -/
def fnExactFirstOfSpec : ChangeSpec := { name := "fnExactFirstOf", fn := fun _ => fun
  | [d] => { results := [.lit (.bool true)], args := [d] }
  | _ => none }
def fnExactFirstOfRow : OpenClaim := { program := "ytmemabeackgioaa", sum := "0460fb6f0dab7fbeb69bffe75903448f24e53a147fc6d9c6a5b16c59586a03d4", func := "loop.example/g00884/laws.FnExactFirstOf", spec := "fnExactFirstOf", unfollowed := true, recurses := true, apart := false }
def FnExactFirstOfSaid : Prop := fnExactFirstOfRow.holds Try.pinned (OpenSpec.ofChange fnExactFirstOfSpec)

/-- ITS FALSE NEIGHBOUR: 'it returns false'. Refute it at one input. -/
def fnExactFirstOfWrong : ChangeSpec := { name := "fnExactFirstOf", fn := fun _ => fun
  | [d] => { results := [.lit (.bool false)], args := [d] }
  | _ => none }
def FnExactFirstOfWrongFalsely : Prop := fnExactFirstOfRow.holds Try.pinned (OpenSpec.ofChange fnExactFirstOfWrong)

/-- 'laws.FnTinctureLists': WHATEVER THE INPUT: true; the input reads as it did. -/
def fnTinctureListsSpec : ChangeSpec := { name := "fnTinctureLists", fn := fun _ => fun
  | [d] => { results := [.lit (.bool true)], args := [d] }
  | _ => none }
def fnTinctureListsRow : OpenClaim := { program := "ytmemabeackgioaa", sum := "0460fb6f0dab7fbeb69bffe75903448f24e53a147fc6d9c6a5b16c59586a03d4", func := "loop.example/g00884/laws.FnTinctureLists", spec := "fnTinctureLists", unfollowed := true, recurses := true, apart := false }
def FnTinctureListsSaid : Prop := fnTinctureListsRow.holds Try.pinned (OpenSpec.ofChange fnTinctureListsSpec)

/-- ITS FALSE NEIGHBOUR: 'it returns false'. Refute it at one input. -/
def fnTinctureListsWrong : ChangeSpec := { name := "fnTinctureLists", fn := fun _ => fun
  | [d] => { results := [.lit (.bool false)], args := [d] }
  | _ => none }
def FnTinctureListsWrongFalsely : Prop := fnTinctureListsRow.holds Try.pinned (OpenSpec.ofChange fnTinctureListsWrong)

/-- 'laws.FnTinctures': WHATEVER THE INPUT: true; the input reads as it did. -/
def fnTincturesSpec : ChangeSpec := { name := "fnTinctures", fn := fun _ => fun
  | [d] => { results := [.lit (.bool true)], args := [d] }
  | _ => none }
def fnTincturesRow : OpenClaim := { program := "ytmemabeackgioaa", sum := "0460fb6f0dab7fbeb69bffe75903448f24e53a147fc6d9c6a5b16c59586a03d4", func := "loop.example/g00884/laws.FnTinctures", spec := "fnTinctures", apart := false }
def FnTincturesSaid : Prop := fnTincturesRow.holds Try.pinned (OpenSpec.ofChange fnTincturesSpec)

/-- ITS FALSE NEIGHBOUR: 'it returns false'. Refute it at one input. -/
def fnTincturesWrong : ChangeSpec := { name := "fnTinctures", fn := fun _ => fun
  | [d] => { results := [.lit (.bool false)], args := [d] }
  | _ => none }
def FnTincturesWrongFalsely : Prop := fnTincturesRow.holds Try.pinned (OpenSpec.ofChange fnTincturesWrong)

/-- 'laws.FnFieldDifferences': WHATEVER THE INPUT: true; the input reads as it did. -/
def fnFieldDifferencesSpec : ChangeSpec := { name := "fnFieldDifferences", fn := fun _ => fun
  | [d] => { results := [.lit (.bool true)], args := [d] }
  | _ => none }
def fnFieldDifferencesRow : OpenClaim := { program := "ytmemabeackgioaa", sum := "0460fb6f0dab7fbeb69bffe75903448f24e53a147fc6d9c6a5b16c59586a03d4", func := "loop.example/g00884/laws.FnFieldDifferences", spec := "fnFieldDifferences", apart := false }
def FnFieldDifferencesSaid : Prop := fnFieldDifferencesRow.holds Try.pinned (OpenSpec.ofChange fnFieldDifferencesSpec)

/-- ITS FALSE NEIGHBOUR: 'it returns false'. Refute it at one input. -/
def fnFieldDifferencesWrong : ChangeSpec := { name := "fnFieldDifferences", fn := fun _ => fun
  | [d] => { results := [.lit (.bool false)], args := [d] }
  | _ => none }
def FnFieldDifferencesWrongFalsely : Prop := fnFieldDifferencesRow.holds Try.pinned (OpenSpec.ofChange fnFieldDifferencesWrong)

/-- 'laws.FnExactSameParts': WHATEVER THE INPUT: true; the input reads as it did. -/
def fnExactSamePartsSpec : ChangeSpec := { name := "fnExactSameParts", fn := fun _ => fun
  | [d1, d2] => { results := [.lit (.bool true)], args := [d1, d2] }
  | _ => none }
def fnExactSamePartsRow : OpenClaim := { program := "ytmemabeackgioaa", sum := "0460fb6f0dab7fbeb69bffe75903448f24e53a147fc6d9c6a5b16c59586a03d4", func := "loop.example/g00884/laws.FnExactSameParts", spec := "fnExactSameParts", recurses := true, apart := false }
def FnExactSamePartsSaid : Prop := fnExactSamePartsRow.holds Try.pinned (OpenSpec.ofChange fnExactSamePartsSpec)

/-- ITS FALSE NEIGHBOUR: 'it returns false'. Refute it at one input. -/
def fnExactSamePartsWrong : ChangeSpec := { name := "fnExactSameParts", fn := fun _ => fun
  | [d1, d2] => { results := [.lit (.bool false)], args := [d1, d2] }
  | _ => none }
def FnExactSamePartsWrongFalsely : Prop := fnExactSamePartsRow.holds Try.pinned (OpenSpec.ofChange fnExactSamePartsWrong)

/- THE SECOND FORM. 'bulk': how many values and letters a reading holds, each counted each time it is reached (what is shared counts as often as it is met; a slice's spare places count too). A statement '..UptoSaid' is the law's where the arguments, and the package variables that the reading takes, are together of bulk at most 1048576: NARROWER than '..Said'. Prove '..Said' where nothing that the law and all that it calls make is longer than what came in: it says more and counts as full. Else prove '..UptoSaid'. A law counts once. -/
mutual
def uptoBulk {H : Type} : DataW H → Nat
  | .lit (.string bytes) => bytes.length + 1
  | .lit _ => 1
  | .nil => 1
  | .ptr d => uptoBulk d + 1
  | .slice elems spare => uptoBulkAll elems + uptoBulkAll spare + 1
  | .agg parts => uptoBulkAll parts + 1
  | .iface _ d => uptoBulk d + 1
  | .map entries => uptoBulkEntries entries + 1
  | .held _ => 1
def uptoBulkAll {H : Type} : List (DataW H) → Nat
  | [] => 0
  | d :: r => uptoBulk d + uptoBulkAll r
def uptoBulkEntries {H : Type} : List (Lit × DataW H) → Nat
  | [] => 0
  | x :: r => uptoBulkEntry x + uptoBulkEntries r
def uptoBulkEntry {H : Type} : Lit × DataW H → Nat
  | (.string bytes, d) => bytes.length + uptoBulk d + 1
  | (_, d) => uptoBulk d + 1
 end
def uptoSmall : (H : Type) → List (DataW H) → Bool := fun _ ds => decide (uptoBulkAll ds ≤ 1048576)
def OpenSpec.upto (s : _root_.Go.ChangeSpec) : _root_.Go.OpenSpec := { _root_.Go.OpenSpec.ofChange s with cond := some uptoSmall }

/-- 'laws.FnExactCountTinctures', WHERE WHAT IT READS IS OF BULK AT MOST 1048576: true; the input reads as it did. -/
def fnExactCountTincturesUptoRow : OpenClaim := { program := "ytmemabeackgioaa", sum := "0460fb6f0dab7fbeb69bffe75903448f24e53a147fc6d9c6a5b16c59586a03d4", func := "loop.example/g00884/laws.FnExactCountTinctures", spec := "fnExactCountTinctures", unfollowed := true, recurses := true, apart := false, narrowed := true }
def FnExactCountTincturesUptoSaid : Prop := fnExactCountTincturesUptoRow.holds Try.pinned (OpenSpec.upto fnExactCountTincturesSpec)

/-- 'laws.FnExactParseFinding', WHERE WHAT IT READS IS OF BULK AT MOST 1048576: true; the input reads as it did. -/
def fnExactParseFindingUptoRow : OpenClaim := { program := "ytmemabeackgioaa", sum := "0460fb6f0dab7fbeb69bffe75903448f24e53a147fc6d9c6a5b16c59586a03d4", func := "loop.example/g00884/laws.FnExactParseFinding", spec := "fnExactParseFinding", apart := false, narrowed := true }
def FnExactParseFindingUptoSaid : Prop := fnExactParseFindingUptoRow.holds Try.pinned (OpenSpec.upto fnExactParseFindingSpec)

/-- 'laws.FnExactContrastOf', WHERE WHAT IT READS IS OF BULK AT MOST 1048576: true; the input reads as it did. -/
def fnExactContrastOfUptoRow : OpenClaim := { program := "ytmemabeackgioaa", sum := "0460fb6f0dab7fbeb69bffe75903448f24e53a147fc6d9c6a5b16c59586a03d4", func := "loop.example/g00884/laws.FnExactContrastOf", spec := "fnExactContrastOf", apart := false, narrowed := true }
def FnExactContrastOfUptoSaid : Prop := fnExactContrastOfUptoRow.holds Try.pinned (OpenSpec.upto fnExactContrastOfSpec)

/-- 'laws.FnExactGroupDifferences', WHERE WHAT IT READS IS OF BULK AT MOST 1048576: true; the input reads as it did. -/
def fnExactGroupDifferencesUptoRow : OpenClaim := { program := "ytmemabeackgioaa", sum := "0460fb6f0dab7fbeb69bffe75903448f24e53a147fc6d9c6a5b16c59586a03d4", func := "loop.example/g00884/laws.FnExactGroupDifferences", spec := "fnExactGroupDifferences", apart := false, narrowed := true }
def FnExactGroupDifferencesUptoSaid : Prop := fnExactGroupDifferencesUptoRow.holds Try.pinned (OpenSpec.upto fnExactGroupDifferencesSpec)

/-- 'laws.FnExactFieldDifferences', WHERE WHAT IT READS IS OF BULK AT MOST 1048576: true; the input reads as it did. -/
def fnExactFieldDifferencesUptoRow : OpenClaim := { program := "ytmemabeackgioaa", sum := "0460fb6f0dab7fbeb69bffe75903448f24e53a147fc6d9c6a5b16c59586a03d4", func := "loop.example/g00884/laws.FnExactFieldDifferences", spec := "fnExactFieldDifferences", apart := false, narrowed := true }
def FnExactFieldDifferencesUptoSaid : Prop := fnExactFieldDifferencesUptoRow.holds Try.pinned (OpenSpec.upto fnExactFieldDifferencesSpec)

/-- 'laws.FnExactFirstOf', WHERE WHAT IT READS IS OF BULK AT MOST 1048576: true; the input reads as it did. -/
def fnExactFirstOfUptoRow : OpenClaim := { program := "ytmemabeackgioaa", sum := "0460fb6f0dab7fbeb69bffe75903448f24e53a147fc6d9c6a5b16c59586a03d4", func := "loop.example/g00884/laws.FnExactFirstOf", spec := "fnExactFirstOf", unfollowed := true, recurses := true, apart := false, narrowed := true }
def FnExactFirstOfUptoSaid : Prop := fnExactFirstOfUptoRow.holds Try.pinned (OpenSpec.upto fnExactFirstOfSpec)

/-- 'laws.FnTinctureLists', WHERE WHAT IT READS IS OF BULK AT MOST 1048576: true; the input reads as it did. -/
def fnTinctureListsUptoRow : OpenClaim := { program := "ytmemabeackgioaa", sum := "0460fb6f0dab7fbeb69bffe75903448f24e53a147fc6d9c6a5b16c59586a03d4", func := "loop.example/g00884/laws.FnTinctureLists", spec := "fnTinctureLists", unfollowed := true, recurses := true, apart := false, narrowed := true }
def FnTinctureListsUptoSaid : Prop := fnTinctureListsUptoRow.holds Try.pinned (OpenSpec.upto fnTinctureListsSpec)

/-- 'laws.FnTinctures', WHERE WHAT IT READS IS OF BULK AT MOST 1048576: true; the input reads as it did. -/
def fnTincturesUptoRow : OpenClaim := { program := "ytmemabeackgioaa", sum := "0460fb6f0dab7fbeb69bffe75903448f24e53a147fc6d9c6a5b16c59586a03d4", func := "loop.example/g00884/laws.FnTinctures", spec := "fnTinctures", apart := false, narrowed := true }
def FnTincturesUptoSaid : Prop := fnTincturesUptoRow.holds Try.pinned (OpenSpec.upto fnTincturesSpec)

/-- 'laws.FnFieldDifferences', WHERE WHAT IT READS IS OF BULK AT MOST 1048576: true; the input reads as it did. -/
def fnFieldDifferencesUptoRow : OpenClaim := { program := "ytmemabeackgioaa", sum := "0460fb6f0dab7fbeb69bffe75903448f24e53a147fc6d9c6a5b16c59586a03d4", func := "loop.example/g00884/laws.FnFieldDifferences", spec := "fnFieldDifferences", apart := false, narrowed := true }
def FnFieldDifferencesUptoSaid : Prop := fnFieldDifferencesUptoRow.holds Try.pinned (OpenSpec.upto fnFieldDifferencesSpec)

/-- 'laws.FnExactSameParts', WHERE WHAT IT READS IS OF BULK AT MOST 1048576: true; the input reads as it did. -/
def fnExactSamePartsUptoRow : OpenClaim := { program := "ytmemabeackgioaa", sum := "0460fb6f0dab7fbeb69bffe75903448f24e53a147fc6d9c6a5b16c59586a03d4", func := "loop.example/g00884/laws.FnExactSameParts", spec := "fnExactSameParts", recurses := true, apart := false, narrowed := true }
def FnExactSamePartsUptoSaid : Prop := fnExactSamePartsUptoRow.holds Try.pinned (OpenSpec.upto fnExactSamePartsSpec)

end Rows
end Go.Proofs.Ytmemabeackgioaa
