/-
  No cell of these rows narrows 'for every input' (looked for: loops, veiled, ifaces, maps, wideKeys, modest, calm, conditions, laid).
  DERIVED. THE GIVEN ROWS OF THIS SEAT. 12 by the template 'for every input the law returns true; each argument reads behind the call as it read before'; 0 by the template 'total and deterministic' (their statements: YtidpmjjbjdclgaaTotals.lean).
  GIVEN WITH THE SEED: the statements are not yours to turn. If you find one false, say at which input.
  Laid BY PROGRAM, IN A SANDBOX (cutbox-rows.mjs): the forced cells as the released guide's own fill.sh prints them over the translation 33ba8f288489c90d… (all of the seat's roots in one cut). By AI agents, Wed Nov 11 2026. No macro, syntax, notation, axiom, sorry.
-/
import Derived.Test.YtidpmjjbjdclgaaChecked
import GoSem.Claim
import GoSem.ClaimJoined
import GoSem.ClaimMapViews
import Derived.JoinedTies
import Derived.KernelRfl
namespace Go.Proofs.Ytidpmjjbjdclgaa
/- THE CELL 'sum', in the pinned program and in every row, IS THE sha256 OF THE DUMP (.gsa) THAT YtidpmjjbjdclgaaProg.lean LOADS. Nothing in Lean hashes anything: it is a label: what it is worth is what the hold of that sum in a sandbox is worth. -/
noncomputable def Try.pinned : Pinned := { name := "ytidpmjjbjdclgaa", sum := "33ba8f288489c90d7069bb292704ab6655b4ed5bacb5a6a6416dc55531945644", checked := Try.checked }
namespace Rows
def none {H : Type} : Left H := { results := [], args := [] }

/-- 'laws.FnExactConstants': WHATEVER THE INPUT: true; the input reads as it did. -/
def fnExactConstantsSpec : ChangeSpec := { name := "fnExactConstants", fn := fun _ => fun
  | [] => { results := [.lit (.bool true)], args := [] }
  | _ => none }
def fnExactConstantsRow : OpenClaim := { program := "ytidpmjjbjdclgaa", sum := "33ba8f288489c90d7069bb292704ab6655b4ed5bacb5a6a6416dc55531945644", func := "loop.example/g00884/laws.FnExactConstants", spec := "fnExactConstants", apart := false }
def FnExactConstantsSaid : Prop := fnExactConstantsRow.holds Try.pinned (OpenSpec.ofChange fnExactConstantsSpec)

/-- ITS FALSE NEIGHBOUR: 'it returns false'. Refute it at one input. -/
def fnExactConstantsWrong : ChangeSpec := { name := "fnExactConstants", fn := fun _ => fun
  | [] => { results := [.lit (.bool false)], args := [] }
  | _ => none }
def FnExactConstantsWrongFalsely : Prop := fnExactConstantsRow.holds Try.pinned (OpenSpec.ofChange fnExactConstantsWrong)

/-- 'laws.FnExactLessString': WHATEVER THE INPUT: true; the input reads as it did. -/
def fnExactLessStringSpec : ChangeSpec := { name := "fnExactLessString", fn := fun _ => fun
  | [d1, d2] => { results := [.lit (.bool true)], args := [d1, d2] }
  | _ => none }
def fnExactLessStringRow : OpenClaim := { program := "ytidpmjjbjdclgaa", sum := "33ba8f288489c90d7069bb292704ab6655b4ed5bacb5a6a6416dc55531945644", func := "loop.example/g00884/laws.FnExactLessString", spec := "fnExactLessString", apart := false }
def FnExactLessStringSaid : Prop := fnExactLessStringRow.holds Try.pinned (OpenSpec.ofChange fnExactLessStringSpec)

/-- ITS FALSE NEIGHBOUR: 'it returns false'. Refute it at one input. -/
def fnExactLessStringWrong : ChangeSpec := { name := "fnExactLessString", fn := fun _ => fun
  | [d1, d2] => { results := [.lit (.bool false)], args := [d1, d2] }
  | _ => none }
def FnExactLessStringWrongFalsely : Prop := fnExactLessStringRow.holds Try.pinned (OpenSpec.ofChange fnExactLessStringWrong)

/-- 'laws.FnExactIsTincture': WHATEVER THE INPUT: true; the input reads as it did. -/
def fnExactIsTinctureSpec : ChangeSpec := { name := "fnExactIsTincture", fn := fun _ => fun
  | [d] => { results := [.lit (.bool true)], args := [d] }
  | _ => none }
def fnExactIsTinctureRow : OpenClaim := { program := "ytidpmjjbjdclgaa", sum := "33ba8f288489c90d7069bb292704ab6655b4ed5bacb5a6a6416dc55531945644", func := "loop.example/g00884/laws.FnExactIsTincture", spec := "fnExactIsTincture", apart := false }
def FnExactIsTinctureSaid : Prop := fnExactIsTinctureRow.holds Try.pinned (OpenSpec.ofChange fnExactIsTinctureSpec)

/-- ITS FALSE NEIGHBOUR: 'it returns false'. Refute it at one input. -/
def fnExactIsTinctureWrong : ChangeSpec := { name := "fnExactIsTincture", fn := fun _ => fun
  | [d] => { results := [.lit (.bool false)], args := [d] }
  | _ => none }
def FnExactIsTinctureWrongFalsely : Prop := fnExactIsTinctureRow.holds Try.pinned (OpenSpec.ofChange fnExactIsTinctureWrong)

/-- 'laws.FnExactTinctureWord': WHATEVER THE INPUT: true; the input reads as it did. -/
def fnExactTinctureWordSpec : ChangeSpec := { name := "fnExactTinctureWord", fn := fun _ => fun
  | [d] => { results := [.lit (.bool true)], args := [d] }
  | _ => none }
def fnExactTinctureWordRow : OpenClaim := { program := "ytidpmjjbjdclgaa", sum := "33ba8f288489c90d7069bb292704ab6655b4ed5bacb5a6a6416dc55531945644", func := "loop.example/g00884/laws.FnExactTinctureWord", spec := "fnExactTinctureWord", apart := false }
def FnExactTinctureWordSaid : Prop := fnExactTinctureWordRow.holds Try.pinned (OpenSpec.ofChange fnExactTinctureWordSpec)

/-- ITS FALSE NEIGHBOUR: 'it returns false'. Refute it at one input. -/
def fnExactTinctureWordWrong : ChangeSpec := { name := "fnExactTinctureWord", fn := fun _ => fun
  | [d] => { results := [.lit (.bool false)], args := [d] }
  | _ => none }
def FnExactTinctureWordWrongFalsely : Prop := fnExactTinctureWordRow.holds Try.pinned (OpenSpec.ofChange fnExactTinctureWordWrong)

/-- 'laws.FnExactChecksum': WHATEVER THE INPUT: true; the input reads as it did. -/
def fnExactChecksumSpec : ChangeSpec := { name := "fnExactChecksum", fn := fun _ => fun
  | [d] => { results := [.lit (.bool true)], args := [d] }
  | _ => none }
def fnExactChecksumRow : OpenClaim := { program := "ytidpmjjbjdclgaa", sum := "33ba8f288489c90d7069bb292704ab6655b4ed5bacb5a6a6416dc55531945644", func := "loop.example/g00884/laws.FnExactChecksum", spec := "fnExactChecksum", apart := false }
def FnExactChecksumSaid : Prop := fnExactChecksumRow.holds Try.pinned (OpenSpec.ofChange fnExactChecksumSpec)

/-- ITS FALSE NEIGHBOUR: 'it returns false'. Refute it at one input. -/
def fnExactChecksumWrong : ChangeSpec := { name := "fnExactChecksum", fn := fun _ => fun
  | [d] => { results := [.lit (.bool false)], args := [d] }
  | _ => none }
def FnExactChecksumWrongFalsely : Prop := fnExactChecksumRow.holds Try.pinned (OpenSpec.ofChange fnExactChecksumWrong)

/-- 'laws.FnExactParseTincture': WHATEVER THE INPUT: true; the input reads as it did. -/
def fnExactParseTinctureSpec : ChangeSpec := { name := "fnExactParseTincture", fn := fun _ => fun
  | [d] => { results := [.lit (.bool true)], args := [d] }
  | _ => none }
def fnExactParseTinctureRow : OpenClaim := { program := "ytidpmjjbjdclgaa", sum := "33ba8f288489c90d7069bb292704ab6655b4ed5bacb5a6a6416dc55531945644", func := "loop.example/g00884/laws.FnExactParseTincture", spec := "fnExactParseTincture", apart := false }
def FnExactParseTinctureSaid : Prop := fnExactParseTinctureRow.holds Try.pinned (OpenSpec.ofChange fnExactParseTinctureSpec)

/-- ITS FALSE NEIGHBOUR: 'it returns false'. Refute it at one input. -/
def fnExactParseTinctureWrong : ChangeSpec := { name := "fnExactParseTincture", fn := fun _ => fun
  | [d] => { results := [.lit (.bool false)], args := [d] }
  | _ => none }
def FnExactParseTinctureWrongFalsely : Prop := fnExactParseTinctureRow.holds Try.pinned (OpenSpec.ofChange fnExactParseTinctureWrong)

/-- 'laws.FnExactIsBeast': WHATEVER THE INPUT: true; the input reads as it did. -/
def fnExactIsBeastSpec : ChangeSpec := { name := "fnExactIsBeast", fn := fun _ => fun
  | [d] => { results := [.lit (.bool true)], args := [d] }
  | _ => none }
def fnExactIsBeastRow : OpenClaim := { program := "ytidpmjjbjdclgaa", sum := "33ba8f288489c90d7069bb292704ab6655b4ed5bacb5a6a6416dc55531945644", func := "loop.example/g00884/laws.FnExactIsBeast", spec := "fnExactIsBeast", apart := false }
def FnExactIsBeastSaid : Prop := fnExactIsBeastRow.holds Try.pinned (OpenSpec.ofChange fnExactIsBeastSpec)

/-- ITS FALSE NEIGHBOUR: 'it returns false'. Refute it at one input. -/
def fnExactIsBeastWrong : ChangeSpec := { name := "fnExactIsBeast", fn := fun _ => fun
  | [d] => { results := [.lit (.bool false)], args := [d] }
  | _ => none }
def FnExactIsBeastWrongFalsely : Prop := fnExactIsBeastRow.holds Try.pinned (OpenSpec.ofChange fnExactIsBeastWrong)

/-- 'laws.FnExactPlainField': WHATEVER THE INPUT: true; the input reads as it did. -/
def fnExactPlainFieldSpec : ChangeSpec := { name := "fnExactPlainField", fn := fun _ => fun
  | [d] => { results := [.lit (.bool true)], args := [d] }
  | _ => none }
def fnExactPlainFieldRow : OpenClaim := { program := "ytidpmjjbjdclgaa", sum := "33ba8f288489c90d7069bb292704ab6655b4ed5bacb5a6a6416dc55531945644", func := "loop.example/g00884/laws.FnExactPlainField", spec := "fnExactPlainField", apart := false }
def FnExactPlainFieldSaid : Prop := fnExactPlainFieldRow.holds Try.pinned (OpenSpec.ofChange fnExactPlainFieldSpec)

/-- ITS FALSE NEIGHBOUR: 'it returns false'. Refute it at one input. -/
def fnExactPlainFieldWrong : ChangeSpec := { name := "fnExactPlainField", fn := fun _ => fun
  | [d] => { results := [.lit (.bool false)], args := [d] }
  | _ => none }
def FnExactPlainFieldWrongFalsely : Prop := fnExactPlainFieldRow.holds Try.pinned (OpenSpec.ofChange fnExactPlainFieldWrong)

/-- 'laws.FnExactKindWord': WHATEVER THE INPUT: true; the input reads as it did. -/
def fnExactKindWordSpec : ChangeSpec := { name := "fnExactKindWord", fn := fun _ => fun
  | [d1, d2] => { results := [.lit (.bool true)], args := [d1, d2] }
  | _ => none }
def fnExactKindWordRow : OpenClaim := { program := "ytidpmjjbjdclgaa", sum := "33ba8f288489c90d7069bb292704ab6655b4ed5bacb5a6a6416dc55531945644", func := "loop.example/g00884/laws.FnExactKindWord", spec := "fnExactKindWord", apart := false }
def FnExactKindWordSaid : Prop := fnExactKindWordRow.holds Try.pinned (OpenSpec.ofChange fnExactKindWordSpec)

/-- ITS FALSE NEIGHBOUR: 'it returns false'. Refute it at one input. -/
def fnExactKindWordWrong : ChangeSpec := { name := "fnExactKindWord", fn := fun _ => fun
  | [d1, d2] => { results := [.lit (.bool false)], args := [d1, d2] }
  | _ => none }
def FnExactKindWordWrongFalsely : Prop := fnExactKindWordRow.holds Try.pinned (OpenSpec.ofChange fnExactKindWordWrong)

/-- 'laws.FnExactIsValidField': WHATEVER THE INPUT: true; the input reads as it did. -/
def fnExactIsValidFieldSpec : ChangeSpec := { name := "fnExactIsValidField", fn := fun _ => fun
  | [d] => { results := [.lit (.bool true)], args := [d] }
  | _ => none }
def fnExactIsValidFieldRow : OpenClaim := { program := "ytidpmjjbjdclgaa", sum := "33ba8f288489c90d7069bb292704ab6655b4ed5bacb5a6a6416dc55531945644", func := "loop.example/g00884/laws.FnExactIsValidField", spec := "fnExactIsValidField", apart := false }
def FnExactIsValidFieldSaid : Prop := fnExactIsValidFieldRow.holds Try.pinned (OpenSpec.ofChange fnExactIsValidFieldSpec)

/-- ITS FALSE NEIGHBOUR: 'it returns false'. Refute it at one input. -/
def fnExactIsValidFieldWrong : ChangeSpec := { name := "fnExactIsValidField", fn := fun _ => fun
  | [d] => { results := [.lit (.bool false)], args := [d] }
  | _ => none }
def FnExactIsValidFieldWrongFalsely : Prop := fnExactIsValidFieldRow.holds Try.pinned (OpenSpec.ofChange fnExactIsValidFieldWrong)

/-- 'laws.FnExactClassOf': WHATEVER THE INPUT: true; the input reads as it did. -/
def fnExactClassOfSpec : ChangeSpec := { name := "fnExactClassOf", fn := fun _ => fun
  | [d] => { results := [.lit (.bool true)], args := [d] }
  | _ => none }
def fnExactClassOfRow : OpenClaim := { program := "ytidpmjjbjdclgaa", sum := "33ba8f288489c90d7069bb292704ab6655b4ed5bacb5a6a6416dc55531945644", func := "loop.example/g00884/laws.FnExactClassOf", spec := "fnExactClassOf", apart := false }
def FnExactClassOfSaid : Prop := fnExactClassOfRow.holds Try.pinned (OpenSpec.ofChange fnExactClassOfSpec)

/-- ITS FALSE NEIGHBOUR: 'it returns false'. Refute it at one input. -/
def fnExactClassOfWrong : ChangeSpec := { name := "fnExactClassOf", fn := fun _ => fun
  | [d] => { results := [.lit (.bool false)], args := [d] }
  | _ => none }
def FnExactClassOfWrongFalsely : Prop := fnExactClassOfRow.holds Try.pinned (OpenSpec.ofChange fnExactClassOfWrong)

/-- 'laws.FnExactClash': WHATEVER THE INPUT: true; the input reads as it did. -/
def fnExactClashSpec : ChangeSpec := { name := "fnExactClash", fn := fun _ => fun
  | [d1, d2] => { results := [.lit (.bool true)], args := [d1, d2] }
  | _ => none }
def fnExactClashRow : OpenClaim := { program := "ytidpmjjbjdclgaa", sum := "33ba8f288489c90d7069bb292704ab6655b4ed5bacb5a6a6416dc55531945644", func := "loop.example/g00884/laws.FnExactClash", spec := "fnExactClash", apart := false }
def FnExactClashSaid : Prop := fnExactClashRow.holds Try.pinned (OpenSpec.ofChange fnExactClashSpec)

/-- ITS FALSE NEIGHBOUR: 'it returns false'. Refute it at one input. -/
def fnExactClashWrong : ChangeSpec := { name := "fnExactClash", fn := fun _ => fun
  | [d1, d2] => { results := [.lit (.bool false)], args := [d1, d2] }
  | _ => none }
def FnExactClashWrongFalsely : Prop := fnExactClashRow.holds Try.pinned (OpenSpec.ofChange fnExactClashWrong)

/- THE SECOND FORM. 'bulk': how many values and letters a reading holds, each counted each time it is reached (what is shared counts as often as it is met; a slice's spare places count too). A statement '..UptoSaid' is the law's where the arguments, and the package variables that the reading takes, are together of bulk at most 1048576: NARROWER than '..Said'. Prove '..Said' where nothing that the law and all that it calls make is longer than what came in: it says more and counts as full. Else prove '..UptoSaid'. A law counts once. -/
mutual
def uptoBulk {H : Type} : DataW H → Nat
  | .lit (.string bytes) => bytes.length + 1
  | .lit _ => 1
  | .nil => 1
  | .ptr d => uptoBulk d + 1
  | .slice elems spare => uptoBulkAll elems + uptoBulkAll spare + 1
  | .agg parts => uptoBulkAll parts + 1
  | .iface _ d => uptoBulk d + 1
  | .map entries => uptoBulkEntries entries + 1
  | .held _ => 1
def uptoBulkAll {H : Type} : List (DataW H) → Nat
  | [] => 0
  | d :: r => uptoBulk d + uptoBulkAll r
def uptoBulkEntries {H : Type} : List (Lit × DataW H) → Nat
  | [] => 0
  | x :: r => uptoBulkEntry x + uptoBulkEntries r
def uptoBulkEntry {H : Type} : Lit × DataW H → Nat
  | (.string bytes, d) => bytes.length + uptoBulk d + 1
  | (_, d) => uptoBulk d + 1
 end
def uptoSmall : (H : Type) → List (DataW H) → Bool := fun _ ds => decide (uptoBulkAll ds ≤ 1048576)
def OpenSpec.upto (s : _root_.Go.ChangeSpec) : _root_.Go.OpenSpec := { _root_.Go.OpenSpec.ofChange s with cond := some uptoSmall }

/-- 'laws.FnExactConstants', WHERE WHAT IT READS IS OF BULK AT MOST 1048576: true; the input reads as it did. -/
def fnExactConstantsUptoRow : OpenClaim := { program := "ytidpmjjbjdclgaa", sum := "33ba8f288489c90d7069bb292704ab6655b4ed5bacb5a6a6416dc55531945644", func := "loop.example/g00884/laws.FnExactConstants", spec := "fnExactConstants", apart := false, narrowed := true }
def FnExactConstantsUptoSaid : Prop := fnExactConstantsUptoRow.holds Try.pinned (OpenSpec.upto fnExactConstantsSpec)

/-- 'laws.FnExactLessString', WHERE WHAT IT READS IS OF BULK AT MOST 1048576: true; the input reads as it did. -/
def fnExactLessStringUptoRow : OpenClaim := { program := "ytidpmjjbjdclgaa", sum := "33ba8f288489c90d7069bb292704ab6655b4ed5bacb5a6a6416dc55531945644", func := "loop.example/g00884/laws.FnExactLessString", spec := "fnExactLessString", apart := false, narrowed := true }
def FnExactLessStringUptoSaid : Prop := fnExactLessStringUptoRow.holds Try.pinned (OpenSpec.upto fnExactLessStringSpec)

/-- 'laws.FnExactIsTincture', WHERE WHAT IT READS IS OF BULK AT MOST 1048576: true; the input reads as it did. -/
def fnExactIsTinctureUptoRow : OpenClaim := { program := "ytidpmjjbjdclgaa", sum := "33ba8f288489c90d7069bb292704ab6655b4ed5bacb5a6a6416dc55531945644", func := "loop.example/g00884/laws.FnExactIsTincture", spec := "fnExactIsTincture", apart := false, narrowed := true }
def FnExactIsTinctureUptoSaid : Prop := fnExactIsTinctureUptoRow.holds Try.pinned (OpenSpec.upto fnExactIsTinctureSpec)

/-- 'laws.FnExactTinctureWord', WHERE WHAT IT READS IS OF BULK AT MOST 1048576: true; the input reads as it did. -/
def fnExactTinctureWordUptoRow : OpenClaim := { program := "ytidpmjjbjdclgaa", sum := "33ba8f288489c90d7069bb292704ab6655b4ed5bacb5a6a6416dc55531945644", func := "loop.example/g00884/laws.FnExactTinctureWord", spec := "fnExactTinctureWord", apart := false, narrowed := true }
def FnExactTinctureWordUptoSaid : Prop := fnExactTinctureWordUptoRow.holds Try.pinned (OpenSpec.upto fnExactTinctureWordSpec)

/-- 'laws.FnExactChecksum', WHERE WHAT IT READS IS OF BULK AT MOST 1048576: true; the input reads as it did. -/
def fnExactChecksumUptoRow : OpenClaim := { program := "ytidpmjjbjdclgaa", sum := "33ba8f288489c90d7069bb292704ab6655b4ed5bacb5a6a6416dc55531945644", func := "loop.example/g00884/laws.FnExactChecksum", spec := "fnExactChecksum", apart := false, narrowed := true }
def FnExactChecksumUptoSaid : Prop := fnExactChecksumUptoRow.holds Try.pinned (OpenSpec.upto fnExactChecksumSpec)

/-- 'laws.FnExactParseTincture', WHERE WHAT IT READS IS OF BULK AT MOST 1048576: true; the input reads as it did. -/
def fnExactParseTinctureUptoRow : OpenClaim := { program := "ytidpmjjbjdclgaa", sum := "33ba8f288489c90d7069bb292704ab6655b4ed5bacb5a6a6416dc55531945644", func := "loop.example/g00884/laws.FnExactParseTincture", spec := "fnExactParseTincture", apart := false, narrowed := true }
def FnExactParseTinctureUptoSaid : Prop := fnExactParseTinctureUptoRow.holds Try.pinned (OpenSpec.upto fnExactParseTinctureSpec)

/-- 'laws.FnExactIsBeast', WHERE WHAT IT READS IS OF BULK AT MOST 1048576: true; the input reads as it did. -/
def fnExactIsBeastUptoRow : OpenClaim := { program := "ytidpmjjbjdclgaa", sum := "33ba8f288489c90d7069bb292704ab6655b4ed5bacb5a6a6416dc55531945644", func := "loop.example/g00884/laws.FnExactIsBeast", spec := "fnExactIsBeast", apart := false, narrowed := true }
def FnExactIsBeastUptoSaid : Prop := fnExactIsBeastUptoRow.holds Try.pinned (OpenSpec.upto fnExactIsBeastSpec)

/-- 'laws.FnExactPlainField', WHERE WHAT IT READS IS OF BULK AT MOST 1048576: true; the input reads as it did. -/
def fnExactPlainFieldUptoRow : OpenClaim := { program := "ytidpmjjbjdclgaa", sum := "33ba8f288489c90d7069bb292704ab6655b4ed5bacb5a6a6416dc55531945644", func := "loop.example/g00884/laws.FnExactPlainField", spec := "fnExactPlainField", apart := false, narrowed := true }
def FnExactPlainFieldUptoSaid : Prop := fnExactPlainFieldUptoRow.holds Try.pinned (OpenSpec.upto fnExactPlainFieldSpec)

/-- 'laws.FnExactKindWord', WHERE WHAT IT READS IS OF BULK AT MOST 1048576: true; the input reads as it did. -/
def fnExactKindWordUptoRow : OpenClaim := { program := "ytidpmjjbjdclgaa", sum := "33ba8f288489c90d7069bb292704ab6655b4ed5bacb5a6a6416dc55531945644", func := "loop.example/g00884/laws.FnExactKindWord", spec := "fnExactKindWord", apart := false, narrowed := true }
def FnExactKindWordUptoSaid : Prop := fnExactKindWordUptoRow.holds Try.pinned (OpenSpec.upto fnExactKindWordSpec)

/-- 'laws.FnExactIsValidField', WHERE WHAT IT READS IS OF BULK AT MOST 1048576: true; the input reads as it did. -/
def fnExactIsValidFieldUptoRow : OpenClaim := { program := "ytidpmjjbjdclgaa", sum := "33ba8f288489c90d7069bb292704ab6655b4ed5bacb5a6a6416dc55531945644", func := "loop.example/g00884/laws.FnExactIsValidField", spec := "fnExactIsValidField", apart := false, narrowed := true }
def FnExactIsValidFieldUptoSaid : Prop := fnExactIsValidFieldUptoRow.holds Try.pinned (OpenSpec.upto fnExactIsValidFieldSpec)

/-- 'laws.FnExactClassOf', WHERE WHAT IT READS IS OF BULK AT MOST 1048576: true; the input reads as it did. -/
def fnExactClassOfUptoRow : OpenClaim := { program := "ytidpmjjbjdclgaa", sum := "33ba8f288489c90d7069bb292704ab6655b4ed5bacb5a6a6416dc55531945644", func := "loop.example/g00884/laws.FnExactClassOf", spec := "fnExactClassOf", apart := false, narrowed := true }
def FnExactClassOfUptoSaid : Prop := fnExactClassOfUptoRow.holds Try.pinned (OpenSpec.upto fnExactClassOfSpec)

/-- 'laws.FnExactClash', WHERE WHAT IT READS IS OF BULK AT MOST 1048576: true; the input reads as it did. -/
def fnExactClashUptoRow : OpenClaim := { program := "ytidpmjjbjdclgaa", sum := "33ba8f288489c90d7069bb292704ab6655b4ed5bacb5a6a6416dc55531945644", func := "loop.example/g00884/laws.FnExactClash", spec := "fnExactClash", apart := false, narrowed := true }
def FnExactClashUptoSaid : Prop := fnExactClashUptoRow.holds Try.pinned (OpenSpec.upto fnExactClashSpec)

end Rows
end Go.Proofs.Ytidpmjjbjdclgaa
