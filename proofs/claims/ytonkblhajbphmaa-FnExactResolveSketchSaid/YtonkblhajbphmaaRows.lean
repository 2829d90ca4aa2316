/-
  No cell of these rows narrows 'for every input' (looked for: loops, veiled, ifaces, maps, wideKeys, modest, calm, conditions, laid).
  DERIVED. THE GIVEN ROWS OF THIS SEAT. 4 by the template 'for every input the law returns true; each argument reads behind the call as it read before'; 0 by the template 'total and deterministic' (their statements: YtonkblhajbphmaaTotals.lean).
  GIVEN WITH THE SEED: the statements are not yours to turn. If you find one false, say at which input.
  Laid BY PROGRAM, IN A SANDBOX (cutbox-rows.mjs): the forced cells as the released guide's own fill.sh prints them over the translation aa30e0517434a300… (all of the seat's roots in one cut). By AI agents, Wed Nov 11 2026. No macro, syntax, notation, axiom, sorry.
-/
import Derived.Test.YtonkblhajbphmaaChecked
import GoSem.Claim
import GoSem.ClaimJoined
import GoSem.ClaimMapViews
import Derived.JoinedTies
import Derived.KernelRfl
namespace Go.Proofs.Ytonkblhajbphmaa
/- THE CELL 'sum', in the pinned program and in every row, IS THE sha256 OF THE DUMP (.gsa) THAT YtonkblhajbphmaaProg.lean LOADS. Nothing in Lean hashes anything: it is a label: what it is worth is what the hold of that sum in a sandbox is worth. -/
noncomputable def Try.pinned : Pinned := { name := "ytonkblhajbphmaa", sum := "aa30e0517434a300a701377f515d54099c940d6a09eab4e16aaa99746e46274e", checked := Try.checked }
namespace Rows
def none {H : Type} : Left H := { results := [], args := [] }

/-- 'laws.FnExactResolveSketch': WHATEVER THE INPUT: true; the input reads as it did. -/
def fnExactResolveSketchSpec : ChangeSpec := { name := "fnExactResolveSketch", fn := fun _ => fun
  | [d] => { results := [.lit (.bool true)], args := [d] }
  | _ => none }
def fnExactResolveSketchRow : OpenClaim := { program := "ytonkblhajbphmaa", sum := "aa30e0517434a300a701377f515d54099c940d6a09eab4e16aaa99746e46274e", func := "loop.example/g00884/laws.FnExactResolveSketch", spec := "fnExactResolveSketch", unfollowed := true, recurses := true, apart := false }
def FnExactResolveSketchSaid : Prop := fnExactResolveSketchRow.holds Try.pinned (OpenSpec.ofChange fnExactResolveSketchSpec)

/-- ITS FALSE NEIGHBOUR: 'it returns false'. Refute it at one input. -/
def fnExactResolveSketchWrong : ChangeSpec := { name := "fnExactResolveSketch", fn := fun _ => fun
  | [d] => { results := [.lit (.bool false)], args := [d] }
  | _ => none }
def FnExactResolveSketchWrongFalsely : Prop := fnExactResolveSketchRow.holds Try.pinned (OpenSpec.ofChange fnExactResolveSketchWrong)

/-- 'laws.FnExactSimplest': WHATEVER THE INPUT: true; the input reads as it did. -/
def fnExactSimplestSpec : ChangeSpec := { name := "fnExactSimplest", fn := fun _ => fun
  | [d] => { results := [.lit (.bool true)], args := [d] }
  | _ => none }
def fnExactSimplestRow : OpenClaim := { program := "ytonkblhajbphmaa", sum := "aa30e0517434a300a701377f515d54099c940d6a09eab4e16aaa99746e46274e", func := "loop.example/g00884/laws.FnExactSimplest", spec := "fnExactSimplest", apart := false }
def FnExactSimplestSaid : Prop := fnExactSimplestRow.holds Try.pinned (OpenSpec.ofChange fnExactSimplestSpec)

/-- ITS FALSE NEIGHBOUR: 'it returns false'. Refute it at one input. -/
def fnExactSimplestWrong : ChangeSpec := { name := "fnExactSimplest", fn := fun _ => fun
  | [d] => { results := [.lit (.bool false)], args := [d] }
  | _ => none }
def FnExactSimplestWrongFalsely : Prop := fnExactSimplestRow.holds Try.pinned (OpenSpec.ofChange fnExactSimplestWrong)

/-- 'laws.FnExactPlainSketch': WHATEVER THE INPUT: true; the input reads as it did. -/
def fnExactPlainSketchSpec : ChangeSpec := { name := "fnExactPlainSketch", fn := fun _ => fun
  | [d] => { results := [.lit (.bool true)], args := [d] }
  | _ => none }
def fnExactPlainSketchRow : OpenClaim := { program := "ytonkblhajbphmaa", sum := "aa30e0517434a300a701377f515d54099c940d6a09eab4e16aaa99746e46274e", func := "loop.example/g00884/laws.FnExactPlainSketch", spec := "fnExactPlainSketch", apart := false }
def FnExactPlainSketchSaid : Prop := fnExactPlainSketchRow.holds Try.pinned (OpenSpec.ofChange fnExactPlainSketchSpec)

/-- ITS FALSE NEIGHBOUR: 'it returns false'. Refute it at one input. -/
def fnExactPlainSketchWrong : ChangeSpec := { name := "fnExactPlainSketch", fn := fun _ => fun
  | [d] => { results := [.lit (.bool false)], args := [d] }
  | _ => none }
def FnExactPlainSketchWrongFalsely : Prop := fnExactPlainSketchRow.holds Try.pinned (OpenSpec.ofChange fnExactPlainSketchWrong)

/-- 'laws.FnExactIsValidSketch': WHATEVER THE INPUT: true; the input reads as it did. -/
def fnExactIsValidSketchSpec : ChangeSpec := { name := "fnExactIsValidSketch", fn := fun _ => fun
  | [d] => { results := [.lit (.bool true)], args := [d] }
  | _ => none }
def fnExactIsValidSketchRow : OpenClaim := { program := "ytonkblhajbphmaa", sum := "aa30e0517434a300a701377f515d54099c940d6a09eab4e16aaa99746e46274e", func := "loop.example/g00884/laws.FnExactIsValidSketch", spec := "fnExactIsValidSketch", unfollowed := true, recurses := true, apart := false }
def FnExactIsValidSketchSaid : Prop := fnExactIsValidSketchRow.holds Try.pinned (OpenSpec.ofChange fnExactIsValidSketchSpec)

/-- ITS FALSE NEIGHBOUR: 'it returns false'. Refute it at one input. -/
def fnExactIsValidSketchWrong : ChangeSpec := { name := "fnExactIsValidSketch", fn := fun _ => fun
  | [d] => { results := [.lit (.bool false)], args := [d] }
  | _ => none }
def FnExactIsValidSketchWrongFalsely : Prop := fnExactIsValidSketchRow.holds Try.pinned (OpenSpec.ofChange fnExactIsValidSketchWrong)

/- THE SECOND FORM. 'bulk': how many values and letters a reading holds, each counted each time it is reached (what is shared counts as often as it is met; a slice's spare places count too). A statement '..UptoSaid' is the law's where the arguments, and the package variables that the reading takes, are together of bulk at most 1048576: NARROWER than '..Said'. Prove '..Said' where nothing that the law and all that it calls make is longer than what came in: it says more and counts as full. Else prove '..UptoSaid'. A law counts once. -/
mutual
def uptoBulk {H : Type} : DataW H → Nat
  | .lit (.string bytes) => bytes.length + 1
  | .lit _ => 1
  | .nil => 1
  | .ptr d => uptoBulk d + 1
  | .slice elems spare => uptoBulkAll elems + uptoBulkAll spare + 1
  | .agg parts => uptoBulkAll parts + 1
  | .iface _ d => uptoBulk d + 1
  | .map entries => uptoBulkEntries entries + 1
  | .held _ => 1
def uptoBulkAll {H : Type} : List (DataW H) → Nat
  | [] => 0
  | d :: r => uptoBulk d + uptoBulkAll r
def uptoBulkEntries {H : Type} : List (Lit × DataW H) → Nat
  | [] => 0
  | x :: r => uptoBulkEntry x + uptoBulkEntries r
def uptoBulkEntry {H : Type} : Lit × DataW H → Nat
  | (.string bytes, d) => bytes.length + uptoBulk d + 1
  | (_, d) => uptoBulk d + 1
 end
def uptoSmall : (H : Type) → List (DataW H) → Bool := fun _ ds => decide (uptoBulkAll ds ≤ 1048576)
def OpenSpec.upto (s : _root_.Go.ChangeSpec) : _root_.Go.OpenSpec := { _root_.Go.OpenSpec.ofChange s with cond := some uptoSmall }

/-- 'laws.FnExactResolveSketch', WHERE WHAT IT READS IS OF BULK AT MOST 1048576: true; the input reads as it did. -/
def fnExactResolveSketchUptoRow : OpenClaim := { program := "ytonkblhajbphmaa", sum := "aa30e0517434a300a701377f515d54099c940d6a09eab4e16aaa99746e46274e", func := "loop.example/g00884/laws.FnExactResolveSketch", spec := "fnExactResolveSketch", unfollowed := true, recurses := true, apart := false, narrowed := true }
def FnExactResolveSketchUptoSaid : Prop := fnExactResolveSketchUptoRow.holds Try.pinned (OpenSpec.upto fnExactResolveSketchSpec)

/-- 'laws.FnExactSimplest', WHERE WHAT IT READS IS OF BULK AT MOST 1048576: true; the input reads as it did. -/
def fnExactSimplestUptoRow : OpenClaim := { program := "ytonkblhajbphmaa", sum := "aa30e0517434a300a701377f515d54099c940d6a09eab4e16aaa99746e46274e", func := "loop.example/g00884/laws.FnExactSimplest", spec := "fnExactSimplest", apart := false, narrowed := true }
def FnExactSimplestUptoSaid : Prop := fnExactSimplestUptoRow.holds Try.pinned (OpenSpec.upto fnExactSimplestSpec)

/-- 'laws.FnExactPlainSketch', WHERE WHAT IT READS IS OF BULK AT MOST 1048576: true; the input reads as it did. -/
def fnExactPlainSketchUptoRow : OpenClaim := { program := "ytonkblhajbphmaa", sum := "aa30e0517434a300a701377f515d54099c940d6a09eab4e16aaa99746e46274e", func := "loop.example/g00884/laws.FnExactPlainSketch", spec := "fnExactPlainSketch", apart := false, narrowed := true }
def FnExactPlainSketchUptoSaid : Prop := fnExactPlainSketchUptoRow.holds Try.pinned (OpenSpec.upto fnExactPlainSketchSpec)

/-- 'laws.FnExactIsValidSketch', WHERE WHAT IT READS IS OF BULK AT MOST 1048576: true; the input reads as it did. -/
def fnExactIsValidSketchUptoRow : OpenClaim := { program := "ytonkblhajbphmaa", sum := "aa30e0517434a300a701377f515d54099c940d6a09eab4e16aaa99746e46274e", func := "loop.example/g00884/laws.FnExactIsValidSketch", spec := "fnExactIsValidSketch", unfollowed := true, recurses := true, apart := false, narrowed := true }
def FnExactIsValidSketchUptoSaid : Prop := fnExactIsValidSketchUptoRow.holds Try.pinned (OpenSpec.upto fnExactIsValidSketchSpec)

end Rows
end Go.Proofs.Ytonkblhajbphmaa
